/- What a spec that came in reads as: its strings, its ints, its slices' cells. -/
import Derived.Test.YtgelbkgkjkeccaaGreatDoorP
import Derived.Deep.Slices
import Derived.Deep.Fields
import Derived.ChangeSame
import Derived.ChangeMaps5
namespace Go.Proofs.YtgelbkgkjkeccaaGreatDoor
open Go.RowKit Go.ChangeShapes Go.WideShapes Go.Deep
open Go.ChangeMaps (open_string shut_string)

theorem Tryz.cells3 : Tryz.prog.cellsOf 3 = 1 := by kernel_rfl
theorem Tryz.cells9 : Tryz.prog.cellsOf 9 = 1 := by kernel_rfl
theorem Tryz.cells22 : Tryz.prog.cellsOf 22 = 1 := by kernel_rfl
theorem Tryz.cells23 : Tryz.prog.cellsOf 23 = 1 := by kernel_rfl
theorem Tryz.cells31 : Tryz.prog.cellsOf 31 = 1 := by kernel_rfl
theorem Tryz.cells40 : Tryz.prog.cellsOf 40 = 3 := by kernel_rfl
theorem Tryz.cells42 : Tryz.prog.cellsOf 42 = 2 := by kernel_rfl
theorem Tryz.cells44 : Tryz.prog.cellsOf 44 = 11 := by kernel_rfl
theorem Tryz.cells159 : Tryz.prog.cellsOf 159 = 2 := by kernel_rfl
theorem Tryz.cells25 : Tryz.prog.cellsOf 25 = 7 := by kernel_rfl

theorem add_none (b off k : Nat) : Addr.add ⟨b, off, none⟩ k = ⟨b, off + k, none⟩ := by
  unfold Addr.add
  split <;> simp_all
theorem pick_list {α : Type} : ∀ (n : Nat) (p : Nat → α → Prop), (∀ i, i < n → ∃ x, p i x) → ∃ l : List α, l.length = n ∧ ∀ i (h : i < l.length), p i l[i]
  | 0, _, _ => ⟨[], rfl, fun i h => absurd h (Nat.not_lt_zero i)⟩
  | n + 1, p, h => by
    obtain ⟨l, hl, hp⟩ := pick_list n p fun i hi => h i (by omega)
    obtain ⟨x, hx⟩ := h n (by omega)
    refine ⟨l ++ [x], by simp [hl], fun i hi => ?_⟩
    rcases Nat.lt_or_ge i l.length with h1 | h1
    · rw [List.getElem_append_left h1]; exact hp i h1
    · have : i = l.length := by simp at hi; omega
      subst this
      rw [List.getElem_concat_length rfl]
      rw [hl]; exact hx

def I64 (n : Int) : Prop := (Lit.int .i64 n).wf = true
def CtrWf (c : CtrD) : Prop := c.name.size ≤ maxLen ∧ c.image.size ≤ maxLen ∧ (I64 c.req.cpu ∧ I64 c.req.mem ∧ I64 c.req.pids) ∧ (I64 c.lim.cpu ∧ I64 c.lim.mem ∧ I64 c.lim.pids) ∧ (c.ports.length ≤ maxLen ∧ ∀ p ∈ c.ports, I64 p) ∧ I64 c.every ∧ I64 c.fails
def LabelWf (x : LabelD) : Prop := x.key.size ≤ maxLen ∧ x.val.size ≤ maxLen
structure SpecWf (s : SpecD) : Prop where
  name : s.name.size ≤ maxLen
  labels : s.labels.length ≤ maxLen ∧ ∀ x ∈ s.labels, LabelWf x
  inits : s.inits.length ≤ maxLen ∧ ∀ c ∈ s.inits, CtrWf c
  mains : s.mains.length ≤ maxLen ∧ ∀ c ∈ s.mains, CtrWf c
  restart : I64 s.restart
  grace : I64 s.grace
  prio : I64 s.prio

section
variable {H : Type} {enc : TypeId × Value → H} {w : World} {base : Nat} {held : Bool}

theorem open_rows {P : Program} {t e : TypeId} {C n : Nat} {v : Value} {x : DataW H × List MemPlace} (ht : P.underlying t = some (.slice e)) (hC : P.cellsOf e = C) (h0 : 0 < C)
    (h : DataW.trod enc P w base (fun _ => true) held n t [v] = some x) :
    (∃ a c, v = .slice a 0 c) ∨
    ∃ b off len cap, v = .slice (some ⟨b, off, none⟩) len cap ∧ 0 < len ∧ len ≤ cap ∧ cap ≤ maxLen ∧ b < w.heap.size ∧
      ∀ i, i < len → ∃ cs : List Value, cs.length = C ∧ (∀ j (hj : j < cs.length), w.cell? ⟨b, off + i * C + j, none⟩ = some cs[j]) ∧ ∃ k y, DataW.trod enc P w base (fun _ => true) held k e cs = some y := by
  rcases open_slice ht h with ⟨h1, _⟩ | ⟨a, len, cap, m, k, D, Pl, hcs, _, hl, hm, hmm, _, hi⟩
  · exact .inl ⟨none, 0, by simpa using h1⟩
  · simp only [List.cons.injEq, and_true] at hcs
    simp only [if_true] at hmm
    rcases Nat.eq_zero_or_pos len with hz | hz
    · subst hz; exact .inl ⟨_, _, hcs⟩
    · have key : ∀ i, i < len → ∃ cs : List Value, cs.length = C ∧ (∀ j (hj : j < cs.length), w.cell? (a.add (i * C + j)) = some cs[j]) ∧ ∃ k y, DataW.trod enc P w base (fun _ => true) held k e cs = some y := by
        intro i hlt
        obtain ⟨cs, hc, ht'⟩ := hi i (by omega)
        rw [hC] at hc
        obtain ⟨_, hcl, hat⟩ := World.cells?_some hc
        refine ⟨cs, hcl, fun j hj => ?_, _, _, ht'⟩
        have := hat j (by omega)
        rw [Go.Deep.add_add, List.getElem?_eq_getElem hj] at this
        exact this
      obtain ⟨cs0, hl0, hc0, _⟩ := key 0 hz
      have hc00 := hc0 0 (by omega)
      obtain ⟨b, off, spot⟩ := a
      have hspot : spot = none := by simpa [Addr.add] using World.cell?_spot hc00
      subst hspot
      refine .inr ⟨b, off, len, cap, hcs, hz, hl, hm, ?_, fun i hlt => ?_⟩
      · rw [add_none] at hc00; exact cell_lt hc00
      · obtain ⟨cs, h1, h2, h3⟩ := key i hlt
        refine ⟨cs, h1, fun j hj => ?_, h3⟩
        have := h2 j hj
        rw [add_none] at this
        rw [Nat.add_assoc]
        exact this

set_option maxRecDepth 100000 in
theorem open_res {n : Nat} {cs : List Value} {x : DataW H × List MemPlace} (h : DataW.trod enc Tryz.prog w base (fun _ => true) held n 40 cs = some x) :
    ∃ r : ResD, cs = [.int .i64 r.cpu, .int .i64 r.mem, .int .i64 r.pids] ∧ I64 r.cpu ∧ I64 r.mem ∧ I64 r.pids := by
  obtain ⟨xs, m, _, _, hl, hn, hf⟩ := DataW.trod_struct Tryz.underlying40 h
  rw [Tryz.cells40] at hl
  match cs, hl with
  | [c0, c1, c2], _ =>
    have g0 : DataW.trod enc Tryz.prog w base (fun _ => true) held m 3 ((List.drop 0 [c0, c1, c2]).take (Tryz.prog.cellsOf 3)) = xs[0]? := hf 0 _ rfl
    have g1 : DataW.trod enc Tryz.prog w base (fun _ => true) held m 3 ((List.drop 1 [c0, c1, c2]).take (Tryz.prog.cellsOf 3)) = xs[1]? := hf 1 _ rfl
    have g2 : DataW.trod enc Tryz.prog w base (fun _ => true) held m 3 ((List.drop 2 [c0, c1, c2]).take (Tryz.prog.cellsOf 3)) = xs[2]? := hf 2 _ rfl
    rw [Tryz.cells3] at g0
    rw [Tryz.cells3] at g1
    rw [Tryz.cells3] at g2
    match xs, hn with
    | [y0, y1, y2], _ =>
      obtain ⟨k0, e0, _, w0⟩ := DataW.trod_int Tryz.underlying3 g0
      obtain ⟨k1, e1, _, w1⟩ := DataW.trod_int Tryz.underlying3 g1
      obtain ⟨k2, e2, _, w2⟩ := DataW.trod_int Tryz.underlying3 g2
      simp at e0 e1 e2
      exact ⟨⟨k0, k1, k2⟩, by rw [e0, e1, e2], w0, w1, w2⟩
set_option maxRecDepth 100000 in
theorem open_probe {n : Nat} {cs : List Value} {x : DataW H × List MemPlace} (h : DataW.trod enc Tryz.prog w base (fun _ => true) held n 42 cs = some x) :
    ∃ a b : Int, cs = [.int .i64 a, .int .i64 b] ∧ I64 a ∧ I64 b := by
  obtain ⟨xs, m, _, _, hl, hn, hf⟩ := DataW.trod_struct Tryz.underlying42 h
  rw [Tryz.cells42] at hl
  match cs, hl with
  | [c0, c1], _ =>
    have g0 : DataW.trod enc Tryz.prog w base (fun _ => true) held m 3 ((List.drop 0 [c0, c1]).take (Tryz.prog.cellsOf 3)) = xs[0]? := hf 0 _ rfl
    have g1 : DataW.trod enc Tryz.prog w base (fun _ => true) held m 3 ((List.drop 1 [c0, c1]).take (Tryz.prog.cellsOf 3)) = xs[1]? := hf 1 _ rfl
    rw [Tryz.cells3] at g0
    rw [Tryz.cells3] at g1
    match xs, hn with
    | [y0, y1], _ =>
      obtain ⟨k0, e0, _, w0⟩ := DataW.trod_int Tryz.underlying3 g0
      obtain ⟨k1, e1, _, w1⟩ := DataW.trod_int Tryz.underlying3 g1
      simp at e0 e1
      exact ⟨k0, k1, by rw [e0, e1], w0, w1⟩
theorem open_iints {n : Nat} {v : Value} {x : DataW H × List MemPlace} (h : DataW.trod enc Tryz.prog w base (fun _ => true) held n 31 [v] = some x) :
    ∃ l : List Int, IInts (· < w.heap.size) w v l ∧ l.length ≤ maxLen ∧ ∀ p ∈ l, I64 p := by
  rcases open_rows Tryz.underlying31 Tryz.cells3 (by omega) h with ⟨a, c, rfl⟩ | ⟨b, off, len, cap, rfl, h0, hl, hm, hb, hr⟩
  · exact ⟨[], .inl ⟨rfl, a, c, rfl⟩, by simp, by simp⟩
  · obtain ⟨l, hll, hp⟩ := pick_list len (fun i z => w.cell? ⟨b, off + i, none⟩ = some (.int .i64 z) ∧ I64 z) fun i hi => by
      obtain ⟨cs, hc, hat, k, y, hy⟩ := hr i hi
      obtain ⟨z, rfl, _, hw⟩ := DataW.trod_int Tryz.underlying3 hy
      exact ⟨z, by simpa using hat 0 (by simp), hw⟩
    subst hll
    refine ⟨l, .inr ⟨h0, b, off, cap, rfl, hl, hb, fun j hj => (hp j hj).1⟩, by omega, fun p hp' => ?_⟩
    obtain ⟨j, hj, rfl⟩ := List.getElem_of_mem hp'
    exact (hp j hj).2
set_option maxRecDepth 100000 in
theorem open_ctr {n : Nat} {cs : List Value} {x : DataW H × List MemPlace} (h : DataW.trod enc Tryz.prog w base (fun _ => true) held n 44 cs = some x) :
    ∃ (c : CtrD) (q : Value), cs = (ctrCells c q).toList ∧ IInts (· < w.heap.size) w q c.ports ∧ CtrWf c := by
  obtain ⟨xs, m, _, _, hl, hn, hf⟩ := DataW.trod_struct Tryz.underlying44 h
  rw [Tryz.cells44] at hl
  match cs, hl with
  | [c0, c1, c2, c3, c4, c5, c6, c7, c8, c9, c10], _ =>
    have g0 : DataW.trod enc Tryz.prog w base (fun _ => true) held m 9 ((List.drop 0 [c0, c1, c2, c3, c4, c5, c6, c7, c8, c9, c10]).take (Tryz.prog.cellsOf 9)) = xs[0]? := hf 0 _ rfl
    have g1 : DataW.trod enc Tryz.prog w base (fun _ => true) held m 9 ((List.drop 1 [c0, c1, c2, c3, c4, c5, c6, c7, c8, c9, c10]).take (Tryz.prog.cellsOf 9)) = xs[1]? := hf 1 _ rfl
    have g2 : DataW.trod enc Tryz.prog w base (fun _ => true) held m 40 ((List.drop 2 [c0, c1, c2, c3, c4, c5, c6, c7, c8, c9, c10]).take (Tryz.prog.cellsOf 40)) = xs[2]? := hf 2 _ rfl
    have g3 : DataW.trod enc Tryz.prog w base (fun _ => true) held m 40 ((List.drop 5 [c0, c1, c2, c3, c4, c5, c6, c7, c8, c9, c10]).take (Tryz.prog.cellsOf 40)) = xs[3]? := hf 3 _ rfl
    have g4 : DataW.trod enc Tryz.prog w base (fun _ => true) held m 31 ((List.drop 8 [c0, c1, c2, c3, c4, c5, c6, c7, c8, c9, c10]).take (Tryz.prog.cellsOf 31)) = xs[4]? := hf 4 _ rfl
    have g5 : DataW.trod enc Tryz.prog w base (fun _ => true) held m 42 ((List.drop 9 [c0, c1, c2, c3, c4, c5, c6, c7, c8, c9, c10]).take (Tryz.prog.cellsOf 42)) = xs[5]? := hf 5 _ rfl
    rw [Tryz.cells9] at g0
    rw [Tryz.cells9] at g1
    rw [Tryz.cells40] at g2
    rw [Tryz.cells40] at g3
    rw [Tryz.cells31] at g4
    rw [Tryz.cells42] at g5
    match xs, hn with
    | [y0, y1, y2, y3, y4, y5], _ =>
      obtain ⟨s0, e0, _, w0⟩ := DataW.trod_string Tryz.underlying9 g0
      obtain ⟨s1, e1, _, w1⟩ := DataW.trod_string Tryz.underlying9 g1
      obtain ⟨r2, e2, w2⟩ := open_res g2
      obtain ⟨r3, e3, w3⟩ := open_res g3
      obtain ⟨l4, h4, w4⟩ := open_iints (v := c8) g4
      obtain ⟨p5, q5, e5, w5⟩ := open_probe g5
      simp at e0 e1 e2 e3 e5
      obtain ⟨e20, e21, e22⟩ := e2
      obtain ⟨e30, e31, e32⟩ := e3
      obtain ⟨e50, e51⟩ := e5
      exact ⟨⟨s0, s1, r2, r3, l4, p5, q5⟩, c8, by rw [e0, e1, e20, e21, e22, e30, e31, e32, e50, e51], h4, w0, w1, w2, w3, w4, w5.1, w5.2⟩
set_option maxRecDepth 100000 in
theorem open_label {n : Nat} {cs : List Value} {x : DataW H × List MemPlace} (h : DataW.trod enc Tryz.prog w base (fun _ => true) held n 159 cs = some x) :
    ∃ l : LabelD, cs = [.string l.key, .string l.val] ∧ LabelWf l := by
  obtain ⟨xs, m, _, _, hl, hn, hf⟩ := DataW.trod_struct Tryz.underlying159 h
  rw [Tryz.cells159] at hl
  match cs, hl with
  | [c0, c1], _ =>
    have g0 : DataW.trod enc Tryz.prog w base (fun _ => true) held m 9 ((List.drop 0 [c0, c1]).take (Tryz.prog.cellsOf 9)) = xs[0]? := hf 0 _ rfl
    have g1 : DataW.trod enc Tryz.prog w base (fun _ => true) held m 9 ((List.drop 1 [c0, c1]).take (Tryz.prog.cellsOf 9)) = xs[1]? := hf 1 _ rfl
    rw [Tryz.cells9] at g0
    rw [Tryz.cells9] at g1
    match xs, hn with
    | [y0, y1], _ =>
      obtain ⟨k0, e0, _, w0⟩ := DataW.trod_string Tryz.underlying9 g0
      obtain ⟨k1, e1, _, w1⟩ := DataW.trod_string Tryz.underlying9 g1
      simp at e0 e1
      exact ⟨⟨k0, k1⟩, by rw [e0, e1], w0, w1⟩
theorem open_labs {n : Nat} {v : Value} {x : DataW H × List MemPlace} (h : DataW.trod enc Tryz.prog w base (fun _ => true) held n 22 [v] = some x) :
    ∃ l : List LabelD, ILabs (· < w.heap.size) w v l ∧ l.length ≤ maxLen ∧ ∀ p ∈ l, LabelWf p := by
  rcases open_rows Tryz.underlying22 Tryz.cells159 (by omega) h with ⟨a, c, rfl⟩ | ⟨b, off, len, cap, rfl, h0, hl, hm, hb, hr⟩
  · exact ⟨[], .inl ⟨rfl, a, c, rfl⟩, by simp, by simp⟩
  · obtain ⟨l, hll, hp⟩ := pick_list len (fun i (z : LabelD) => (w.cell? ⟨b, off + i * 2, none⟩ = some (.string z.key) ∧ w.cell? ⟨b, off + i * 2 + 1, none⟩ = some (.string z.val)) ∧ LabelWf z) fun i hi => by
      obtain ⟨cs, hc, hat, k, y, hy⟩ := hr i hi
      obtain ⟨z, rfl, hw⟩ := open_label hy
      exact ⟨z, ⟨by simpa using hat 0 (by simp), by simpa using hat 1 (by simp)⟩, hw⟩
    subst hll
    refine ⟨l, .inr ⟨h0, b, off, cap, rfl, hl, hb, fun j hj => (hp j hj).1⟩, by omega, fun p hp' => ?_⟩
    obtain ⟨j, hj, rfl⟩ := List.getElem_of_mem hp'
    exact (hp j hj).2
theorem open_ctrs {n : Nat} {v : Value} {x : DataW H × List MemPlace} (h : DataW.trod enc Tryz.prog w base (fun _ => true) held n 23 [v] = some x) :
    ∃ l : List CtrD, ICtrs (· < w.heap.size) w v l ∧ l.length ≤ maxLen ∧ ∀ p ∈ l, CtrWf p := by
  rcases open_rows Tryz.underlying23 Tryz.cells44 (by omega) h with ⟨a, c, rfl⟩ | ⟨b, off, len, cap, rfl, h0, hl, hm, hb, hr⟩
  · exact ⟨[], .inl ⟨rfl, a, c, rfl⟩, by simp, by simp⟩
  · obtain ⟨l, hll, hp⟩ := pick_list len (fun i (z : CtrD) => (∃ q, IInts (· < w.heap.size) w q z.ports ∧ ∀ j x, (ctrCells z q)[j]? = some x → w.cell? ⟨b, off + i * 11 + j, none⟩ = some x) ∧ CtrWf z) fun i hi => by
      obtain ⟨cs, hc, hat, k, y, hy⟩ := hr i hi
      obtain ⟨z, q, rfl, hq, hw⟩ := open_ctr hy
      refine ⟨z, ⟨q, hq, fun j x hx => ?_⟩, hw⟩
      obtain ⟨hj, rfl⟩ := Array.getElem?_eq_some_iff.1 hx
      have := hat j (by simpa using hj)
      rw [this]
      simp
    subst hll
    refine ⟨l, .inr ⟨h0, b, off, cap, rfl, hl, hb, fun j hj => (hp j hj).1⟩, by omega, fun p hp' => ?_⟩
    obtain ⟨j, hj, rfl⟩ := List.getElem_of_mem hp'
    exact (hp j hj).2
set_option maxRecDepth 100000 in
/-- THE SPEC THAT CAME IN. -/
theorem open_spec {r : Reach} {b0 : Nat} {v : Value} {d : DataW H} {p : List MemPlace} (hv : Value.okWide Tryz.prog w r b0 25 v) (h : DataW.Trod enc Tryz.prog w base (fun _ => true) held 25 v d p) :
    ∃ (s : SpecD) (la ia ma : Option Addr) (lc ic mc : Nat), v = specV s (.slice la s.labels.length lc) (.slice ia s.inits.length ic) (.slice ma s.mains.length mc) ∧
      ISpec (· < w.heap.size) w s (.slice la s.labels.length lc) (.slice ia s.inits.length ic) (.slice ma s.mains.length mc) ∧ SpecWf s := by
  obtain ⟨cs, rfl, hsz⟩ := okWide_struct Tryz.underlying25 hv
  obtain ⟨l⟩ := cs
  match l, hsz.trans Tryz.cells25 with
  | [c0, c1, c2, c3, c4, c5, c6], _ =>
    obtain ⟨fuel, hf⟩ := h
    obtain ⟨xs, n, _, _, _, hlen, hg⟩ := DataW.trod_struct Tryz.underlying25 hf
    have g0 : DataW.trod enc Tryz.prog w base (fun _ => true) held n 9 ((List.drop 0 [c0, c1, c2, c3, c4, c5, c6]).take (Tryz.prog.cellsOf 9)) = xs[0]? := hg 0 _ rfl
    have g1 : DataW.trod enc Tryz.prog w base (fun _ => true) held n 22 ((List.drop 1 [c0, c1, c2, c3, c4, c5, c6]).take (Tryz.prog.cellsOf 22)) = xs[1]? := hg 1 _ rfl
    have g2 : DataW.trod enc Tryz.prog w base (fun _ => true) held n 23 ((List.drop 2 [c0, c1, c2, c3, c4, c5, c6]).take (Tryz.prog.cellsOf 23)) = xs[2]? := hg 2 _ rfl
    have g3 : DataW.trod enc Tryz.prog w base (fun _ => true) held n 23 ((List.drop 3 [c0, c1, c2, c3, c4, c5, c6]).take (Tryz.prog.cellsOf 23)) = xs[3]? := hg 3 _ rfl
    have g4 : DataW.trod enc Tryz.prog w base (fun _ => true) held n 3 ((List.drop 4 [c0, c1, c2, c3, c4, c5, c6]).take (Tryz.prog.cellsOf 3)) = xs[4]? := hg 4 _ rfl
    have g5 : DataW.trod enc Tryz.prog w base (fun _ => true) held n 3 ((List.drop 5 [c0, c1, c2, c3, c4, c5, c6]).take (Tryz.prog.cellsOf 3)) = xs[5]? := hg 5 _ rfl
    have g6 : DataW.trod enc Tryz.prog w base (fun _ => true) held n 3 ((List.drop 6 [c0, c1, c2, c3, c4, c5, c6]).take (Tryz.prog.cellsOf 3)) = xs[6]? := hg 6 _ rfl
    rw [Tryz.cells9] at g0
    rw [Tryz.cells22] at g1
    rw [Tryz.cells23] at g2
    rw [Tryz.cells23] at g3
    rw [Tryz.cells3] at g4
    rw [Tryz.cells3] at g5
    rw [Tryz.cells3] at g6
    match xs, hlen with
    | [y0, y1, y2, y3, y4, y5, y6], _ =>
      obtain ⟨s0, e0, _, w0⟩ := DataW.trod_string Tryz.underlying9 g0
      obtain ⟨l1, h1, w1⟩ := open_labs (v := c1) g1
      obtain ⟨l2, h2, w2⟩ := open_ctrs (v := c2) g2
      obtain ⟨l3, h3, w3⟩ := open_ctrs (v := c3) g3
      obtain ⟨k4, e4, _, w4⟩ := DataW.trod_int Tryz.underlying3 g4
      obtain ⟨k5, e5, _, w5⟩ := DataW.trod_int Tryz.underlying3 g5
      obtain ⟨k6, e6, _, w6⟩ := DataW.trod_int Tryz.underlying3 g6
      simp at e0 e4 e5 e6
      obtain ⟨la, lc, rfl⟩ := h1.form
      obtain ⟨ia, ic, rfl⟩ := h2.form
      obtain ⟨ma, mc, rfl⟩ := h3.form
      exact ⟨⟨s0, l1, l2, l3, k4, k5, k6⟩, la, ia, ma, lc, ic, mc, by rw [e0, e4, e5, e6], ⟨h1, h2, h3⟩, ⟨w0, w1, w2, w3, w4, w5, w6⟩⟩
end
end Go.Proofs.YtgelbkgkjkeccaaGreatDoor
