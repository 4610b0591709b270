/- Package pack's writing: resources, containers, labels, specs behind whatever was written. -/
import Derived.Test.YtgelbkgkjkeccaaGreatDoorNGa
import Derived.Test.YtgelbkgkjkeccaaGreatDoorZJ
namespace Go.Proofs.YtgelbkgkjkeccaaGreatDoor
open Go.RowKit

theorem heap_alloc_is (w : World) (o : Obj) (n : Nat) (h : n = w.heap.size) : (w.alloc o).heap[n]? = some o := by subst h; exact heap_alloc_new w o
theorem Wrote.cellOf {B p q i : Nat} {w w' : World} {cs : Array Value} {T : TypeId} {fr : Nat × Nat} {x : Value} (h : Wrote B p w w') (hq : w.heap[q]? = some (.cells cs T fr)) (hT : T ≠ 5) (hne : q ≠ p) (hx : cs[i]? = some x) : w'.cell? ⟨q, i, none⟩ = some x := by
  simp [World.cell?, h.box hq hT hne, hx]
def resW (r : ResD) (s : WS) : WS := numW r.pids (numW r.mem (numW r.cpu s))
theorem resW_len (r : ResD) (s : WS) : (resW r s).out.length ≤ s.out.length + 30 := by
  unfold resW
  have h1 := numW_len r.cpu s
  have h2 := numW_len r.mem (numW r.cpu s)
  have h3 := numW_len r.pids (numW r.mem (numW r.cpu s))
  omega
def Small (n : Int) : Prop := n ≤ 9223372036854775807
structure ResS (r : ResD) : Prop where
  cpu : Small r.cpu
  mem : Small r.mem
  pids : Small r.pids
set_option maxHeartbeats 2000000 in
set_option maxRecDepth 100000 in
theorem putRes_any (B p : Nat) (w : World) (s : WS) (r : ResD) (hr : ResS r) (h : WrAt B p w s) (hB : B ≤ w.heap.size) (hl : s.out.length ≤ 800000000) :
    Calls Tryz.prog 228 #[.pointer (some ⟨p, 0, none⟩), .agg #[.int .i64 r.cpu, .int .i64 r.mem, .int .i64 r.pids]] w (WritePost B p w (resW r s) (.tuple #[])) := by
  have hp := h.lt
  have HH := Lib.hid h
  clear h
  go_enter Tryz.func228, Tryz.ntmps228
  go_wp2_with fail
  obtain ⟨W, hW⟩ : ∃ W, W = (w.alloc (.cells #[.int .i64 r.cpu, .int .i64 r.mem, .int .i64 r.pids] 40)) := ⟨_, rfl⟩
  have hb0 : Below w.heap.size w W := by rw [hW]; exact bnew _ _
  have hs0 : W.heap.size = w.heap.size + 1 := by rw [hW]; simp
  have hx0 : W.heap[w.heap.size]? = some (.cells #[.int .i64 r.cpu, .int .i64 r.mem, .int .i64 r.pids] 40 (0, 0)) := by rw [hW]; exact heap_alloc_is _ _ _ (by simp)
  rw [← hW]
  clear hW
  have HB0 := Lib.hid hb0
  have HS0 := Lib.hid hs0
  have HX0 := Lib.hid hx0
  have hB0 : B ≤ W.heap.size := by omega
  clear hb0 hx0
  have H0 := Lib.hid (HH.out.keptBelow HB0.out)
  refine (wnum_any B p W s _ H0.out hr.cpu hB0 (by omega)).mono ?_
  rintro e w1 ⟨rfl, h1, k1⟩
  obtain ⟨s1, hs1⟩ : ∃ s1, s1 = numW r.cpu s := ⟨_, rfl⟩
  rw [← hs1] at h1
  have L1 := numW_len r.cpu s
  rw [← hs1] at L1
  have HS_1 := Lib.hid hs1
  have H1 := Lib.hid h1
  have K1 : Hid (Wrote B p W w1) := Lib.hid (k1)
  have hB1 : B ≤ w1.heap.size := by have := K1.out.size; omega
  clear h1 k1 hs1
  have f0_1 : w1.cell? ⟨w.heap.size, 1, none⟩ = some (.int .i64 r.mem) := K1.out.cellOf HX0.out (by decide) (by omega) rfl
  go_wp2_with fail
  refine (wnum_any B p w1 s1 _ H1.out hr.mem hB1 (by omega)).mono ?_
  rintro e w2 ⟨rfl, h2, k2⟩
  obtain ⟨s2, hs2⟩ : ∃ s2, s2 = numW r.mem s1 := ⟨_, rfl⟩
  rw [← hs2] at h2
  have L2 := numW_len r.mem s1
  rw [← hs2] at L2
  have HS_2 := Lib.hid hs2
  have H2 := Lib.hid h2
  have K2 : Hid (Wrote B p W w2) := Lib.hid (K1.out.trans k2)
  have hB2 : B ≤ w2.heap.size := by have := K2.out.size; omega
  clear h2 k2 hs2 f0_1
  have f0_2 : w2.cell? ⟨w.heap.size, 2, none⟩ = some (.int .i64 r.pids) := K2.out.cellOf HX0.out (by decide) (by omega) rfl
  go_wp2_with fail
  refine (wnum_any B p w2 s2 _ H2.out hr.pids hB2 (by omega)).mono ?_
  rintro e w3 ⟨rfl, h3, k3⟩
  obtain ⟨s3, hs3⟩ : ∃ s3, s3 = numW r.pids s2 := ⟨_, rfl⟩
  rw [← hs3] at h3
  have L3 := numW_len r.pids s2
  rw [← hs3] at L3
  have HS_3 := Lib.hid hs3
  have H3 := Lib.hid h3
  have K3 : Hid (Wrote B p W w3) := Lib.hid (K2.out.trans k3)
  have hB3 : B ≤ w3.heap.size := by have := K3.out.size; omega
  clear h3 k3 hs3 f0_2
  go_wp2
  go_end0
  have E : resW r s = s3 := by rw [HS_3.out, HS_2.out, HS_1.out]; rfl
  rw [E]
  exact ⟨rfl, H3.out, (Wrote.of_below HB0.out).trans K3.out⟩

/-! numbers of a list -/
def intsW (xs : List Int) (s : WS) : WS := xs.foldl (fun s n => numW n s) s
def allIntsW (xs : List Int) (s : WS) : WS := intsW xs (numW xs.length s)
theorem foldW_len {α : Type} (f : α → WS → WS) (m : Nat) (h : ∀ x s, (f x s).out.length ≤ s.out.length + m) : ∀ (xs : List α) (s : WS), (xs.foldl (fun s x => f x s) s).out.length ≤ s.out.length + m * xs.length
  | [], s => by simp
  | x :: xs, s => by
    have h1 := foldW_len f m h xs (f x s)
    have h2 := h x s
    rw [List.foldl_cons, List.length_cons, Nat.mul_succ]
    omega
theorem foldW_snoc {α : Type} (f : α → WS → WS) (xs : List α) (k : Nat) (h : k < xs.length) (s : WS) : (xs.take (k + 1)).foldl (fun s x => f x s) s = f xs[k] ((xs.take k).foldl (fun s x => f x s) s) := by
  rw [List.take_succ_eq_append_getElem h, List.foldl_append]
  rfl
theorem intsW_len (xs : List Int) (s : WS) : (intsW xs s).out.length ≤ s.out.length + 10 * xs.length := foldW_len numW 10 numW_len xs s
theorem allIntsW_len (xs : List Int) (s : WS) : (allIntsW xs s).out.length ≤ s.out.length + 10 + 10 * xs.length := by
  have h1 := intsW_len xs (numW xs.length s)
  have h2 := numW_len xs.length s
  unfold allIntsW
  omega
set_option maxHeartbeats 1000000 in
theorem pc1_any (B p q : Nat) (w : World) (s : WS) (n : Int) (hn : Small n) (h : WrAt B p w s) (hq : w.heap[q]? = some (.cells #[.pointer (some ⟨p, 0, none⟩)] 51 (0, 0))) (hB : B ≤ w.heap.size) (hl : s.out.length ≤ 800000000) :
    Calls Tryz.prog 230 #[.int .i64 n, .pointer (some ⟨q, 0, none⟩)] w (WritePost B p w (numW n s) (.tuple #[])) := by
  have f0 : w.cell? ⟨q, 0, none⟩ = some (.pointer (some ⟨p, 0, none⟩)) := by simp [World.cell?, hq]
  have HH := Lib.hid h
  clear h hq
  go_enter Tryz.func230, Tryz.ntmps230
  go_wp2_with (go_at_call 132; refine (wnum_any B p w s n HH.out hn hB (by omega)).mono ?_; rintro e w1 ⟨rfl, h1, h2⟩)
  go_end0
  exact ⟨rfl, h1, h2⟩
theorem IInts.wrote {B p : Nat} {w w' : World} {v : Value} {l : List Int} (h : IInts (· < B) w v l) (hk : Wrote B p w w') (hp : B ≤ p) : IInts (· < B) w' v l := h.kept hk fun k hk => WM_lt hp k hk
theorem ILabs.wrote {B p : Nat} {w w' : World} {v : Value} {l : List LabelD} (h : ILabs (· < B) w v l) (hk : Wrote B p w w') (hp : B ≤ p) : ILabs (· < B) w' v l := h.kept hk fun k hk => WM_lt hp k hk
theorem ICtrs.wrote {B p : Nat} {w w' : World} {v : Value} {l : List CtrD} (h : ICtrs (· < B) w v l) (hk : Wrote B p w w') (hp : B ≤ p) : ICtrs (· < B) w' v l := h.kept hk fun k hk => WM_lt hp k hk
theorem ISpec.wrote {B p : Nat} {w w' : World} {s : SpecD} {a b c : Value} (h : ISpec (· < B) w s a b c) (hk : Wrote B p w w') (hp : B ≤ p) : ISpec (· < B) w' s a b c := h.kept hk fun k hk => WM_lt hp k hk
theorem IInts.at {I : Nat → Prop} {w : World} {a : Option Addr} {c : Nat} {l : List Int} (h : IInts I w (.slice a l.length c) l) (h0 : 0 < l.length) :
    ∃ b off, a = some ⟨b, off, none⟩ ∧ l.length ≤ c ∧ I b ∧ ∀ j (hj : j < l.length), w.cell? ⟨b, off + j, none⟩ = some (.int .i64 l[j]) := by
  rcases h with ⟨rfl, _⟩ | ⟨_, b, off, c', hv, hc, hI, hr⟩
  · exact absurd h0 (by simp)
  · injection hv with h1 _ h2
    subst h1 h2
    exact ⟨b, off, rfl, hc, hI, hr⟩
theorem ILabs.at {I : Nat → Prop} {w : World} {a : Option Addr} {c : Nat} {l : List LabelD} (h : ILabs I w (.slice a l.length c) l) (h0 : 0 < l.length) :
    ∃ b off, a = some ⟨b, off, none⟩ ∧ l.length ≤ c ∧ I b ∧ ∀ j (hj : j < l.length), w.cell? ⟨b, off + j * 2, none⟩ = some (.string l[j].key) ∧ w.cell? ⟨b, off + j * 2 + 1, none⟩ = some (.string l[j].val) := by
  rcases h with ⟨rfl, _⟩ | ⟨_, b, off, c', hv, hc, hI, hr⟩
  · exact absurd h0 (by simp)
  · injection hv with h1 _ h2
    subst h1 h2
    exact ⟨b, off, rfl, hc, hI, hr⟩
set_option maxHeartbeats 2000000 in
set_option maxRecDepth 100000 in
theorem putInts_any (B p q : Nat) (w : World) (s : WS) (xs : List Int) (a : Option Addr) (c : Nat) (hx : ∀ x ∈ xs, Small x) (hxl : xs.length ≤ 1000000) (h : WrAt B p w s) (hi : IInts (· < B) w (.slice a xs.length c) xs) (hq : w.heap[q]? = some (.cells #[.pointer (some ⟨p, 0, none⟩)] 51 (0, 0))) (hqp : q ≠ p) (hB : B ≤ w.heap.size) (hl : s.out.length + 10 * xs.length ≤ 700000000) :
    Calls Tryz.prog 229 #[.pointer (some ⟨p, 0, none⟩), .slice a xs.length c, .func (.func 230) #[] #[.pointer (some ⟨q, 0, none⟩)]] w (WritePost B p w (allIntsW xs s) (.tuple #[])) := by
  have HH := Lib.hid h
  have HQ := Lib.hid hq
  have HI := Lib.hid hi
  have HXS := Lib.hid hx
  have hge := h.ge
  clear h hq hi hx
  go_enter Tryz.func229, Tryz.ntmps229
  go_wp2_with fail
  refine (wnum_any B p w s xs.length HH.out (by omega) hB (by omega)).mono ?_
  rintro e w1 ⟨rfl, h1, k1⟩
  obtain ⟨s1, hs1⟩ : ∃ s1, s1 = numW xs.length s := ⟨_, rfl⟩
  rw [← hs1] at h1
  have L1 := numW_len xs.length s
  rw [← hs1] at L1
  have HS1 := Lib.hid hs1
  have H1 := Lib.hid h1
  have K1 := Lib.hid k1
  clear h1 k1 hs1
  go_wp2_with fail
  go_loopw [14] (fun i wr => ∃ k : Nat, k ≤ xs.length ∧ i = .int .i64 k ∧ WrAt B p wr (intsW (xs.take k) s1) ∧ Wrote B p w wr) (fun i _ => xs.length - (intOf i).toNat)
  case atStart => exact ⟨0, Nat.zero_le _, rfl, H1.out, K1.out⟩
  case round =>
    obtain ⟨k, hk, rfl, h2, k2⟩ := hrel
    have H2 := Lib.hid h2
    have K2 := Lib.hid k2
    have hB2 : B ≤ wr.heap.size := by have := k2.size; omega
    clear h2 k2
    by_cases hlt : k < xs.length
    · obtain ⟨b, off, rfl, hc, hIb, hr⟩ := (HI.out.wrote K2.out hge).at (by omega)
      have hck := hr k hlt
      have L2 := intsW_len (xs.take k) s1
      have L3 : (xs.take k).length ≤ xs.length := by simp; omega
      have HST : Hid (intsW (xs.take (k + 1)) s1 = numW xs[k] (intsW (xs.take k) s1)) := Lib.hid (foldW_snoc numW xs k hlt s1)
      have hsm := HXS.out _ (List.getElem_mem hlt)
      have HQ2 := Lib.hid (K2.out.box HQ.out (by decide) hqp)
      clear hr
      go_wp2_with fail
      refine (pc1_any B p q wr _ xs[k] hsm H2.out HQ2.out hB2 (by omega)).mono ?_
      rintro e w3 ⟨rfl, h3, k3⟩
      rw [← HST.out] at h3
      have H3 := Lib.hid h3
      have K3 := Lib.hid k3
      clear h3 k3
      go_wp2
      refine ⟨⟨k + 1, hlt, by go_num, H3.out, K2.out.trans K3.out⟩, by simp [intOf]; omega⟩
    · have hkk : k = xs.length := by omega
      subst hkk
      go_wp2
      go_end0
      have E : allIntsW xs s = intsW (xs.take xs.length) s1 := by rw [List.take_length, HS1.out]; rfl
      rw [E]
      exact ⟨rfl, H2.out, K2.out⟩


/-! containers -/
def ctrW (c : CtrD) (s : WS) : WS := numW c.fails (numW c.every (allIntsW c.ports (resW c.lim (resW c.req (textW c.image (textW c.name s))))))
theorem NumR.small {m : Nat} {n : Int} (h : NumR m n) (hm : m ≤ 9223372036854775807) : Small n := by have := h.2; unfold Small; omega
theorem ResR.s {r : ResD} (h : ResR r) : ResS r := ⟨h.cpu.small (by decide), h.mem.small (by decide), h.pids.small (by decide)⟩
def Fits (c : CtrD) : Prop := c.name.size ≤ 100 ∧ c.image.size ≤ 100 ∧ c.ports.length ≤ 100
theorem CtrR.fits {c : CtrD} (h : CtrR c) : Fits c := ⟨by have := h.name; omega, by have := h.image; omega, by have := h.nports; omega⟩
theorem ctrW_len (c : CtrD) (hc : Fits c) (s : WS) : (ctrW c s).out.length ≤ s.out.length + 2000 := by
  unfold ctrW
  have h1 := textW_len c.name s
  have h2 := textW_len c.image (textW c.name s)
  have h3 := resW_len c.req (textW c.image (textW c.name s))
  have h4 := resW_len c.lim (resW c.req (textW c.image (textW c.name s)))
  have h5 := allIntsW_len c.ports (resW c.lim (resW c.req (textW c.image (textW c.name s))))
  have h6 := numW_len c.every (allIntsW c.ports (resW c.lim (resW c.req (textW c.image (textW c.name s)))))
  have h7 := numW_len c.fails (numW c.every (allIntsW c.ports (resW c.lim (resW c.req (textW c.image (textW c.name s))))))
  obtain ⟨a, b, d⟩ := hc
  omega
set_option maxHeartbeats 4000000 in
set_option maxRecDepth 100000 in
theorem putContainer_any (B p : Nat) (w : World) (s : WS) (c : CtrD) (qa : Option Addr) (qc : Nat) (hc : CtrR c) (h : WrAt B p w s) (hi : IInts (· < B) w (.slice qa c.ports.length qc) c.ports) (hB : B ≤ w.heap.size) (hl : s.out.length ≤ 600000000) :
    Calls Tryz.prog 138 #[.pointer (some ⟨p, 0, none⟩), .agg (ctrCells c (.slice qa c.ports.length qc))] w (WritePost B p w (ctrW c s) (.tuple #[])) := by
  have hge := h.ge
  have hmf : ∀ (fn : Fn) (first cap : Array Value) (w : World), (Instr.makeFunc fn first cap).run Tryz.prog w = .ok (.func fn first cap) w := fun _ _ _ _ => rfl
  have HI := Lib.hid hi
  have HC := Lib.hid hc
  obtain ⟨z1, z2, z3⟩ := hc.fits
  clear hi hc
  have hp := h.lt
  have HH := Lib.hid h
  clear h
  go_enter Tryz.func138, Tryz.ntmps138
  go_wp2_with fail
  obtain ⟨W, hW⟩ : ∃ W, W = ((w.alloc (.cells #[.pointer (some ⟨p, 0, none⟩)] 51)).alloc (.cells #[.string c.name, .string c.image, .int .i64 c.req.cpu, .int .i64 c.req.mem, .int .i64 c.req.pids, .int .i64 c.lim.cpu, .int .i64 c.lim.mem, .int .i64 c.lim.pids, .slice qa c.ports.length qc, .int .i64 c.every, .int .i64 c.fails] 44)) := ⟨_, rfl⟩
  have hb0 : Below w.heap.size w W := by rw [hW]; exact bto (bnew _ _) (bnew _ _)
  have hs0 : W.heap.size = w.heap.size + 2 := by rw [hW]; simp
  have hx0 : W.heap[w.heap.size]? = some (.cells #[.pointer (some ⟨p, 0, none⟩)] 51 (0, 0)) := by rw [hW, Below.heap_alloc _ _ _ (by simp; try omega)]; exact heap_alloc_is _ _ _ (by simp)
  have hx1 : W.heap[w.heap.size + 1]? = some (.cells #[.string c.name, .string c.image, .int .i64 c.req.cpu, .int .i64 c.req.mem, .int .i64 c.req.pids, .int .i64 c.lim.cpu, .int .i64 c.lim.mem, .int .i64 c.lim.pids, .slice qa c.ports.length qc, .int .i64 c.every, .int .i64 c.fails] 44 (0, 0)) := by rw [hW]; exact heap_alloc_is _ _ _ (by simp)
  rw [← hW]
  clear hW
  have HB0 := Lib.hid hb0
  have HS0 := Lib.hid hs0
  have HX0 := Lib.hid hx0
  have HX1 := Lib.hid hx1
  have hB0 : B ≤ W.heap.size := by omega
  clear hb0 hx0 hx1
  have H0 := Lib.hid (HH.out.keptBelow HB0.out)
  refine (wtext_any B p W s c.name H0.out hB0 (by omega) (by omega)).mono ?_
  rintro e w1 ⟨rfl, h1, k1⟩
  obtain ⟨s1, hs1⟩ : ∃ s1, s1 = textW c.name s := ⟨_, rfl⟩
  rw [← hs1] at h1
  have L1 := textW_len c.name s
  rw [← hs1] at L1
  have HS_1 := Lib.hid hs1
  have H1 := Lib.hid h1
  have K1 : Hid (Wrote B p W w1) := Lib.hid (k1)
  have hB1 : B ≤ w1.heap.size := by have := K1.out.size; omega
  clear h1 k1 hs1
  have f0_0 : w1.cell? ⟨w.heap.size, 0, none⟩ = some (.pointer (some ⟨p, 0, none⟩)) := K1.out.cellOf HX0.out (by decide) (by omega) rfl
  have f1_1 : w1.cell? ⟨w.heap.size + 1, 1, none⟩ = some (.string c.image) := K1.out.cellOf HX1.out (by decide) (by omega) rfl
  go_wp2_with fail
  refine (wtext_any B p w1 s1 c.image H1.out hB1 (by omega) (by omega)).mono ?_
  rintro e w2 ⟨rfl, h2, k2⟩
  obtain ⟨s2, hs2⟩ : ∃ s2, s2 = textW c.image s1 := ⟨_, rfl⟩
  rw [← hs2] at h2
  have L2 := textW_len c.image s1
  rw [← hs2] at L2
  have HS_2 := Lib.hid hs2
  have H2 := Lib.hid h2
  have K2 : Hid (Wrote B p W w2) := Lib.hid (K1.out.trans k2)
  have hB2 : B ≤ w2.heap.size := by have := K2.out.size; omega
  clear h2 k2 hs2 f0_0 f1_1
  have f0_0 : w2.cell? ⟨w.heap.size, 0, none⟩ = some (.pointer (some ⟨p, 0, none⟩)) := K2.out.cellOf HX0.out (by decide) (by omega) rfl
  have f1_2 : w2.cell? ⟨w.heap.size + 1, 2, none⟩ = some (.int .i64 c.req.cpu) := K2.out.cellOf HX1.out (by decide) (by omega) rfl
  have f1_3 : w2.cell? ⟨w.heap.size + 1, 3, none⟩ = some (.int .i64 c.req.mem) := K2.out.cellOf HX1.out (by decide) (by omega) rfl
  have f1_4 : w2.cell? ⟨w.heap.size + 1, 4, none⟩ = some (.int .i64 c.req.pids) := K2.out.cellOf HX1.out (by decide) (by omega) rfl
  go_wp2_with fail
  refine (putRes_any B p w2 s2 c.req HC.out.req.s H2.out hB2 (by omega)).mono ?_
  rintro e w3 ⟨rfl, h3, k3⟩
  obtain ⟨s3, hs3⟩ : ∃ s3, s3 = resW c.req s2 := ⟨_, rfl⟩
  rw [← hs3] at h3
  have L3 := resW_len c.req s2
  rw [← hs3] at L3
  have HS_3 := Lib.hid hs3
  have H3 := Lib.hid h3
  have K3 : Hid (Wrote B p W w3) := Lib.hid (K2.out.trans k3)
  have hB3 : B ≤ w3.heap.size := by have := K3.out.size; omega
  clear h3 k3 hs3 f0_0 f1_2 f1_3 f1_4
  have f0_0 : w3.cell? ⟨w.heap.size, 0, none⟩ = some (.pointer (some ⟨p, 0, none⟩)) := K3.out.cellOf HX0.out (by decide) (by omega) rfl
  have f1_5 : w3.cell? ⟨w.heap.size + 1, 5, none⟩ = some (.int .i64 c.lim.cpu) := K3.out.cellOf HX1.out (by decide) (by omega) rfl
  have f1_6 : w3.cell? ⟨w.heap.size + 1, 6, none⟩ = some (.int .i64 c.lim.mem) := K3.out.cellOf HX1.out (by decide) (by omega) rfl
  have f1_7 : w3.cell? ⟨w.heap.size + 1, 7, none⟩ = some (.int .i64 c.lim.pids) := K3.out.cellOf HX1.out (by decide) (by omega) rfl
  go_wp2_with fail
  refine (putRes_any B p w3 s3 c.lim HC.out.lim.s H3.out hB3 (by omega)).mono ?_
  rintro e w4 ⟨rfl, h4, k4⟩
  obtain ⟨s4, hs4⟩ : ∃ s4, s4 = resW c.lim s3 := ⟨_, rfl⟩
  rw [← hs4] at h4
  have L4 := resW_len c.lim s3
  rw [← hs4] at L4
  have HS_4 := Lib.hid hs4
  have H4 := Lib.hid h4
  have K4 : Hid (Wrote B p W w4) := Lib.hid (K3.out.trans k4)
  have hB4 : B ≤ w4.heap.size := by have := K4.out.size; omega
  clear h4 k4 hs4 f0_0 f1_5 f1_6 f1_7
  have f0_0 : w4.cell? ⟨w.heap.size, 0, none⟩ = some (.pointer (some ⟨p, 0, none⟩)) := K4.out.cellOf HX0.out (by decide) (by omega) rfl
  have f1_8 : w4.cell? ⟨w.heap.size + 1, 8, none⟩ = some (.slice qa c.ports.length qc) := K4.out.cellOf HX1.out (by decide) (by omega) rfl
  go_wp2_with fail
  refine (putInts_any B p w.heap.size w4 s4 c.ports qa qc (fun x hx => (HC.out.ports x hx).small (by decide)) (by omega) H4.out ((HI.out.below HB0.out).wrote K4.out hge) (K4.out.box HX0.out (by decide) (by omega)) (by omega) hB4 (by omega)).mono ?_
  rintro e w5 ⟨rfl, h5, k5⟩
  obtain ⟨s5, hs5⟩ : ∃ s5, s5 = allIntsW c.ports s4 := ⟨_, rfl⟩
  rw [← hs5] at h5
  have L5 := allIntsW_len c.ports s4
  rw [← hs5] at L5
  have HS_5 := Lib.hid hs5
  have H5 := Lib.hid h5
  have K5 : Hid (Wrote B p W w5) := Lib.hid (K4.out.trans k5)
  have hB5 : B ≤ w5.heap.size := by have := K5.out.size; omega
  clear h5 k5 hs5 f0_0 f1_8
  have f0_0 : w5.cell? ⟨w.heap.size, 0, none⟩ = some (.pointer (some ⟨p, 0, none⟩)) := K5.out.cellOf HX0.out (by decide) (by omega) rfl
  have f1_9 : w5.cell? ⟨w.heap.size + 1, 9, none⟩ = some (.int .i64 c.every) := K5.out.cellOf HX1.out (by decide) (by omega) rfl
  go_wp2_with fail
  refine (wnum_any B p w5 s5 c.every H5.out (HC.out.every.small (by decide)) hB5 (by omega)).mono ?_
  rintro e w6 ⟨rfl, h6, k6⟩
  obtain ⟨s6, hs6⟩ : ∃ s6, s6 = numW c.every s5 := ⟨_, rfl⟩
  rw [← hs6] at h6
  have L6 := numW_len c.every s5
  rw [← hs6] at L6
  have HS_6 := Lib.hid hs6
  have H6 := Lib.hid h6
  have K6 : Hid (Wrote B p W w6) := Lib.hid (K5.out.trans k6)
  have hB6 : B ≤ w6.heap.size := by have := K6.out.size; omega
  clear h6 k6 hs6 f0_0 f1_9
  have f0_0 : w6.cell? ⟨w.heap.size, 0, none⟩ = some (.pointer (some ⟨p, 0, none⟩)) := K6.out.cellOf HX0.out (by decide) (by omega) rfl
  have f1_10 : w6.cell? ⟨w.heap.size + 1, 10, none⟩ = some (.int .i64 c.fails) := K6.out.cellOf HX1.out (by decide) (by omega) rfl
  go_wp2_with fail
  refine (wnum_any B p w6 s6 c.fails H6.out (HC.out.fails.small (by decide)) hB6 (by omega)).mono ?_
  rintro e w7 ⟨rfl, h7, k7⟩
  obtain ⟨s7, hs7⟩ : ∃ s7, s7 = numW c.fails s6 := ⟨_, rfl⟩
  rw [← hs7] at h7
  have L7 := numW_len c.fails s6
  rw [← hs7] at L7
  have HS_7 := Lib.hid hs7
  have H7 := Lib.hid h7
  have K7 : Hid (Wrote B p W w7) := Lib.hid (K6.out.trans k7)
  have hB7 : B ≤ w7.heap.size := by have := K7.out.size; omega
  clear h7 k7 hs7 f0_0 f1_10
  go_wp2
  go_end0
  have E : ctrW c s = s7 := by rw [HS_7.out, HS_6.out, HS_5.out, HS_4.out, HS_3.out, HS_2.out, HS_1.out]; rfl
  rw [E]
  exact ⟨rfl, H7.out, (Wrote.of_below HB0.out).trans K7.out⟩
set_option maxHeartbeats 2000000 in
set_option maxRecDepth 100000 in
theorem put1_any (B p q : Nat) (w : World) (s : WS) (c : CtrD) (qa : Option Addr) (qc : Nat) (hc : CtrR c) (h : WrAt B p w s) (hi : IInts (· < B) w (.slice qa c.ports.length qc) c.ports) (hq : w.heap[q]? = some (.cells #[.pointer (some ⟨p, 0, none⟩)] 51 (0, 0))) (hB : B ≤ w.heap.size) (hl : s.out.length ≤ 600000000) :
    Calls Tryz.prog 137 #[.agg (ctrCells c (.slice qa c.ports.length qc)), .pointer (some ⟨q, 0, none⟩)] w (WritePost B p w (ctrW c s) (.tuple #[])) := by
  have f0 : w.cell? ⟨q, 0, none⟩ = some (.pointer (some ⟨p, 0, none⟩)) := by simp [World.cell?, hq]
  have hql : q < w.heap.size := (Array.getElem?_eq_some_iff.1 hq).1
  have HH := Lib.hid h
  have HI := Lib.hid hi
  have HB0 := Lib.hid (bnew w (.cells (ctrCells c (.slice qa c.ports.length qc)) 44))
  clear h hq hi
  go_enter Tryz.func137, Tryz.ntmps137
  go_wp2_with (go_at_call 138; refine (putContainer_any B p _ s c qa qc hc (HH.out.keptBelow HB0.out) (HI.out.below HB0.out) (by have := HB0.out.size; omega) (by omega)).mono ?_; rintro e w1 ⟨rfl, h1, h2⟩)
  go_end0
  exact ⟨rfl, h1, (Wrote.of_below HB0.out).trans h2⟩
def ctrsW (l : List CtrD) (s : WS) : WS := l.foldl (fun s c => ctrW c s) s
def allCtrsW (l : List CtrD) (s : WS) : WS := ctrsW l (numW l.length s)
theorem foldW_len2 {α : Type} (f : α → WS → WS) (m : Nat) : ∀ (xs : List α) (s : WS), (∀ x ∈ xs, ∀ s, (f x s).out.length ≤ s.out.length + m) → (xs.foldl (fun s x => f x s) s).out.length ≤ s.out.length + m * xs.length
  | [], s, _ => by simp
  | x :: xs, s, h => by
    have h1 := foldW_len2 f m xs (f x s) fun y hy => h y (by simp [hy])
    have h2 := h x (by simp) s
    rw [List.foldl_cons, List.length_cons, Nat.mul_succ]
    omega
theorem ctrsW_len (l : List CtrD) (s : WS) (h : ∀ c ∈ l, Fits c) : (ctrsW l s).out.length ≤ s.out.length + 2000 * l.length := foldW_len2 ctrW 2000 l s fun c hc s => ctrW_len c (h c hc) s
theorem allCtrsW_len (l : List CtrD) (s : WS) (h : ∀ c ∈ l, Fits c) : (allCtrsW l s).out.length ≤ s.out.length + 10 + 2000 * l.length := by
  have h1 := ctrsW_len l (numW l.length s) h
  have h2 := numW_len l.length s
  unfold allCtrsW
  omega
set_option maxHeartbeats 4000000 in
set_option maxRecDepth 100000 in
theorem putCtrs_any (B p q : Nat) (w : World) (s : WS) (l : List CtrD) (a : Option Addr) (c : Nat) (hx : ∀ x ∈ l, CtrR x) (hxl : l.length ≤ 100) (h : WrAt B p w s) (hi : ICtrs (· < B) w (.slice a l.length c) l) (hq : w.heap[q]? = some (.cells #[.pointer (some ⟨p, 0, none⟩)] 51 (0, 0))) (hqp : q ≠ p) (hB : B ≤ w.heap.size) (hl : s.out.length ≤ 500000000) :
    Calls Tryz.prog 136 #[.pointer (some ⟨p, 0, none⟩), .slice a l.length c, .func (.func 137) #[] #[.pointer (some ⟨q, 0, none⟩)]] w (WritePost B p w (allCtrsW l s) (.tuple #[])) := by
  have HH := Lib.hid h
  have HQ := Lib.hid hq
  have HI := Lib.hid hi
  have HXS := Lib.hid hx
  have hge := h.ge
  clear h hq hi hx
  go_enter Tryz.func136, Tryz.ntmps136
  go_wp2_with fail
  refine (wnum_any B p w s l.length HH.out (by omega) hB (by omega)).mono ?_
  rintro e w1 ⟨rfl, h1, k1⟩
  obtain ⟨s1, hs1⟩ : ∃ s1, s1 = numW l.length s := ⟨_, rfl⟩
  rw [← hs1] at h1
  have L1 := numW_len l.length s
  rw [← hs1] at L1
  have HS1 := Lib.hid hs1
  have H1 := Lib.hid h1
  have K1 := Lib.hid k1
  clear h1 k1 hs1
  go_wp2_with fail
  go_loopw [14] (fun i wr => ∃ k : Nat, k ≤ l.length ∧ i = .int .i64 k ∧ WrAt B p wr (ctrsW (l.take k) s1) ∧ Wrote B p w wr) (fun i _ => l.length - (intOf i).toNat)
  case atStart => exact ⟨0, Nat.zero_le _, rfl, H1.out, K1.out⟩
  case round =>
    obtain ⟨k, hk, rfl, h2, k2⟩ := hrel
    have H2 := Lib.hid h2
    have K2 := Lib.hid k2
    have hB2 : B ≤ wr.heap.size := by have := k2.size; omega
    clear h2 k2
    by_cases hlt : k < l.length
    · obtain ⟨b, off, rfl, hc, hIb, hr⟩ := (HI.out.wrote K2.out hge).at (by omega)
      obtain ⟨qa, qc, hqq, hcell⟩ := hr k hlt
      have L2 := ctrsW_len (l.take k) s1 fun c hc => (HXS.out c (List.mem_of_mem_take hc)).fits
      have L3 : (l.take k).length ≤ l.length := by simp; omega
      have HST : Hid (ctrsW (l.take (k + 1)) s1 = ctrW l[k] (ctrsW (l.take k) s1)) := Lib.hid (foldW_snoc ctrW l k hlt s1)
      have hsm := HXS.out _ (List.getElem_mem hlt)
      have HQ2 := Lib.hid (K2.out.box HQ.out (by decide) hqp)
      obtain ⟨d, hd⟩ : ∃ d, d = l[k] := ⟨_, rfl⟩
      rw [← hd] at hqq hcell hsm HST
      have HB3 := Lib.hid (bnew wr (.cells (ctrCells d (.slice qa d.ports.length qc)) 44))
      have HQQ := Lib.hid (hqq.below HB3.out)
      have v0 := hcell 0 _ rfl
      have v1 := hcell 1 _ rfl
      have v2 := hcell 2 _ rfl
      have v3 := hcell 3 _ rfl
      have v4 := hcell 4 _ rfl
      have v5 := hcell 5 _ rfl
      have v6 := hcell 6 _ rfl
      have v7 := hcell 7 _ rfl
      have v8 := hcell 8 _ rfl
      have v9 := hcell 9 _ rfl
      have v10 := hcell 10 _ rfl
      simp only [Nat.add_zero] at v0
      clear hr hqq hcell hd
      go_wp2_with fail
      refine (put1_any B p q _ _ d qa qc hsm (H2.out.keptBelow HB3.out) HQQ.out (boxB HB3.out HQ2.out) (by have := HB3.out.size; omega) (by omega)).mono ?_
      rintro e w3 ⟨rfl, h3, k3⟩
      rw [← HST.out] at h3
      have H3 := Lib.hid h3
      have K3 := Lib.hid k3
      clear h3 k3 v0 v1 v2 v3 v4 v5 v6 v7 v8 v9 v10
      go_wp2
      refine ⟨⟨k + 1, hlt, by go_num, H3.out, K2.out.trans ((Wrote.of_below HB3.out).trans K3.out)⟩, by simp [intOf]; omega⟩
    · have hkk : k = l.length := by omega
      subst hkk
      go_wp2
      go_end0
      have E : allCtrsW l s = ctrsW (l.take l.length) s1 := by rw [List.take_length, HS1.out]; rfl
      rw [E]
      exact ⟨rfl, H2.out, K2.out⟩

/-! labels -/
def labW (x : LabelD) (s : WS) : WS := textW x.val (textW x.key s)
def FitsL (x : LabelD) : Prop := x.key.size ≤ 100 ∧ x.val.size ≤ 100
theorem labW_len (x : LabelD) (h : FitsL x) (s : WS) : (labW x s).out.length ≤ s.out.length + 300 := by
  unfold labW
  have h1 := textW_len x.key s
  have h2 := textW_len x.val (textW x.key s)
  obtain ⟨a, b⟩ := h
  omega
set_option maxHeartbeats 2000000 in
set_option maxRecDepth 100000 in
theorem putL1_any (B p q : Nat) (w : World) (s : WS) (x : LabelD) (hx : FitsL x) (h : WrAt B p w s) (hq : w.heap[q]? = some (.cells #[.pointer (some ⟨p, 0, none⟩)] 51 (0, 0))) (hqp : q ≠ p) (hB : B ≤ w.heap.size) (hl : s.out.length ≤ 600000000) :
    Calls Tryz.prog 150 #[.agg #[.string x.key, .string x.val], .pointer (some ⟨q, 0, none⟩)] w (WritePost B p w (labW x s) (.tuple #[])) := by
  obtain ⟨z1, z2⟩ := hx
  have f0 : w.cell? ⟨q, 0, none⟩ = some (.pointer (some ⟨p, 0, none⟩)) := by simp [World.cell?, hq]
  have hql : q < w.heap.size := (Array.getElem?_eq_some_iff.1 hq).1
  have HQ := Lib.hid hq
  clear hq
  have hp := h.lt
  have HH := Lib.hid h
  clear h
  go_enter Tryz.func150, Tryz.ntmps150
  go_wp2_with fail
  obtain ⟨W, hW⟩ : ∃ W, W = (w.alloc (.cells #[.string x.key, .string x.val] 159)) := ⟨_, rfl⟩
  have hb0 : Below w.heap.size w W := by rw [hW]; exact bnew _ _
  have hs0 : W.heap.size = w.heap.size + 1 := by rw [hW]; simp
  have hx0 : W.heap[w.heap.size]? = some (.cells #[.string x.key, .string x.val] 159 (0, 0)) := by rw [hW]; exact heap_alloc_is _ _ _ (by simp)
  rw [← hW]
  clear hW
  have HB0 := Lib.hid hb0
  have HS0 := Lib.hid hs0
  have HX0 := Lib.hid hx0
  have hB0 : B ≤ W.heap.size := by omega
  clear hb0 hx0
  have H0 := Lib.hid (HH.out.keptBelow HB0.out)
  refine (wtext_any B p W s x.key H0.out hB0 (by omega) (by omega)).mono ?_
  rintro e w1 ⟨rfl, h1, k1⟩
  obtain ⟨s1, hs1⟩ : ∃ s1, s1 = textW x.key s := ⟨_, rfl⟩
  rw [← hs1] at h1
  have L1 := textW_len x.key s
  rw [← hs1] at L1
  have HS_1 := Lib.hid hs1
  have H1 := Lib.hid h1
  have K1 : Hid (Wrote B p W w1) := Lib.hid (k1)
  have hB1 : B ≤ w1.heap.size := by have := K1.out.size; omega
  clear h1 k1 hs1
  have f0_1 : w1.cell? ⟨w.heap.size, 1, none⟩ = some (.string x.val) := K1.out.cellOf HX0.out (by decide) (by omega) rfl
  have fq : w1.cell? ⟨q, 0, none⟩ = some (.pointer (some ⟨p, 0, none⟩)) := K1.out.cellOf (boxB HB0.out HQ.out) (by decide) hqp rfl
  go_wp2_with fail
  refine (wtext_any B p w1 s1 x.val H1.out hB1 (by omega) (by omega)).mono ?_
  rintro e w2 ⟨rfl, h2, k2⟩
  obtain ⟨s2, hs2⟩ : ∃ s2, s2 = textW x.val s1 := ⟨_, rfl⟩
  rw [← hs2] at h2
  have L2 := textW_len x.val s1
  rw [← hs2] at L2
  have HS_2 := Lib.hid hs2
  have H2 := Lib.hid h2
  have K2 : Hid (Wrote B p W w2) := Lib.hid (K1.out.trans k2)
  have hB2 : B ≤ w2.heap.size := by have := K2.out.size; omega
  clear h2 k2 hs2 f0_1
  go_wp2
  go_end0
  have E : labW x s = s2 := by rw [HS_2.out, HS_1.out]; rfl
  rw [E]
  exact ⟨rfl, H2.out, (Wrote.of_below HB0.out).trans K2.out⟩
def labsW (l : List LabelD) (s : WS) : WS := l.foldl (fun s c => labW c s) s
def allLabsW (l : List LabelD) (s : WS) : WS := labsW l (numW l.length s)
theorem labsW_len (l : List LabelD) (s : WS) (h : ∀ c ∈ l, FitsL c) : (labsW l s).out.length ≤ s.out.length + 300 * l.length := foldW_len2 labW 300 l s fun c hc s => labW_len c (h c hc) s
theorem allLabsW_len (l : List LabelD) (s : WS) (h : ∀ c ∈ l, FitsL c) : (allLabsW l s).out.length ≤ s.out.length + 10 + 300 * l.length := by
  have h1 := labsW_len l (numW l.length s) h
  have h2 := numW_len l.length s
  unfold allLabsW
  omega
set_option maxHeartbeats 4000000 in
set_option maxRecDepth 100000 in
theorem putLabs_any (B p q : Nat) (w : World) (s : WS) (l : List LabelD) (a : Option Addr) (c : Nat) (hx : ∀ x ∈ l, FitsL x) (hxl : l.length ≤ 1000) (h : WrAt B p w s) (hi : ILabs (· < B) w (.slice a l.length c) l) (hq : w.heap[q]? = some (.cells #[.pointer (some ⟨p, 0, none⟩)] 51 (0, 0))) (hqp : q ≠ p) (hB : B ≤ w.heap.size) (hl : s.out.length ≤ 500000000) :
    Calls Tryz.prog 149 #[.pointer (some ⟨p, 0, none⟩), .slice a l.length c, .func (.func 150) #[] #[.pointer (some ⟨q, 0, none⟩)]] w (WritePost B p w (allLabsW l s) (.tuple #[])) := by
  have HH := Lib.hid h
  have HQ := Lib.hid hq
  have HI := Lib.hid hi
  have HXS := Lib.hid hx
  have hge := h.ge
  clear h hq hi hx
  go_enter Tryz.func149, Tryz.ntmps149
  go_wp2_with fail
  refine (wnum_any B p w s l.length HH.out (by omega) hB (by omega)).mono ?_
  rintro e w1 ⟨rfl, h1, k1⟩
  obtain ⟨s1, hs1⟩ : ∃ s1, s1 = numW l.length s := ⟨_, rfl⟩
  rw [← hs1] at h1
  have L1 := numW_len l.length s
  rw [← hs1] at L1
  have HS1 := Lib.hid hs1
  have H1 := Lib.hid h1
  have K1 := Lib.hid k1
  clear h1 k1 hs1
  go_wp2_with fail
  go_loopw [14] (fun i wr => ∃ k : Nat, k ≤ l.length ∧ i = .int .i64 k ∧ WrAt B p wr (labsW (l.take k) s1) ∧ Wrote B p w wr) (fun i _ => l.length - (intOf i).toNat)
  case atStart => exact ⟨0, Nat.zero_le _, rfl, H1.out, K1.out⟩
  case round =>
    obtain ⟨k, hk, rfl, h2, k2⟩ := hrel
    have H2 := Lib.hid h2
    have K2 := Lib.hid k2
    have hB2 : B ≤ wr.heap.size := by have := k2.size; omega
    clear h2 k2
    by_cases hlt : k < l.length
    · obtain ⟨b, off, rfl, hc, hIb, hr⟩ := (HI.out.wrote K2.out hge).at (by omega)
      obtain ⟨v0, v1⟩ := hr k hlt
      have L2 := labsW_len (l.take k) s1 fun c hc => HXS.out c (List.mem_of_mem_take hc)
      have L3 : (l.take k).length ≤ l.length := by simp; omega
      have HST : Hid (labsW (l.take (k + 1)) s1 = labW l[k] (labsW (l.take k) s1)) := Lib.hid (foldW_snoc labW l k hlt s1)
      have hsm := HXS.out _ (List.getElem_mem hlt)
      have HQ2 := Lib.hid (K2.out.box HQ.out (by decide) hqp)
      obtain ⟨d, hd⟩ : ∃ d, d = l[k] := ⟨_, rfl⟩
      rw [← hd] at v0 v1 hsm HST
      have HB3 := Lib.hid (bnew wr (.cells #[.string d.key, .string d.val] 159))
      clear hr hd
      go_wp2_with fail
      refine (putL1_any B p q _ _ d hsm (H2.out.keptBelow HB3.out) (boxB HB3.out HQ2.out) hqp (by have := HB3.out.size; omega) (by omega)).mono ?_
      rintro e w3 ⟨rfl, h3, k3⟩
      rw [← HST.out] at h3
      have H3 := Lib.hid h3
      have K3 := Lib.hid k3
      clear h3 k3 v0 v1
      go_wp2
      refine ⟨⟨k + 1, hlt, by go_num, H3.out, K2.out.trans ((Wrote.of_below HB3.out).trans K3.out)⟩, by simp [intOf]; omega⟩
    · have hkk : k = l.length := by omega
      subst hkk
      go_wp2
      go_end0
      have E : allLabsW l s = labsW (l.take l.length) s1 := by rw [List.take_length, HS1.out]; rfl
      rw [E]
      exact ⟨rfl, H2.out, K2.out⟩
set_option maxHeartbeats 2000000 in
set_option maxRecDepth 100000 in
theorem PutLabels_any (B p : Nat) (w : World) (s : WS) (l : List LabelD) (a : Option Addr) (c : Nat) (hx : ∀ x ∈ l, FitsL x) (hxl : l.length ≤ 1000) (h : WrAt B p w s) (hi : ILabs (· < B) w (.slice a l.length c) l) (hB : B ≤ w.heap.size) (hl : s.out.length ≤ 500000000) :
    Calls Tryz.prog 50 #[.pointer (some ⟨p, 0, none⟩), .slice a l.length c] w (WritePost B p w (allLabsW l s) (.tuple #[])) := by
  have hmf : ∀ (fn : Fn) (first cap : Array Value) (w : World), (Instr.makeFunc fn first cap).run Tryz.prog w = .ok (.func fn first cap) w := fun _ _ _ _ => rfl
  have hp := h.lt
  have HH := Lib.hid h
  have HI := Lib.hid hi
  have HB0 := Lib.hid (bnew w (.cells #[.pointer (some ⟨p, 0, none⟩)] 51))
  have hk : Hid (Calls Tryz.prog 149 #[.pointer (some ⟨p, 0, none⟩), .slice a l.length c, .func (.func 150) #[] #[.pointer (some ⟨w.heap.size, 0, none⟩)]] (w.alloc (.cells #[.pointer (some ⟨p, 0, none⟩)] 51)) (WritePost B p (w.alloc (.cells #[.pointer (some ⟨p, 0, none⟩)] 51)) (allLabsW l s) (.tuple #[]))) :=
    Lib.hid (putLabs_any B p w.heap.size _ s l a c hx hxl (h.keptBelow HB0.out) (hi.below HB0.out) (heap_alloc_new _ _) (by omega) (by have := HB0.out.size; omega) hl)
  clear h hi hx
  go_enter Tryz.func50, Tryz.ntmps50
  go_wp2_with (go_at_call 149; refine hk.out.mono ?_; rintro e w1 ⟨rfl, h1, h2⟩)
  go_end0
  exact ⟨rfl, h1, (Wrote.of_below HB0.out).trans h2⟩

end Go.Proofs.YtgelbkgkjkeccaaGreatDoor
