/- Containers, and the whole of a spec: the walks of package spec's containers and Check. -/
import Derived.Test.YtgelbkgkjkeccaaGreatDoorH
namespace Go.Proofs.YtgelbkgkjkeccaaGreatDoor
open Go.RowKit

/-- A slice of containers below block B; nil and empty ones alike. -/
def RCtrs (B : Nat) (w : World) (v : Value) (l : List CtrD) : Prop :=
  (l = [] ∧ ∃ a c, v = .slice a 0 c) ∨
  (0 < l.length ∧ ∃ b off c, v = .slice (some ⟨b, off, none⟩) l.length c ∧ l.length ≤ c ∧ b < B ∧ ∀ j (h : j < l.length), ∃ q, RInts B w q l[j].ports ∧ ∀ i x, (ctrCells l[j] q)[i]? = some x → w.cell? ⟨b, off + j * 11 + i, none⟩ = some x)
theorem RCtrs.below {B : Nat} {w w' : World} {v : Value} {l : List CtrD} (h : RCtrs B w v l) (hb : Below w.heap.size w w') : RCtrs B w' v l := by
  rcases h with h | ⟨h0, b, off, c, hv, hc, hl, hr⟩
  · exact .inl h
  · exact .inr ⟨h0, b, off, c, hv, hc, hl, fun j hj => let ⟨q, h1, h2⟩ := hr j hj; ⟨q, h1.below hb, fun i x hx => keepc hb (h2 i x hx)⟩⟩
theorem RCtrs.kept {B : Nat} {M : Nat → Prop} {w w' : World} {v : Value} {l : List CtrD} (h : RCtrs B w v l) (hb : Kept M w w') (hM : ∀ k, M k → B ≤ k) : RCtrs B w' v l := by
  rcases h with h | ⟨h0, b, off, c, hv, hc, hl, hr⟩
  · exact .inl h
  · exact .inr ⟨h0, b, off, c, hv, hc, hl, fun j hj => let ⟨q, h1, h2⟩ := hr j hj; ⟨q, h1.kept hb hM, fun i x hx => hb.cell (fun hm => by have := hM b hm; omega) (h2 i x hx)⟩⟩
def CtrOk (c : CtrD) : Prop := c.name.size ≤ 1000 ∧ c.image.size ≤ 1000 ∧ c.ports.length ≤ 1000
def CtrsOk (l : List CtrD) : Prop := l.length ≤ 100 ∧ ∀ c ∈ l, CtrOk c

theorem RInts.form {B : Nat} {w : World} {v : Value} {l : List Int} (h : RInts B w v l) : ∃ a n c, v = .slice a n c := by
  rcases h with ⟨_, a, c, h⟩ | ⟨_, b, off, c, h, _⟩
  · exact ⟨_, _, _, h⟩
  · exact ⟨_, _, _, h⟩
theorem portsFrom_len : ∀ (xs : List Int) (i : Nat) (ps : List Int), (portsFrom i ps xs).2.length ≤ ps.length + xs.length
  | [], _, _ => Nat.le_refl _
  | x :: r, i, ps => by
    unfold portsFrom
    split
    · simp
    · have := portsFrom_len r (i + 1) (ps ++ [x])
      simp at this ⊢
      omega
theorem portE_len (xs : List Int) (most : Int) (ps : List Int) : (portE xs most ps).2.length ≤ ps.length + xs.length := by
  unfold portE
  split
  · exact Nat.le_add_right _ _
  · exact portsFrom_len xs 0 ps

def contsFrom (name : ByteArray) (most every : Int) : Nat → List ByteArray → List Int → List CtrD → Err × List ByteArray × List Int
  | _, ns, ps, [] => (none, ns, ps)
  | i, ns, ps, c :: r => match (contE c ns ps most every).1 with
    | some e => (inE (some e) (atB name i), ns ++ [c.name], (contE c ns ps most every).2)
    | none => contsFrom name most every (i + 1) (ns ++ [c.name]) (contE c ns ps most every).2 r
theorem contsFrom_drop (name : ByteArray) (most every : Int) (l : List CtrD) (ns : List ByteArray) (ps : List Int) (k : Nat) (h : k < l.length) :
    contsFrom name most every k ns ps (l.drop k) = (match (contE l[k] ns ps most every).1 with
      | some e => (inE (some e) (atB name k), ns ++ [l[k].name], (contE l[k] ns ps most every).2)
      | none => contsFrom name most every (k + 1) (ns ++ [l[k].name]) (contE l[k] ns ps most every).2 (l.drop (k + 1))) := by
  rw [List.drop_eq_getElem_cons h]
  rfl
/-- One container behind others. -/
theorem ContSt.then_ {B : Nat} {w wr wx w2 : World} {g : Nat} {nv pv nv' pv' nv2 pv2 v v2 : Value} {ns ns2 : List ByteArray} {ps ps2 : List Int} {er er2 : Err} (h : ContSt B w wr g nv pv nv' pv' ns ps v er)
    (h2 : ContSt B wx w2 g nv' pv' nv2 pv2 ns2 ps2 v2 er2) (hb : Below wr.heap.size wr wx) : ContSt B w w2 g nv pv nv2 pv2 ns2 ps2 v2 er2 := by
  have hK : Kept (Mut g nv pv) w wx := kbelow h.kept hb
  refine ⟨h2.err.mono hK.size, h2.seen, hK.trans h2.kept fun i hi hm => ?_, ?_, ?_⟩
  · rcases hm with hm | hm | hm
    · exact .inl hm
    · rcases h.nrow with hr | ⟨k, hk, hk2⟩
      · exact .inr (.inl (hr ▸ hm))
      · rw [hk] at hm; cases hm; omega
    · rcases h.prow with hr | ⟨k, hk, hk2⟩
      · exact .inr (.inr (hr ▸ hm))
      · rw [hk] at hm; cases hm; omega
  · rcases h2.nrow with hr | ⟨k, hk, hk2⟩
    · rcases h.nrow with hr2 | ⟨k, hk, hk2⟩
      · exact .inl (hr.trans hr2)
      · exact .inr ⟨k, hr.trans hk, hk2⟩
    · exact .inr ⟨k, hk, Nat.le_trans hK.size hk2⟩
  · rcases h2.prow with hr | ⟨k, hk, hk2⟩
    · rcases h.prow with hr2 | ⟨k, hk, hk2⟩
      · exact .inl (hr.trans hr2)
      · exact .inr ⟨k, hr.trans hk, hk2⟩
    · exact .inr ⟨k, hk, Nat.le_trans hK.size hk2⟩
def ContsPost (B : Nat) (w : World) (g : Nat) (nv pv : Value) (r : Err × List ByteArray × List Int) (e : Ending) (w' : World) : Prop :=
  ∃ v nv' pv', e = .returned v ∧ ContSt B w w' g nv pv nv' pv' r.2.1 r.2.2 v r.1

set_option maxHeartbeats 4000000 in
set_option maxRecDepth 100000 in
theorem containers_any (B : Nat) (name : ByteArray) (l : List CtrD) (v : Value) (most every : Int) (g : Nat) (nv pv : Value) (ns : List ByteArray) (ps : List Int) (w : World) (hs : IsSeen B w g nv pv ns ps) (hm : LaidMarks w) (hB : 3 < B) (hv : RCtrs B w v l) (hok : CtrsOk l)
    (hn : name.size ≤ 1000000) (hl : ns.length ≤ 1000) (hps : ps.length ≤ 200000) :
    Calls Tryz.prog 126 #[.pointer (some ⟨g, 0, none⟩), .string name, v, .int .i64 most, .int .i64 every] w (ContsPost B w g nv pv (contsFrom name most every 0 ns ps l)) := by
  have hM3 : ¬ Mut g nv pv 3 := fun h => by have := (hs.mut_lt 3 h).1; omega
  rcases hv with ⟨rfl, a, c, rfl⟩ | ⟨h0, b, off, c, rfl, hc, hbB, hr⟩
  · go_enter Tryz.func126, Tryz.ntmps126
    go_wp2_with fail
    go_loop [16] (fun i => i = .int .i64 0) (fun _ => 0)
    case atStart => exact rfl
    case round =>
      obtain rfl := hrel
      go_wp2
      go_ret
      exact ⟨_, _, _, rfl, ⟨rfl, hs, Kept.refl _ _, .inl rfl, .inl rfl⟩⟩
  · go_enter Tryz.func126, Tryz.ntmps126
    go_wp2_with fail
    go_loopw [16] (fun i wr => ∃ (k : Nat) (nv' pv' : Value) (ns' : List ByteArray) (ps' : List Int), k ≤ l.length ∧ ns'.length ≤ ns.length + k ∧ ps'.length ≤ ps.length + 1000 * k ∧ i = .int .i64 k ∧
        ContSt B w wr g nv pv nv' pv' ns' ps' .nilIface none ∧ contsFrom name most every k ns' ps' (l.drop k) = contsFrom name most every 0 ns ps l)
      (fun i _ => l.length - (intOf i).toNat)
    case atStart => exact ⟨0, nv, pv, ns, ps, Nat.zero_le _, by omega, by omega, rfl, ⟨rfl, hs, Kept.refl _ _, .inl rfl, .inl rfl⟩, rfl⟩
    case round =>
      obtain ⟨k, nv', pv', ns', ps', hk, hns', hps', rfl, hC, hd⟩ := hrel
      have HC := Lib.hid hC
      have HD := Lib.hid hd; clear hd
      by_cases hlt : k < l.length
      · have HStep := Lib.hid (contsFrom_drop name most every l ns' ps' k hlt)
        obtain ⟨q, hq, hcell⟩ := hr k hlt
        obtain ⟨qa, qn, qc, rfl⟩ := hq.form
        have hMB : ∀ i, Mut g nv pv i → B ≤ i := fun i hi => (hs.mut_lt i hi).1
        have hcell' : ∀ i x, (ctrCells l[k] (.slice qa qn qc))[i]? = some x → wr.cell? ⟨b, off + k * 11 + i, none⟩ = some x := fun i x hx => hC.kept.cell (fun hm => by have := hMB b hm; omega) (hcell i x hx)
        have hq' := hq.kept hC.kept hMB
        have hm' := hm.kept hC.kept hM3
        have hs' := hC.seen
        obtain ⟨ho1, ho2, ho3⟩ := hok.2 l[k] (List.getElem_mem hlt)
        have hlen := hok.1
        have q0 : wr.cell? ⟨b, off + k * 11, none⟩ = some (.string l[k].name) := hcell' 0 _ rfl
        have q1 : wr.cell? ⟨b, off + k * 11 + 1, none⟩ = some (.string l[k].image) := hcell' 1 _ rfl
        have q2 : wr.cell? ⟨b, off + k * 11 + 2, none⟩ = some (.int .i64 l[k].req.cpu) := hcell' 2 _ rfl
        have q3 : wr.cell? ⟨b, off + k * 11 + 3, none⟩ = some (.int .i64 l[k].req.mem) := hcell' 3 _ rfl
        have q4 : wr.cell? ⟨b, off + k * 11 + 4, none⟩ = some (.int .i64 l[k].req.pids) := hcell' 4 _ rfl
        have q5 : wr.cell? ⟨b, off + k * 11 + 5, none⟩ = some (.int .i64 l[k].lim.cpu) := hcell' 5 _ rfl
        have q6 : wr.cell? ⟨b, off + k * 11 + 6, none⟩ = some (.int .i64 l[k].lim.mem) := hcell' 6 _ rfl
        have q7 : wr.cell? ⟨b, off + k * 11 + 7, none⟩ = some (.int .i64 l[k].lim.pids) := hcell' 7 _ rfl
        have q8 : wr.cell? ⟨b, off + k * 11 + 8, none⟩ = some (.slice qa qn qc) := hcell' 8 _ rfl
        have q9 : wr.cell? ⟨b, off + k * 11 + 9, none⟩ = some (.int .i64 l[k].every) := hcell' 9 _ rfl
        have q10 : wr.cell? ⟨b, off + k * 11 + 10, none⟩ = some (.int .i64 l[k].fails) := hcell' 10 _ rfl
        have hlt2 : (k : Int) < (l.length : Int) := by omega
        clear hcell hcell' hr hC
        cases hE : (contE l[k] ns' ps' most every).1 with
        | none =>
          have HE := Lib.hid hE; clear hE
          go_wp2_with fail
          refine (container_any B l[k] _ most every g nv' pv' ns' ps' _ (hs'.below (bnew _ _)) (hm'.below (bnew _ _)) hB (hq'.below (bnew _ _)) (by omega) (by omega) (by omega) (by omega) (by omega)).mono ?_
          rintro e w2 ⟨v2, nv2, pv2, rfl, hC2⟩
          have hv2 : v2 = .nilIface := by have h := hC2.err; rw [HE.out] at h; exact h
          subst hv2
          have HC2 := Lib.hid hC2; clear hC2
          go_wp2
          refine ⟨⟨k + 1, nv2, pv2, ns' ++ [l[k].name], (contE l[k] ns' ps' most every).2, by omega, by simp; omega, ?_, by go_num, ?_, ?_⟩, by simp [intOf]; omega⟩
          · have := portE_len l[k].ports most ps'
            show (portE l[k].ports most ps').2.length ≤ _
            omega
          · exact (HC.out.then_ (by rw [← HE.out]; exact HC2.out) (bnew _ _))
          · have h := HStep.out
            rw [HE.out, HD.out] at h
            exact h.symm
        | some y =>
          have HE := Lib.hid hE; clear hE
          go_wp2_with fail
          refine (container_any B l[k] _ most every g nv' pv' ns' ps' _ (hs'.below (bnew _ _)) (hm'.below (bnew _ _)) hB (hq'.below (bnew _ _)) (by omega) (by omega) (by omega) (by omega) (by omega)).mono ?_
          rintro e w2 ⟨v2, nv2, pv2, rfl, hC2⟩
          obtain ⟨t, z, rfl⟩ : ∃ t z, v2 = .iface t z := by have h := hC2.err; rw [HE.out] at h; exact RErr.held (show RErr _ w2 v2 y.1 y.2 from h)
          have HC2 := Lib.hid (HC.out.then_ hC2 (bnew _ _)); clear hC2
          go_wp2_with fail
          refine (at_any name k _ hn (by omega) (by omega)).mono ?_
          rintro e w3 ⟨rfl, hb3⟩
          go_wp2_with fail
          refine (In_any w.heap.size _ (some y) _ _ (Nat.le_trans HC2.out.kept.size hb3.size) (RErrO.below (by have h := HC2.out.err; rw [HE.out] at h; exact h) hb3)).mono ?_
          rintro e w4 ⟨v4, rfl, hr4, hb4⟩
          have HR := Lib.hid hr4; clear hr4
          go_wp2
          go_ret
          have h := HStep.out
          rw [HE.out, HD.out] at h
          rw [h]
          have h2 := HC2.out
          exact ⟨_, _, _, rfl, HR.out, (h2.seen.below hb3).below hb4, kbelow (kbelow h2.kept hb3) hb4, h2.nrow, h2.prow⟩
      · have hz : l.drop k = [] := List.drop_of_length_le (by omega)
        have h := HD.out
        rw [hz] at h
        have H := Lib.hid h
        clear h hz hr hC
        go_wp2
        go_ret
        rw [← H.out]
        exact ⟨_, _, _, rfl, HC.out⟩

end Go.Proofs.YtgelbkgkjkeccaaGreatDoor
