/- Package pack's reading: resources, numbers of a list, a container. -/
import Derived.Test.YtgelbkgkjkeccaaGreatDoorNGb
import Derived.Test.YtgelbkgkjkeccaaGreatDoorNd
import Derived.Deep.DeepCutAuto
namespace Go.Proofs.YtgelbkgkjkeccaaGreatDoor
open Go.RowKit

/-! stores of a whole value into a block that is known whole -/
theorem setc_cell_ne (X : World) (g i b j : Nat) (v : Value) (h : b ≠ g) : (X.setCell ⟨g, i, none⟩ v).cell? ⟨b, j, none⟩ = X.cell? ⟨b, j, none⟩ := World.cell?_setCell_other _ _ _ _ (fun e => h (by injection e with e; exact e.symm))
/-- Cells of a block, stored one behind the other. -/
def putCells' (w : World) (g : Nat) : Nat → List Value → World
  | _, [] => w
  | i, v :: vs => putCells' (w.setCell ⟨g, i, none⟩ v) g (i + 1) vs
theorem putCells_block (g : Nat) (T : TypeId) : ∀ (vs : List Value) (w : World) (i : Nat) (cur : List Value), w.heap[g]? = some (.cells cur.toArray T (0, 0)) → i + vs.length ≤ cur.length → (putCells' w g i vs).heap[g]? = some (.cells (cur.take i ++ vs ++ cur.drop (i + vs.length)).toArray T (0, 0))
  | [], w, i, cur, h, _ => by simpa [putCells'] using h
  | v :: vs, w, i, cur, h, hl => by
    have h1 := setCell_atn w g i cur.toArray T v h
    rw [List.setIfInBounds_toArray] at h1
    have h2 := putCells_block g T vs (w.setCell ⟨g, i, none⟩ v) (i + 1) (cur.set i v) h1 (by simp at hl ⊢; omega)
    show (putCells' (w.setCell ⟨g, i, none⟩ v) g (i + 1) vs).heap[g]? = _
    have hi : i < cur.length := by simp at hl; omega
    have e : (cur.set i v).take (i + 1) ++ vs ++ (cur.set i v).drop (i + 1 + vs.length) = cur.take i ++ (v :: vs) ++ cur.drop (i + (v :: vs).length) := by
      rw [List.take_succ_eq_append_getElem (by simpa using hi), List.getElem_set_self, List.take_set_of_le (Nat.le_refl i), List.drop_set_of_lt (by omega)]
      simp [Nat.add_assoc, Nat.add_comm 1]
    rw [h2, e]
theorem putCells_kept (g : Nat) : ∀ (vs : List Value) (w : World) (i : Nat), Kept (· = g) w (putCells' w g i vs)
  | [], w, _ => Kept.refl _ w
  | v :: vs, w, i => kept_thru (kept_set w g i v) (putCells_kept g vs _ _)
def resR1 (r : RS) : RS := (numP 1099511627776 r).1
theorem resP_eq (r : RS) : resP r = ((numP 1099511627776 (resR1 (resR1 r))).1, ⟨(numP 1099511627776 r).2, (numP 1099511627776 (resR1 r)).2, (numP 1099511627776 (resR1 (resR1 r))).2⟩) := rfl
theorem resP_len (r : RS) : (resP r).1.l.length ≤ r.l.length := by
  rw [resP_eq]
  have h1 := numP_len 1099511627776 r
  have h2 := numP_len 1099511627776 (resR1 r)
  have h3 := numP_len 1099511627776 (resR1 (resR1 r))
  unfold resR1 at *
  exact Nat.le_trans h3 (Nat.le_trans h2 h1)
def RdPostM (p : Nat) (w : World) (r : RS) (v : Value) (e : Ending) (w' : World) : Prop := e = .returned v ∧ RdAt p w' r ∧ Kept (· = p) w w'
theorem kept2 {p : Nat} {w w1 w2 : World} (h : Kept (· = p) w w1) (k : Kept (fun i => i = p ∨ w.heap.size ≤ i) w1 w2) : Kept (· = p) w w2 :=
  h.trans k fun i hi hm => hm.resolve_right (by omega)
theorem keptN {p g : Nat} {w w1 w2 : World} (h : Kept (· = p) w w1) (k : Kept (· = g) w1 w2) (hg : w.heap.size ≤ g) : Kept (· = p) w w2 :=
  h.trans k fun i hi hm => by have : i = g := hm; omega
theorem kept_block {p q : Nat} {w w' : World} {o : Obj} (h : Kept (· = p) w w') (hq : w.heap[q]? = some o) (hne : q ≠ p) : w'.heap[q]? = some o := (h.block q (Array.getElem?_eq_some_iff.1 hq).1 hne).trans hq
theorem RdAt.keptSet {p g : Nat} {w w' : World} {r : RS} (h : RdAt p w r) (k : Kept (· = g) w w') (hne : p ≠ g) : RdAt p w' r := kept_block k h hne
theorem keptB {p : Nat} {w w1 w2 : World} (h : Below w.heap.size w w1) (k : Kept (· = p) w1 w2) : Kept (· = p) w w2 := (Kept.of_below (M := (· = p)) h).trans k fun _ _ h => h
set_option maxHeartbeats 2000000 in
set_option maxRecDepth 100000 in
theorem takeRes_any (p : Nat) (w : World) (r : RS) (h : RdAt p w r) (hl : r.l.length ≤ 1000000) : Calls Tryz.prog 241 #[.pointer (some ⟨p, 0, none⟩)] w (RdPostM p w (resP r).1 (.agg #[.int .i64 (resP r).2.cpu, .int .i64 (resP r).2.mem, .int .i64 (resP r).2.pids])) := by
  have hp := h.lt
  have HH := Lib.hid h
  have HB := Lib.hid (bnew w (.cells #[.int .i64 0, .int .i64 0, .int .i64 0] 40))
  have HE := Lib.hid (resP_eq r)
  have l1 := numP_len 1099511627776 r
  have l2 := numP_len 1099511627776 (resR1 r)
  obtain ⟨r1, hr1⟩ : ∃ r1, r1 = resR1 r := ⟨_, rfl⟩
  obtain ⟨r2, hr2⟩ : ∃ r2, r2 = resR1 r1 := ⟨_, rfl⟩
  rw [← hr1] at l2
  have HE2 : Hid (resP r = ((numP 1099511627776 r2).1, ⟨(numP 1099511627776 r).2, (numP 1099511627776 r1).2, (numP 1099511627776 r2).2⟩)) := Lib.hid (by rw [hr2, hr1]; exact HE.out)
  have h1l : r1.l.length ≤ 1000000 := by rw [hr1]; exact Nat.le_trans l1 hl
  have h2l : r2.l.length ≤ 1000000 := by rw [hr2]; exact Nat.le_trans l2 h1l
  have HR1 := Lib.hid hr1
  have HR2 := Lib.hid hr2
  clear h l1 l2 hr1 hr2 HE
  go_enter Tryz.func241, Tryz.ntmps241
  go_wp2_with fail
  refine (rnum_any p _ r 1099511627776 (by omega) (HH.out.keptBelow HB.out) hl).mono ?_
  rintro e w1 ⟨rfl, h1, k1, hk9⟩
  clear hk9
  have H1 : Hid (RdAt p w1 r1) := Lib.hid (by rw [HR1.out]; exact h1)
  have Z1 : Hid (w1.heap[w.heap.size]? = some (.cells #[.int .i64 0, .int .i64 0, .int .i64 0] 40 (0, 0))) := Lib.hid (kept_block k1 (heap_alloc_new _ _) (by omega))
  have K1 := Lib.hid (keptB HB.out k1)
  clear h1 k1
  go_wp2_with fail
  refine (rnum_any p _ r1 1099511627776 (by omega) H1.out h1l).mono ?_
  rintro e w2 ⟨rfl, h2, k2, hk9⟩
  clear hk9
  have H2 : Hid (RdAt p w2 r2) := Lib.hid (by rw [HR2.out]; exact h2)
  have Z2 := Lib.hid (kept_block k2 Z1.out (by omega))
  have K2 := Lib.hid (kept_thru K1.out k2)
  clear h2 k2
  go_wp2_with fail
  refine (rnum_any p _ r2 1099511627776 (by omega) H2.out h2l).mono ?_
  rintro e w3 ⟨rfl, h3, k3, hk9⟩
  clear hk9
  have H3 := Lib.hid h3
  have Z3 := Lib.hid (kept_block k3 Z2.out (by omega))
  have K3 := Lib.hid (kept_thru K2.out k3)
  clear h3 k3
  obtain ⟨n1, hn1⟩ : ∃ n1, n1 = (numP 1099511627776 r).2 := ⟨_, rfl⟩
  obtain ⟨n2, hn2⟩ : ∃ n2, n2 = (numP 1099511627776 r1).2 := ⟨_, rfl⟩
  obtain ⟨n3, hn3⟩ : ∃ n3, n3 = (numP 1099511627776 r2).2 := ⟨_, rfl⟩
  rw [← hn1, ← hn2, ← hn3]
  rw [← hn1, ← hn2, ← hn3] at HE2
  clear hn1 hn2 hn3
  have z0 : w3.cell? ⟨w.heap.size, 0, none⟩ = some (.int .i64 0) := by simp [World.cell?, Z3.out]
  have z1 : w3.cell? ⟨w.heap.size, 1, none⟩ = some (.int .i64 0) := by simp [World.cell?, Z3.out]
  have z2 : w3.cell? ⟨w.heap.size, 2, none⟩ = some (.int .i64 0) := by simp [World.cell?, Z3.out]
  have f0 : w3.frozen? ⟨w.heap.size, 0, none⟩ = false := by simp [World.frozen?, Z3.out]
  have f1 : w3.frozen? ⟨w.heap.size, 1, none⟩ = false := by simp [World.frozen?, Z3.out]
  have f2 : w3.frozen? ⟨w.heap.size, 2, none⟩ = false := by simp [World.frozen?, Z3.out]
  have hz := Lib.hid (putCells_block w.heap.size 40 [.int .i64 n1, .int .i64 n2, .int .i64 n3] w3 0 [.int .i64 0, .int .i64 0, .int .i64 0] Z3.out (by simp))
  have hk := Lib.hid (putCells_kept w.heap.size [.int .i64 n1, .int .i64 n2, .int .i64 n3] w3 0)
  go_wp2
  refine bodyPost_ret (results_cell_row rfl _ _ w.heap.size 40 _ (0, 0) _ rfl hz.out Tryz.underlying40 rfl (by kernel_rfl)) rfl ?_
  rw [HE2.out]
  exact ⟨rfl, H3.out.keptSet hk.out (by omega), keptN K3.out hk.out (Nat.le_refl _)⟩
/-! lists -/
def glueL {α : Type} (acc : List α) (q : RS × List α) : RS × List α := if q.1.c ≠ 0 then (q.1, []) else (q.1, acc ++ q.2)
theorem glue_bad {α : Type} {one : RS → RS × α} {acc : List α} {m : Nat} {s : RS} (h : (one s).1.c ≠ 0) : glueL acc (listP one (m + 1) s) = ((one s).1, []) := by
  unfold glueL listP
  simp [h]
theorem glue_ok {α : Type} {one : RS → RS × α} {acc : List α} {m : Nat} {s : RS} (h : (one s).1.c = 0) : glueL acc (listP one (m + 1) s) = glueL (acc ++ [(one s).2]) (listP one m (one s).1) := by
  unfold glueL
  rw [listP]
  simp only [h, ne_eq, not_true_eq_false, if_false]
  by_cases h2 : (listP one m (one s).1).1.c = 0
  · simp [h2]
  · simp [h2]
theorem glue_end {α : Type} {one : RS → RS × α} {acc : List α} {s : RS} (h : s.c = 0 ∨ acc = []) : glueL acc (listP one 0 s) = (s, acc) := by
  unfold glueL listP
  rcases h with h | rfl
  · simp [h]
  · simp
theorem glue_start {α : Type} {one : RS → RS × α} : ∀ (n : Nat) (s : RS), glueL [] (listP one n s) = listP one n s
  | 0, s => by unfold glueL listP; simp
  | n + 1, s => by
    unfold glueL
    rw [listP]
    by_cases h1 : (one s).1.c = 0
    · by_cases h2 : (listP one n (one s).1).1.c = 0
      · simp [h1, h2]
      · simp [h1, h2]
    · simp [h1]
theorem takeAllP_eq {α : Type} (m : Nat) (one : RS → RS × α) (r : RS) : takeAllP m one r = listP one (numP m r).2.toNat (numP m r).1 := rfl
theorem grown_kept {p : Nat} {w w' : World} (h : Kept (· = p) w w') : w.grownBy w' (some p) := ⟨h.os, h.tape, h.output, h.size, fun k hk hne => h.block k hk fun e => hne (by simp [show k = p from e])⟩
theorem owns_kept {p B : Nat} {w w' : World} {e : TypeId} {size n : Nat} {v : Value} {xs : List Value} (h : w.ownsRow B e size v n xs) (hk : Kept (· = p) w w') (hp : p < B) : w'.ownsRow B e size v n xs := by
  refine h.kept (grown_kept hk) (.inr fun e => ?_)
  rcases h.2 with ⟨rfl, _⟩ | ⟨g, cap, cur, rfl, hB, _⟩
  · cases e
  · have : g = p := by simpa [Value.ownBlock] using e
    omega
theorem keptG {p B : Nat} {w w1 w2 : World} {v : Value} {e : TypeId} {size n : Nat} {xs : List Value} (h : Kept (· = p) w w1) (hg : w1.grownBy w2 v.ownBlock) (ho : w1.ownsRow B e size v n xs) (hB : w.heap.size ≤ B) : Kept (· = p) w w2 :=
  ⟨hg.os.trans h.os, hg.tape.trans h.tape, hg.output.trans h.output, Nat.le_trans h.size hg.size, fun k hk hne => (hg.block k (Nat.lt_of_lt_of_le hk h.size) (fun e => by
    rcases ho.2 with ⟨rfl, _⟩ | ⟨g, cap, cur, rfl, hb, _⟩
    · cases e
    · have : k = g := by simpa [Value.ownBlock] using e
      omega)).trans (h.block k hk hne)⟩
set_option maxHeartbeats 1000000 in
theorem takePort_any (p q : Nat) (w : World) (r : RS) (h : RdAt p w r) (hq : w.heap[q]? = some (.cells #[.pointer (some ⟨p, 0, none⟩)] 65 (0, 0))) (hl : r.l.length ≤ 1000000) : Calls Tryz.prog 243 #[.pointer (some ⟨q, 0, none⟩)] w (RdPost p w (numP 65535 r).1 (.int .i64 (numP 65535 r).2)) := by
  have f0 : w.cell? ⟨q, 0, none⟩ = some (.pointer (some ⟨p, 0, none⟩)) := by simp [World.cell?, hq]
  have HH := Lib.hid h
  clear h hq
  go_enter Tryz.func243, Tryz.ntmps243
  go_wp2_with (go_at_call 159; refine (rnum_any p w r 65535 (by omega) HH.out hl).mono ?_; rintro e w1 ⟨rfl, h1, h2⟩)
  go_ret
  exact ⟨rfl, h1, h2⟩
def TakePost {α : Type} (p : Nat) (w : World) (O : World → Value → List α → Prop) (q : RS × List α) (e : Ending) (w' : World) : Prop := ∃ v, e = .returned v ∧ O w' v q.2 ∧ RdAt p w' q.1 ∧ Kept (· = p) w w'
set_option maxHeartbeats 4000000 in
set_option maxRecDepth 100000 in
theorem takeInts_any (p q : Nat) (w : World) (r : RS) (m : Nat) (hm : m ≤ 1000) (h : RdAt p w r) (hq : w.heap[q]? = some (.cells #[.pointer (some ⟨p, 0, none⟩)] 65 (0, 0))) (hqp : q ≠ p) (hl : r.l.length ≤ 1000000) :
    Calls Tryz.prog 242 #[.pointer (some ⟨p, 0, none⟩), .int .i64 m, .func (.func 243) #[] #[.pointer (some ⟨q, 0, none⟩)]] w (TakePost p w (fun w' v l => OInts (Ran w.heap.size w'.heap.size) w' v l) (takeAllP m (numP 65535) r)) := by
  obtain ⟨i0, hi0, hz0, hz1, hz2⟩ := info_parts info3
  have hp := h.lt
  have hql : q < w.heap.size := (Array.getElem?_eq_some_iff.1 hq).1
  have hin := numP_in m r
  have hlen := numP_len m r
  have herr := numP_err (m := m) (s := r)
  have HN := Lib.hid (rnum_any p w r m (by omega) h hl)
  obtain ⟨n, hn⟩ : ∃ n : Nat, (n : Int) = (numP m r).2 := ⟨(numP m r).2.toNat, by omega⟩
  obtain ⟨r1, hr1⟩ : ∃ r1, r1 = (numP m r).1 := ⟨_, rfl⟩
  have HE : Hid (takeAllP m (numP 65535) r = listP (numP 65535) n r1) := Lib.hid (by rw [takeAllP_eq, ← hn, ← hr1]; rfl)
  rw [← hn, ← hr1] at HN
  rw [← hn] at hin
  rw [← hr1] at hlen
  rw [← hn, ← hr1] at herr
  have HERR := Lib.hid herr
  have hr1l : r1.l.length ≤ 1000000 := Nat.le_trans hlen hl
  have HQ := Lib.hid hq
  have hnm : n ≤ m := by omega
  clear hn hr1 h hq hin herr hlen
  go_enter Tryz.func242, Tryz.ntmps242
  go_wp2_with fail
  refine HN.out.mono ?_
  rintro e w1 ⟨rfl, h1, k1, hk9⟩
  clear hk9
  have H1 := Lib.hid h1
  have K1 := Lib.hid k1
  clear h1 k1
  go_wp2_with fail
  go_loopw [7, 11] (fun v i wr => ∃ (k : Nat) (acc : List Int) (s : RS), k ≤ n ∧ i = .int .i64 k ∧ acc.length = k ∧ wr.ownsRow w.heap.size 3 1 v k (acc.map (.int .i64)) ∧ RdAt p wr s ∧ Kept (· = p) w wr ∧ s.l.length ≤ 1000000 ∧ (s.c = 0 ∨ acc = []) ∧ (k < n → s.c = 0) ∧ listP (numP 65535) n r1 = glueL acc (listP (numP 65535) (n - k) s)) (fun _ i _ => n - (intOf i).toNat)
  case atStart => exact ⟨0, [], r1, Nat.zero_le _, rfl, rfl, ⟨rfl, .inl ⟨rfl, rfl⟩⟩, H1.out, K1.out, hr1l, .inr rfl, (fun hk => Decidable.byContradiction fun hc => by have := HERR.out hc; omega), (glue_start n r1).symm⟩
  case round =>
    obtain ⟨k, acc, s, hk, rfl, hal, hown, hrd, hkp, hsl, hsc, hsc2, hgl⟩ := hrel
    have HAL := Lib.hid hal
    have HOWN := Lib.hid hown
    have HRD := Lib.hid hrd
    have HKP := Lib.hid hkp
    have HSC := Lib.hid hsc
    have HSC2 := Lib.hid hsc2
    have HGL := Lib.hid hgl
    have hB : w.heap.size ≤ wr.heap.size := hkp.size
    clear hal hown hrd hkp hsc hsc2 hgl
    by_cases hlt : k < n
    · obtain ⟨j, hj⟩ : ∃ j, n - k = j + 1 := ⟨n - k - 1, by omega⟩
      have HJ := Lib.hid hj
      have hj2 : n - (k + 1) = j := by omega
      have HJ2 := Lib.hid hj2
      clear hj hj2
      have HCL := Lib.hid (takePort_any p q wr s HRD.out (kept_block HKP.out HQ.out hqp) hsl)
      have hsl2 := Nat.le_trans (numP_len 65535 s) hsl
      obtain ⟨s', hs'⟩ : ∃ s', s' = (numP 65535 s).1 := ⟨_, rfl⟩
      obtain ⟨x, hx⟩ : ∃ x, x = (numP 65535 s).2 := ⟨_, rfl⟩
      rw [← hs', ← hx] at HCL
      rw [← hs'] at hsl2
      have HS' := Lib.hid hs'
      have HX := Lib.hid hx
      clear hs' hx
      go_wp2_with fail
      refine HCL.out.mono ?_
      rintro e w3 ⟨rfl, h3, k3, hk9⟩
      clear hk9
      have HO3 := Lib.hid (owns_kept HOWN.out k3 (by omega))
      have H3 := Lib.hid h3
      have K3 := Lib.hid (kept_thru HKP.out k3)
      have hB3 : w.heap.size ≤ w3.heap.size := K3.out.size
      have hc1 := h3.c1
      have hp3 := h3.lt
      clear h3 k3
      go_wp2_with (at_builtin; refine wpList_append_own _ rfl _ _ 31 rfl w.heap.size 3 i0 (.int .i64 0) 1 8 Tryz.underlying31 hi0 hz0 hz1 hz2 rfl (by decide) _ k (acc.map (.int .i64)) rfl (HO3.out.alloc _) ⟨w3.heap.size, 0, none⟩ 1 1 [.int .i64 x] rfl rfl ?c1 ?c2 ?c3 ?c4 ?c5 ?_)
      case c1 => intro j u hj; cases j with | zero => (simp at hj; subst hj; exact new_cell _ _ _ _ _ _ rfl rfl) | succ j => simp at hj
      case c2 => simp [Value.oneCell']
      case c3 => unfold maxLen; omega
      case c4 => omega
      case c5 => simp; omega
      intro v' w4 hown4 hgrow _
      have HO4 := Lib.hid hown4
      have K4 : Hid (Kept (· = p) w w4) := Lib.hid (keptG (K3.out.trans (Kept.of_below (M := (· = p)) (bnew w3 _)) fun _ _ h => h) hgrow (HO3.out.alloc _) (Nat.le_refl _))
      have H4 : Hid (RdAt p w4 s') := Lib.hid ((hgrow.block p (by simp; omega) (fun e => by
        rcases HO3.out.2 with ⟨hv, _⟩ | ⟨g, cap, cur, hv, hb, _⟩
        · rw [hv] at e; cases e
        · rw [hv] at e
          have : p = g := by simpa [Value.ownBlock] using e
          omega)).trans (H3.out.keptBelow (bnew w3 _)))
      clear hown4 hgrow hc1
      by_cases hc : s'.c = 0
      · have hcn : (s'.c != 0) = false := by simp [hc]
        have HNX : Hid (listP (numP 65535) n r1 = glueL (acc ++ [x]) (listP (numP 65535) (n - (k + 1)) s')) := Lib.hid (by rw [HGL.out, HJ.out, HJ2.out, HX.out, HS'.out]; exact glue_ok (by rw [← HS'.out]; exact hc))
        have HC := Lib.hid hc
        clear hc
        go_wp2_with (go_at_call 55; refine (rcode_any p w4 s' H4.out).mono ?_; rintro e w5 ⟨rfl, rfl⟩)
        refine ⟨⟨k + 1, acc ++ [x], s', hlt, by go_num, by rw [List.length_append, HAL.out]; rfl, by simpa using HO4.out, H4.out, K4.out, hsl2, .inl HC.out, fun _ => HC.out, HNX.out⟩, by simp [intOf]; omega⟩
      · have hcn : (s'.c != 0) = true := by simp [hc]
        have HNX : Hid (listP (numP 65535) n r1 = (s', [])) := Lib.hid (by rw [HGL.out, HJ.out, HS'.out]; exact glue_bad (by rw [← HS'.out]; exact hc))
        clear hc
        go_wp2_with (go_at_call 55; refine (rcode_any p w4 s' H4.out).mono ?_; rintro e w5 ⟨rfl, rfl⟩)
        go_ret
        refine ⟨_, rfl, ?_, ?_, K4.out⟩
        · rw [HE.out, HNX.out]; exact ⟨rfl, .inl ⟨rfl, rfl⟩⟩
        · rw [HE.out, HNX.out]; exact H4.out
    · have hkn : k = n := by omega
      have HNX : Hid (listP (numP 65535) n r1 = (s, acc)) := Lib.hid (by rw [HGL.out, hkn, Nat.sub_self]; exact glue_end HSC.out)
      obtain ⟨a', c', hf⟩ := own_slice HOWN.out
      clear hkn
      go_wp2
      go_ret
      refine ⟨_, rfl, ?_, ?_, HKP.out⟩
      · rw [HE.out, HNX.out]
        have := ORow.of_own HOWN.out
        rw [← HAL.out] at this
        exact this
      · rw [HE.out, HNX.out]; exact HRD.out
theorem textP_len (m : Nat) (r : RS) : (textP m r).1.l.length ≤ r.l.length := by
  have h := numP_len m r
  unfold textP
  split
  · exact h
  · split
    · exact h
    · exact Nat.le_trans (by simp) h
theorem listP_len {α : Type} {one : RS → RS × α} (h : ∀ r, (one r).1.l.length ≤ r.l.length) : ∀ (n : Nat) (r : RS), (listP one n r).1.l.length ≤ r.l.length
  | 0, r => Nat.le_refl _
  | n + 1, r => by
    have h1 := h r
    have h2 := listP_len h n (one r).1
    rw [listP]
    split
    · exact h1
    · split
      · exact Nat.le_trans h2 h1
      · exact Nat.le_trans h2 h1
theorem takeAllP_len {α : Type} {one : RS → RS × α} (h : ∀ r, (one r).1.l.length ≤ r.l.length) (m : Nat) (r : RS) : (takeAllP m one r).1.l.length ≤ r.l.length := by
  rw [takeAllP_eq]
  exact Nat.le_trans (listP_len h _ _) (numP_len m r)
end Go.Proofs.YtgelbkgkjkeccaaGreatDoor
