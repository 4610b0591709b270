/- Likenesses of lists: slices.EqualFunc of containers by spec.exact, slices.Equal of labels; package spec's each and Same; the statements' own SameContainers and SameSpec. -/
import Derived.Test.YtgelbkgkjkeccaaGreatDoorY
namespace Go.Proofs.YtgelbkgkjkeccaaGreatDoor
open Go.RowKit

set_option maxHeartbeats 4000000 in
set_option maxRecDepth 100000 in
theorem equalFunc_row (I J : Nat → Prop) (a1 a2 : Option Addr) (c1 c2 n : Nat) (xs ys : List CtrD) (w : World) (hx : xs.length = n) (hy : ys.length = n) (h0 : 0 < n) (h1 : ICtrs I w (.slice a1 xs.length c1) xs) (h2 : ICtrs J w (.slice a2 ys.length c2) ys) (ox : CtrsOk xs) (oy : CtrsOk ys) :
    Calls Tryz.prog 215 #[.slice a1 n c1, .slice a2 n c2, .func (.func 119) #[] #[]] w fun e w' => e = .returned (.bool (decide (xs = ys))) ∧ Below w.heap.size w w' := by
  obtain ⟨b1, o1, rfl, hc1, hI1, r1⟩ := h1.at (by omega)
  obtain ⟨b2, o2, rfl, hc2, hI2, r2⟩ := h2.at (by omega)
  have hn100 := ox.1
  have HX := Lib.hid hx
  have HY := Lib.hid hy
  have R1 := Lib.hid r1
  have R2 := Lib.hid r2
  have HZ1 := Lib.hid (fun j (hj : j < xs.length) => (ox.2 _ (List.getElem_mem hj)).2.2)
  have HZ2 := Lib.hid (fun j (hj : j < ys.length) => (oy.2 _ (List.getElem_mem hj)).2.2)
  have hnl : n ≤ 100 := by omega
  have hnc1 : n ≤ c1 := by omega
  have hnc2 : n ≤ c2 := by omega
  clear r1 r2 h1 h2 hx hy ox oy hn100 hc1 hc2
  go_enter Tryz.func215, Tryz.ntmps215
  go_wp2
  go_loopw [17] (fun i wr => ∃ k : Nat, k ≤ n ∧ i = .int .i64 k ∧ Below w.heap.size w wr ∧ xs.take k = ys.take k) (fun i _ => n - (intOf i).toNat)
  case atStart => exact ⟨0, Nat.zero_le _, rfl, Below.refl _ _, by simp⟩
  case round =>
    obtain ⟨k, hk, rfl, hb, ht⟩ := hrel
    have HB := Lib.hid hb
    by_cases hlt : k < n
    · have HN := Lib.hid (take_next (by have := HX.out; omega) (by have := HY.out; omega) ht)
      obtain ⟨qa, qc, hq, hx⟩ := R1.out k (by have := HX.out; omega)
      obtain ⟨ra, rc, hr, hy⟩ := R2.out k (by have := HY.out; omega)
      have hp1 := HZ1.out k (by have := HX.out; omega)
      have hp2 := HZ2.out k (by have := HY.out; omega)
      have u0 := keepc hb (hx 0 _ rfl)
      have u1 := keepc hb (hx 1 _ rfl)
      have u2 := keepc hb (hx 2 _ rfl)
      have u3 := keepc hb (hx 3 _ rfl)
      have u4 := keepc hb (hx 4 _ rfl)
      have u5 := keepc hb (hx 5 _ rfl)
      have u6 := keepc hb (hx 6 _ rfl)
      have u7 := keepc hb (hx 7 _ rfl)
      have u8 := keepc hb (hx 8 _ rfl)
      have u9 := keepc hb (hx 9 _ rfl)
      have u10 := keepc hb (hx 10 _ rfl)
      simp only [Nat.add_zero] at u0
      have v0 := keepc (bnew wr (.cells (ctrCells (xs[k]'(by have := HX.out; omega)) (.slice qa (xs[k]'(by have := HX.out; omega)).ports.length qc)) 44)) (keepc hb (hy 0 _ rfl))
      have v1 := keepc (bnew wr (.cells (ctrCells (xs[k]'(by have := HX.out; omega)) (.slice qa (xs[k]'(by have := HX.out; omega)).ports.length qc)) 44)) (keepc hb (hy 1 _ rfl))
      have v2 := keepc (bnew wr (.cells (ctrCells (xs[k]'(by have := HX.out; omega)) (.slice qa (xs[k]'(by have := HX.out; omega)).ports.length qc)) 44)) (keepc hb (hy 2 _ rfl))
      have v3 := keepc (bnew wr (.cells (ctrCells (xs[k]'(by have := HX.out; omega)) (.slice qa (xs[k]'(by have := HX.out; omega)).ports.length qc)) 44)) (keepc hb (hy 3 _ rfl))
      have v4 := keepc (bnew wr (.cells (ctrCells (xs[k]'(by have := HX.out; omega)) (.slice qa (xs[k]'(by have := HX.out; omega)).ports.length qc)) 44)) (keepc hb (hy 4 _ rfl))
      have v5 := keepc (bnew wr (.cells (ctrCells (xs[k]'(by have := HX.out; omega)) (.slice qa (xs[k]'(by have := HX.out; omega)).ports.length qc)) 44)) (keepc hb (hy 5 _ rfl))
      have v6 := keepc (bnew wr (.cells (ctrCells (xs[k]'(by have := HX.out; omega)) (.slice qa (xs[k]'(by have := HX.out; omega)).ports.length qc)) 44)) (keepc hb (hy 6 _ rfl))
      have v7 := keepc (bnew wr (.cells (ctrCells (xs[k]'(by have := HX.out; omega)) (.slice qa (xs[k]'(by have := HX.out; omega)).ports.length qc)) 44)) (keepc hb (hy 7 _ rfl))
      have v8 := keepc (bnew wr (.cells (ctrCells (xs[k]'(by have := HX.out; omega)) (.slice qa (xs[k]'(by have := HX.out; omega)).ports.length qc)) 44)) (keepc hb (hy 8 _ rfl))
      have v9 := keepc (bnew wr (.cells (ctrCells (xs[k]'(by have := HX.out; omega)) (.slice qa (xs[k]'(by have := HX.out; omega)).ports.length qc)) 44)) (keepc hb (hy 9 _ rfl))
      have v10 := keepc (bnew wr (.cells (ctrCells (xs[k]'(by have := HX.out; omega)) (.slice qa (xs[k]'(by have := HX.out; omega)).ports.length qc)) 44)) (keepc hb (hy 10 _ rfl))
      simp only [Nat.add_zero] at v0
      have hq1 := hq.below hb
      have hr1 := hr.below hb
      have HEX := Lib.hid (exactB_iff (xs[k]'(by have := HX.out; omega)) (ys[k]'(by have := HY.out; omega)))
      generalize xs[k]'(by have := HX.out; omega) = p at *
      generalize ys[k]'(by have := HY.out; omega) = q at *
      have HA := Lib.hid (hq1.below (bto (bnew wr (.cells (ctrCells p (.slice qa p.ports.length qc)) 44)) (bnew _ (.cells (ctrCells q (.slice ra q.ports.length rc)) 44))))
      have HA2 := Lib.hid (hr1.below (bto (bnew wr (.cells (ctrCells p (.slice qa p.ports.length qc)) 44)) (bnew _ (.cells (ctrCells q (.slice ra q.ports.length rc)) 44))))
      clear ht hb hq hr hx hy hq1 hr1
      cases he : exactB p q with
      | true =>
        have HE := Lib.hid he
        clear he
        go_wp2_with (go_at_call 119; refine (exact_any I J p q _ _ _ _ _ HA.out HA2.out (by omega) (by omega)).mono ?_; rw [HE.out]; rintro e w2 ⟨rfl, hb2⟩; have HB2 := Lib.hid hb2; clear hb2)
        refine ⟨⟨k + 1, hlt, by go_num, bto (bto HB.out (bto (bnew _ _) (bnew _ _))) HB2.out, HN.out.1 ?_⟩, by simp [intOf]; omega⟩
        have := HEX.out
        rw [HE.out] at this
        simpa using this.symm
      | false =>
        have HE := Lib.hid he
        clear he
        go_wp2_with (go_at_call 119; refine (exact_any I J p q _ _ _ _ _ HA.out HA2.out (by omega) (by omega)).mono ?_; rw [HE.out]; rintro e w2 ⟨rfl, hb2⟩; have HB2 := Lib.hid hb2; clear hb2)
        go_ret
        refine ⟨?_, bto (bto HB.out (bto (bnew _ _) (bnew _ _))) HB2.out⟩
        have h3 : xs ≠ ys := HN.out.2 (by have := HEX.out; rw [HE.out] at this; simpa using this.symm)
        simp [h3]
    · have HE : Hid (xs = ys) := by
        have e1 : k = n := by omega
        rw [e1] at ht
        rw [List.take_of_length_le (by have := HX.out; omega), List.take_of_length_le (by have := HY.out; omega)] at ht
        exact ht
      clear ht hb
      go_wp2
      go_ret
      exact ⟨by rw [HE.out]; simp, HB.out⟩
set_option maxHeartbeats 1000000 in
theorem equalFunc_lens (a1 a2 : Option Addr) (c1 c2 n m : Nat) (f : Value) (w : World) (hnm : n ≠ m) :
    Calls Tryz.prog 215 #[.slice a1 n c1, .slice a2 m c2, f] w fun e w' => e = .returned (.bool false) ∧ Below w.heap.size w w' := by
  have h1 : ((n : Int) != (m : Int)) = true := by simp; omega
  go_enter Tryz.func215, Tryz.ntmps215
  go_wp2
  go_ret
  exact ⟨rfl, Below.refl _ _⟩
set_option maxHeartbeats 1000000 in
theorem equalFunc_zero (a1 a2 : Option Addr) (c1 c2 : Nat) (f : Value) (w : World) :
    Calls Tryz.prog 215 #[.slice a1 0 c1, .slice a2 0 c2, f] w fun e w' => e = .returned (.bool true) ∧ Below w.heap.size w w' := by
  go_enter Tryz.func215, Tryz.ntmps215
  go_wp2
  go_loop [17] (fun i => i = .int .i64 0) (fun _ => 0)
  case atStart => exact rfl
  case round =>
    obtain rfl := hrel
    go_wp2
    go_ret
    exact ⟨rfl, Below.refl _ _⟩
theorem each_any (I J : Nat → Prop) (a1 a2 : Option Addr) (c1 c2 : Nat) (xs ys : List CtrD) (w : World) (h1 : ICtrs I w (.slice a1 xs.length c1) xs) (h2 : ICtrs J w (.slice a2 ys.length c2) ys) (ox : CtrsOk xs) (oy : CtrsOk ys) :
    Calls Tryz.prog 118 #[.slice a1 xs.length c1, .slice a2 ys.length c2, .func (.func 119) #[] #[]] w fun e w' => e = .returned (.bool (decide (xs = ys))) ∧ Below w.heap.size w w' := by
  have key : Calls Tryz.prog 215 #[.slice a1 xs.length c1, .slice a2 ys.length c2, .func (.func 119) #[] #[]] w fun e w' => e = .returned (.bool (decide (xs = ys))) ∧ Below w.heap.size w w' := by
    by_cases hlen : xs.length = ys.length
    · by_cases h0 : 0 < xs.length
      · have := equalFunc_row I J a1 a2 c1 c2 xs.length xs ys w rfl hlen.symm h0 h1 h2 ox oy
        rw [← hlen]
        exact this
      · have e1 : xs = [] := List.length_eq_zero_iff.1 (by omega)
        have e2 : ys = [] := List.length_eq_zero_iff.1 (by omega)
        subst e1 e2
        exact equalFunc_zero a1 a2 c1 c2 _ w
    · refine (equalFunc_lens a1 a2 c1 c2 _ _ _ w hlen).mono ?_
      rintro e w' ⟨rfl, hb⟩
      have hne : xs ≠ ys := fun e => hlen (by rw [e])
      exact ⟨by simp [hne], hb⟩
  have KEY := Lib.hid key
  clear key h1 h2 ox oy
  go_enter Tryz.func118, Tryz.ntmps118
  go_wp2_with (go_at_call 215; refine KEY.out.mono ?_; rintro e w2 ⟨rfl, hb2⟩; have HB2 := Lib.hid hb2; clear hb2)
  go_ret
  exact ⟨rfl, HB2.out⟩

set_option maxHeartbeats 2000000 in
set_option maxRecDepth 100000 in
theorem equalLabs_row (b1 o1 c1 b2 o2 c2 n : Nat) (xs ys : List LabelD) (w : World) (hx : xs.length = n) (hy : ys.length = n) (hn : n ≤ 1000000)
    (h1 : ∀ j (h : j < n), w.cell? ⟨b1, o1 + j * 2, none⟩ = some (.string (xs[j]'(by omega)).key) ∧ w.cell? ⟨b1, o1 + j * 2 + 1, none⟩ = some (.string (xs[j]'(by omega)).val))
    (h2 : ∀ j (h : j < n), w.cell? ⟨b2, o2 + j * 2, none⟩ = some (.string (ys[j]'(by omega)).key) ∧ w.cell? ⟨b2, o2 + j * 2 + 1, none⟩ = some (.string (ys[j]'(by omega)).val)) :
    Calls Tryz.prog 117 #[.slice (some ⟨b1, o1, none⟩) n c1, .slice (some ⟨b2, o2, none⟩) n c2] w fun e w' => e = .returned (.bool (decide (xs = ys))) ∧ Below w.heap.size w w' := by
  have HX := Lib.hid hx
  have HY := Lib.hid hy
  have H1 := Lib.hid h1
  have H2 := Lib.hid h2
  clear h1 h2
  go_enter Tryz.func117, Tryz.ntmps117
  go_wp2
  go_loopw [13] (fun i wr => ∃ k : Nat, k ≤ n ∧ i = .int .i64 k ∧ Below w.heap.size w wr ∧ xs.take k = ys.take k) (fun i _ => n - (intOf i).toNat)
  case atStart => exact ⟨0, Nat.zero_le _, rfl, Below.refl _ _, by simp⟩
  case round =>
    obtain ⟨k, hk, rfl, hb, ht⟩ := hrel
    have HB := Lib.hid hb
    by_cases hlt : k < n
    · have HN := Lib.hid (take_next (by have := HX.out; omega) (by have := HY.out; omega) ht)
      have d1 := keepc hb (H1.out k hlt).1
      have d2 := keepc hb (H2.out k hlt).1
      have d3 := keepc hb (H1.out k hlt).2
      have d4 := keepc hb (H2.out k hlt).2
      generalize xs[k]'(by have := HX.out; omega) = p at *
      generalize ys[k]'(by have := HY.out; omega) = q at *
      clear ht hb
      obtain ⟨pk, pv⟩ := p
      obtain ⟨qk, qv⟩ := q
      by_cases e1 : pk = qk
      · subst e1
        by_cases e2 : pv = qv
        · subst e2
          go_wp2_with fail
          go_quiet (fail)
          go_wp2
          exact ⟨⟨k + 1, hlt, by go_num, bto HB.out (bdrew _ _), HN.out.1 (by trivial)⟩, by simp [intOf]; omega⟩
        · have f2 : (pv.toList == qv.toList) = false := by rw [toList_beq]; simp [e2]
          have HQ : Hid (xs ≠ ys) := HN.out.2 (by simp [e2])
          go_wp2_with fail
          go_quiet (fail)
          go_wp2
          go_ret
          exact ⟨by simp [HQ.out], bto HB.out (bdrew _ _)⟩
      · have f1 : (pk.toList == qk.toList) = false := by rw [toList_beq]; simp [e1]
        have HQ : Hid (xs ≠ ys) := HN.out.2 (by simp [e1])
        go_wp2_with fail
        go_quiet (fail)
        go_wp2
        go_ret
        exact ⟨by simp [HQ.out], bto HB.out (bdrew _ _)⟩
    · have HE : Hid (xs = ys) := by
        have e1 : k = n := by omega
        rw [e1] at ht
        rw [List.take_of_length_le (by have := HX.out; omega), List.take_of_length_le (by have := HY.out; omega)] at ht
        exact ht
      clear ht hb
      go_wp2
      go_ret
      exact ⟨by rw [HE.out]; simp, HB.out⟩
set_option maxHeartbeats 1000000 in
theorem equalLabs_lens (a1 a2 : Option Addr) (c1 c2 n m : Nat) (w : World) (hnm : n ≠ m) :
    Calls Tryz.prog 117 #[.slice a1 n c1, .slice a2 m c2] w fun e w' => e = .returned (.bool false) ∧ Below w.heap.size w w' := by
  have h1 : ((n : Int) != (m : Int)) = true := by simp; omega
  go_enter Tryz.func117, Tryz.ntmps117
  go_wp2
  go_ret
  exact ⟨rfl, Below.refl _ _⟩
set_option maxHeartbeats 1000000 in
theorem equalLabs_zero (a1 a2 : Option Addr) (c1 c2 : Nat) (w : World) :
    Calls Tryz.prog 117 #[.slice a1 0 c1, .slice a2 0 c2] w fun e w' => e = .returned (.bool true) ∧ Below w.heap.size w w' := by
  go_enter Tryz.func117, Tryz.ntmps117
  go_wp2
  go_loop [13] (fun i => i = .int .i64 0) (fun _ => 0)
  case atStart => exact rfl
  case round =>
    obtain rfl := hrel
    go_wp2
    go_ret
    exact ⟨rfl, Below.refl _ _⟩
theorem equalLabs_any (I J : Nat → Prop) (a1 a2 : Option Addr) (c1 c2 : Nat) (xs ys : List LabelD) (w : World) (h1 : ILabs I w (.slice a1 xs.length c1) xs) (h2 : ILabs J w (.slice a2 ys.length c2) ys) (hl : xs.length ≤ 1000000) :
    Calls Tryz.prog 117 #[.slice a1 xs.length c1, .slice a2 ys.length c2] w fun e w' => e = .returned (.bool (decide (xs = ys))) ∧ Below w.heap.size w w' := by
  by_cases hlen : xs.length = ys.length
  · by_cases h0 : 0 < xs.length
    · obtain ⟨b1, o1, rfl, _, _, r1⟩ := h1.cells h0
      obtain ⟨b2, o2, rfl, _, _, r2⟩ := h2.cells (by omega)
      have := equalLabs_row b1 o1 c1 b2 o2 c2 xs.length xs ys w rfl hlen.symm hl r1 (fun j hj => r2 j (by omega))
      rw [← hlen]
      exact this
    · have e1 : xs = [] := List.length_eq_zero_iff.1 (by omega)
      have e2 : ys = [] := List.length_eq_zero_iff.1 (by omega)
      subst e1 e2
      exact equalLabs_zero a1 a2 c1 c2 w
  · refine (equalLabs_lens a1 a2 c1 c2 _ _ w hlen).mono ?_
    rintro e w' ⟨rfl, hb⟩
    have hne : xs ≠ ys := fun e => hlen (by rw [e])
    exact ⟨by simp [hne], hb⟩

end Go.Proofs.YtgelbkgkjkeccaaGreatDoor
