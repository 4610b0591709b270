/- Likenesses of containers and specs, as the statements' own book has them (SameContainers). -/
import Derived.Test.YtgelbkgkjkeccaaGreatDoorZ
namespace Go.Proofs.YtgelbkgkjkeccaaGreatDoor
open Go.RowKit

theorem ctrD_eq (a b : CtrD) : a = b ↔ a.name = b.name ∧ a.image = b.image ∧ a.req = b.req ∧ a.lim = b.lim ∧ a.ports = b.ports ∧ a.every = b.every ∧ a.fails = b.fails := by
  cases a; cases b; simp
theorem beq_iff (a b : ByteArray) : (a.toList == b.toList) = true ↔ a = b := by rw [toList_beq]; simp
theorem beq_nff (a b : ByteArray) : (a.toList == b.toList) = false ↔ a ≠ b := by rw [toList_beq]; simp
set_option maxHeartbeats 8000000 in
set_option maxRecDepth 100000 in
theorem sameCtrs_row (I J : Nat → Prop) (a1 a2 : Option Addr) (c1 c2 n : Nat) (xs ys : List CtrD) (w : World) (hx : xs.length = n) (hy : ys.length = n) (h0 : 0 < n) (h1 : ICtrs I w (.slice a1 xs.length c1) xs) (h2 : ICtrs J w (.slice a2 ys.length c2) ys) (ox : CtrsOk xs) :
    Calls Tryz.prog 116 #[.slice a1 n c1, .slice a2 n c2] w fun e w' => e = .returned (.bool (decide (xs = ys))) ∧ Below w.heap.size w w' := by
  obtain ⟨b1, o1, rfl, hc1, hI1, r1⟩ := h1.at (by omega)
  obtain ⟨b2, o2, rfl, hc2, hI2, r2⟩ := h2.at (by omega)
  have hn100 := ox.1
  have HX := Lib.hid hx
  have HY := Lib.hid hy
  have R1 := Lib.hid r1
  have R2 := Lib.hid r2
  have HZ1 := Lib.hid (fun j (hj : j < xs.length) => (ox.2 _ (List.getElem_mem hj)).2.2)
  have hnl : n ≤ 100 := by omega
  have hnc1 : n ≤ c1 := by omega
  have hnc2 : n ≤ c2 := by omega
  clear r1 r2 h1 h2 hx hy ox hn100 hc1 hc2
  go_enter Tryz.func116, Tryz.ntmps116
  go_wp2
  go_loopw [5, 6] (fun s i wr => ∃ k : Nat, k ≤ n ∧ i = .int .i64 k ∧ Below w.heap.size w wr ∧ ((s = .bool true ∧ xs.take k = ys.take k) ∨ (s = .bool false ∧ xs ≠ ys))) (fun _ i _ => n - (intOf i).toNat)
  case atStart => exact ⟨0, Nat.zero_le _, rfl, Below.refl _ _, .inl ⟨by simp, rfl⟩⟩
  case round =>
    obtain ⟨k, hk, rfl, hb, hs⟩ := hrel
    have HB := Lib.hid hb
    rcases hs with ⟨rfl, ht⟩ | ⟨rfl, hne⟩
    · by_cases hlt : k < n
      · have HN := Lib.hid (take_next (by have := HX.out; omega) (by have := HY.out; omega) ht)
        obtain ⟨qa, qc, hq, hx⟩ := R1.out k (by have := HX.out; omega)
        obtain ⟨ra, rc, hr, hy⟩ := R2.out k (by have := HY.out; omega)
        have hp1 := HZ1.out k (by have := HX.out; omega)
        have u0 := keepc hb (hx 0 _ rfl)
        have u1 := keepc hb (hx 1 _ rfl)
        have u2 := keepc hb (hx 2 _ rfl)
        have u3 := keepc hb (hx 3 _ rfl)
        have u4 := keepc hb (hx 4 _ rfl)
        have u5 := keepc hb (hx 5 _ rfl)
        have u6 := keepc hb (hx 6 _ rfl)
        have u7 := keepc hb (hx 7 _ rfl)
        have u8 := keepc hb (hx 8 _ rfl)
        have u9 := keepc hb (hx 9 _ rfl)
        have u10 := keepc hb (hx 10 _ rfl)
        simp only [Nat.add_zero] at u0
        have v0 := keepc (bnew wr (.cells (ctrCells (xs[k]'(by have := HX.out; omega)) (.slice qa (xs[k]'(by have := HX.out; omega)).ports.length qc)) 44)) (keepc hb (hy 0 _ rfl))
        have v1 := keepc (bnew wr (.cells (ctrCells (xs[k]'(by have := HX.out; omega)) (.slice qa (xs[k]'(by have := HX.out; omega)).ports.length qc)) 44)) (keepc hb (hy 1 _ rfl))
        have v2 := keepc (bnew wr (.cells (ctrCells (xs[k]'(by have := HX.out; omega)) (.slice qa (xs[k]'(by have := HX.out; omega)).ports.length qc)) 44)) (keepc hb (hy 2 _ rfl))
        have v3 := keepc (bnew wr (.cells (ctrCells (xs[k]'(by have := HX.out; omega)) (.slice qa (xs[k]'(by have := HX.out; omega)).ports.length qc)) 44)) (keepc hb (hy 3 _ rfl))
        have v4 := keepc (bnew wr (.cells (ctrCells (xs[k]'(by have := HX.out; omega)) (.slice qa (xs[k]'(by have := HX.out; omega)).ports.length qc)) 44)) (keepc hb (hy 4 _ rfl))
        have v5 := keepc (bnew wr (.cells (ctrCells (xs[k]'(by have := HX.out; omega)) (.slice qa (xs[k]'(by have := HX.out; omega)).ports.length qc)) 44)) (keepc hb (hy 5 _ rfl))
        have v6 := keepc (bnew wr (.cells (ctrCells (xs[k]'(by have := HX.out; omega)) (.slice qa (xs[k]'(by have := HX.out; omega)).ports.length qc)) 44)) (keepc hb (hy 6 _ rfl))
        have v7 := keepc (bnew wr (.cells (ctrCells (xs[k]'(by have := HX.out; omega)) (.slice qa (xs[k]'(by have := HX.out; omega)).ports.length qc)) 44)) (keepc hb (hy 7 _ rfl))
        have v8 := keepc (bnew wr (.cells (ctrCells (xs[k]'(by have := HX.out; omega)) (.slice qa (xs[k]'(by have := HX.out; omega)).ports.length qc)) 44)) (keepc hb (hy 8 _ rfl))
        have v9 := keepc (bnew wr (.cells (ctrCells (xs[k]'(by have := HX.out; omega)) (.slice qa (xs[k]'(by have := HX.out; omega)).ports.length qc)) 44)) (keepc hb (hy 9 _ rfl))
        have v10 := keepc (bnew wr (.cells (ctrCells (xs[k]'(by have := HX.out; omega)) (.slice qa (xs[k]'(by have := HX.out; omega)).ports.length qc)) 44)) (keepc hb (hy 10 _ rfl))
        simp only [Nat.add_zero] at v0
        have hq1 := hq.below hb
        have hr1 := hr.below hb
        generalize xs[k]'(by have := HX.out; omega) = p at *
        generalize ys[k]'(by have := HY.out; omega) = q at *
        have HA := Lib.hid (hq1.below (bto (bnew wr (.cells (ctrCells p (.slice qa p.ports.length qc)) 44)) (bnew _ (.cells (ctrCells q (.slice ra q.ports.length rc)) 44))))
        have HA2 := Lib.hid (hr1.below (bto (bnew wr (.cells (ctrCells p (.slice qa p.ports.length qc)) 44)) (bnew _ (.cells (ctrCells q (.slice ra q.ports.length rc)) 44))))
        clear ht hb hq hr hx hy hq1 hr1
        obtain ⟨pn, pi, ⟨pr0, pr1, pr2⟩, ⟨pl0, pl1, pl2⟩, pps, pe, pf⟩ := p
        obtain ⟨qn, qi, ⟨qr0, qr1, qr2⟩, ⟨ql0, ql1, ql2⟩, qps, qe, qf⟩ := q
        simp only at *
        cases h1 : (pn.toList == qn.toList) with
        | false =>
          have HQ : Hid (xs ≠ ys) := HN.out.2 (by have h := (beq_nff _ _).1 h1; simp [h])
          go_wp2
          exact ⟨⟨k + 1, hlt, by go_num, bto HB.out (bto (bnew _ _) (bnew _ _)), .inr ⟨by simp, HQ.out⟩⟩, by simp [intOf]; omega⟩
        | true =>
          cases h2 : (pi.toList == qi.toList) with
          | false =>
            have HQ : Hid (xs ≠ ys) := HN.out.2 (by have h := (beq_nff _ _).1 h2; simp [h])
            go_wp2
            exact ⟨⟨k + 1, hlt, by go_num, bto HB.out (bto (bnew _ _) (bnew _ _)), .inr ⟨by simp, HQ.out⟩⟩, by simp [intOf]; omega⟩
          | true =>
            by_cases r0 : pr0 = qr0
            case neg =>
              have HQ : Hid (xs ≠ ys) := HN.out.2 (by simp [r0])
              go_wp2
              exact ⟨⟨k + 1, hlt, by go_num, bto HB.out (bto (bnew _ _) (bnew _ _)), .inr ⟨by simp, HQ.out⟩⟩, by simp [intOf]; omega⟩
            case pos =>
              subst r0
              by_cases r1 : pr1 = qr1
              case neg =>
                have HQ : Hid (xs ≠ ys) := HN.out.2 (by simp [r1])
                go_wp2
                exact ⟨⟨k + 1, hlt, by go_num, bto HB.out (bto (bnew _ _) (bnew _ _)), .inr ⟨by simp, HQ.out⟩⟩, by simp [intOf]; omega⟩
              case pos =>
                subst r1
                by_cases r2 : pr2 = qr2
                case neg =>
                  have HQ : Hid (xs ≠ ys) := HN.out.2 (by simp [r2])
                  go_wp2
                  exact ⟨⟨k + 1, hlt, by go_num, bto HB.out (bto (bnew _ _) (bnew _ _)), .inr ⟨by simp, HQ.out⟩⟩, by simp [intOf]; omega⟩
                case pos =>
                  subst r2
                  by_cases m0 : pl0 = ql0
                  case neg =>
                    have HQ : Hid (xs ≠ ys) := HN.out.2 (by simp [m0])
                    go_wp2
                    exact ⟨⟨k + 1, hlt, by go_num, bto HB.out (bto (bnew _ _) (bnew _ _)), .inr ⟨by simp, HQ.out⟩⟩, by simp [intOf]; omega⟩
                  case pos =>
                    subst m0
                    by_cases m1 : pl1 = ql1
                    case neg =>
                      have HQ : Hid (xs ≠ ys) := HN.out.2 (by simp [m1])
                      go_wp2
                      exact ⟨⟨k + 1, hlt, by go_num, bto HB.out (bto (bnew _ _) (bnew _ _)), .inr ⟨by simp, HQ.out⟩⟩, by simp [intOf]; omega⟩
                    case pos =>
                      subst m1
                      by_cases m2 : pl2 = ql2
                      case neg =>
                        have HQ : Hid (xs ≠ ys) := HN.out.2 (by simp [m2])
                        go_wp2
                        exact ⟨⟨k + 1, hlt, by go_num, bto HB.out (bto (bnew _ _) (bnew _ _)), .inr ⟨by simp, HQ.out⟩⟩, by simp [intOf]; omega⟩
                      case pos =>
                        subst m2
                        cases h4 : (pps == qps) with
                        | false =>
                          have H4 := Lib.hid h4
                          have hports : pps ≠ qps := by simpa using h4
                          have HQ : Hid (xs ≠ ys) := HN.out.2 (by simp [hports])
                          clear hports
                          go_wp2_with (go_at_call 29; refine (sameInts_any I J _ _ _ _ _ _ _ HA.out HA2.out (by omega)).mono ?_; rw [H4.out]; rintro e w2 ⟨rfl, hb2⟩; have HB2 := Lib.hid hb2; obtain ⟨hc2, hf2⟩ := bcell hb2; have hz2 : wr.heap.size + 1 < w2.heap.size := (by have := hb2.size; simp at this; omega); clear hb2)
                          exact ⟨⟨k + 1, hlt, by go_num, bto (bto HB.out (bto (bnew _ _) (bnew _ _))) HB2.out, .inr ⟨by simp, HQ.out⟩⟩, by simp [intOf]; omega⟩
                        | true =>
                          by_cases p0 : pe = qe
                          case neg =>
                            have H4 := Lib.hid h4
                            have HQ : Hid (xs ≠ ys) := HN.out.2 (by simp [p0])
                            go_wp2_with (go_at_call 29; refine (sameInts_any I J _ _ _ _ _ _ _ HA.out HA2.out (by omega)).mono ?_; rw [H4.out]; rintro e w2 ⟨rfl, hb2⟩; have HB2 := Lib.hid hb2; obtain ⟨hc2, hf2⟩ := bcell hb2; have hz2 : wr.heap.size + 1 < w2.heap.size := (by have := hb2.size; simp at this; omega); clear hb2)
                            exact ⟨⟨k + 1, hlt, by go_num, bto (bto HB.out (bto (bnew _ _) (bnew _ _))) HB2.out, .inr ⟨by simp, HQ.out⟩⟩, by simp [intOf]; omega⟩
                          case pos =>
                            subst p0
                            by_cases p1 : pf = qf
                            case neg =>
                              have H4 := Lib.hid h4
                              have HQ : Hid (xs ≠ ys) := HN.out.2 (by simp [p1])
                              go_wp2_with (go_at_call 29; refine (sameInts_any I J _ _ _ _ _ _ _ HA.out HA2.out (by omega)).mono ?_; rw [H4.out]; rintro e w2 ⟨rfl, hb2⟩; have HB2 := Lib.hid hb2; obtain ⟨hc2, hf2⟩ := bcell hb2; have hz2 : wr.heap.size + 1 < w2.heap.size := (by have := hb2.size; simp at this; omega); clear hb2)
                              exact ⟨⟨k + 1, hlt, by go_num, bto (bto HB.out (bto (bnew _ _) (bnew _ _))) HB2.out, .inr ⟨by simp, HQ.out⟩⟩, by simp [intOf]; omega⟩
                            case pos =>
                              subst p1
                              have H4 := Lib.hid h4
                              have HQ : Hid (xs.take (k + 1) = ys.take (k + 1)) := HN.out.1 (by rw [ctrD_eq]; exact ⟨(beq_iff _ _).1 h1, (beq_iff _ _).1 h2, rfl, rfl, by simpa using h4, rfl, rfl⟩)
                              go_wp2_with (go_at_call 29; refine (sameInts_any I J _ _ _ _ _ _ _ HA.out HA2.out (by omega)).mono ?_; rw [H4.out]; rintro e w2 ⟨rfl, hb2⟩; have HB2 := Lib.hid hb2; obtain ⟨hc2, hf2⟩ := bcell hb2; have hz2 : wr.heap.size + 1 < w2.heap.size := (by have := hb2.size; simp at this; omega); clear hb2)
                              exact ⟨⟨k + 1, hlt, by go_num, bto (bto HB.out (bto (bnew _ _) (bnew _ _))) HB2.out, .inl ⟨by simp, HQ.out⟩⟩, by simp [intOf]; omega⟩
      · have HE : Hid (xs = ys) := by
          have e1 : k = n := by omega
          rw [e1] at ht
          rw [List.take_of_length_le (by have := HX.out; omega), List.take_of_length_le (by have := HY.out; omega)] at ht
          exact ht
        clear ht hb
        go_wp2
        go_ret
        exact ⟨by rw [HE.out]; simp, HB.out⟩
    · have HE : Hid (xs ≠ ys) := hne
      clear hne hb
      go_wp2
      go_ret
      exact ⟨by simp [HE.out], HB.out⟩
set_option maxHeartbeats 2000000 in
theorem sameCtrs_lens (a1 a2 : Option Addr) (c1 c2 n m : Nat) (w : World) (hnm : n ≠ m) :
    Calls Tryz.prog 116 #[.slice a1 n c1, .slice a2 m c2] w fun e w' => e = .returned (.bool false) ∧ Below w.heap.size w w' := by
  go_enter Tryz.func116, Tryz.ntmps116
  go_wp2
  go_loop [5, 6] (fun s i => s = .bool false ∧ i = .int .i64 0) (fun _ _ => 0)
  case atStart => exact ⟨by simp; omega, rfl⟩
  case round =>
    obtain ⟨rfl, rfl⟩ := hrel
    go_wp2
    go_ret
    exact ⟨rfl, Below.refl _ _⟩
set_option maxHeartbeats 2000000 in
theorem sameCtrs_zero (a1 a2 : Option Addr) (c1 c2 : Nat) (w : World) :
    Calls Tryz.prog 116 #[.slice a1 0 c1, .slice a2 0 c2] w fun e w' => e = .returned (.bool true) ∧ Below w.heap.size w w' := by
  go_enter Tryz.func116, Tryz.ntmps116
  go_wp2
  go_loop [5, 6] (fun s i => s = .bool true ∧ i = .int .i64 0) (fun _ _ => 0)
  case atStart => exact ⟨by simp, rfl⟩
  case round =>
    obtain ⟨rfl, rfl⟩ := hrel
    go_wp2
    go_ret
    exact ⟨rfl, Below.refl _ _⟩
theorem sameCtrs_any (I J : Nat → Prop) (a1 a2 : Option Addr) (c1 c2 : Nat) (xs ys : List CtrD) (w : World) (h1 : ICtrs I w (.slice a1 xs.length c1) xs) (h2 : ICtrs J w (.slice a2 ys.length c2) ys) (ox : CtrsOk xs) :
    Calls Tryz.prog 116 #[.slice a1 xs.length c1, .slice a2 ys.length c2] w fun e w' => e = .returned (.bool (decide (xs = ys))) ∧ Below w.heap.size w w' := by
  by_cases hlen : xs.length = ys.length
  · by_cases h0 : 0 < xs.length
    · have := sameCtrs_row I J a1 a2 c1 c2 xs.length xs ys w rfl hlen.symm h0 h1 h2 ox
      rw [← hlen]
      exact this
    · have e1 : xs = [] := List.length_eq_zero_iff.1 (by omega)
      have e2 : ys = [] := List.length_eq_zero_iff.1 (by omega)
      subst e1 e2
      exact sameCtrs_zero a1 a2 c1 c2 w
  · refine (sameCtrs_lens a1 a2 c1 c2 _ _ w hlen).mono ?_
    rintro e w' ⟨rfl, hb⟩
    have hne : xs ≠ ys := fun e => hlen (by rw [e])
    exact ⟨by simp [hne], hb⟩
end Go.Proofs.YtgelbkgkjkeccaaGreatDoor
