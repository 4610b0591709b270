/- Likenesses: containers, lists of containers, specs: package spec's alike, exact, each, Same; the statements' own SameContainers, SameSpec; the document's Ports. -/
import Derived.Test.YtgelbkgkjkeccaaGreatDoorX
namespace Go.Proofs.YtgelbkgkjkeccaaGreatDoor
open Go.RowKit

theorem bcell {W w1 : World} (hb : Below W.heap.size W w1) : (∀ b o, b < W.heap.size → w1.cell? ⟨b, o, none⟩ = W.cell? ⟨b, o, none⟩) ∧ (∀ b o, b < W.heap.size → w1.frozen? ⟨b, o, none⟩ = W.frozen? ⟨b, o, none⟩) :=
  ⟨fun b o h => hb.cell (p := ⟨b, o, none⟩) h, fun b o h => hb.frozen (p := ⟨b, o, none⟩) h⟩
/-- slices.Equal of ints. -/
theorem equalInts_any (I J : Nat → Prop) (a1 a2 : Option Addr) (c1 c2 : Nat) (xs ys : List Int) (w : World) (h1 : IInts I w (.slice a1 xs.length c1) xs) (h2 : IInts J w (.slice a2 ys.length c2) ys) (hl : xs.length ≤ 1000000) (hm : ys.length ≤ 1000000) :
    Calls Tryz.prog 221 #[.slice a1 xs.length c1, .slice a2 ys.length c2] w fun e w' => e = .returned (.bool (xs == ys)) ∧ Below w.heap.size w w' := by
  by_cases hlen : xs.length = ys.length
  · by_cases h0 : 0 < xs.length
    · obtain ⟨b1, o1, rfl, _, _, r1⟩ := h1.cells h0
      obtain ⟨b2, o2, rfl, _, _, r2⟩ := h2.cells (by omega)
      refine (Tryz.slices_Equal_int b1 o1 xs.length c1 b2 o2 ys.length c2 xs ys w (Nat.le_refl _) (Nat.le_refl _) (by omega) (by omega) (fun j hj => by rw [r1 j hj]; simp [List.getD_eq_getElem?_getD, hj]) (fun j hj => by rw [r2 j hj]; simp [List.getD_eq_getElem?_getD, hj])).mono ?_
      rintro e w' ⟨rfl, q, rfl⟩
      rw [List.take_length, List.take_length]
      exact ⟨rfl, bdrew _ _⟩
    · have e1 : xs = [] := List.length_eq_zero_iff.1 (by omega)
      have e2 : ys = [] := List.length_eq_zero_iff.1 (by omega)
      subst e1 e2
      refine (Tryz.slices_Equal_int_empty a1 a2 c1 0 c2 w (by omega)).mono ?_
      rintro e w' ⟨rfl, rfl⟩
      exact ⟨rfl, Below.refl _ _⟩
  · refine (Tryz.slices_Equal_int_lens a1 a2 _ c1 _ c2 w hlen).mono ?_
    rintro e w' ⟨rfl, rfl⟩
    have hne : xs ≠ ys := fun e => hlen (by rw [e])
    exact ⟨by simp [hne], Below.refl _ _⟩
theorem resD_eq (a b : ResD) : a = b ↔ a.cpu = b.cpu ∧ a.mem = b.mem ∧ a.pids = b.pids := by
  cases a; cases b; simp
def alikeB (a b : CtrD) : Bool := (a.name.toList == b.name.toList) && (decide (a.req = b.req) && (decide (a.lim = b.lim) && ((a.ports == b.ports) && (decide (a.every = b.every) && decide (a.fails = b.fails)))))
def exactB (a b : CtrD) : Bool := alikeB a b && (a.image.toList == b.image.toList)

set_option maxHeartbeats 4000000 in
set_option maxRecDepth 100000 in
theorem alike_any (I J : Nat → Prop) (a b : CtrD) (qa ra : Option Addr) (qc rc : Nat) (w : World) (ha : IInts I w (.slice qa a.ports.length qc) a.ports) (hb : IInts J w (.slice ra b.ports.length rc) b.ports) (hl : a.ports.length ≤ 1000) (hm : b.ports.length ≤ 1000) :
    Calls Tryz.prog 128 #[.agg (ctrCells a (.slice qa a.ports.length qc)), .agg (ctrCells b (.slice ra b.ports.length rc))] w fun e w' => e = .returned (.bool (alikeB a b)) ∧ Below w.heap.size w w' := by
  have HA := Lib.hid (ha.below (bto (bnew w (.cells (ctrCells a (.slice qa a.ports.length qc)) 44)) (bnew _ (.cells (ctrCells b (.slice ra b.ports.length rc)) 44))))
  have HB := Lib.hid (hb.below (bto (bnew w (.cells (ctrCells a (.slice qa a.ports.length qc)) 44)) (bnew _ (.cells (ctrCells b (.slice ra b.ports.length rc)) 44))))
  have HW := Lib.hid (bto (bnew w (.cells (ctrCells a (.slice qa a.ports.length qc)) 44)) (bnew _ (.cells (ctrCells b (.slice ra b.ports.length rc)) 44)))
  clear ha hb
  cases h1 : (a.name.toList == b.name.toList) with
  | false =>
    have HE : Hid (alikeB a b = false) := Lib.hid (by simp [alikeB, resD_eq, h1])
    go_enter Tryz.func128, Tryz.ntmps128
    go_wp2
    go_ret
    exact ⟨by rw [HE.out]; rfl, HW.out⟩
  | true =>
    by_cases r0 : a.req.cpu = b.req.cpu
    case neg =>
      have HE : Hid (alikeB a b = false) := Lib.hid (by simp [alikeB, resD_eq, h1, r0])
      go_enter Tryz.func128, Tryz.ntmps128
      go_wp2
      go_ret
      exact ⟨by rw [HE.out]; rfl, HW.out⟩
    case pos =>
      by_cases r1 : a.req.mem = b.req.mem
      case neg =>
        have HE : Hid (alikeB a b = false) := Lib.hid (by simp [alikeB, resD_eq, h1, r0, r1])
        go_enter Tryz.func128, Tryz.ntmps128
        go_wp2
        go_ret
        exact ⟨by rw [HE.out]; rfl, HW.out⟩
      case pos =>
        by_cases r2 : a.req.pids = b.req.pids
        case neg =>
          have HE : Hid (alikeB a b = false) := Lib.hid (by simp [alikeB, resD_eq, h1, r0, r1, r2])
          go_enter Tryz.func128, Tryz.ntmps128
          go_wp2
          go_ret
          exact ⟨by rw [HE.out]; rfl, HW.out⟩
        case pos =>
          by_cases m0 : a.lim.cpu = b.lim.cpu
          case neg =>
            have HE : Hid (alikeB a b = false) := Lib.hid (by simp [alikeB, resD_eq, h1, r0, r1, r2, m0])
            go_enter Tryz.func128, Tryz.ntmps128
            go_wp2
            go_ret
            exact ⟨by rw [HE.out]; rfl, HW.out⟩
          case pos =>
            by_cases m1 : a.lim.mem = b.lim.mem
            case neg =>
              have HE : Hid (alikeB a b = false) := Lib.hid (by simp [alikeB, resD_eq, h1, r0, r1, r2, m0, m1])
              go_enter Tryz.func128, Tryz.ntmps128
              go_wp2
              go_ret
              exact ⟨by rw [HE.out]; rfl, HW.out⟩
            case pos =>
              by_cases m2 : a.lim.pids = b.lim.pids
              case neg =>
                have HE : Hid (alikeB a b = false) := Lib.hid (by simp [alikeB, resD_eq, h1, r0, r1, r2, m0, m1, m2])
                go_enter Tryz.func128, Tryz.ntmps128
                go_wp2
                go_ret
                exact ⟨by rw [HE.out]; rfl, HW.out⟩
              case pos =>
                cases h4 : (a.ports == b.ports) with
                | false =>
                  have H4 := Lib.hid h4
                  have HE : Hid (alikeB a b = false) := Lib.hid (by simp [alikeB, resD_eq, h1, r0, r1, r2, m0, m1, m2, h4])
                  go_enter Tryz.func128, Tryz.ntmps128
                  go_wp2_with (go_at_call 221; refine (equalInts_any I J _ _ _ _ _ _ _ HA.out HB.out (by omega) (by omega)).mono ?_; rw [H4.out]; rintro e w2 ⟨rfl, hb2⟩; have HB2 := Lib.hid hb2; obtain ⟨hc2, hf2⟩ := bcell hb2; have hz2 : w.heap.size + 1 < w2.heap.size := (by have := hb2.size; simp at this; omega); clear hb2)
                  go_ret
                  exact ⟨by rw [HE.out]; rfl, bto HW.out HB2.out⟩
                | true =>
                  by_cases p0 : a.every = b.every
                  case neg =>
                    have H4 := Lib.hid h4
                    have HE : Hid (alikeB a b = false) := Lib.hid (by simp [alikeB, resD_eq, h1, r0, r1, r2, m0, m1, m2, h4, p0])
                    go_enter Tryz.func128, Tryz.ntmps128
                    go_wp2_with (go_at_call 221; refine (equalInts_any I J _ _ _ _ _ _ _ HA.out HB.out (by omega) (by omega)).mono ?_; rw [H4.out]; rintro e w2 ⟨rfl, hb2⟩; have HB2 := Lib.hid hb2; obtain ⟨hc2, hf2⟩ := bcell hb2; have hz2 : w.heap.size + 1 < w2.heap.size := (by have := hb2.size; simp at this; omega); clear hb2)
                    go_ret
                    exact ⟨by rw [HE.out]; rfl, bto HW.out HB2.out⟩
                  case pos =>
                    by_cases p1 : a.fails = b.fails
                    case neg =>
                      have H4 := Lib.hid h4
                      have HE : Hid (alikeB a b = false) := Lib.hid (by simp [alikeB, resD_eq, h1, r0, r1, r2, m0, m1, m2, h4, p0, p1])
                      go_enter Tryz.func128, Tryz.ntmps128
                      go_wp2_with (go_at_call 221; refine (equalInts_any I J _ _ _ _ _ _ _ HA.out HB.out (by omega) (by omega)).mono ?_; rw [H4.out]; rintro e w2 ⟨rfl, hb2⟩; have HB2 := Lib.hid hb2; obtain ⟨hc2, hf2⟩ := bcell hb2; have hz2 : w.heap.size + 1 < w2.heap.size := (by have := hb2.size; simp at this; omega); clear hb2)
                      go_ret
                      exact ⟨by rw [HE.out]; rfl, bto HW.out HB2.out⟩
                    case pos =>
                      have H4 := Lib.hid h4
                      have HE : Hid (alikeB a b = true) := Lib.hid (by simp only [alikeB, resD_eq, h1, r0, r1, r2, m0, m1, m2, h4, p0, p1, Bool.and_self, and_self, decide_true])
                      go_enter Tryz.func128, Tryz.ntmps128
                      go_wp2_with (go_at_call 221; refine (equalInts_any I J _ _ _ _ _ _ _ HA.out HB.out (by omega) (by omega)).mono ?_; rw [H4.out]; rintro e w2 ⟨rfl, hb2⟩; have HB2 := Lib.hid hb2; obtain ⟨hc2, hf2⟩ := bcell hb2; have hz2 : w.heap.size + 1 < w2.heap.size := (by have := hb2.size; simp at this; omega); clear hb2)
                      go_ret
                      exact ⟨by rw [HE.out]; rfl, bto HW.out HB2.out⟩
set_option maxHeartbeats 4000000 in
set_option maxRecDepth 100000 in
theorem exact_any (I J : Nat → Prop) (a b : CtrD) (qa ra : Option Addr) (qc rc : Nat) (w : World) (ha : IInts I w (.slice qa a.ports.length qc) a.ports) (hb : IInts J w (.slice ra b.ports.length rc) b.ports) (hl : a.ports.length ≤ 1000) (hm : b.ports.length ≤ 1000) :
    Calls Tryz.prog 119 #[.agg (ctrCells a (.slice qa a.ports.length qc)), .agg (ctrCells b (.slice ra b.ports.length rc))] w fun e w' => e = .returned (.bool (exactB a b)) ∧ Below w.heap.size w w' := by
  have HA := Lib.hid (ha.below (bto (bnew w (.cells (ctrCells a (.slice qa a.ports.length qc)) 44)) (bnew _ (.cells (ctrCells b (.slice ra b.ports.length rc)) 44))))
  have HB := Lib.hid (hb.below (bto (bnew w (.cells (ctrCells a (.slice qa a.ports.length qc)) 44)) (bnew _ (.cells (ctrCells b (.slice ra b.ports.length rc)) 44))))
  have HW := Lib.hid (bto (bnew w (.cells (ctrCells a (.slice qa a.ports.length qc)) 44)) (bnew _ (.cells (ctrCells b (.slice ra b.ports.length rc)) 44)))
  clear ha hb
  cases h1 : alikeB a b with
  | false =>
    have H1 := Lib.hid h1
    have HE : Hid (exactB a b = false) := Lib.hid (by unfold exactB; rw [h1]; simp)
    go_enter Tryz.func119, Tryz.ntmps119
    go_wp2_with (go_at_call 128; refine (alike_any I J a b _ _ _ _ _ HA.out HB.out (by omega) (by omega)).mono ?_; rw [H1.out]; rintro e w2 ⟨rfl, hb2⟩; have HB2 := Lib.hid hb2; obtain ⟨hc2, hf2⟩ := bcell hb2; have hz2 : w.heap.size + 1 < w2.heap.size := (by have := hb2.size; simp at this; omega); clear hb2)
    go_ret
    exact ⟨by rw [HE.out]; rfl, bto HW.out HB2.out⟩
  | true =>
    cases h2 : (a.image.toList == b.image.toList) with
    | false =>
      have H1 := Lib.hid h1
      have HE : Hid (exactB a b = false) := Lib.hid (by unfold exactB; rw [h1, h2]; simp)
      go_enter Tryz.func119, Tryz.ntmps119
      go_wp2_with (go_at_call 128; refine (alike_any I J a b _ _ _ _ _ HA.out HB.out (by omega) (by omega)).mono ?_; rw [H1.out]; rintro e w2 ⟨rfl, hb2⟩; have HB2 := Lib.hid hb2; obtain ⟨hc2, hf2⟩ := bcell hb2; have hz2 : w.heap.size + 1 < w2.heap.size := (by have := hb2.size; simp at this; omega); clear hb2)
      go_ret
      exact ⟨by rw [HE.out]; rfl, bto HW.out HB2.out⟩
    | true =>
      have H1 := Lib.hid h1
      have HE : Hid (exactB a b = true) := Lib.hid (by unfold exactB; rw [h1, h2]; simp)
      go_enter Tryz.func119, Tryz.ntmps119
      go_wp2_with (go_at_call 128; refine (alike_any I J a b _ _ _ _ _ HA.out HB.out (by omega) (by omega)).mono ?_; rw [H1.out]; rintro e w2 ⟨rfl, hb2⟩; have HB2 := Lib.hid hb2; obtain ⟨hc2, hf2⟩ := bcell hb2; have hz2 : w.heap.size + 1 < w2.heap.size := (by have := hb2.size; simp at this; omega); clear hb2)
      go_ret
      exact ⟨by rw [HE.out]; rfl, bto HW.out HB2.out⟩

theorem exactB_iff (a b : CtrD) : exactB a b = decide (a = b) := by
  unfold exactB alikeB
  rw [toList_beq, toList_beq, Bool.eq_iff_iff]
  cases a; cases b
  simp
  constructor
  · rintro ⟨⟨h1, h2, h3, h4, h5, h6⟩, h7⟩; exact ⟨h1, h7, h2, h3, h4, h5, h6⟩
  · rintro ⟨h1, h7, h2, h3, h4, h5, h6⟩; exact ⟨⟨h1, h2, h3, h4, h5, h6⟩, h7⟩

end Go.Proofs.YtgelbkgkjkeccaaGreatDoor
