/- Likenesses of specs: SameSpec of the statements' own book; package spec's Same; the document's Ports; Below. -/
import Derived.Test.YtgelbkgkjkeccaaGreatDoorZA
namespace Go.Proofs.YtgelbkgkjkeccaaGreatDoor
open Go.RowKit

def sameSB (a b : SpecD) : Bool := (a.name.toList == b.name.toList) && (decide (a.labels = b.labels) && (decide (a.inits = b.inits) && (decide (a.mains = b.mains) && ((a.restart == b.restart) && ((a.grace == b.grace) && (a.prio == b.prio))))))
theorem sameSB_iff (a b : SpecD) : sameSB a b = decide (a = b) := by
  unfold sameSB
  rw [toList_beq, Bool.eq_iff_iff]
  cases a; cases b
  simp

set_option maxHeartbeats 8000000 in
set_option maxRecDepth 100000 in
theorem specSameSpec_bool (I J : Nat → Prop) (a b : SpecD) (la ia ma lb ib mb : Option Addr) (lc ic mc kc jc nc : Nat) (w : World) (ha : ISpec I w a (.slice la a.labels.length lc) (.slice ia a.inits.length ic) (.slice ma a.mains.length mc)) (hb : ISpec J w b (.slice lb b.labels.length kc) (.slice ib b.inits.length jc) (.slice mb b.mains.length nc)) (oa : SpecOk a) (ob : SpecOk b) :
    Calls Tryz.prog 28 #[specV a (.slice la a.labels.length lc) (.slice ia a.inits.length ic) (.slice ma a.mains.length mc), specV b (.slice lb b.labels.length kc) (.slice ib b.inits.length jc) (.slice mb b.mains.length nc)] w fun e w' => e = .returned (.bool (sameSB a b)) ∧ Below w.heap.size w w' := by
  have HW := Lib.hid (bto (bnew w (.cells #[.string a.name, .slice la a.labels.length lc, .slice ia a.inits.length ic, .slice ma a.mains.length mc, .int .i64 a.restart, .int .i64 a.grace, .int .i64 a.prio] 25)) (bnew _ (.cells #[.string b.name, .slice lb b.labels.length kc, .slice ib b.inits.length jc, .slice mb b.mains.length nc, .int .i64 b.restart, .int .i64 b.grace, .int .i64 b.prio] 25)))
  have HA := Lib.hid (ha.below HW.out)
  have HB := Lib.hid (hb.below HW.out)
  have OA := oa
  have OB := ob
  have hnl := oa.nlabs
  clear ha hb
  cases h1 : (a.name.toList == b.name.toList) with
  | false =>
    have HE : Hid (sameSB a b = false) := Lib.hid (by unfold sameSB; rw [h1]; rfl)
    go_enter Tryz.func28, Tryz.ntmps28
    go_wp2
    go_ret
    exact ⟨by rw [HE.out]; rfl, HW.out⟩
  | true =>
    cases h2 : decide (a.labels = b.labels) with
    | false =>
      have HE : Hid (sameSB a b = false) := Lib.hid (by unfold sameSB; rw [h1, h2]; rfl)
      have H2 := Lib.hid h2
      clear h2
      go_enter Tryz.func28, Tryz.ntmps28
      go_wp2_with (first | (go_at_call 54; refine (sameLabs_any I J _ _ _ _ _ _ _ HA.out.labs HB.out.labs (by omega)).mono ?_; rw [H2.out]; rintro e w2 ⟨rfl, hb2⟩; have HB2 := Lib.hid hb2; obtain ⟨hc2, hf2⟩ := bcell hb2; have hz2 : w.heap.size + 1 < w2.heap.size := (by have := hb2.size; simp at this; omega); have hy2 : w.heap.size < w2.heap.size := (by omega); clear hb2))
      go_ret
      exact ⟨by rw [HE.out]; rfl, bto HW.out HB2.out⟩
    | true =>
      cases h3 : decide (a.inits = b.inits) with
      | false =>
        have HE : Hid (sameSB a b = false) := Lib.hid (by unfold sameSB; rw [h1, h2, h3]; rfl)
        have H2 := Lib.hid h2
        clear h2
        have H3 := Lib.hid h3
        clear h3
        go_enter Tryz.func28, Tryz.ntmps28
        go_wp2_with (first | (go_at_call 116; refine (sameCtrs_any I J _ _ _ _ _ _ _ (HA.out.inits.below HB2.out) (HB.out.inits.below HB2.out) OA.inits).mono ?_; rw [H3.out]; rintro e w3 ⟨rfl, hb3⟩; have HB3 := Lib.hid hb3; obtain ⟨hc3, hf3⟩ := bcell hb3; have hz3 : w.heap.size + 1 < w3.heap.size := (by have := hb3.size; omega); have hy3 : w.heap.size < w3.heap.size := (by omega); clear hb3; have hg1 := True.intro) | (go_at_call 54; refine (sameLabs_any I J _ _ _ _ _ _ _ HA.out.labs HB.out.labs (by omega)).mono ?_; rw [H2.out]; rintro e w2 ⟨rfl, hb2⟩; have HB2 := Lib.hid hb2; obtain ⟨hc2, hf2⟩ := bcell hb2; have hz2 : w.heap.size + 1 < w2.heap.size := (by have := hb2.size; simp at this; omega); have hy2 : w.heap.size < w2.heap.size := (by omega); clear hb2))
        go_ret
        exact ⟨by rw [HE.out]; rfl, bto (bto HW.out HB2.out) HB3.out⟩
      | true =>
        cases h4 : decide (a.mains = b.mains) with
        | false =>
          have HE : Hid (sameSB a b = false) := Lib.hid (by unfold sameSB; rw [h1, h2, h3, h4]; rfl)
          have H2 := Lib.hid h2
          clear h2
          have H3 := Lib.hid h3
          clear h3
          have H4 := Lib.hid h4
          clear h4
          go_enter Tryz.func28, Tryz.ntmps28
          go_wp2_with (first | (go_at_call 116; have hg := hg1; refine (sameCtrs_any I J _ _ _ _ _ _ _ ((HA.out.mains.below HB2.out).below HB3.out) ((HB.out.mains.below HB2.out).below HB3.out) OA.mains).mono ?_; rw [H4.out]; rintro e w4 ⟨rfl, hb4⟩; have HB4 := Lib.hid hb4; obtain ⟨hc4, hf4⟩ := bcell hb4; have hz4 : w.heap.size + 1 < w4.heap.size := (by have := hb4.size; omega); have hy4 : w.heap.size < w4.heap.size := (by omega); clear hb4) | (go_at_call 116; refine (sameCtrs_any I J _ _ _ _ _ _ _ (HA.out.inits.below HB2.out) (HB.out.inits.below HB2.out) OA.inits).mono ?_; rw [H3.out]; rintro e w3 ⟨rfl, hb3⟩; have HB3 := Lib.hid hb3; obtain ⟨hc3, hf3⟩ := bcell hb3; have hz3 : w.heap.size + 1 < w3.heap.size := (by have := hb3.size; omega); have hy3 : w.heap.size < w3.heap.size := (by omega); clear hb3; have hg1 := True.intro) | (go_at_call 54; refine (sameLabs_any I J _ _ _ _ _ _ _ HA.out.labs HB.out.labs (by omega)).mono ?_; rw [H2.out]; rintro e w2 ⟨rfl, hb2⟩; have HB2 := Lib.hid hb2; obtain ⟨hc2, hf2⟩ := bcell hb2; have hz2 : w.heap.size + 1 < w2.heap.size := (by have := hb2.size; simp at this; omega); have hy2 : w.heap.size < w2.heap.size := (by omega); clear hb2))
          go_ret
          exact ⟨by rw [HE.out]; rfl, bto (bto (bto HW.out HB2.out) HB3.out) HB4.out⟩
        | true =>
          cases i1 : (a.restart == b.restart) with
          | false =>
            have HE : Hid (sameSB a b = false) := Lib.hid (by unfold sameSB; rw [h1, h2, h3, h4, i1]; rfl)
            have H2 := Lib.hid h2
            clear h2
            have H3 := Lib.hid h3
            clear h3
            have H4 := Lib.hid h4
            clear h4
            go_enter Tryz.func28, Tryz.ntmps28
            go_wp2_with (first | (go_at_call 116; have hg := hg1; refine (sameCtrs_any I J _ _ _ _ _ _ _ ((HA.out.mains.below HB2.out).below HB3.out) ((HB.out.mains.below HB2.out).below HB3.out) OA.mains).mono ?_; rw [H4.out]; rintro e w4 ⟨rfl, hb4⟩; have HB4 := Lib.hid hb4; obtain ⟨hc4, hf4⟩ := bcell hb4; have hz4 : w.heap.size + 1 < w4.heap.size := (by have := hb4.size; omega); have hy4 : w.heap.size < w4.heap.size := (by omega); clear hb4) | (go_at_call 116; refine (sameCtrs_any I J _ _ _ _ _ _ _ (HA.out.inits.below HB2.out) (HB.out.inits.below HB2.out) OA.inits).mono ?_; rw [H3.out]; rintro e w3 ⟨rfl, hb3⟩; have HB3 := Lib.hid hb3; obtain ⟨hc3, hf3⟩ := bcell hb3; have hz3 : w.heap.size + 1 < w3.heap.size := (by have := hb3.size; omega); have hy3 : w.heap.size < w3.heap.size := (by omega); clear hb3; have hg1 := True.intro) | (go_at_call 54; refine (sameLabs_any I J _ _ _ _ _ _ _ HA.out.labs HB.out.labs (by omega)).mono ?_; rw [H2.out]; rintro e w2 ⟨rfl, hb2⟩; have HB2 := Lib.hid hb2; obtain ⟨hc2, hf2⟩ := bcell hb2; have hz2 : w.heap.size + 1 < w2.heap.size := (by have := hb2.size; simp at this; omega); have hy2 : w.heap.size < w2.heap.size := (by omega); clear hb2))
            go_ret
            exact ⟨by rw [HE.out]; rfl, bto (bto (bto HW.out HB2.out) HB3.out) HB4.out⟩
          | true =>
            cases i2 : (a.grace == b.grace) with
            | false =>
              have HE : Hid (sameSB a b = false) := Lib.hid (by unfold sameSB; rw [h1, h2, h3, h4, i1, i2]; rfl)
              have H2 := Lib.hid h2
              clear h2
              have H3 := Lib.hid h3
              clear h3
              have H4 := Lib.hid h4
              clear h4
              go_enter Tryz.func28, Tryz.ntmps28
              go_wp2_with (first | (go_at_call 116; have hg := hg1; refine (sameCtrs_any I J _ _ _ _ _ _ _ ((HA.out.mains.below HB2.out).below HB3.out) ((HB.out.mains.below HB2.out).below HB3.out) OA.mains).mono ?_; rw [H4.out]; rintro e w4 ⟨rfl, hb4⟩; have HB4 := Lib.hid hb4; obtain ⟨hc4, hf4⟩ := bcell hb4; have hz4 : w.heap.size + 1 < w4.heap.size := (by have := hb4.size; omega); have hy4 : w.heap.size < w4.heap.size := (by omega); clear hb4) | (go_at_call 116; refine (sameCtrs_any I J _ _ _ _ _ _ _ (HA.out.inits.below HB2.out) (HB.out.inits.below HB2.out) OA.inits).mono ?_; rw [H3.out]; rintro e w3 ⟨rfl, hb3⟩; have HB3 := Lib.hid hb3; obtain ⟨hc3, hf3⟩ := bcell hb3; have hz3 : w.heap.size + 1 < w3.heap.size := (by have := hb3.size; omega); have hy3 : w.heap.size < w3.heap.size := (by omega); clear hb3; have hg1 := True.intro) | (go_at_call 54; refine (sameLabs_any I J _ _ _ _ _ _ _ HA.out.labs HB.out.labs (by omega)).mono ?_; rw [H2.out]; rintro e w2 ⟨rfl, hb2⟩; have HB2 := Lib.hid hb2; obtain ⟨hc2, hf2⟩ := bcell hb2; have hz2 : w.heap.size + 1 < w2.heap.size := (by have := hb2.size; simp at this; omega); have hy2 : w.heap.size < w2.heap.size := (by omega); clear hb2))
              go_ret
              exact ⟨by rw [HE.out]; rfl, bto (bto (bto HW.out HB2.out) HB3.out) HB4.out⟩
            | true =>
              cases i3 : (a.prio == b.prio) with
              | false =>
                have HE : Hid (sameSB a b = false) := Lib.hid (by unfold sameSB; rw [h1, h2, h3, h4, i1, i2, i3]; rfl)
                have H2 := Lib.hid h2
                clear h2
                have H3 := Lib.hid h3
                clear h3
                have H4 := Lib.hid h4
                clear h4
                go_enter Tryz.func28, Tryz.ntmps28
                go_wp2_with (first | (go_at_call 116; have hg := hg1; refine (sameCtrs_any I J _ _ _ _ _ _ _ ((HA.out.mains.below HB2.out).below HB3.out) ((HB.out.mains.below HB2.out).below HB3.out) OA.mains).mono ?_; rw [H4.out]; rintro e w4 ⟨rfl, hb4⟩; have HB4 := Lib.hid hb4; obtain ⟨hc4, hf4⟩ := bcell hb4; have hz4 : w.heap.size + 1 < w4.heap.size := (by have := hb4.size; omega); have hy4 : w.heap.size < w4.heap.size := (by omega); clear hb4) | (go_at_call 116; refine (sameCtrs_any I J _ _ _ _ _ _ _ (HA.out.inits.below HB2.out) (HB.out.inits.below HB2.out) OA.inits).mono ?_; rw [H3.out]; rintro e w3 ⟨rfl, hb3⟩; have HB3 := Lib.hid hb3; obtain ⟨hc3, hf3⟩ := bcell hb3; have hz3 : w.heap.size + 1 < w3.heap.size := (by have := hb3.size; omega); have hy3 : w.heap.size < w3.heap.size := (by omega); clear hb3; have hg1 := True.intro) | (go_at_call 54; refine (sameLabs_any I J _ _ _ _ _ _ _ HA.out.labs HB.out.labs (by omega)).mono ?_; rw [H2.out]; rintro e w2 ⟨rfl, hb2⟩; have HB2 := Lib.hid hb2; obtain ⟨hc2, hf2⟩ := bcell hb2; have hz2 : w.heap.size + 1 < w2.heap.size := (by have := hb2.size; simp at this; omega); have hy2 : w.heap.size < w2.heap.size := (by omega); clear hb2))
                go_ret
                exact ⟨by rw [HE.out]; rfl, bto (bto (bto HW.out HB2.out) HB3.out) HB4.out⟩
              | true =>
                have HE : Hid (sameSB a b = true) := Lib.hid (by unfold sameSB; rw [h1, h2, h3, h4, i1, i2, i3]; rfl)
                have H2 := Lib.hid h2
                clear h2
                have H3 := Lib.hid h3
                clear h3
                have H4 := Lib.hid h4
                clear h4
                go_enter Tryz.func28, Tryz.ntmps28
                go_wp2_with (first | (go_at_call 116; have hg := hg1; refine (sameCtrs_any I J _ _ _ _ _ _ _ ((HA.out.mains.below HB2.out).below HB3.out) ((HB.out.mains.below HB2.out).below HB3.out) OA.mains).mono ?_; rw [H4.out]; rintro e w4 ⟨rfl, hb4⟩; have HB4 := Lib.hid hb4; obtain ⟨hc4, hf4⟩ := bcell hb4; have hz4 : w.heap.size + 1 < w4.heap.size := (by have := hb4.size; omega); have hy4 : w.heap.size < w4.heap.size := (by omega); clear hb4) | (go_at_call 116; refine (sameCtrs_any I J _ _ _ _ _ _ _ (HA.out.inits.below HB2.out) (HB.out.inits.below HB2.out) OA.inits).mono ?_; rw [H3.out]; rintro e w3 ⟨rfl, hb3⟩; have HB3 := Lib.hid hb3; obtain ⟨hc3, hf3⟩ := bcell hb3; have hz3 : w.heap.size + 1 < w3.heap.size := (by have := hb3.size; omega); have hy3 : w.heap.size < w3.heap.size := (by omega); clear hb3; have hg1 := True.intro) | (go_at_call 54; refine (sameLabs_any I J _ _ _ _ _ _ _ HA.out.labs HB.out.labs (by omega)).mono ?_; rw [H2.out]; rintro e w2 ⟨rfl, hb2⟩; have HB2 := Lib.hid hb2; obtain ⟨hc2, hf2⟩ := bcell hb2; have hz2 : w.heap.size + 1 < w2.heap.size := (by have := hb2.size; simp at this; omega); have hy2 : w.heap.size < w2.heap.size := (by omega); clear hb2))
                go_ret
                exact ⟨by rw [HE.out]; rfl, bto (bto (bto HW.out HB2.out) HB3.out) HB4.out⟩
theorem specSameSpec_any (I J : Nat → Prop) (a b : SpecD) (la ia ma lb ib mb : Option Addr) (lc ic mc kc jc nc : Nat) (w : World) (ha : ISpec I w a (.slice la a.labels.length lc) (.slice ia a.inits.length ic) (.slice ma a.mains.length mc)) (hb : ISpec J w b (.slice lb b.labels.length kc) (.slice ib b.inits.length jc) (.slice mb b.mains.length nc)) (oa : SpecOk a) (ob : SpecOk b) :
    Calls Tryz.prog 28 #[specV a (.slice la a.labels.length lc) (.slice ia a.inits.length ic) (.slice ma a.mains.length mc), specV b (.slice lb b.labels.length kc) (.slice ib b.inits.length jc) (.slice mb b.mains.length nc)] w fun e w' => e = .returned (.bool (decide (a = b))) ∧ Below w.heap.size w w' := by
  rw [← sameSB_iff]
  exact specSameSpec_bool I J a b la ia ma lb ib mb lc ic mc kc jc nc w ha hb oa ob

set_option maxHeartbeats 8000000 in
set_option maxRecDepth 100000 in
theorem specSame_bool (I J : Nat → Prop) (a b : SpecD) (la ia ma lb ib mb : Option Addr) (lc ic mc kc jc nc : Nat) (w : World) (ha : ISpec I w a (.slice la a.labels.length lc) (.slice ia a.inits.length ic) (.slice ma a.mains.length mc)) (hb : ISpec J w b (.slice lb b.labels.length kc) (.slice ib b.inits.length jc) (.slice mb b.mains.length nc)) (oa : SpecOk a) (ob : SpecOk b) :
    Calls Tryz.prog 32 #[specV a (.slice la a.labels.length lc) (.slice ia a.inits.length ic) (.slice ma a.mains.length mc), specV b (.slice lb b.labels.length kc) (.slice ib b.inits.length jc) (.slice mb b.mains.length nc)] w fun e w' => e = .returned (.bool (sameSB a b)) ∧ Below w.heap.size w w' := by
  have HW := Lib.hid (bto (bnew w (.cells #[.string a.name, .slice la a.labels.length lc, .slice ia a.inits.length ic, .slice ma a.mains.length mc, .int .i64 a.restart, .int .i64 a.grace, .int .i64 a.prio] 25)) (bnew _ (.cells #[.string b.name, .slice lb b.labels.length kc, .slice ib b.inits.length jc, .slice mb b.mains.length nc, .int .i64 b.restart, .int .i64 b.grace, .int .i64 b.prio] 25)))
  have HA := Lib.hid (ha.below HW.out)
  have HB := Lib.hid (hb.below HW.out)
  have OA := oa
  have OB := ob
  have hnl := oa.nlabs
  clear ha hb
  cases h1 : (a.name.toList == b.name.toList) with
  | false =>
    have HE : Hid (sameSB a b = false) := Lib.hid (by unfold sameSB; rw [h1]; rfl)
    go_enter Tryz.func32, Tryz.ntmps32
    go_wp2
    go_ret
    exact ⟨by rw [HE.out]; rfl, HW.out⟩
  | true =>
    cases h2 : decide (a.labels = b.labels) with
    | false =>
      have HE : Hid (sameSB a b = false) := Lib.hid (by unfold sameSB; rw [h1, h2]; rfl)
      have H2 := Lib.hid h2
      clear h2
      go_enter Tryz.func32, Tryz.ntmps32
      go_wp2_with (first | (go_at_call 117; refine (equalLabs_any I J _ _ _ _ _ _ _ HA.out.labs HB.out.labs (by omega)).mono ?_; rw [H2.out]; rintro e w2 ⟨rfl, hb2⟩; have HB2 := Lib.hid hb2; obtain ⟨hc2, hf2⟩ := bcell hb2; have hz2 : w.heap.size + 1 < w2.heap.size := (by have := hb2.size; simp at this; omega); have hy2 : w.heap.size < w2.heap.size := (by omega); clear hb2))
      go_ret
      exact ⟨by rw [HE.out]; rfl, bto HW.out HB2.out⟩
    | true =>
      cases h3 : decide (a.inits = b.inits) with
      | false =>
        have HE : Hid (sameSB a b = false) := Lib.hid (by unfold sameSB; rw [h1, h2, h3]; rfl)
        have H2 := Lib.hid h2
        clear h2
        have H3 := Lib.hid h3
        clear h3
        go_enter Tryz.func32, Tryz.ntmps32
        go_wp2_with (first | (go_at_call 118; refine (each_any I J _ _ _ _ _ _ _ (HA.out.inits.below HB2.out) (HB.out.inits.below HB2.out) OA.inits OB.inits).mono ?_; rw [H3.out]; rintro e w3 ⟨rfl, hb3⟩; have HB3 := Lib.hid hb3; obtain ⟨hc3, hf3⟩ := bcell hb3; have hz3 : w.heap.size + 1 < w3.heap.size := (by have := hb3.size; omega); have hy3 : w.heap.size < w3.heap.size := (by omega); clear hb3; have hg1 := True.intro) | (go_at_call 117; refine (equalLabs_any I J _ _ _ _ _ _ _ HA.out.labs HB.out.labs (by omega)).mono ?_; rw [H2.out]; rintro e w2 ⟨rfl, hb2⟩; have HB2 := Lib.hid hb2; obtain ⟨hc2, hf2⟩ := bcell hb2; have hz2 : w.heap.size + 1 < w2.heap.size := (by have := hb2.size; simp at this; omega); have hy2 : w.heap.size < w2.heap.size := (by omega); clear hb2))
        go_ret
        exact ⟨by rw [HE.out]; rfl, bto (bto HW.out HB2.out) HB3.out⟩
      | true =>
        cases h4 : decide (a.mains = b.mains) with
        | false =>
          have HE : Hid (sameSB a b = false) := Lib.hid (by unfold sameSB; rw [h1, h2, h3, h4]; rfl)
          have H2 := Lib.hid h2
          clear h2
          have H3 := Lib.hid h3
          clear h3
          have H4 := Lib.hid h4
          clear h4
          go_enter Tryz.func32, Tryz.ntmps32
          go_wp2_with (first | (go_at_call 118; have hg := hg1; refine (each_any I J _ _ _ _ _ _ _ ((HA.out.mains.below HB2.out).below HB3.out) ((HB.out.mains.below HB2.out).below HB3.out) OA.mains OB.mains).mono ?_; rw [H4.out]; rintro e w4 ⟨rfl, hb4⟩; have HB4 := Lib.hid hb4; obtain ⟨hc4, hf4⟩ := bcell hb4; have hz4 : w.heap.size + 1 < w4.heap.size := (by have := hb4.size; omega); have hy4 : w.heap.size < w4.heap.size := (by omega); clear hb4) | (go_at_call 118; refine (each_any I J _ _ _ _ _ _ _ (HA.out.inits.below HB2.out) (HB.out.inits.below HB2.out) OA.inits OB.inits).mono ?_; rw [H3.out]; rintro e w3 ⟨rfl, hb3⟩; have HB3 := Lib.hid hb3; obtain ⟨hc3, hf3⟩ := bcell hb3; have hz3 : w.heap.size + 1 < w3.heap.size := (by have := hb3.size; omega); have hy3 : w.heap.size < w3.heap.size := (by omega); clear hb3; have hg1 := True.intro) | (go_at_call 117; refine (equalLabs_any I J _ _ _ _ _ _ _ HA.out.labs HB.out.labs (by omega)).mono ?_; rw [H2.out]; rintro e w2 ⟨rfl, hb2⟩; have HB2 := Lib.hid hb2; obtain ⟨hc2, hf2⟩ := bcell hb2; have hz2 : w.heap.size + 1 < w2.heap.size := (by have := hb2.size; simp at this; omega); have hy2 : w.heap.size < w2.heap.size := (by omega); clear hb2))
          go_ret
          exact ⟨by rw [HE.out]; rfl, bto (bto (bto HW.out HB2.out) HB3.out) HB4.out⟩
        | true =>
          cases i1 : (a.restart == b.restart) with
          | false =>
            have HE : Hid (sameSB a b = false) := Lib.hid (by unfold sameSB; rw [h1, h2, h3, h4, i1]; rfl)
            have H2 := Lib.hid h2
            clear h2
            have H3 := Lib.hid h3
            clear h3
            have H4 := Lib.hid h4
            clear h4
            go_enter Tryz.func32, Tryz.ntmps32
            go_wp2_with (first | (go_at_call 118; have hg := hg1; refine (each_any I J _ _ _ _ _ _ _ ((HA.out.mains.below HB2.out).below HB3.out) ((HB.out.mains.below HB2.out).below HB3.out) OA.mains OB.mains).mono ?_; rw [H4.out]; rintro e w4 ⟨rfl, hb4⟩; have HB4 := Lib.hid hb4; obtain ⟨hc4, hf4⟩ := bcell hb4; have hz4 : w.heap.size + 1 < w4.heap.size := (by have := hb4.size; omega); have hy4 : w.heap.size < w4.heap.size := (by omega); clear hb4) | (go_at_call 118; refine (each_any I J _ _ _ _ _ _ _ (HA.out.inits.below HB2.out) (HB.out.inits.below HB2.out) OA.inits OB.inits).mono ?_; rw [H3.out]; rintro e w3 ⟨rfl, hb3⟩; have HB3 := Lib.hid hb3; obtain ⟨hc3, hf3⟩ := bcell hb3; have hz3 : w.heap.size + 1 < w3.heap.size := (by have := hb3.size; omega); have hy3 : w.heap.size < w3.heap.size := (by omega); clear hb3; have hg1 := True.intro) | (go_at_call 117; refine (equalLabs_any I J _ _ _ _ _ _ _ HA.out.labs HB.out.labs (by omega)).mono ?_; rw [H2.out]; rintro e w2 ⟨rfl, hb2⟩; have HB2 := Lib.hid hb2; obtain ⟨hc2, hf2⟩ := bcell hb2; have hz2 : w.heap.size + 1 < w2.heap.size := (by have := hb2.size; simp at this; omega); have hy2 : w.heap.size < w2.heap.size := (by omega); clear hb2))
            go_ret
            exact ⟨by rw [HE.out]; rfl, bto (bto (bto HW.out HB2.out) HB3.out) HB4.out⟩
          | true =>
            cases i2 : (a.grace == b.grace) with
            | false =>
              have HE : Hid (sameSB a b = false) := Lib.hid (by unfold sameSB; rw [h1, h2, h3, h4, i1, i2]; rfl)
              have H2 := Lib.hid h2
              clear h2
              have H3 := Lib.hid h3
              clear h3
              have H4 := Lib.hid h4
              clear h4
              go_enter Tryz.func32, Tryz.ntmps32
              go_wp2_with (first | (go_at_call 118; have hg := hg1; refine (each_any I J _ _ _ _ _ _ _ ((HA.out.mains.below HB2.out).below HB3.out) ((HB.out.mains.below HB2.out).below HB3.out) OA.mains OB.mains).mono ?_; rw [H4.out]; rintro e w4 ⟨rfl, hb4⟩; have HB4 := Lib.hid hb4; obtain ⟨hc4, hf4⟩ := bcell hb4; have hz4 : w.heap.size + 1 < w4.heap.size := (by have := hb4.size; omega); have hy4 : w.heap.size < w4.heap.size := (by omega); clear hb4) | (go_at_call 118; refine (each_any I J _ _ _ _ _ _ _ (HA.out.inits.below HB2.out) (HB.out.inits.below HB2.out) OA.inits OB.inits).mono ?_; rw [H3.out]; rintro e w3 ⟨rfl, hb3⟩; have HB3 := Lib.hid hb3; obtain ⟨hc3, hf3⟩ := bcell hb3; have hz3 : w.heap.size + 1 < w3.heap.size := (by have := hb3.size; omega); have hy3 : w.heap.size < w3.heap.size := (by omega); clear hb3; have hg1 := True.intro) | (go_at_call 117; refine (equalLabs_any I J _ _ _ _ _ _ _ HA.out.labs HB.out.labs (by omega)).mono ?_; rw [H2.out]; rintro e w2 ⟨rfl, hb2⟩; have HB2 := Lib.hid hb2; obtain ⟨hc2, hf2⟩ := bcell hb2; have hz2 : w.heap.size + 1 < w2.heap.size := (by have := hb2.size; simp at this; omega); have hy2 : w.heap.size < w2.heap.size := (by omega); clear hb2))
              go_ret
              exact ⟨by rw [HE.out]; rfl, bto (bto (bto HW.out HB2.out) HB3.out) HB4.out⟩
            | true =>
              cases i3 : (a.prio == b.prio) with
              | false =>
                have HE : Hid (sameSB a b = false) := Lib.hid (by unfold sameSB; rw [h1, h2, h3, h4, i1, i2, i3]; rfl)
                have H2 := Lib.hid h2
                clear h2
                have H3 := Lib.hid h3
                clear h3
                have H4 := Lib.hid h4
                clear h4
                go_enter Tryz.func32, Tryz.ntmps32
                go_wp2_with (first | (go_at_call 118; have hg := hg1; refine (each_any I J _ _ _ _ _ _ _ ((HA.out.mains.below HB2.out).below HB3.out) ((HB.out.mains.below HB2.out).below HB3.out) OA.mains OB.mains).mono ?_; rw [H4.out]; rintro e w4 ⟨rfl, hb4⟩; have HB4 := Lib.hid hb4; obtain ⟨hc4, hf4⟩ := bcell hb4; have hz4 : w.heap.size + 1 < w4.heap.size := (by have := hb4.size; omega); have hy4 : w.heap.size < w4.heap.size := (by omega); clear hb4) | (go_at_call 118; refine (each_any I J _ _ _ _ _ _ _ (HA.out.inits.below HB2.out) (HB.out.inits.below HB2.out) OA.inits OB.inits).mono ?_; rw [H3.out]; rintro e w3 ⟨rfl, hb3⟩; have HB3 := Lib.hid hb3; obtain ⟨hc3, hf3⟩ := bcell hb3; have hz3 : w.heap.size + 1 < w3.heap.size := (by have := hb3.size; omega); have hy3 : w.heap.size < w3.heap.size := (by omega); clear hb3; have hg1 := True.intro) | (go_at_call 117; refine (equalLabs_any I J _ _ _ _ _ _ _ HA.out.labs HB.out.labs (by omega)).mono ?_; rw [H2.out]; rintro e w2 ⟨rfl, hb2⟩; have HB2 := Lib.hid hb2; obtain ⟨hc2, hf2⟩ := bcell hb2; have hz2 : w.heap.size + 1 < w2.heap.size := (by have := hb2.size; simp at this; omega); have hy2 : w.heap.size < w2.heap.size := (by omega); clear hb2))
                go_ret
                exact ⟨by rw [HE.out]; rfl, bto (bto (bto HW.out HB2.out) HB3.out) HB4.out⟩
              | true =>
                have HE : Hid (sameSB a b = true) := Lib.hid (by unfold sameSB; rw [h1, h2, h3, h4, i1, i2, i3]; rfl)
                have H2 := Lib.hid h2
                clear h2
                have H3 := Lib.hid h3
                clear h3
                have H4 := Lib.hid h4
                clear h4
                go_enter Tryz.func32, Tryz.ntmps32
                go_wp2_with (first | (go_at_call 118; have hg := hg1; refine (each_any I J _ _ _ _ _ _ _ ((HA.out.mains.below HB2.out).below HB3.out) ((HB.out.mains.below HB2.out).below HB3.out) OA.mains OB.mains).mono ?_; rw [H4.out]; rintro e w4 ⟨rfl, hb4⟩; have HB4 := Lib.hid hb4; obtain ⟨hc4, hf4⟩ := bcell hb4; have hz4 : w.heap.size + 1 < w4.heap.size := (by have := hb4.size; omega); have hy4 : w.heap.size < w4.heap.size := (by omega); clear hb4) | (go_at_call 118; refine (each_any I J _ _ _ _ _ _ _ (HA.out.inits.below HB2.out) (HB.out.inits.below HB2.out) OA.inits OB.inits).mono ?_; rw [H3.out]; rintro e w3 ⟨rfl, hb3⟩; have HB3 := Lib.hid hb3; obtain ⟨hc3, hf3⟩ := bcell hb3; have hz3 : w.heap.size + 1 < w3.heap.size := (by have := hb3.size; omega); have hy3 : w.heap.size < w3.heap.size := (by omega); clear hb3; have hg1 := True.intro) | (go_at_call 117; refine (equalLabs_any I J _ _ _ _ _ _ _ HA.out.labs HB.out.labs (by omega)).mono ?_; rw [H2.out]; rintro e w2 ⟨rfl, hb2⟩; have HB2 := Lib.hid hb2; obtain ⟨hc2, hf2⟩ := bcell hb2; have hz2 : w.heap.size + 1 < w2.heap.size := (by have := hb2.size; simp at this; omega); have hy2 : w.heap.size < w2.heap.size := (by omega); clear hb2))
                go_ret
                exact ⟨by rw [HE.out]; rfl, bto (bto (bto HW.out HB2.out) HB3.out) HB4.out⟩
theorem specSame_any (I J : Nat → Prop) (a b : SpecD) (la ia ma lb ib mb : Option Addr) (lc ic mc kc jc nc : Nat) (w : World) (ha : ISpec I w a (.slice la a.labels.length lc) (.slice ia a.inits.length ic) (.slice ma a.mains.length mc)) (hb : ISpec J w b (.slice lb b.labels.length kc) (.slice ib b.inits.length jc) (.slice mb b.mains.length nc)) (oa : SpecOk a) (ob : SpecOk b) :
    Calls Tryz.prog 32 #[specV a (.slice la a.labels.length lc) (.slice ia a.inits.length ic) (.slice ma a.mains.length mc), specV b (.slice lb b.labels.length kc) (.slice ib b.inits.length jc) (.slice mb b.mains.length nc)] w fun e w' => e = .returned (.bool (decide (a = b))) ∧ Below w.heap.size w w' := by
  rw [← sameSB_iff]
  exact specSame_bool I J a b la ia ma lb ib mb lc ic mc kc jc nc w ha hb oa ob

set_option maxHeartbeats 2000000 in
set_option maxRecDepth 100000 in
theorem refPorts_any (I : Nat → Prop) (s : SpecD) (lv iv : Value) (ma : Option Addr) (mc : Nat) (w : World) (hs : CtrsOk s.mains) (h : ICtrs I w (.slice ma s.mains.length mc) s.mains) :
    Calls Tryz.prog 31 #[specV s lv iv (.slice ma s.mains.length mc)] w (PortsPost w s.mains) := by
  obtain ⟨i0, hi0, hz0, hz1, hz2⟩ := info_parts info3
  have hm100 := hs.1
  have HL := Lib.hid (portsE_len s.mains fun c hc => (hs.2 c hc).2.2)
  have HP := Lib.hid (fun j (hj : j < s.mains.length) => (hs.2 _ (List.getElem_mem hj)).2.2)
  have HB0 := Lib.hid (bnew w (specBox s lv iv (.slice ma s.mains.length mc)))
  have HC0 : Hid ((w.alloc (specBox s lv iv (.slice ma s.mains.length mc))).heap[w.heap.size]? = some (.cells #[.string s.name, lv, iv, .slice ma s.mains.length mc, .int .i64 s.restart, .int .i64 s.grace, .int .i64 s.prio] 25 (0, 0))) := heap_alloc_new w _
  have hs0 : (w.alloc (specBox s lv iv (.slice ma s.mains.length mc))).heap.size = w.heap.size + 1 := by simp
  have HS0 := Lib.hid hs0
  clear hs0
  go_enter Tryz.func31, Tryz.ntmps31
  go_wp2
  go_loopw [4, 3] (fun i v wr => ∃ k : Nat, k ≤ s.mains.length ∧ i = .int .i64 k ∧ wr.ownsRow (w.heap.size + 1) 3 1 v (portsE (s.mains.take k)).length ((portsE (s.mains.take k)).map (.int .i64)) ∧ Below (w.heap.size + 1) (w.alloc (specBox s lv iv (.slice ma s.mains.length mc))) wr) (fun i _ _ => s.mains.length - (intOf i).toNat)
  case atStart => exact ⟨0, Nat.zero_le _, rfl, ⟨rfl, .inl ⟨rfl, rfl⟩⟩, Below.refl _ _⟩
  case round =>
    obtain ⟨k, hk, rfl, ho, hb⟩ := hrel
    have HO := Lib.hid ho
    have HB := Lib.hid hb
    have hsz : w.heap.size + 1 ≤ wr.heap.size := by have := hb.size; have := HS0.out; omega
    have hbx : wr.heap[w.heap.size]? = some (.cells #[.string s.name, lv, iv, .slice ma s.mains.length mc, .int .i64 s.restart, .int .i64 s.grace, .int .i64 s.prio] 25 (0, 0)) := (hb.block w.heap.size (by omega)).trans HC0.out
    have c3 : wr.cell? ⟨w.heap.size, 3, none⟩ = some (.slice ma s.mains.length mc) := by simp [World.cell?, hbx]
    have HBW : Hid (Below w.heap.size w wr) := bto HB0.out (by rw [HS0.out]; exact hb)
    clear hbx
    by_cases hlt : k < s.mains.length
    · obtain ⟨b, off, rfl, hc, hI, hr⟩ := h.at (by omega)
      obtain ⟨qa, qc, hq, hx⟩ := hr k hlt
      have q8 := keepc HBW.out (hx 8 _ rfl)
      have HT := Lib.hid (portsE_take s.mains k hlt)
      have hpk := HP.out k hlt
      have hlen : (portsE (s.mains.take k)).length ≤ 1000 * s.mains.length := by
        have := portsE_len (s.mains.take k) fun c hc => (hs.2 c (List.mem_of_mem_take hc)).2.2
        have h2 : (s.mains.take k).length ≤ s.mains.length := by simp; omega
        omega
      have HR := Lib.hid (hq.below HBW.out)
      clear hr hx hq ho hb h
      go_wp2_with (at_builtin; refine wpList_append_any _ rfl _ _ 31 rfl (w.heap.size + 1) 3 i0 _ 1 8 Tryz.underlying31 hi0 hz0 hz1 hz2 rfl (by omega) _ _ _ rfl HO.out _ _ _ _ _ rfl HR.out.reads (intsOne _) (by unfold maxLen; omega) (by omega) (by omega) ?_; intro v' w' hown' hgrow hat; have HN : Hid (w'.ownsRow (w.heap.size + 1) 3 1 v' (portsE (s.mains.take (k + 1))).length ((portsE (s.mains.take (k + 1))).map (.int .i64))) := (by rw [HT.out, List.length_append, List.map_append]; exact hown'); have HB2 : Hid (Below (w.heap.size + 1) (w.alloc (specBox s lv iv (.slice (some ⟨b, off, none⟩) s.mains.length mc))) w') := (HB.out.grown hgrow (by omega) (fun g hg => own_ge HO.out hg)); clear hown' hgrow hat)
      exact ⟨⟨k + 1, hlt, by go_num, HN.out, HB2.out⟩, by simp [intOf]; omega⟩
    · have hkk : k = s.mains.length := by omega
      subst hkk
      rw [List.take_length] at ho
      have HO := Lib.hid ho
      clear ho hb
      go_wp2
      go_ret
      refine ⟨_, rfl, ⟨HO.out.1, HO.out.2.imp_right ?_⟩, HBW.out⟩
      rintro ⟨g, cap, cur, hv, hg, r⟩
      exact ⟨g, cap, cur, hv, by omega, r⟩
set_option maxHeartbeats 1000000 in
/-- Below: a number from 0 to less than n. -/
theorem Below_any (x : Int) (n : Nat) (w : World) (hn : 0 < n) (hn2 : n ≤ 1000000) (h1 : -9223372036854775808 ≤ x) (h2 : x ≤ 9223372036854775807) :
    Calls Tryz.prog 36 #[.int .i64 x, .int .i64 n] w fun e w' => e = .returned (.int .i64 (x % n)) ∧ w = w' := by
  have hz : ((n : Int) == 0) = false := by simp; omega
  by_cases h0 : x.tmod n < 0
  · have he : x % n = x.tmod n + n := by
      rw [Int.emod_eq_tmod]
      have : ¬ 0 ≤ x := by
        intro h
        have := Int.tmod_nonneg n h
        omega
      rw [if_neg (by
        intro h
        rcases h with h | h
        · exact this h
        · have := Int.tmod_eq_zero_of_dvd h
          omega)]
      omega
    have HE := Lib.hid he
    clear he
    have b1 := Int.lt_tmod_of_pos x (show (0 : Int) < n by omega)
    go_enter Tryz.func36, Tryz.ntmps36
    go_wp2
    go_ret
    exact ⟨by rw [HE.out]; rfl, rfl⟩
  · have he : x % n = x.tmod n := by
      rw [Int.emod_eq_tmod]
      by_cases h : 0 ≤ x ∨ (n : Int) ∣ x
      · rw [if_pos h]; omega
      · exfalso
        have h3 : ¬ 0 ≤ x := fun k => h (.inl k)
        have h4 := Int.tmod_nonneg (a := -x) n (by omega)
        rw [Int.neg_tmod] at h4
        have h5 : x.tmod n = 0 := by omega
        exact h (.inr (Int.dvd_of_tmod_eq_zero h5))
    have HE := Lib.hid he
    clear he
    have b2 := Int.tmod_lt_of_pos x (show (0 : Int) < n by omega)
    go_enter Tryz.func36, Tryz.ntmps36
    go_wp2
    go_ret
    exact ⟨by rw [HE.out]; rfl, rfl⟩

end Go.Proofs.YtgelbkgkjkeccaaGreatDoor
