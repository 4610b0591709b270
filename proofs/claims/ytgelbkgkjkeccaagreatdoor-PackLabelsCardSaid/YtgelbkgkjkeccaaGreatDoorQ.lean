/- The statements' own book: LightSpec, and the likenesses. -/
import Derived.Test.YtgelbkgkjkeccaaGreatDoorP
namespace Go.Proofs.YtgelbkgkjkeccaaGreatDoor
open Go.RowKit

def lightC (c : CtrD) : Bool := decide (c.name.size ≤ 100) && decide (c.image.size ≤ 100) && decide (c.ports.length ≤ 10)
def lightL (x : LabelD) : Bool := decide (x.key.size ≤ 100) && decide (x.val.size ≤ 100)
def lightS (s : SpecD) : Bool := decide (s.name.size ≤ 100) && decide (s.labels.length ≤ 10) && decide (s.inits.length ≤ 8) && decide (s.mains.length ≤ 8) && s.labels.all lightL && s.inits.all lightC && s.mains.all lightC
theorem lightS_ok {s : SpecD} (h : lightS s = true) : SpecOk s := by
  simp only [lightS, Bool.and_eq_true, decide_eq_true_eq, List.all_eq_true] at h
  obtain ⟨⟨⟨⟨⟨⟨h1, h2⟩, h3⟩, h4⟩, h5⟩, h6⟩, h7⟩ := h
  refine ⟨by omega, fun x hx => ?_, by omega, ⟨by omega, fun c hc => ?_⟩, ⟨by omega, fun c hc => ?_⟩⟩
  · have := h5 x hx; simp only [lightL, Bool.and_eq_true, decide_eq_true_eq] at this; omega
  · have := h6 c hc; simp only [lightC, Bool.and_eq_true, decide_eq_true_eq] at this; exact ⟨by omega, by omega, by omega⟩
  · have := h7 c hc; simp only [lightC, Bool.and_eq_true, decide_eq_true_eq] at this; exact ⟨by omega, by omega, by omega⟩

set_option maxHeartbeats 2000000 in
set_option maxRecDepth 100000 in
theorem lightCs_any (I : Nat → Prop) (v : Value) (l : List CtrD) (w : World) (h : ICtrs I w v l) (hl : l.length ≤ 1000000) :
    Calls Tryz.prog 112 #[v] w fun e w' => e = .returned (.bool (l.all lightC)) ∧ w' = w := by
  rcases h with ⟨rfl, a, c, rfl⟩ | ⟨h0, b, off, c, rfl, hc, hI, hr⟩
  · go_enter Tryz.func112, Tryz.ntmps112
    go_wp2
    go_loop [3] (fun i => i = .int .i64 0) (fun _ => 0)
    case atStart => exact rfl
    case round =>
      obtain rfl := hrel
      go_wp2
      go_ret
      exact ⟨rfl, rfl⟩
  · go_enter Tryz.func112, Tryz.ntmps112
    go_wp2
    go_loop [3] (fun i => ∃ k : Nat, k ≤ l.length ∧ i = .int .i64 k ∧ l.all lightC = (l.drop k).all lightC) (fun i => l.length - (intOf i).toNat)
    case atStart => exact ⟨0, Nat.zero_le _, rfl, rfl⟩
    case round =>
      obtain ⟨k, hk, rfl, hd⟩ := hrel
      have HD := Lib.hid hd; clear hd
      by_cases hlt : k < l.length
      · obtain ⟨q, hq, hcell⟩ := hr k hlt
        obtain ⟨qa, qc, rfl⟩ := hq.form
        have HS : Hid (l.all lightC = (lightC l[k] && (l.drop (k + 1)).all lightC)) := by rw [HD.out, List.drop_eq_getElem_cons hlt]; rfl
        have c0 := hcell 0 _ rfl
        have c1 := hcell 1 _ rfl
        have c8 := hcell 8 _ rfl
        rw [Nat.add_zero] at c0
        clear hr hcell
        by_cases hn : l[k].name.size ≤ 100
        · by_cases hi : l[k].image.size ≤ 100
          · by_cases hp : l[k].ports.length ≤ 10
            · have HE : Hid (lightC l[k] = true) := Lib.hid (by simp [lightC, hn, hi, hp])
              go_wp2
              go_round
              case rel => exact ⟨k + 1, hlt, by go_num, by rw [HS.out, HE.out]; rfl⟩
              case measure => simp [intOf]; omega
            · have HE : Hid (lightC l[k] = false) := Lib.hid (by simp [lightC, hp])
              go_wp2
              go_ret
              exact ⟨by rw [HS.out, HE.out]; rfl, rfl⟩
          · have HE : Hid (lightC l[k] = false) := Lib.hid (by simp [lightC, hi])
            go_wp2
            go_ret
            exact ⟨by rw [HS.out, HE.out]; rfl, rfl⟩
        · have HE : Hid (lightC l[k] = false) := Lib.hid (by simp [lightC, hn])
          go_wp2
          go_ret
          exact ⟨by rw [HS.out, HE.out]; rfl, rfl⟩
      · have HZ : Hid (l.drop k = []) := List.drop_of_length_le (by omega)
        clear hr
        go_wp2
        go_ret
        exact ⟨by rw [HD.out, HZ.out]; rfl, rfl⟩

set_option maxHeartbeats 4000000 in
set_option maxRecDepth 100000 in
theorem Light_any (I : Nat → Prop) (s : SpecD) (la ia ma : Option Addr) (lc ic mc : Nat) (w : World) (h : ISpec I w s (.slice la s.labels.length lc) (.slice ia s.inits.length ic) (.slice ma s.mains.length mc)) :
    Calls Tryz.prog 25 #[specV s (.slice la s.labels.length lc) (.slice ia s.inits.length ic) (.slice ma s.mains.length mc)] w fun e w' => e = .returned (.bool (lightS s)) ∧ Below w.heap.size w w' := by
  have hnew : ∀ (A B C D E : Bool) (F G : Bool), Hid (lightS s = (A && B && C && D && E && F && G)) → True := fun _ _ _ _ _ _ _ _ => trivial
  clear hnew
  obtain ⟨hL, hi, hm⟩ := h
  have HB : Hid (Below w.heap.size w (w.alloc (.cells #[.string s.name, .slice la s.labels.length lc, .slice ia s.inits.length ic, .slice ma s.mains.length mc, .int .i64 s.restart, .int .i64 s.grace, .int .i64 s.prio] 25))) := bnew _ _
  by_cases h1 : s.name.size ≤ 100
  · by_cases h2 : s.labels.length ≤ 10
    · by_cases h3 : s.inits.length ≤ 8
      · by_cases h4 : s.mains.length ≤ 8
        · have HE : Hid (lightS s = (s.labels.all lightL && (s.inits.all lightC && s.mains.all lightC))) := Lib.hid (by simp [lightS, h1, h2, h3, h4, Bool.and_assoc])
          have hi' := hi.below HB.out
          have hm' := hm.below HB.out
          have hEnd : Hid (s.labels.all lightL = (s.labels.drop 0).all lightL) := Lib.hid rfl
          rcases hL with ⟨hl0, _⟩ | ⟨h0, b, off, c, hv, hc, hI, hr⟩
          · have HL : Hid (s.labels.all lightL = true) := Lib.hid (by rw [hl0]; rfl)
            have HZ0 : Hid (s.labels.length = 0) := Lib.hid (by rw [hl0]; rfl)
            clear hl0
            go_enter Tryz.func25, Tryz.ntmps25
            go_wp2
            go_loop [4] (fun i => ∃ k : Nat, k ≤ s.labels.length ∧ i = .int .i64 k) (fun _ => 0)
            case atStart => exact ⟨0, Nat.zero_le _, rfl⟩
            case round =>
              obtain ⟨k, hk, rfl⟩ := hrel
              have hlt : ¬ k < s.labels.length := by have := HZ0.out; omega
              cases hq : s.inits.all lightC with
              | false =>
                have HQ := Lib.hid hq; clear hq
                go_wp2_with (go_at_call 112; refine (lightCs_any I (.slice ia s.inits.length ic) s.inits _ hi' (by omega)).mono ?_; rw [HQ.out]; rintro e w1 ⟨rfl, rfl⟩)
                go_ret
                exact ⟨by rw [HE.out, HL.out, HQ.out]; rfl, HB.out⟩
              | true =>
                have HQ := Lib.hid hq; clear hq
                go_wp2_with (first | (go_at_call 112; have g := hg1; refine (lightCs_any I (.slice ma s.mains.length mc) s.mains _ hm' (by omega)).mono ?_; rintro e w1 ⟨rfl, rfl⟩) | (go_at_call 112; refine (lightCs_any I (.slice ia s.inits.length ic) s.inits _ hi' (by omega)).mono ?_; rw [HQ.out]; rintro e w1 ⟨rfl, rfl⟩; have hg1 := True.intro))
                go_ret
                exact ⟨by rw [HE.out, HL.out, HQ.out]; rfl, HB.out⟩
          · injection hv with hv1 _ hv2
            subst hv1 hv2
            have hr' : ∀ j (h : j < s.labels.length), (w.alloc (.cells #[.string s.name, .slice (some ⟨b, off, none⟩) s.labels.length lc, .slice ia s.inits.length ic, .slice ma s.mains.length mc, .int .i64 s.restart, .int .i64 s.grace, .int .i64 s.prio] 25)).cell? ⟨b, off + j * 2, none⟩ = some (.string s.labels[j].key) ∧ (w.alloc (.cells #[.string s.name, .slice (some ⟨b, off, none⟩) s.labels.length lc, .slice ia s.inits.length ic, .slice ma s.mains.length mc, .int .i64 s.restart, .int .i64 s.grace, .int .i64 s.prio] 25)).cell? ⟨b, off + j * 2 + 1, none⟩ = some (.string s.labels[j].val) := fun j hj => ⟨cell_push (hr j hj).1, cell_push (hr j hj).2⟩
            go_enter Tryz.func25, Tryz.ntmps25
            go_wp2
            go_loop [4] (fun i => ∃ k : Nat, k ≤ s.labels.length ∧ i = .int .i64 k ∧ s.labels.all lightL = (s.labels.drop k).all lightL) (fun i => s.labels.length - (intOf i).toNat)
            case atStart => exact ⟨0, Nat.zero_le _, rfl, rfl⟩
            case round =>
              obtain ⟨k, hk, rfl, hd⟩ := hrel
              have HD := Lib.hid hd; clear hd
              by_cases hlt : k < s.labels.length
              · obtain ⟨c0, c1⟩ := hr' k hlt
                have HS : Hid (s.labels.all lightL = (lightL s.labels[k] && (s.labels.drop (k + 1)).all lightL)) := by rw [HD.out, List.drop_eq_getElem_cons hlt]; rfl
                clear hr hr'
                by_cases hn : s.labels[k].key.size ≤ 100
                · by_cases hi : s.labels[k].val.size ≤ 100
                  · have HF : Hid (lightL s.labels[k] = true) := Lib.hid (by simp [lightL, hn, hi])
                    go_wp2
                    go_round
                    case rel => exact ⟨k + 1, hlt, by go_num, by rw [HS.out, HF.out]; rfl⟩
                    case measure => simp [intOf]; omega
                  · have HF : Hid (lightL s.labels[k] = false) := Lib.hid (by simp [lightL, hi])
                    go_wp2
                    go_ret
                    exact ⟨by rw [HE.out, HS.out, HF.out]; rfl, HB.out⟩
                · have HF : Hid (lightL s.labels[k] = false) := Lib.hid (by simp [lightL, hn])
                  go_wp2
                  go_ret
                  exact ⟨by rw [HE.out, HS.out, HF.out]; rfl, HB.out⟩
              · have HZ : Hid (s.labels.drop k = []) := List.drop_of_length_le (by omega)
                have HL : Hid (s.labels.all lightL = true) := Lib.hid (by rw [HD.out, HZ.out]; rfl)
                clear hr hr'
                cases hq : s.inits.all lightC with
                | false =>
                  have HQ := Lib.hid hq; clear hq
                  go_wp2_with (go_at_call 112; refine (lightCs_any I (.slice ia s.inits.length ic) s.inits _ hi' (by omega)).mono ?_; rw [HQ.out]; rintro e w1 ⟨rfl, rfl⟩)
                  go_ret
                  exact ⟨by rw [HE.out, HL.out, HQ.out]; rfl, HB.out⟩
                | true =>
                  have HQ := Lib.hid hq; clear hq
                  go_wp2_with (first | (go_at_call 112; have g := hg1; refine (lightCs_any I (.slice ma s.mains.length mc) s.mains _ hm' (by omega)).mono ?_; rintro e w1 ⟨rfl, rfl⟩) | (go_at_call 112; refine (lightCs_any I (.slice ia s.inits.length ic) s.inits _ hi' (by omega)).mono ?_; rw [HQ.out]; rintro e w1 ⟨rfl, rfl⟩; have hg1 := True.intro))
                  go_ret
                  exact ⟨by rw [HE.out, HL.out, HQ.out]; rfl, HB.out⟩
        · have HE : Hid (lightS s = false) := Lib.hid (by simp [lightS, h4])
          go_enter Tryz.func25, Tryz.ntmps25
          go_wp2
          go_ret
          exact ⟨by rw [HE.out]; rfl, HB.out⟩
      · have HE : Hid (lightS s = false) := Lib.hid (by simp [lightS, h3])
        go_enter Tryz.func25, Tryz.ntmps25
        go_wp2
        go_ret
        exact ⟨by rw [HE.out]; rfl, HB.out⟩
    · have HE : Hid (lightS s = false) := Lib.hid (by simp [lightS, h2])
      go_enter Tryz.func25, Tryz.ntmps25
      go_wp2
      go_ret
      exact ⟨by rw [HE.out]; rfl, HB.out⟩
  · have HE : Hid (lightS s = false) := Lib.hid (by simp [lightS, h1])
    go_enter Tryz.func25, Tryz.ntmps25
    go_wp2
    go_ret
    exact ⟨by rw [HE.out]; rfl, HB.out⟩
end Go.Proofs.YtgelbkgkjkeccaaGreatDoor
