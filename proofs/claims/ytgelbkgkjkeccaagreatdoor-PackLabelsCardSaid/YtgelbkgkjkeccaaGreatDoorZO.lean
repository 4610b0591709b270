/- For every row of labels and every text the law PackLabels returns true and the arguments read behind it as they read before; it is said of a world in which errors.errorType and the table of marks hold what the program's own start lays there. -/
import Derived.Test.YtgelbkgkjkeccaaGreatDoorNGf
import Derived.Test.YtgelbkgkjkeccaaGreatDoorCards
import Derived.Test.YtgelbkgkjkeccaaGreatDoorZG
import Derived.Test.YtgelbkgkjkeccaaGreatDoorZI
import Derived.WalkKit
import Derived.ProofKit
import Derived.ShutString
import Derived.ChangeOld
import Derived.Below
import Derived.Carry
import Derived.SevenTiedAt
namespace Go.Proofs.YtgelbkgkjkeccaaGreatDoor.packLabelsDone
open Go.ChangeShapes Go.WideShapes Go.ChangeAt Go.RowKit
open Go.ChangeMaps (open_string shut_string)
set_option linter.unusedVariables false

set_option maxRecDepth 100000 in
theorem lifted (os : Os) (started : os.Started) (H : Type) (enc : TypeId × Value → H) :
    ReturnsInHanded {} Tryz.checked os 8 .any (fun w args => (Rows.packLabelsSpec.pre enc Tryz.prog Tryz.f8 [] false w args ∧ laidMetH Tryz.prog laid06 w) ∧ sizedMet enc Tryz.prog Tryz.f8 (OpenSpec.ofChange Rows.packLabelsSpec) false w args)
      (Rows.packLabelsSpec.post enc Tryz.prog Tryz.f8 false true false false) := by
  refine returnsInHanded_of_change_and (C := Tryz.checked) (X := fun w _ => laidMetH Tryz.prog laid06 w) (fun _ _ _ hh h => h.of_heap hh) own started (by kernel_rfl) Tryz.func8
    (ChangeSpec.witness_shaped (enc := enc) (C := Tryz.checked) (os := os) (X := fun w _ => laidMetH Tryz.prog laid06 w) false (World.doorLaid Tryz.prog 76 os) #[.slice none 0 0, .string ⟨#[]⟩] 8 rfl (World.shaped_of_RefB (by kernel_rfl) (by kernel_rfl)) (by kernel_rfl) (by kernel_rfl) (by kernel_rfl) (door_met06 os _)) ?_
  intro W base args ds gs before hval0 hW _ _ hL _
  have hval : ∀ (j : Nat) t v, Tryz.f8.params[j]? = some t → args[j]? = some v → Value.okWide Tryz.prog W .any base t v := hval0
  have hW' := hW
  obtain ⟨p, q, hA0, hV, rfl, hfz, hnd⟩ := hW
  have hA : DataW.TrodAll enc Tryz.prog W 0 (fun _ => true) true Tryz.f8.params.toList args.toList ds p := hA0
  rw [Tryz.params8] at hA hval
  obtain ⟨v0, vs0, d0, ds0, p0, q0, hargs, rfl, rfl, h0, r0⟩ := trodAll_cons hA
  obtain ⟨v1, vs1, d1, ds1, p1, q1, rfl, rfl, rfl, h1, r1⟩ := trodAll_cons r0
  obtain ⟨rfl, rfl, rfl⟩ := trodAll_nil r1
  obtain rfl : args = #[v0, v1] := by cases args; simp_all
  obtain ⟨rfl, rfl⟩ := trodVars_none hV
  have k0 := h0
  have lt0 : ∀ x ∈ p0, x.block < W.heap.size := by obtain ⟨m, hm⟩ := k0; exact DataW.trod_lt m _ _ _ hm
  obtain ⟨sa0, sn0, sc0, rfl⟩ := okWide_slice Tryz.underlying22 (hval 0 22 v0 rfl rfl)
  obtain ⟨l0, hl0, _, _⟩ : ∃ l : List LabelD, ILabs (· < W.heap.size) W (.slice sa0 sn0 sc0) l ∧ l.length ≤ maxLen ∧ ∀ p ∈ l, LabelWf p := by obtain ⟨fuel, hf⟩ := h0; exact open_labs hf
  obtain ⟨a0, c0, hf0⟩ := hl0.form
  injection hf0 with ea eb ec
  subst ea eb ec
  obtain ⟨n1, rfl, rfl, rfl, hn1⟩ := open_string Tryz.underlying9 (hval 1 9 v1 rfl rfl) h1
  obtain ⟨hmk, het⟩ := of_laid06 hL
  clear hA0 hval0
  refine (PackLabels_any l0 sa0 sc0 n1 W hl0 hmk het).mono fun e W' ⟨he, bel⟩ => ?_
  subst he
  exact ⟨_, rfl, _, _, _, [], _, [], hW', trodAll_mk1 (shut_bool Tryz.underlying4 _), (trodAll_cons_mk (Below.trod laidOut (by kernel_rfl) (of_decide_eq_true (by kernel_rfl)) k0 bel lt0) (trodAll_cons_mk (shut_string Tryz.underlying9 hn1) trodAll_mk0)), rfl, bel.frame _, fun h => by cases h⟩

set_option maxHeartbeats 4000000 in
set_option maxRecDepth 100000 in
theorem joined : joinedFacts Tryz.prog 8 Tryz.f8 Rows.packLabelsSpec Rows.packLabelsRow = true := by
  have e1 : (Rows.packLabelsRow.lifted == Tryz.prog.liftsFinal) = true := by rw [liftsFinal0]; rfl
  have e2 : (Tryz.prog.make == some Rows.packLabelsRow.make) = true := by rw [make0]; rfl
  unfold joinedFacts
  repeat' with_reducible refine band ?_ ?_
  all_goals first | with_reducible exact e1 | with_reducible exact e2 | with_reducible exact mayEnter0 | with_reducible exact laidOut | with_reducible exact mapsRowed0 | with_reducible exact stopsHeard0 | (as_aux_lemma => kernel_rfl)
set_option maxRecDepth 100000 in
theorem wrap0 : Tryz.f8.isWrapper Tryz.prog Rows.packLabelsRow.wrapper Rows.packLabelsRow.mainSum := by unfold Func.isWrapper; rw [if_neg (of_decide_eq_false (by kernel_rfl))]; exact ⟨rfl, rfl⟩
set_option maxRecDepth 100000 in
theorem over : Rows.packLabelsRow.holds Tryz.pinned (OpenSpec.ofChange Rows.packLabelsSpec) :=
  OpenClaim.holds_of_wide 8 Tryz.f8 rfl rfl rfl rfl rfl rfl rfl ⟨rfl, rfl, rfl, rfl, rfl⟩ rfl rfl rfl rfl rfl (by as_aux_lemma => kernel_rfl) Tryz.func8 joined
    (of_decide_eq_true (by as_aux_lemma => kernel_rfl)) wrap0
    (fun os started H enc _ => lifted os started H enc)

set_option maxRecDepth 100000 in
theorem card_holds : Rows.PackLabelsCardSaid :=
  Claim7.holds_tied_plain_at .later [] [.handle, .data] true (true, "932b68818b095cfce4192548f70b4c123030f6ad1d4310bbaf48271b6dd4ed1e") true
    over (fun _ h => by cases h) (by as_aux_lemma => kernel_rfl) (fun _ h => by cases h) packLabels_row_tie rfl ⟨rfl, rfl⟩ mainIs0 rfl
    (fun f fn hf hfn => by
      obtain rfl : f = 8 := Option.some.inj ((show Tryz.prog.funcNamed "provost/provostlaw07.PackLabels" = some 8 by kernel_rfl).symm.trans hf) |>.symm
      obtain rfl : fn = Tryz.f8 := (Option.some.inj (Tryz.func8.symm.trans hfn)).symm
      exact ⟨looks0, fun j t ht => by
        rw [Tryz.params8] at ht
        have hm : t ∈ [22, 9] := by simpa using Array.mem_of_getElem? ht
        have hall : ([22, 9].all fun u => !Tryz.prog.wantsStandIn u) = true := by kernel_rfl
        exact (show Tryz.prog.wantsStandIn t = false by simpa using List.all_eq_true.1 hall t hm)⟩)
    (by as_aux_lemma => kernel_rfl)
#print axioms card_holds
end Go.Proofs.YtgelbkgkjkeccaaGreatDoor.packLabelsDone
