/- What the laid variables give a walk: the table of marks, the handle of error's type; a world that meets the condition. -/
import Derived.Test.YtgelbkgkjkeccaaGreatDoorL
import Derived.Test.YtgelbkgkjkeccaaGreatDoorZF
import Derived.Test.YtgelbkgkjkeccaaGreatDoorTie
import Derived.LaidMore
import Derived.LaidLaws
import Derived.LaidHandle
import Derived.OpenShut
import Derived.ProofKit
import Derived.Stop.Joined
namespace Go.Proofs.YtgelbkgkjkeccaaGreatDoor
open Go.ChangeShapes Go.WideShapes Go.ChangeAt Go.RowKit

theorem own : ownKnob Tryz.prog.godebug = none := by kernel_rfl
theorem laidOut : laidOutB Tryz.prog = true := by kernel_rfl
theorem gErr : Tryz.prog.globalNamed "errors.errorType" = some 1 := by kernel_rfl
theorem gMarks : Tryz.prog.globalNamed "provost/text.marks" = some 3 := by kernel_rfl
theorem tMarks : (Tryz.prog.globals[3]?).map (·.type) = some 365 := by kernel_rfl
theorem rtT : (Tryz.prog.cutTypes.find? (·.1 == "internal/reflectlite.rtype")).map (·.2) = some 335 := by kernel_rfl
theorem oneErr : ((List.range Tryz.prog.types.size).filter fun t => Tryz.prog.rowNamed t [101, 114, 114, 111, 114]) = [36] := by kernel_rfl
theorem hdl36 : typeHandle Tryz.prog 36 = .pointer (some ⟨7, 36, none⟩) := by kernel_rfl
abbrev laid06 : List (String × DataW Unit) := [("errors.errorType", Rows.laid_errors_errorType), ("provost/text.marks", Rows.laid_provost_text_marks)]

theorem handle_laid {W : World} {l : List (String × DataW Unit)} (h : handlesMet Tryz.prog l W) (hm : ("errors.errorType", Rows.laid_errors_errorType) ∈ l) : ErrTyped W := by
  obtain ⟨name, u, ty, e1, e2, e3, e4, e5⟩ := h _ hm
  have en : name = [101, 114, 114, 111, 114] := (Option.some.inj e1).symm
  subst en
  obtain rfl := Option.some.inj (rtT.symm.trans e2)
  have hmem : ty ∈ (List.range Tryz.prog.types.size).filter fun t => Tryz.prog.rowNamed t [101, 114, 114, 111, 114] := List.mem_filter.2 ⟨List.mem_range.2 e3, e4⟩
  rw [oneErr] at hmem
  obtain rfl := List.mem_singleton.1 hmem
  rw [hdl36] at e5
  unfold ErrTyped
  simpa using World.var?_cell gErr e5 0
set_option maxRecDepth 100000 in
theorem marks_laid {W : World} {cs : Array Value} {k : Nat} {q : List MemPlace} {H : Type} {enc : TypeId × Value → H} {base : Nat} {sp : Nat → Bool} {held : Bool} (hv : W.var? Tryz.prog "provost/text.marks" = some cs)
    (hd : DataW.trod enc Tryz.prog W base sp held k 365 cs.toList = some (Rows.laid_provost_text_marks, q)) : LaidMarks W := by
  obtain ⟨xs, m1, rfl, hx1, hlen, hn, hel⟩ := DataW.trod_array Tryz.underlying365 hd
  rw [Tryz.cells3] at hel
  have hL : cs.toList.length = 64 := hlen.trans (by kernel_rfl)
  have hD : (Rows.laid_provost_text_marks : DataW H) = .agg (marks.map fun n => .lit (.int .i64 n)) := rfl
  rw [hD] at hx1
  simp only [Prod.mk.injEq, DataW.agg.injEq] at hx1
  intro j hj
  have h0 := hel j hj
  have hxs : xs[j]? = some (xs[j]'(by omega)) := List.getElem?_eq_getElem (by omega)
  rw [hxs] at h0
  have hone : (cs.toList.drop (j * 1)).take 1 = [cs.toList[j]'(by omega)] := by
    rw [Nat.mul_one, List.drop_eq_getElem_cons (by omega)]
    rfl
  rw [hone] at h0
  obtain ⟨n, e1, e2, _⟩ := DataW.trod_int Tryz.underlying3 h0
  simp only [List.cons.injEq, and_true] at e1
  have hc := World.var?_cell gMarks hv j
  have h4 : (xs.map (·.1))[j]? = some (.lit (.int .i64 n)) := by rw [List.getElem?_map, hxs, e2]; rfl
  rw [← hx1.1, List.getElem?_map] at h4
  have h5 : marks[j]? = some n := by
    cases h6 : marks[j]? with
    | none => rw [h6] at h4; cases h4
    | some z => rw [h6] at h4; simpa using h4
  rw [List.getD_eq_getElem?_getD, h5]
  rw [hc]
  have : cs[j]? = some (cs.toList[j]'(by omega)) := by
    rw [← Array.getElem?_toList]; exact List.getElem?_eq_getElem (by omega)
  rw [this, e1]
  rfl
theorem of_laid06 {W : World} (h : laidMetH Tryz.prog laid06 W) : LaidMarks W ∧ ErrTyped W := by
  have h' : laidMet Tryz.prog [("provost/text.marks", Rows.laid_provost_text_marks)] W ∧ handlesMet Tryz.prog [("errors.errorType", Rows.laid_errors_errorType)] W := h
  refine ⟨?_, handle_laid h'.2 (List.mem_singleton.2 rfl)⟩
  obtain ⟨ps, ⟨g0, t0, cs0, f0, p0, q0, hg0, ht0, hv0, hd0, _, _⟩, _, _⟩ := h'.1
  obtain rfl := Option.some.inj (gMarks.symm.trans hg0)
  obtain rfl := Option.some.inj (tMarks.symm.trans ht0)
  exact marks_laid hv0 hd0
/-- The door's own heap meets the condition. -/
theorem door_met06 (os : Os) (args : Array Value) : laidMetH Tryz.prog laid06 ((World.doorLaid Tryz.prog 76 os).forCall (fun _ _ => 0) ⟨#[], args, []⟩).memory :=
  laidMetH_of_parts3 (fuel := 8) (laidMet_of_run' 8 (by kernel_rfl) (by kernel_rfl)) (by kernel_rfl) (by kernel_rfl)
end Go.Proofs.YtgelbkgkjkeccaaGreatDoor

