/-
  NARROWER THAN 'FOR EVERY INPUT', by the rows' own cells (each row's printed sentence says how): SpecClones: laid · SpecUpdates: laid · PackWrites: laid · PackBack: laid · PackCuts: laid · PackLabels: laid · PackRaws: laid · PackReads: laid · AskBytes: laid · AskBack: laid · AskUnlike: laid · AskNames: laid · ConnDeaf: laid · ConnCalls: laid · AskChecks: laid · TellBytes: laid · TellReads: laid · TellBack: laid · TellChecks: laid · ConnTells: laid · ScriptCalls: laid · ScriptFrames: laid.
  DERIVED. THE GIVEN ROWS OF THIS SEAT. 22 by the template 'for every input the law returns true; each argument reads behind the call as it read before'; 0 by the template 'total and deterministic' (their statements: YtgelbkgkjkeccaaGreatDoorTotals.lean).
  GIVEN WITH THE SEED: the statements are not yours to turn. If you find one false, say at which input.
  Laid BY PROGRAM, IN A SANDBOX (cutbox-rows.mjs): the forced cells as the released guide's own fill.sh prints them over the translation b6e0e606fa735ef4… (all of the seat's roots in one cut). By AI agents, Wed Nov 11 2026. No macro, syntax, notation, axiom, sorry.
-/
import Derived.Test.YtgelbkgkjkeccaaGreatDoorChecked
import GoSem.PinnedTables
import GoSem.Claim
import GoSem.ClaimJoined
import GoSem.ClaimMapViews
import Derived.JoinedTies
import Derived.KernelRfl
namespace Go.Proofs.YtgelbkgkjkeccaaGreatDoor
/- THE CELL 'sum', in the pinned program and in every row, IS THE sha256 OF THE DUMP (.gsa) THAT YtgelbkgkjkeccaaGreatDoorProg.lean LOADS. Nothing in Lean hashes anything: it is a label: what it is worth is what the hold of that sum in a sandbox is worth. -/
noncomputable def Tryz.pinned : Pinned := { name := "ytgelbkgkjkeccaagreatdoor", sum := "b6e0e606fa735ef442c4135a42f331af943a333288e5242ba993fd3bd7e9bb0b", checked := Tryz.checked }
namespace Rows
def none {H : Type} : Left H := { results := [], args := [] }

/- WHAT THE LISTED PACKAGE-LEVEL VARIABLES READ AS WHEN THE CALL BEGINS. Each datum BY PROGRAM (the guide's laid-datum.mjs) off the statement by which the dump's own 'gosem.cut.vars' lays the variable. In a bare row this is a premise. The card (YtgelbkgkjkeccaaGreatDoorCards.lean) ties it to the program's text. -/
def laid_errors_errorType {H : Type} : DataW H := .iface "internal/reflectlite.rtype" (.agg [.ptr (.lit (.string [101, 114, 114, 111, 114]))])
def laid_provost_text_marks {H : Type} : DataW H := .agg [.lit (.int .i64 0), .lit (.int .i64 0), .lit (.int .i64 0), .lit (.int .i64 0), .lit (.int .i64 0), .lit (.int .i64 0), .lit (.int .i64 0), .lit (.int .i64 0), .lit (.int .i64 0), .lit (.int .i64 0), .lit (.int .i64 0), .lit (.int .i64 0), .lit (.int .i64 0), .lit (.int .i64 7), .lit (.int .i64 6), .lit (.int .i64 0), .lit (.int .i64 0), .lit (.int .i64 0), .lit (.int .i64 0), .lit (.int .i64 0), .lit (.int .i64 0), .lit (.int .i64 0), .lit (.int .i64 0), .lit (.int .i64 0), .lit (.int .i64 0), .lit (.int .i64 0), .lit (.int .i64 0), .lit (.int .i64 0), .lit (.int .i64 0), .lit (.int .i64 0), .lit (.int .i64 0), .lit (.int .i64 0), .lit (.int .i64 0), .lit (.int .i64 0), .lit (.int .i64 0), .lit (.int .i64 0), .lit (.int .i64 0), .lit (.int .i64 0), .lit (.int .i64 0), .lit (.int .i64 0), .lit (.int .i64 0), .lit (.int .i64 0), .lit (.int .i64 0), .lit (.int .i64 0), .lit (.int .i64 0), .lit (.int .i64 0), .lit (.int .i64 0), .lit (.int .i64 0), .lit (.int .i64 0), .lit (.int .i64 0), .lit (.int .i64 0), .lit (.int .i64 0), .lit (.int .i64 0), .lit (.int .i64 0), .lit (.int .i64 0), .lit (.int .i64 0), .lit (.int .i64 0), .lit (.int .i64 0), .lit (.int .i64 0), .lit (.int .i64 0), .lit (.int .i64 0), .lit (.int .i64 0), .lit (.int .i64 0), .lit (.int .i64 4)]
def laid_provost_ask_kinds {H : Type} : DataW H := .agg [.agg [.lit (.string []), .lit (.string [])], .agg [.lit (.string [114, 117, 110]), .lit (.string [115])], .agg [.lit (.string [117, 112, 100, 97, 116, 101]), .lit (.string [117, 114, 115])], .agg [.lit (.string [107, 105, 108, 108]), .lit (.string [117, 103])], .agg [.lit (.string [111, 112, 101, 110]), .lit (.string [117, 99])], .agg [.lit (.string [119, 114, 105, 116, 101]), .lit (.string [105, 100])], .agg [.lit (.string [114, 101, 97, 100]), .lit (.string [105, 109])], .agg [.lit (.string [99, 108, 111, 115, 101]), .lit (.string [105])], .agg [.lit (.string [115, 116, 97, 116, 115]), .lit (.string [117])], .agg [.lit (.string [108, 105, 115, 116]), .lit (.string [108])], .agg [.lit (.string [103, 101, 116]), .lit (.string [117])], .agg [.lit (.string [119, 97, 116, 99, 104]), .lit (.string [114, 108])], .agg [.lit (.string [99, 97, 110, 99, 101, 108]), .lit (.string [105])]]
def laid_unicode_utf8_acceptRanges {H : Type} : DataW H := .agg [.agg [.lit (.int .u8 128), .lit (.int .u8 191)], .agg [.lit (.int .u8 160), .lit (.int .u8 191)], .agg [.lit (.int .u8 128), .lit (.int .u8 159)], .agg [.lit (.int .u8 144), .lit (.int .u8 191)], .agg [.lit (.int .u8 128), .lit (.int .u8 143)], .agg [.lit (.int .u8 0), .lit (.int .u8 0)], .agg [.lit (.int .u8 0), .lit (.int .u8 0)], .agg [.lit (.int .u8 0), .lit (.int .u8 0)], .agg [.lit (.int .u8 0), .lit (.int .u8 0)], .agg [.lit (.int .u8 0), .lit (.int .u8 0)], .agg [.lit (.int .u8 0), .lit (.int .u8 0)], .agg [.lit (.int .u8 0), .lit (.int .u8 0)], .agg [.lit (.int .u8 0), .lit (.int .u8 0)], .agg [.lit (.int .u8 0), .lit (.int .u8 0)], .agg [.lit (.int .u8 0), .lit (.int .u8 0)], .agg [.lit (.int .u8 0), .lit (.int .u8 0)]]
def laid_provost_script_verbs {H : Type} : DataW H := .agg [.agg [.lit (.string []), .lit (.int .i64 0), .lit (.int .i64 0)], .agg [.lit (.string [99, 111, 110, 110, 101, 99, 116]), .lit (.int .i64 0), .lit (.int .i64 0)], .agg [.lit (.string [98, 121, 116, 101, 115]), .lit (.int .i64 1), .lit (.int .i64 1)], .agg [.lit (.string [114, 101, 97, 100]), .lit (.int .i64 1), .lit (.int .i64 0)], .agg [.lit (.string [104, 97, 110, 103]), .lit (.int .i64 1), .lit (.int .i64 0)], .agg [.lit (.string [116, 105, 99, 107]), .lit (.int .i64 0), .lit (.int .i64 0)], .agg [.lit (.string [114, 111, 117, 110, 100]), .lit (.int .i64 0), .lit (.int .i64 0)], .agg [.lit (.string [112, 105, 99, 107]), .lit (.int .i64 1), .lit (.int .i64 0)], .agg [.lit (.string [102, 97, 105, 108]), .lit (.int .i64 1), .lit (.int .i64 0)], .agg [.lit (.string [101, 120, 105, 116]), .lit (.int .i64 3), .lit (.int .i64 0)], .agg [.lit (.string [112, 114, 111, 98, 101]), .lit (.int .i64 3), .lit (.int .i64 0)], .agg [.lit (.string [103, 114, 111, 119]), .lit (.int .i64 5), .lit (.int .i64 0)], .agg [.lit (.string [115, 116, 114, 97, 121]), .lit (.int .i64 1), .lit (.int .i64 0)], .agg [.lit (.string [108, 105, 115, 116]), .lit (.int .i64 1), .lit (.int .i64 0)], .agg [.lit (.string [103, 101, 116]), .lit (.int .i64 2), .lit (.int .i64 0)], .agg [.lit (.string [115, 116, 97, 116, 115]), .lit (.int .i64 2), .lit (.int .i64 0)], .agg [.lit (.string [107, 105, 108, 108]), .lit (.int .i64 3), .lit (.int .i64 0)], .agg [.lit (.string [111, 112, 101, 110]), .lit (.int .i64 3), .lit (.int .i64 0)], .agg [.lit (.string [119, 114, 105, 116, 101]), .lit (.int .i64 2), .lit (.int .i64 2)], .agg [.lit (.string [116, 97, 107, 101]), .lit (.int .i64 3), .lit (.int .i64 0)], .agg [.lit (.string [99, 108, 111, 115, 101]), .lit (.int .i64 2), .lit (.int .i64 0)], .agg [.lit (.string [119, 97, 116, 99, 104]), .lit (.int .i64 2), .lit (.int .i64 0)], .agg [.lit (.string [99, 97, 110, 99, 101, 108]), .lit (.int .i64 2), .lit (.int .i64 0)], .agg [.lit (.string [114, 117, 110]), .lit (.int .i64 4), .lit (.int .i64 2)]]
/-- One of Go's own tables, pinned by name: the form's constant. -/
def laid_unicode_utf8_first : DataW Unit := Go.Pinned.utf8First

/-- 'provostlaw06.SpecClones': WHATEVER THE INPUT: true; the input reads as it did. -/
def specClonesSpec : ChangeSpec := { name := "specClones", fn := fun _ => fun
  | [d1, d2] => { results := [.lit (.bool true)], args := [d1, d2] }
  | _ => none }
def specClonesRow : OpenClaim := { program := "ytgelbkgkjkeccaagreatdoor", sum := "b6e0e606fa735ef442c4135a42f331af943a333288e5242ba993fd3bd7e9bb0b", func := "provost/provostlaw06.SpecClones", spec := "specClones", inPlace := ["internal/bytealg.IndexByteString", "internal/bytealg.IndexString", "internal/reflectlite.ValueOf", "(internal/reflectlite.Value).Type", "(internal/reflectlite.Value).IsNil", "internal/reflectlite.TypeOf", "(internal/reflectlite.Value).Elem", "(internal/reflectlite.Value).Set", "internal/abi.NoEscape", "internal/bytealg.MakeNoZero"], unfollowed := true, recurses := true, named := ["provost/text.marks", "internal/bytealg.MaxLen", "errors.errorType"], apart := false, laid := [("errors.errorType", laid_errors_errorType), ("provost/text.marks", laid_provost_text_marks)] }
def SpecClonesSaid : Prop := specClonesRow.holds Tryz.pinned (OpenSpec.ofChange specClonesSpec)

/-- ITS FALSE NEIGHBOUR: 'it returns false'. Refute it at one input. -/
def specClonesWrong : ChangeSpec := { name := "specClones", fn := fun _ => fun
  | [d1, d2] => { results := [.lit (.bool false)], args := [d1, d2] }
  | _ => none }
def SpecClonesWrongFalsely : Prop := specClonesRow.holds Tryz.pinned (OpenSpec.ofChange specClonesWrong)

/-- 'provostlaw06.SpecUpdates': WHATEVER THE INPUT: true; the input reads as it did. -/
def specUpdatesSpec : ChangeSpec := { name := "specUpdates", fn := fun _ => fun
  | [d1, d2, d3] => { results := [.lit (.bool true)], args := [d1, d2, d3] }
  | _ => none }
def specUpdatesRow : OpenClaim := { program := "ytgelbkgkjkeccaagreatdoor", sum := "b6e0e606fa735ef442c4135a42f331af943a333288e5242ba993fd3bd7e9bb0b", func := "provost/provostlaw06.SpecUpdates", spec := "specUpdates", inPlace := ["internal/bytealg.IndexByteString", "internal/bytealg.IndexString", "internal/reflectlite.ValueOf", "(internal/reflectlite.Value).Type", "(internal/reflectlite.Value).IsNil", "internal/reflectlite.TypeOf", "(internal/reflectlite.Value).Elem", "(internal/reflectlite.Value).Set", "internal/abi.NoEscape", "internal/bytealg.MakeNoZero"], unfollowed := true, recurses := true, named := ["provost/text.marks", "internal/bytealg.MaxLen", "errors.errorType"], apart := false, laid := [("errors.errorType", laid_errors_errorType), ("provost/text.marks", laid_provost_text_marks)] }
def SpecUpdatesSaid : Prop := specUpdatesRow.holds Tryz.pinned (OpenSpec.ofChange specUpdatesSpec)

/-- ITS FALSE NEIGHBOUR: 'it returns false'. Refute it at one input. -/
def specUpdatesWrong : ChangeSpec := { name := "specUpdates", fn := fun _ => fun
  | [d1, d2, d3] => { results := [.lit (.bool false)], args := [d1, d2, d3] }
  | _ => none }
def SpecUpdatesWrongFalsely : Prop := specUpdatesRow.holds Tryz.pinned (OpenSpec.ofChange specUpdatesWrong)

/-- 'provostlaw07.PackWrites': WHATEVER THE INPUT: true; the input reads as it did. -/
def packWritesSpec : ChangeSpec := { name := "packWrites", fn := fun _ => fun
  | [d1, d2] => { results := [.lit (.bool true)], args := [d1, d2] }
  | _ => none }
def packWritesRow : OpenClaim := { program := "ytgelbkgkjkeccaagreatdoor", sum := "b6e0e606fa735ef442c4135a42f331af943a333288e5242ba993fd3bd7e9bb0b", func := "provost/provostlaw07.PackWrites", spec := "packWrites", inPlace := ["internal/bytealg.IndexByteString", "internal/bytealg.IndexString", "internal/reflectlite.ValueOf", "(internal/reflectlite.Value).Type", "(internal/reflectlite.Value).IsNil", "internal/reflectlite.TypeOf", "(internal/reflectlite.Value).Elem", "(internal/reflectlite.Value).Set", "internal/abi.NoEscape", "internal/bytealg.MakeNoZero"], unfollowed := true, recurses := true, named := ["provost/text.marks", "internal/bytealg.MaxLen", "errors.errorType"], apart := false, laid := [("errors.errorType", laid_errors_errorType), ("provost/text.marks", laid_provost_text_marks)] }
def PackWritesSaid : Prop := packWritesRow.holds Tryz.pinned (OpenSpec.ofChange packWritesSpec)

/-- ITS FALSE NEIGHBOUR: 'it returns false'. Refute it at one input. -/
def packWritesWrong : ChangeSpec := { name := "packWrites", fn := fun _ => fun
  | [d1, d2] => { results := [.lit (.bool false)], args := [d1, d2] }
  | _ => none }
def PackWritesWrongFalsely : Prop := packWritesRow.holds Tryz.pinned (OpenSpec.ofChange packWritesWrong)

/-- 'provostlaw07.PackBack': WHATEVER THE INPUT: true; the input reads as it did. -/
def packBackSpec : ChangeSpec := { name := "packBack", fn := fun _ => fun
  | [d1, d2] => { results := [.lit (.bool true)], args := [d1, d2] }
  | _ => none }
def packBackRow : OpenClaim := { program := "ytgelbkgkjkeccaagreatdoor", sum := "b6e0e606fa735ef442c4135a42f331af943a333288e5242ba993fd3bd7e9bb0b", func := "provost/provostlaw07.PackBack", spec := "packBack", inPlace := ["internal/bytealg.IndexByteString", "internal/bytealg.IndexString", "internal/reflectlite.ValueOf", "(internal/reflectlite.Value).Type", "(internal/reflectlite.Value).IsNil", "internal/reflectlite.TypeOf", "(internal/reflectlite.Value).Elem", "(internal/reflectlite.Value).Set", "internal/abi.NoEscape", "internal/bytealg.MakeNoZero"], unfollowed := true, recurses := true, named := ["provost/text.marks", "internal/bytealg.MaxLen", "errors.errorType"], apart := false, laid := [("errors.errorType", laid_errors_errorType), ("provost/text.marks", laid_provost_text_marks)] }
def PackBackSaid : Prop := packBackRow.holds Tryz.pinned (OpenSpec.ofChange packBackSpec)

/-- ITS FALSE NEIGHBOUR: 'it returns false'. Refute it at one input. -/
def packBackWrong : ChangeSpec := { name := "packBack", fn := fun _ => fun
  | [d1, d2] => { results := [.lit (.bool false)], args := [d1, d2] }
  | _ => none }
def PackBackWrongFalsely : Prop := packBackRow.holds Tryz.pinned (OpenSpec.ofChange packBackWrong)

/-- 'provostlaw07.PackCuts': WHATEVER THE INPUT: true; the input reads as it did. -/
def packCutsSpec : ChangeSpec := { name := "packCuts", fn := fun _ => fun
  | [d1, d2, d3] => { results := [.lit (.bool true)], args := [d1, d2, d3] }
  | _ => none }
def packCutsRow : OpenClaim := { program := "ytgelbkgkjkeccaagreatdoor", sum := "b6e0e606fa735ef442c4135a42f331af943a333288e5242ba993fd3bd7e9bb0b", func := "provost/provostlaw07.PackCuts", spec := "packCuts", inPlace := ["internal/bytealg.IndexByteString", "internal/bytealg.IndexString", "internal/reflectlite.ValueOf", "(internal/reflectlite.Value).Type", "(internal/reflectlite.Value).IsNil", "internal/reflectlite.TypeOf", "(internal/reflectlite.Value).Elem", "(internal/reflectlite.Value).Set", "internal/abi.NoEscape", "internal/bytealg.MakeNoZero"], unfollowed := true, recurses := true, named := ["provost/text.marks", "internal/bytealg.MaxLen", "errors.errorType"], apart := false, laid := [("errors.errorType", laid_errors_errorType), ("provost/text.marks", laid_provost_text_marks)] }
def PackCutsSaid : Prop := packCutsRow.holds Tryz.pinned (OpenSpec.ofChange packCutsSpec)

/-- ITS FALSE NEIGHBOUR: 'it returns false'. Refute it at one input. -/
def packCutsWrong : ChangeSpec := { name := "packCuts", fn := fun _ => fun
  | [d1, d2, d3] => { results := [.lit (.bool false)], args := [d1, d2, d3] }
  | _ => none }
def PackCutsWrongFalsely : Prop := packCutsRow.holds Tryz.pinned (OpenSpec.ofChange packCutsWrong)

/-- 'provostlaw07.PackLabels': WHATEVER THE INPUT: true; the input reads as it did. -/
def packLabelsSpec : ChangeSpec := { name := "packLabels", fn := fun _ => fun
  | [d1, d2] => { results := [.lit (.bool true)], args := [d1, d2] }
  | _ => none }
def packLabelsRow : OpenClaim := { program := "ytgelbkgkjkeccaagreatdoor", sum := "b6e0e606fa735ef442c4135a42f331af943a333288e5242ba993fd3bd7e9bb0b", func := "provost/provostlaw07.PackLabels", spec := "packLabels", inPlace := ["internal/bytealg.IndexByteString", "internal/bytealg.IndexString", "internal/reflectlite.ValueOf", "(internal/reflectlite.Value).Type", "(internal/reflectlite.Value).IsNil", "internal/reflectlite.TypeOf", "(internal/reflectlite.Value).Elem", "(internal/reflectlite.Value).Set", "internal/abi.NoEscape", "internal/bytealg.MakeNoZero"], unfollowed := true, recurses := true, named := ["provost/text.marks", "internal/bytealg.MaxLen", "errors.errorType"], apart := false, laid := [("errors.errorType", laid_errors_errorType), ("provost/text.marks", laid_provost_text_marks)] }
def PackLabelsSaid : Prop := packLabelsRow.holds Tryz.pinned (OpenSpec.ofChange packLabelsSpec)

/-- ITS FALSE NEIGHBOUR: 'it returns false'. Refute it at one input. -/
def packLabelsWrong : ChangeSpec := { name := "packLabels", fn := fun _ => fun
  | [d1, d2] => { results := [.lit (.bool false)], args := [d1, d2] }
  | _ => none }
def PackLabelsWrongFalsely : Prop := packLabelsRow.holds Tryz.pinned (OpenSpec.ofChange packLabelsWrong)

/-- 'provostlaw07.PackRaws': WHATEVER THE INPUT: true; the input reads as it did. -/
def packRawsSpec : ChangeSpec := { name := "packRaws", fn := fun _ => fun
  | [d] => { results := [.lit (.bool true)], args := [d] }
  | _ => none }
def packRawsRow : OpenClaim := { program := "ytgelbkgkjkeccaagreatdoor", sum := "b6e0e606fa735ef442c4135a42f331af943a333288e5242ba993fd3bd7e9bb0b", func := "provost/provostlaw07.PackRaws", spec := "packRaws", inPlace := ["internal/bytealg.IndexByteString", "internal/bytealg.IndexString", "internal/reflectlite.ValueOf", "(internal/reflectlite.Value).Type", "(internal/reflectlite.Value).IsNil", "internal/reflectlite.TypeOf", "(internal/reflectlite.Value).Elem", "(internal/reflectlite.Value).Set", "internal/abi.NoEscape", "internal/bytealg.MakeNoZero"], unfollowed := true, recurses := true, named := ["provost/text.marks", "internal/bytealg.MaxLen", "errors.errorType"], apart := false, laid := [("errors.errorType", laid_errors_errorType), ("provost/text.marks", laid_provost_text_marks)] }
def PackRawsSaid : Prop := packRawsRow.holds Tryz.pinned (OpenSpec.ofChange packRawsSpec)

/-- ITS FALSE NEIGHBOUR: 'it returns false'. Refute it at one input. -/
def packRawsWrong : ChangeSpec := { name := "packRaws", fn := fun _ => fun
  | [d] => { results := [.lit (.bool false)], args := [d] }
  | _ => none }
def PackRawsWrongFalsely : Prop := packRawsRow.holds Tryz.pinned (OpenSpec.ofChange packRawsWrong)

/-- 'provostlaw07.PackReads': WHATEVER THE INPUT: true; the input reads as it did. -/
def packReadsSpec : ChangeSpec := { name := "packReads", fn := fun _ => fun
  | [d] => { results := [.lit (.bool true)], args := [d] }
  | _ => none }
def packReadsRow : OpenClaim := { program := "ytgelbkgkjkeccaagreatdoor", sum := "b6e0e606fa735ef442c4135a42f331af943a333288e5242ba993fd3bd7e9bb0b", func := "provost/provostlaw07.PackReads", spec := "packReads", inPlace := ["internal/bytealg.IndexByteString", "internal/bytealg.IndexString", "internal/reflectlite.ValueOf", "(internal/reflectlite.Value).Type", "(internal/reflectlite.Value).IsNil", "internal/reflectlite.TypeOf", "(internal/reflectlite.Value).Elem", "(internal/reflectlite.Value).Set", "internal/abi.NoEscape", "internal/bytealg.MakeNoZero"], unfollowed := true, recurses := true, named := ["provost/text.marks", "internal/bytealg.MaxLen", "errors.errorType"], apart := false, laid := [("errors.errorType", laid_errors_errorType), ("provost/text.marks", laid_provost_text_marks)] }
def PackReadsSaid : Prop := packReadsRow.holds Tryz.pinned (OpenSpec.ofChange packReadsSpec)

/-- ITS FALSE NEIGHBOUR: 'it returns false'. Refute it at one input. -/
def packReadsWrong : ChangeSpec := { name := "packReads", fn := fun _ => fun
  | [d] => { results := [.lit (.bool false)], args := [d] }
  | _ => none }
def PackReadsWrongFalsely : Prop := packReadsRow.holds Tryz.pinned (OpenSpec.ofChange packReadsWrong)

/-- 'provostlaw08.AskBytes': WHATEVER THE INPUT: true; the input reads as it did. -/
def askBytesSpec : ChangeSpec := { name := "askBytes", fn := fun _ => fun
  | [d] => { results := [.lit (.bool true)], args := [d] }
  | _ => none }
def askBytesRow : OpenClaim := { program := "ytgelbkgkjkeccaagreatdoor", sum := "b6e0e606fa735ef442c4135a42f331af943a333288e5242ba993fd3bd7e9bb0b", func := "provost/provostlaw08.AskBytes", spec := "askBytes", inPlace := ["internal/bytealg.IndexByteString", "internal/bytealg.IndexString", "internal/reflectlite.ValueOf", "(internal/reflectlite.Value).Type", "(internal/reflectlite.Value).IsNil", "internal/reflectlite.TypeOf", "(internal/reflectlite.Value).Elem", "(internal/reflectlite.Value).Set", "internal/abi.NoEscape"], unfollowed := true, recurses := true, named := ["provost/ask.kinds", "provost/text.marks", "internal/bytealg.MaxLen", "errors.errorType"], apart := false, laid := [("errors.errorType", laid_errors_errorType), ("provost/text.marks", laid_provost_text_marks), ("provost/ask.kinds", laid_provost_ask_kinds)] }
def AskBytesSaid : Prop := askBytesRow.holds Tryz.pinned (OpenSpec.ofChange askBytesSpec)

/-- ITS FALSE NEIGHBOUR: 'it returns false'. Refute it at one input. -/
def askBytesWrong : ChangeSpec := { name := "askBytes", fn := fun _ => fun
  | [d] => { results := [.lit (.bool false)], args := [d] }
  | _ => none }
def AskBytesWrongFalsely : Prop := askBytesRow.holds Tryz.pinned (OpenSpec.ofChange askBytesWrong)

/-- 'provostlaw08.AskBack': WHATEVER THE INPUT: true; the input reads as it did. -/
def askBackSpec : ChangeSpec := { name := "askBack", fn := fun _ => fun
  | [d1, d2] => { results := [.lit (.bool true)], args := [d1, d2] }
  | _ => none }
def askBackRow : OpenClaim := { program := "ytgelbkgkjkeccaagreatdoor", sum := "b6e0e606fa735ef442c4135a42f331af943a333288e5242ba993fd3bd7e9bb0b", func := "provost/provostlaw08.AskBack", spec := "askBack", inPlace := ["internal/bytealg.IndexByteString", "internal/bytealg.IndexString", "internal/reflectlite.ValueOf", "(internal/reflectlite.Value).Type", "(internal/reflectlite.Value).IsNil", "internal/reflectlite.TypeOf", "(internal/reflectlite.Value).Elem", "(internal/reflectlite.Value).Set", "internal/abi.NoEscape"], unfollowed := true, recurses := true, named := ["provost/ask.kinds", "provost/text.marks", "internal/bytealg.MaxLen", "errors.errorType"], apart := false, laid := [("errors.errorType", laid_errors_errorType), ("provost/text.marks", laid_provost_text_marks), ("provost/ask.kinds", laid_provost_ask_kinds)] }
def AskBackSaid : Prop := askBackRow.holds Tryz.pinned (OpenSpec.ofChange askBackSpec)

/-- ITS FALSE NEIGHBOUR: 'it returns false'. Refute it at one input. -/
def askBackWrong : ChangeSpec := { name := "askBack", fn := fun _ => fun
  | [d1, d2] => { results := [.lit (.bool false)], args := [d1, d2] }
  | _ => none }
def AskBackWrongFalsely : Prop := askBackRow.holds Tryz.pinned (OpenSpec.ofChange askBackWrong)

/-- 'provostlaw08.AskUnlike': WHATEVER THE INPUT: true; the input reads as it did. -/
def askUnlikeSpec : ChangeSpec := { name := "askUnlike", fn := fun _ => fun
  | [d1, d2] => { results := [.lit (.bool true)], args := [d1, d2] }
  | _ => none }
def askUnlikeRow : OpenClaim := { program := "ytgelbkgkjkeccaagreatdoor", sum := "b6e0e606fa735ef442c4135a42f331af943a333288e5242ba993fd3bd7e9bb0b", func := "provost/provostlaw08.AskUnlike", spec := "askUnlike", inPlace := ["internal/bytealg.IndexByteString", "internal/bytealg.IndexString", "internal/reflectlite.ValueOf", "(internal/reflectlite.Value).Type", "(internal/reflectlite.Value).IsNil", "internal/reflectlite.TypeOf", "(internal/reflectlite.Value).Elem", "(internal/reflectlite.Value).Set", "internal/abi.NoEscape"], unfollowed := true, recurses := true, named := ["provost/ask.kinds", "provost/text.marks", "internal/bytealg.MaxLen", "errors.errorType"], apart := false, laid := [("errors.errorType", laid_errors_errorType), ("provost/text.marks", laid_provost_text_marks), ("provost/ask.kinds", laid_provost_ask_kinds)] }
def AskUnlikeSaid : Prop := askUnlikeRow.holds Tryz.pinned (OpenSpec.ofChange askUnlikeSpec)

/-- ITS FALSE NEIGHBOUR: 'it returns false'. Refute it at one input. -/
def askUnlikeWrong : ChangeSpec := { name := "askUnlike", fn := fun _ => fun
  | [d1, d2] => { results := [.lit (.bool false)], args := [d1, d2] }
  | _ => none }
def AskUnlikeWrongFalsely : Prop := askUnlikeRow.holds Tryz.pinned (OpenSpec.ofChange askUnlikeWrong)

/-- 'provostlaw08.AskNames': WHATEVER THE INPUT: true; the input reads as it did. -/
def askNamesSpec : ChangeSpec := { name := "askNames", fn := fun _ => fun
  | [d1, d2] => { results := [.lit (.bool true)], args := [d1, d2] }
  | _ => none }
def askNamesRow : OpenClaim := { program := "ytgelbkgkjkeccaagreatdoor", sum := "b6e0e606fa735ef442c4135a42f331af943a333288e5242ba993fd3bd7e9bb0b", func := "provost/provostlaw08.AskNames", spec := "askNames", inPlace := ["internal/bytealg.IndexByteString", "internal/bytealg.IndexString", "internal/reflectlite.ValueOf", "(internal/reflectlite.Value).Type", "(internal/reflectlite.Value).IsNil", "internal/reflectlite.TypeOf", "(internal/reflectlite.Value).Elem", "(internal/reflectlite.Value).Set", "internal/abi.NoEscape"], unfollowed := true, recurses := true, named := ["provost/ask.kinds", "provost/text.marks", "internal/bytealg.MaxLen", "errors.errorType"], apart := false, laid := [("errors.errorType", laid_errors_errorType), ("provost/text.marks", laid_provost_text_marks), ("provost/ask.kinds", laid_provost_ask_kinds)] }
def AskNamesSaid : Prop := askNamesRow.holds Tryz.pinned (OpenSpec.ofChange askNamesSpec)

/-- ITS FALSE NEIGHBOUR: 'it returns false'. Refute it at one input. -/
def askNamesWrong : ChangeSpec := { name := "askNames", fn := fun _ => fun
  | [d1, d2] => { results := [.lit (.bool false)], args := [d1, d2] }
  | _ => none }
def AskNamesWrongFalsely : Prop := askNamesRow.holds Tryz.pinned (OpenSpec.ofChange askNamesWrong)

/-- 'provostlaw39.ConnDeaf': WHATEVER THE INPUT: true; the input reads as it did. -/
def connDeafSpec : ChangeSpec := { name := "connDeaf", fn := fun _ => fun
  | [d] => { results := [.lit (.bool true)], args := [d] }
  | _ => none }
def connDeafRow : OpenClaim := { program := "ytgelbkgkjkeccaagreatdoor", sum := "b6e0e606fa735ef442c4135a42f331af943a333288e5242ba993fd3bd7e9bb0b", func := "provost/provostlaw39.ConnDeaf", spec := "connDeaf", inPlace := ["internal/bytealg.IndexByteString", "internal/bytealg.IndexString", "internal/reflectlite.ValueOf", "(internal/reflectlite.Value).Type", "(internal/reflectlite.Value).IsNil", "internal/reflectlite.TypeOf", "(internal/reflectlite.Value).Elem", "(internal/reflectlite.Value).Set", "internal/abi.NoEscape", "internal/bytealg.MakeNoZero"], unfollowed := true, recurses := true, named := ["provost/ask.kinds", "provost/text.marks", "internal/bytealg.MaxLen", "errors.errorType"], apart := false, laid := [("errors.errorType", laid_errors_errorType), ("provost/text.marks", laid_provost_text_marks), ("provost/ask.kinds", laid_provost_ask_kinds)] }
def ConnDeafSaid : Prop := connDeafRow.holds Tryz.pinned (OpenSpec.ofChange connDeafSpec)

/-- ITS FALSE NEIGHBOUR: 'it returns false'. Refute it at one input. -/
def connDeafWrong : ChangeSpec := { name := "connDeaf", fn := fun _ => fun
  | [d] => { results := [.lit (.bool false)], args := [d] }
  | _ => none }
def ConnDeafWrongFalsely : Prop := connDeafRow.holds Tryz.pinned (OpenSpec.ofChange connDeafWrong)

/-- 'provostlaw39.ConnCalls': WHATEVER THE INPUT: true; the input reads as it did. -/
def connCallsSpec : ChangeSpec := { name := "connCalls", fn := fun _ => fun
  | [d1, d2] => { results := [.lit (.bool true)], args := [d1, d2] }
  | _ => none }
def connCallsRow : OpenClaim := { program := "ytgelbkgkjkeccaagreatdoor", sum := "b6e0e606fa735ef442c4135a42f331af943a333288e5242ba993fd3bd7e9bb0b", func := "provost/provostlaw39.ConnCalls", spec := "connCalls", inPlace := ["internal/bytealg.IndexByteString", "internal/bytealg.IndexString", "internal/reflectlite.ValueOf", "(internal/reflectlite.Value).Type", "(internal/reflectlite.Value).IsNil", "internal/reflectlite.TypeOf", "(internal/reflectlite.Value).Elem", "(internal/reflectlite.Value).Set", "internal/abi.NoEscape", "internal/bytealg.MakeNoZero"], unfollowed := true, recurses := true, named := ["provost/ask.kinds", "provost/text.marks", "internal/bytealg.MaxLen", "errors.errorType"], apart := false, laid := [("errors.errorType", laid_errors_errorType), ("provost/text.marks", laid_provost_text_marks), ("provost/ask.kinds", laid_provost_ask_kinds)] }
def ConnCallsSaid : Prop := connCallsRow.holds Tryz.pinned (OpenSpec.ofChange connCallsSpec)

/-- ITS FALSE NEIGHBOUR: 'it returns false'. Refute it at one input. -/
def connCallsWrong : ChangeSpec := { name := "connCalls", fn := fun _ => fun
  | [d1, d2] => { results := [.lit (.bool false)], args := [d1, d2] }
  | _ => none }
def ConnCallsWrongFalsely : Prop := connCallsRow.holds Tryz.pinned (OpenSpec.ofChange connCallsWrong)

/-- 'provostlaw08.AskChecks': WHATEVER THE INPUT: true; the input reads as it did. -/
def askChecksSpec : ChangeSpec := { name := "askChecks", fn := fun _ => fun
  | [d] => { results := [.lit (.bool true)], args := [d] }
  | _ => none }
def askChecksRow : OpenClaim := { program := "ytgelbkgkjkeccaagreatdoor", sum := "b6e0e606fa735ef442c4135a42f331af943a333288e5242ba993fd3bd7e9bb0b", func := "provost/provostlaw08.AskChecks", spec := "askChecks", inPlace := ["internal/bytealg.IndexByteString", "internal/bytealg.IndexString", "internal/reflectlite.ValueOf", "(internal/reflectlite.Value).Type", "(internal/reflectlite.Value).IsNil", "internal/reflectlite.TypeOf", "(internal/reflectlite.Value).Elem", "(internal/reflectlite.Value).Set", "internal/abi.NoEscape", "internal/bytealg.MakeNoZero"], unfollowed := true, recurses := true, named := ["provost/ask.kinds", "provost/text.marks", "internal/bytealg.MaxLen", "errors.errorType"], apart := false, laid := [("errors.errorType", laid_errors_errorType), ("provost/text.marks", laid_provost_text_marks), ("provost/ask.kinds", laid_provost_ask_kinds)] }
def AskChecksSaid : Prop := askChecksRow.holds Tryz.pinned (OpenSpec.ofChange askChecksSpec)

/-- ITS FALSE NEIGHBOUR: 'it returns false'. Refute it at one input. -/
def askChecksWrong : ChangeSpec := { name := "askChecks", fn := fun _ => fun
  | [d] => { results := [.lit (.bool false)], args := [d] }
  | _ => none }
def AskChecksWrongFalsely : Prop := askChecksRow.holds Tryz.pinned (OpenSpec.ofChange askChecksWrong)

/-- 'provostlaw09.TellBytes': WHATEVER THE INPUT: true; the input reads as it did. -/
def tellBytesSpec : ChangeSpec := { name := "tellBytes", fn := fun _ => fun
  | [d] => { results := [.lit (.bool true)], args := [d] }
  | _ => none }
def tellBytesRow : OpenClaim := { program := "ytgelbkgkjkeccaagreatdoor", sum := "b6e0e606fa735ef442c4135a42f331af943a333288e5242ba993fd3bd7e9bb0b", func := "provost/provostlaw09.TellBytes", spec := "tellBytes", inPlace := ["internal/bytealg.IndexByteString", "internal/bytealg.IndexString", "internal/abi.NoEscape", "internal/reflectlite.ValueOf", "(internal/reflectlite.Value).Type", "(internal/reflectlite.Value).IsNil", "internal/reflectlite.TypeOf", "(internal/reflectlite.Value).Elem", "(internal/reflectlite.Value).Set", "internal/bytealg.MakeNoZero"], unfollowed := true, recurses := true, named := ["provost/text.marks", "internal/bytealg.MaxLen", "errors.errorType"], apart := false, laid := [("errors.errorType", laid_errors_errorType), ("provost/text.marks", laid_provost_text_marks)] }
def TellBytesSaid : Prop := tellBytesRow.holds Tryz.pinned (OpenSpec.ofChange tellBytesSpec)

/-- ITS FALSE NEIGHBOUR: 'it returns false'. Refute it at one input. -/
def tellBytesWrong : ChangeSpec := { name := "tellBytes", fn := fun _ => fun
  | [d] => { results := [.lit (.bool false)], args := [d] }
  | _ => none }
def TellBytesWrongFalsely : Prop := tellBytesRow.holds Tryz.pinned (OpenSpec.ofChange tellBytesWrong)

/-- 'provostlaw09.TellReads': WHATEVER THE INPUT: true; the input reads as it did. -/
def tellReadsSpec : ChangeSpec := { name := "tellReads", fn := fun _ => fun
  | [d] => { results := [.lit (.bool true)], args := [d] }
  | _ => none }
def tellReadsRow : OpenClaim := { program := "ytgelbkgkjkeccaagreatdoor", sum := "b6e0e606fa735ef442c4135a42f331af943a333288e5242ba993fd3bd7e9bb0b", func := "provost/provostlaw09.TellReads", spec := "tellReads", inPlace := ["internal/bytealg.IndexByteString", "internal/bytealg.IndexString", "internal/abi.NoEscape", "internal/reflectlite.ValueOf", "(internal/reflectlite.Value).Type", "(internal/reflectlite.Value).IsNil", "internal/reflectlite.TypeOf", "(internal/reflectlite.Value).Elem", "(internal/reflectlite.Value).Set", "internal/bytealg.MakeNoZero"], unfollowed := true, recurses := true, named := ["provost/text.marks", "internal/bytealg.MaxLen", "errors.errorType"], apart := false, laid := [("errors.errorType", laid_errors_errorType), ("provost/text.marks", laid_provost_text_marks)] }
def TellReadsSaid : Prop := tellReadsRow.holds Tryz.pinned (OpenSpec.ofChange tellReadsSpec)

/-- ITS FALSE NEIGHBOUR: 'it returns false'. Refute it at one input. -/
def tellReadsWrong : ChangeSpec := { name := "tellReads", fn := fun _ => fun
  | [d] => { results := [.lit (.bool false)], args := [d] }
  | _ => none }
def TellReadsWrongFalsely : Prop := tellReadsRow.holds Tryz.pinned (OpenSpec.ofChange tellReadsWrong)

/-- 'provostlaw09.TellBack': WHATEVER THE INPUT: true; the input reads as it did. -/
def tellBackSpec : ChangeSpec := { name := "tellBack", fn := fun _ => fun
  | [d1, d2] => { results := [.lit (.bool true)], args := [d1, d2] }
  | _ => none }
def tellBackRow : OpenClaim := { program := "ytgelbkgkjkeccaagreatdoor", sum := "b6e0e606fa735ef442c4135a42f331af943a333288e5242ba993fd3bd7e9bb0b", func := "provost/provostlaw09.TellBack", spec := "tellBack", inPlace := ["internal/bytealg.IndexByteString", "internal/bytealg.IndexString", "internal/abi.NoEscape", "internal/reflectlite.ValueOf", "(internal/reflectlite.Value).Type", "(internal/reflectlite.Value).IsNil", "internal/reflectlite.TypeOf", "(internal/reflectlite.Value).Elem", "(internal/reflectlite.Value).Set", "internal/bytealg.MakeNoZero"], unfollowed := true, recurses := true, named := ["provost/text.marks", "internal/bytealg.MaxLen", "errors.errorType"], apart := false, laid := [("errors.errorType", laid_errors_errorType), ("provost/text.marks", laid_provost_text_marks)] }
def TellBackSaid : Prop := tellBackRow.holds Tryz.pinned (OpenSpec.ofChange tellBackSpec)

/-- ITS FALSE NEIGHBOUR: 'it returns false'. Refute it at one input. -/
def tellBackWrong : ChangeSpec := { name := "tellBack", fn := fun _ => fun
  | [d1, d2] => { results := [.lit (.bool false)], args := [d1, d2] }
  | _ => none }
def TellBackWrongFalsely : Prop := tellBackRow.holds Tryz.pinned (OpenSpec.ofChange tellBackWrong)

/-- 'provostlaw09.TellChecks': WHATEVER THE INPUT: true; the input reads as it did. -/
def tellChecksSpec : ChangeSpec := { name := "tellChecks", fn := fun _ => fun
  | [d1, d2] => { results := [.lit (.bool true)], args := [d1, d2] }
  | _ => none }
def tellChecksRow : OpenClaim := { program := "ytgelbkgkjkeccaagreatdoor", sum := "b6e0e606fa735ef442c4135a42f331af943a333288e5242ba993fd3bd7e9bb0b", func := "provost/provostlaw09.TellChecks", spec := "tellChecks", inPlace := ["internal/bytealg.IndexByteString", "internal/bytealg.IndexString", "internal/abi.NoEscape", "internal/reflectlite.ValueOf", "(internal/reflectlite.Value).Type", "(internal/reflectlite.Value).IsNil", "internal/reflectlite.TypeOf", "(internal/reflectlite.Value).Elem", "(internal/reflectlite.Value).Set", "internal/bytealg.MakeNoZero"], unfollowed := true, recurses := true, named := ["provost/text.marks", "internal/bytealg.MaxLen", "errors.errorType"], apart := false, laid := [("errors.errorType", laid_errors_errorType), ("provost/text.marks", laid_provost_text_marks)] }
def TellChecksSaid : Prop := tellChecksRow.holds Tryz.pinned (OpenSpec.ofChange tellChecksSpec)

/-- ITS FALSE NEIGHBOUR: 'it returns false'. Refute it at one input. -/
def tellChecksWrong : ChangeSpec := { name := "tellChecks", fn := fun _ => fun
  | [d1, d2] => { results := [.lit (.bool false)], args := [d1, d2] }
  | _ => none }
def TellChecksWrongFalsely : Prop := tellChecksRow.holds Tryz.pinned (OpenSpec.ofChange tellChecksWrong)

/-- 'provostlaw39.ConnTells': WHATEVER THE INPUT: true; the input reads as it did. -/
def connTellsSpec : ChangeSpec := { name := "connTells", fn := fun _ => fun
  | [d1, d2] => { results := [.lit (.bool true)], args := [d1, d2] }
  | _ => none }
def connTellsRow : OpenClaim := { program := "ytgelbkgkjkeccaagreatdoor", sum := "b6e0e606fa735ef442c4135a42f331af943a333288e5242ba993fd3bd7e9bb0b", func := "provost/provostlaw39.ConnTells", spec := "connTells", inPlace := ["internal/bytealg.IndexByteString", "internal/bytealg.IndexString", "internal/reflectlite.ValueOf", "(internal/reflectlite.Value).Type", "(internal/reflectlite.Value).IsNil", "internal/reflectlite.TypeOf", "(internal/reflectlite.Value).Elem", "(internal/reflectlite.Value).Set", "internal/abi.NoEscape", "internal/bytealg.MakeNoZero"], unfollowed := true, recurses := true, named := ["provost/ask.kinds", "provost/text.marks", "internal/bytealg.MaxLen", "errors.errorType"], apart := false, laid := [("errors.errorType", laid_errors_errorType), ("provost/text.marks", laid_provost_text_marks), ("provost/ask.kinds", laid_provost_ask_kinds)] }
def ConnTellsSaid : Prop := connTellsRow.holds Tryz.pinned (OpenSpec.ofChange connTellsSpec)

/-- ITS FALSE NEIGHBOUR: 'it returns false'. Refute it at one input. -/
def connTellsWrong : ChangeSpec := { name := "connTells", fn := fun _ => fun
  | [d1, d2] => { results := [.lit (.bool false)], args := [d1, d2] }
  | _ => none }
def ConnTellsWrongFalsely : Prop := connTellsRow.holds Tryz.pinned (OpenSpec.ofChange connTellsWrong)

/-- 'provostlaw45.ScriptCalls': WHATEVER THE INPUT: true; the input reads as it did. -/
def scriptCallsSpec : ChangeSpec := { name := "scriptCalls", fn := fun _ => fun
  | [d] => { results := [.lit (.bool true)], args := [d] }
  | _ => none }
def scriptCallsRow : OpenClaim := { program := "ytgelbkgkjkeccaagreatdoor", sum := "b6e0e606fa735ef442c4135a42f331af943a333288e5242ba993fd3bd7e9bb0b", func := "provost/provostlaw45.ScriptCalls", spec := "scriptCalls", inPlace := ["internal/bytealg.CountString", "internal/bytealg.IndexByteString", "internal/bytealg.IndexString", "internal/abi.NoEscape", "internal/bytealg.MakeNoZero", "internal/reflectlite.ValueOf", "(internal/reflectlite.Value).Type", "(internal/reflectlite.Value).IsNil", "internal/reflectlite.TypeOf", "(internal/reflectlite.Value).Elem", "(internal/reflectlite.Value).Set"], unfollowed := true, recurses := true, named := ["provost/script.verbs", "unicode/utf8.first", "unicode/utf8.acceptRanges", "internal/bytealg.MaxLen", "provost/text.marks", "provost/ask.kinds", "errors.errorType"], apart := false, laid := [("unicode/utf8.acceptRanges", laid_unicode_utf8_acceptRanges), ("errors.errorType", laid_errors_errorType), ("provost/text.marks", laid_provost_text_marks), ("provost/ask.kinds", laid_provost_ask_kinds), ("provost/script.verbs", laid_provost_script_verbs), ("unicode/utf8.first", laid_unicode_utf8_first)] }
def ScriptCallsSaid : Prop := scriptCallsRow.holds Tryz.pinned (OpenSpec.ofChange scriptCallsSpec)

/-- ITS FALSE NEIGHBOUR: 'it returns false'. Refute it at one input. -/
def scriptCallsWrong : ChangeSpec := { name := "scriptCalls", fn := fun _ => fun
  | [d] => { results := [.lit (.bool false)], args := [d] }
  | _ => none }
def ScriptCallsWrongFalsely : Prop := scriptCallsRow.holds Tryz.pinned (OpenSpec.ofChange scriptCallsWrong)

/-- 'provostlaw45.ScriptFrames': WHATEVER THE INPUT: true; the input reads as it did. -/
def scriptFramesSpec : ChangeSpec := { name := "scriptFrames", fn := fun _ => fun
  | [d] => { results := [.lit (.bool true)], args := [d] }
  | _ => none }
def scriptFramesRow : OpenClaim := { program := "ytgelbkgkjkeccaagreatdoor", sum := "b6e0e606fa735ef442c4135a42f331af943a333288e5242ba993fd3bd7e9bb0b", func := "provost/provostlaw45.ScriptFrames", spec := "scriptFrames", inPlace := ["internal/bytealg.CountString", "internal/bytealg.IndexByteString", "internal/bytealg.IndexString", "internal/abi.NoEscape", "internal/bytealg.MakeNoZero", "internal/reflectlite.ValueOf", "(internal/reflectlite.Value).Type", "(internal/reflectlite.Value).IsNil", "internal/reflectlite.TypeOf", "(internal/reflectlite.Value).Elem", "(internal/reflectlite.Value).Set"], unfollowed := true, recurses := true, named := ["provost/script.verbs", "unicode/utf8.first", "unicode/utf8.acceptRanges", "internal/bytealg.MaxLen", "provost/text.marks", "provost/ask.kinds", "errors.errorType"], apart := false, laid := [("unicode/utf8.acceptRanges", laid_unicode_utf8_acceptRanges), ("errors.errorType", laid_errors_errorType), ("provost/text.marks", laid_provost_text_marks), ("provost/ask.kinds", laid_provost_ask_kinds), ("provost/script.verbs", laid_provost_script_verbs), ("unicode/utf8.first", laid_unicode_utf8_first)] }
def ScriptFramesSaid : Prop := scriptFramesRow.holds Tryz.pinned (OpenSpec.ofChange scriptFramesSpec)

/-- ITS FALSE NEIGHBOUR: 'it returns false'. Refute it at one input. -/
def scriptFramesWrong : ChangeSpec := { name := "scriptFrames", fn := fun _ => fun
  | [d] => { results := [.lit (.bool false)], args := [d] }
  | _ => none }
def ScriptFramesWrongFalsely : Prop := scriptFramesRow.holds Tryz.pinned (OpenSpec.ofChange scriptFramesWrong)

/- THE SECOND FORM. 'bulk': how many values and letters a reading holds, each counted each time it is reached (what is shared counts as often as it is met; a slice's spare places count too). A statement '..UptoSaid' is the law's where the arguments, and the package variables that the reading takes, are together of bulk at most 1048576: NARROWER than '..Said'. Prove '..Said' where nothing that the law and all that it calls make is longer than what came in: it says more and counts as full. Else prove '..UptoSaid'. A law counts once. -/
mutual
def uptoBulk {H : Type} : DataW H → Nat
  | .lit (.string bytes) => bytes.length + 1
  | .lit _ => 1
  | .nil => 1
  | .ptr d => uptoBulk d + 1
  | .slice elems spare => uptoBulkAll elems + uptoBulkAll spare + 1
  | .agg parts => uptoBulkAll parts + 1
  | .iface _ d => uptoBulk d + 1
  | .map entries => uptoBulkEntries entries + 1
  | .held _ => 1
def uptoBulkAll {H : Type} : List (DataW H) → Nat
  | [] => 0
  | d :: r => uptoBulk d + uptoBulkAll r
def uptoBulkEntries {H : Type} : List (Lit × DataW H) → Nat
  | [] => 0
  | x :: r => uptoBulkEntry x + uptoBulkEntries r
def uptoBulkEntry {H : Type} : Lit × DataW H → Nat
  | (.string bytes, d) => bytes.length + uptoBulk d + 1
  | (_, d) => uptoBulk d + 1
 end
def uptoSmall : (H : Type) → List (DataW H) → Bool := fun _ ds => decide (uptoBulkAll ds ≤ 1048576)
def OpenSpec.upto (s : _root_.Go.ChangeSpec) : _root_.Go.OpenSpec := { _root_.Go.OpenSpec.ofChange s with cond := some uptoSmall }

/-- 'provostlaw06.SpecClones', WHERE WHAT IT READS IS OF BULK AT MOST 1048576: true; the input reads as it did. -/
def specClonesUptoRow : OpenClaim := { program := "ytgelbkgkjkeccaagreatdoor", sum := "b6e0e606fa735ef442c4135a42f331af943a333288e5242ba993fd3bd7e9bb0b", func := "provost/provostlaw06.SpecClones", spec := "specClones", inPlace := ["internal/bytealg.IndexByteString", "internal/bytealg.IndexString", "internal/reflectlite.ValueOf", "(internal/reflectlite.Value).Type", "(internal/reflectlite.Value).IsNil", "internal/reflectlite.TypeOf", "(internal/reflectlite.Value).Elem", "(internal/reflectlite.Value).Set", "internal/abi.NoEscape", "internal/bytealg.MakeNoZero"], unfollowed := true, recurses := true, named := ["provost/text.marks", "internal/bytealg.MaxLen", "errors.errorType"], apart := false, laid := [("errors.errorType", laid_errors_errorType), ("provost/text.marks", laid_provost_text_marks)], narrowed := true }
def SpecClonesUptoSaid : Prop := specClonesUptoRow.holds Tryz.pinned (OpenSpec.upto specClonesSpec)

/-- 'provostlaw06.SpecUpdates', WHERE WHAT IT READS IS OF BULK AT MOST 1048576: true; the input reads as it did. -/
def specUpdatesUptoRow : OpenClaim := { program := "ytgelbkgkjkeccaagreatdoor", sum := "b6e0e606fa735ef442c4135a42f331af943a333288e5242ba993fd3bd7e9bb0b", func := "provost/provostlaw06.SpecUpdates", spec := "specUpdates", inPlace := ["internal/bytealg.IndexByteString", "internal/bytealg.IndexString", "internal/reflectlite.ValueOf", "(internal/reflectlite.Value).Type", "(internal/reflectlite.Value).IsNil", "internal/reflectlite.TypeOf", "(internal/reflectlite.Value).Elem", "(internal/reflectlite.Value).Set", "internal/abi.NoEscape", "internal/bytealg.MakeNoZero"], unfollowed := true, recurses := true, named := ["provost/text.marks", "internal/bytealg.MaxLen", "errors.errorType"], apart := false, laid := [("errors.errorType", laid_errors_errorType), ("provost/text.marks", laid_provost_text_marks)], narrowed := true }
def SpecUpdatesUptoSaid : Prop := specUpdatesUptoRow.holds Tryz.pinned (OpenSpec.upto specUpdatesSpec)

/-- 'provostlaw07.PackWrites', WHERE WHAT IT READS IS OF BULK AT MOST 1048576: true; the input reads as it did. -/
def packWritesUptoRow : OpenClaim := { program := "ytgelbkgkjkeccaagreatdoor", sum := "b6e0e606fa735ef442c4135a42f331af943a333288e5242ba993fd3bd7e9bb0b", func := "provost/provostlaw07.PackWrites", spec := "packWrites", inPlace := ["internal/bytealg.IndexByteString", "internal/bytealg.IndexString", "internal/reflectlite.ValueOf", "(internal/reflectlite.Value).Type", "(internal/reflectlite.Value).IsNil", "internal/reflectlite.TypeOf", "(internal/reflectlite.Value).Elem", "(internal/reflectlite.Value).Set", "internal/abi.NoEscape", "internal/bytealg.MakeNoZero"], unfollowed := true, recurses := true, named := ["provost/text.marks", "internal/bytealg.MaxLen", "errors.errorType"], apart := false, laid := [("errors.errorType", laid_errors_errorType), ("provost/text.marks", laid_provost_text_marks)], narrowed := true }
def PackWritesUptoSaid : Prop := packWritesUptoRow.holds Tryz.pinned (OpenSpec.upto packWritesSpec)

/-- 'provostlaw07.PackBack', WHERE WHAT IT READS IS OF BULK AT MOST 1048576: true; the input reads as it did. -/
def packBackUptoRow : OpenClaim := { program := "ytgelbkgkjkeccaagreatdoor", sum := "b6e0e606fa735ef442c4135a42f331af943a333288e5242ba993fd3bd7e9bb0b", func := "provost/provostlaw07.PackBack", spec := "packBack", inPlace := ["internal/bytealg.IndexByteString", "internal/bytealg.IndexString", "internal/reflectlite.ValueOf", "(internal/reflectlite.Value).Type", "(internal/reflectlite.Value).IsNil", "internal/reflectlite.TypeOf", "(internal/reflectlite.Value).Elem", "(internal/reflectlite.Value).Set", "internal/abi.NoEscape", "internal/bytealg.MakeNoZero"], unfollowed := true, recurses := true, named := ["provost/text.marks", "internal/bytealg.MaxLen", "errors.errorType"], apart := false, laid := [("errors.errorType", laid_errors_errorType), ("provost/text.marks", laid_provost_text_marks)], narrowed := true }
def PackBackUptoSaid : Prop := packBackUptoRow.holds Tryz.pinned (OpenSpec.upto packBackSpec)

/-- 'provostlaw07.PackCuts', WHERE WHAT IT READS IS OF BULK AT MOST 1048576: true; the input reads as it did. -/
def packCutsUptoRow : OpenClaim := { program := "ytgelbkgkjkeccaagreatdoor", sum := "b6e0e606fa735ef442c4135a42f331af943a333288e5242ba993fd3bd7e9bb0b", func := "provost/provostlaw07.PackCuts", spec := "packCuts", inPlace := ["internal/bytealg.IndexByteString", "internal/bytealg.IndexString", "internal/reflectlite.ValueOf", "(internal/reflectlite.Value).Type", "(internal/reflectlite.Value).IsNil", "internal/reflectlite.TypeOf", "(internal/reflectlite.Value).Elem", "(internal/reflectlite.Value).Set", "internal/abi.NoEscape", "internal/bytealg.MakeNoZero"], unfollowed := true, recurses := true, named := ["provost/text.marks", "internal/bytealg.MaxLen", "errors.errorType"], apart := false, laid := [("errors.errorType", laid_errors_errorType), ("provost/text.marks", laid_provost_text_marks)], narrowed := true }
def PackCutsUptoSaid : Prop := packCutsUptoRow.holds Tryz.pinned (OpenSpec.upto packCutsSpec)

/-- 'provostlaw07.PackLabels', WHERE WHAT IT READS IS OF BULK AT MOST 1048576: true; the input reads as it did. -/
def packLabelsUptoRow : OpenClaim := { program := "ytgelbkgkjkeccaagreatdoor", sum := "b6e0e606fa735ef442c4135a42f331af943a333288e5242ba993fd3bd7e9bb0b", func := "provost/provostlaw07.PackLabels", spec := "packLabels", inPlace := ["internal/bytealg.IndexByteString", "internal/bytealg.IndexString", "internal/reflectlite.ValueOf", "(internal/reflectlite.Value).Type", "(internal/reflectlite.Value).IsNil", "internal/reflectlite.TypeOf", "(internal/reflectlite.Value).Elem", "(internal/reflectlite.Value).Set", "internal/abi.NoEscape", "internal/bytealg.MakeNoZero"], unfollowed := true, recurses := true, named := ["provost/text.marks", "internal/bytealg.MaxLen", "errors.errorType"], apart := false, laid := [("errors.errorType", laid_errors_errorType), ("provost/text.marks", laid_provost_text_marks)], narrowed := true }
def PackLabelsUptoSaid : Prop := packLabelsUptoRow.holds Tryz.pinned (OpenSpec.upto packLabelsSpec)

/-- 'provostlaw07.PackRaws', WHERE WHAT IT READS IS OF BULK AT MOST 1048576: true; the input reads as it did. -/
def packRawsUptoRow : OpenClaim := { program := "ytgelbkgkjkeccaagreatdoor", sum := "b6e0e606fa735ef442c4135a42f331af943a333288e5242ba993fd3bd7e9bb0b", func := "provost/provostlaw07.PackRaws", spec := "packRaws", inPlace := ["internal/bytealg.IndexByteString", "internal/bytealg.IndexString", "internal/reflectlite.ValueOf", "(internal/reflectlite.Value).Type", "(internal/reflectlite.Value).IsNil", "internal/reflectlite.TypeOf", "(internal/reflectlite.Value).Elem", "(internal/reflectlite.Value).Set", "internal/abi.NoEscape", "internal/bytealg.MakeNoZero"], unfollowed := true, recurses := true, named := ["provost/text.marks", "internal/bytealg.MaxLen", "errors.errorType"], apart := false, laid := [("errors.errorType", laid_errors_errorType), ("provost/text.marks", laid_provost_text_marks)], narrowed := true }
def PackRawsUptoSaid : Prop := packRawsUptoRow.holds Tryz.pinned (OpenSpec.upto packRawsSpec)

/-- 'provostlaw07.PackReads', WHERE WHAT IT READS IS OF BULK AT MOST 1048576: true; the input reads as it did. -/
def packReadsUptoRow : OpenClaim := { program := "ytgelbkgkjkeccaagreatdoor", sum := "b6e0e606fa735ef442c4135a42f331af943a333288e5242ba993fd3bd7e9bb0b", func := "provost/provostlaw07.PackReads", spec := "packReads", inPlace := ["internal/bytealg.IndexByteString", "internal/bytealg.IndexString", "internal/reflectlite.ValueOf", "(internal/reflectlite.Value).Type", "(internal/reflectlite.Value).IsNil", "internal/reflectlite.TypeOf", "(internal/reflectlite.Value).Elem", "(internal/reflectlite.Value).Set", "internal/abi.NoEscape", "internal/bytealg.MakeNoZero"], unfollowed := true, recurses := true, named := ["provost/text.marks", "internal/bytealg.MaxLen", "errors.errorType"], apart := false, laid := [("errors.errorType", laid_errors_errorType), ("provost/text.marks", laid_provost_text_marks)], narrowed := true }
def PackReadsUptoSaid : Prop := packReadsUptoRow.holds Tryz.pinned (OpenSpec.upto packReadsSpec)

/-- 'provostlaw08.AskBytes', WHERE WHAT IT READS IS OF BULK AT MOST 1048576: true; the input reads as it did. -/
def askBytesUptoRow : OpenClaim := { program := "ytgelbkgkjkeccaagreatdoor", sum := "b6e0e606fa735ef442c4135a42f331af943a333288e5242ba993fd3bd7e9bb0b", func := "provost/provostlaw08.AskBytes", spec := "askBytes", inPlace := ["internal/bytealg.IndexByteString", "internal/bytealg.IndexString", "internal/reflectlite.ValueOf", "(internal/reflectlite.Value).Type", "(internal/reflectlite.Value).IsNil", "internal/reflectlite.TypeOf", "(internal/reflectlite.Value).Elem", "(internal/reflectlite.Value).Set", "internal/abi.NoEscape"], unfollowed := true, recurses := true, named := ["provost/ask.kinds", "provost/text.marks", "internal/bytealg.MaxLen", "errors.errorType"], apart := false, laid := [("errors.errorType", laid_errors_errorType), ("provost/text.marks", laid_provost_text_marks), ("provost/ask.kinds", laid_provost_ask_kinds)], narrowed := true }
def AskBytesUptoSaid : Prop := askBytesUptoRow.holds Tryz.pinned (OpenSpec.upto askBytesSpec)

/-- 'provostlaw08.AskBack', WHERE WHAT IT READS IS OF BULK AT MOST 1048576: true; the input reads as it did. -/
def askBackUptoRow : OpenClaim := { program := "ytgelbkgkjkeccaagreatdoor", sum := "b6e0e606fa735ef442c4135a42f331af943a333288e5242ba993fd3bd7e9bb0b", func := "provost/provostlaw08.AskBack", spec := "askBack", inPlace := ["internal/bytealg.IndexByteString", "internal/bytealg.IndexString", "internal/reflectlite.ValueOf", "(internal/reflectlite.Value).Type", "(internal/reflectlite.Value).IsNil", "internal/reflectlite.TypeOf", "(internal/reflectlite.Value).Elem", "(internal/reflectlite.Value).Set", "internal/abi.NoEscape"], unfollowed := true, recurses := true, named := ["provost/ask.kinds", "provost/text.marks", "internal/bytealg.MaxLen", "errors.errorType"], apart := false, laid := [("errors.errorType", laid_errors_errorType), ("provost/text.marks", laid_provost_text_marks), ("provost/ask.kinds", laid_provost_ask_kinds)], narrowed := true }
def AskBackUptoSaid : Prop := askBackUptoRow.holds Tryz.pinned (OpenSpec.upto askBackSpec)

/-- 'provostlaw08.AskUnlike', WHERE WHAT IT READS IS OF BULK AT MOST 1048576: true; the input reads as it did. -/
def askUnlikeUptoRow : OpenClaim := { program := "ytgelbkgkjkeccaagreatdoor", sum := "b6e0e606fa735ef442c4135a42f331af943a333288e5242ba993fd3bd7e9bb0b", func := "provost/provostlaw08.AskUnlike", spec := "askUnlike", inPlace := ["internal/bytealg.IndexByteString", "internal/bytealg.IndexString", "internal/reflectlite.ValueOf", "(internal/reflectlite.Value).Type", "(internal/reflectlite.Value).IsNil", "internal/reflectlite.TypeOf", "(internal/reflectlite.Value).Elem", "(internal/reflectlite.Value).Set", "internal/abi.NoEscape"], unfollowed := true, recurses := true, named := ["provost/ask.kinds", "provost/text.marks", "internal/bytealg.MaxLen", "errors.errorType"], apart := false, laid := [("errors.errorType", laid_errors_errorType), ("provost/text.marks", laid_provost_text_marks), ("provost/ask.kinds", laid_provost_ask_kinds)], narrowed := true }
def AskUnlikeUptoSaid : Prop := askUnlikeUptoRow.holds Tryz.pinned (OpenSpec.upto askUnlikeSpec)

/-- 'provostlaw08.AskNames', WHERE WHAT IT READS IS OF BULK AT MOST 1048576: true; the input reads as it did. -/
def askNamesUptoRow : OpenClaim := { program := "ytgelbkgkjkeccaagreatdoor", sum := "b6e0e606fa735ef442c4135a42f331af943a333288e5242ba993fd3bd7e9bb0b", func := "provost/provostlaw08.AskNames", spec := "askNames", inPlace := ["internal/bytealg.IndexByteString", "internal/bytealg.IndexString", "internal/reflectlite.ValueOf", "(internal/reflectlite.Value).Type", "(internal/reflectlite.Value).IsNil", "internal/reflectlite.TypeOf", "(internal/reflectlite.Value).Elem", "(internal/reflectlite.Value).Set", "internal/abi.NoEscape"], unfollowed := true, recurses := true, named := ["provost/ask.kinds", "provost/text.marks", "internal/bytealg.MaxLen", "errors.errorType"], apart := false, laid := [("errors.errorType", laid_errors_errorType), ("provost/text.marks", laid_provost_text_marks), ("provost/ask.kinds", laid_provost_ask_kinds)], narrowed := true }
def AskNamesUptoSaid : Prop := askNamesUptoRow.holds Tryz.pinned (OpenSpec.upto askNamesSpec)

/-- 'provostlaw39.ConnDeaf', WHERE WHAT IT READS IS OF BULK AT MOST 1048576: true; the input reads as it did. -/
def connDeafUptoRow : OpenClaim := { program := "ytgelbkgkjkeccaagreatdoor", sum := "b6e0e606fa735ef442c4135a42f331af943a333288e5242ba993fd3bd7e9bb0b", func := "provost/provostlaw39.ConnDeaf", spec := "connDeaf", inPlace := ["internal/bytealg.IndexByteString", "internal/bytealg.IndexString", "internal/reflectlite.ValueOf", "(internal/reflectlite.Value).Type", "(internal/reflectlite.Value).IsNil", "internal/reflectlite.TypeOf", "(internal/reflectlite.Value).Elem", "(internal/reflectlite.Value).Set", "internal/abi.NoEscape", "internal/bytealg.MakeNoZero"], unfollowed := true, recurses := true, named := ["provost/ask.kinds", "provost/text.marks", "internal/bytealg.MaxLen", "errors.errorType"], apart := false, laid := [("errors.errorType", laid_errors_errorType), ("provost/text.marks", laid_provost_text_marks), ("provost/ask.kinds", laid_provost_ask_kinds)], narrowed := true }
def ConnDeafUptoSaid : Prop := connDeafUptoRow.holds Tryz.pinned (OpenSpec.upto connDeafSpec)

/-- 'provostlaw39.ConnCalls', WHERE WHAT IT READS IS OF BULK AT MOST 1048576: true; the input reads as it did. -/
def connCallsUptoRow : OpenClaim := { program := "ytgelbkgkjkeccaagreatdoor", sum := "b6e0e606fa735ef442c4135a42f331af943a333288e5242ba993fd3bd7e9bb0b", func := "provost/provostlaw39.ConnCalls", spec := "connCalls", inPlace := ["internal/bytealg.IndexByteString", "internal/bytealg.IndexString", "internal/reflectlite.ValueOf", "(internal/reflectlite.Value).Type", "(internal/reflectlite.Value).IsNil", "internal/reflectlite.TypeOf", "(internal/reflectlite.Value).Elem", "(internal/reflectlite.Value).Set", "internal/abi.NoEscape", "internal/bytealg.MakeNoZero"], unfollowed := true, recurses := true, named := ["provost/ask.kinds", "provost/text.marks", "internal/bytealg.MaxLen", "errors.errorType"], apart := false, laid := [("errors.errorType", laid_errors_errorType), ("provost/text.marks", laid_provost_text_marks), ("provost/ask.kinds", laid_provost_ask_kinds)], narrowed := true }
def ConnCallsUptoSaid : Prop := connCallsUptoRow.holds Tryz.pinned (OpenSpec.upto connCallsSpec)

/-- 'provostlaw08.AskChecks', WHERE WHAT IT READS IS OF BULK AT MOST 1048576: true; the input reads as it did. -/
def askChecksUptoRow : OpenClaim := { program := "ytgelbkgkjkeccaagreatdoor", sum := "b6e0e606fa735ef442c4135a42f331af943a333288e5242ba993fd3bd7e9bb0b", func := "provost/provostlaw08.AskChecks", spec := "askChecks", inPlace := ["internal/bytealg.IndexByteString", "internal/bytealg.IndexString", "internal/reflectlite.ValueOf", "(internal/reflectlite.Value).Type", "(internal/reflectlite.Value).IsNil", "internal/reflectlite.TypeOf", "(internal/reflectlite.Value).Elem", "(internal/reflectlite.Value).Set", "internal/abi.NoEscape", "internal/bytealg.MakeNoZero"], unfollowed := true, recurses := true, named := ["provost/ask.kinds", "provost/text.marks", "internal/bytealg.MaxLen", "errors.errorType"], apart := false, laid := [("errors.errorType", laid_errors_errorType), ("provost/text.marks", laid_provost_text_marks), ("provost/ask.kinds", laid_provost_ask_kinds)], narrowed := true }
def AskChecksUptoSaid : Prop := askChecksUptoRow.holds Tryz.pinned (OpenSpec.upto askChecksSpec)

/-- 'provostlaw09.TellBytes', WHERE WHAT IT READS IS OF BULK AT MOST 1048576: true; the input reads as it did. -/
def tellBytesUptoRow : OpenClaim := { program := "ytgelbkgkjkeccaagreatdoor", sum := "b6e0e606fa735ef442c4135a42f331af943a333288e5242ba993fd3bd7e9bb0b", func := "provost/provostlaw09.TellBytes", spec := "tellBytes", inPlace := ["internal/bytealg.IndexByteString", "internal/bytealg.IndexString", "internal/abi.NoEscape", "internal/reflectlite.ValueOf", "(internal/reflectlite.Value).Type", "(internal/reflectlite.Value).IsNil", "internal/reflectlite.TypeOf", "(internal/reflectlite.Value).Elem", "(internal/reflectlite.Value).Set", "internal/bytealg.MakeNoZero"], unfollowed := true, recurses := true, named := ["provost/text.marks", "internal/bytealg.MaxLen", "errors.errorType"], apart := false, laid := [("errors.errorType", laid_errors_errorType), ("provost/text.marks", laid_provost_text_marks)], narrowed := true }
def TellBytesUptoSaid : Prop := tellBytesUptoRow.holds Tryz.pinned (OpenSpec.upto tellBytesSpec)

/-- 'provostlaw09.TellReads', WHERE WHAT IT READS IS OF BULK AT MOST 1048576: true; the input reads as it did. -/
def tellReadsUptoRow : OpenClaim := { program := "ytgelbkgkjkeccaagreatdoor", sum := "b6e0e606fa735ef442c4135a42f331af943a333288e5242ba993fd3bd7e9bb0b", func := "provost/provostlaw09.TellReads", spec := "tellReads", inPlace := ["internal/bytealg.IndexByteString", "internal/bytealg.IndexString", "internal/abi.NoEscape", "internal/reflectlite.ValueOf", "(internal/reflectlite.Value).Type", "(internal/reflectlite.Value).IsNil", "internal/reflectlite.TypeOf", "(internal/reflectlite.Value).Elem", "(internal/reflectlite.Value).Set", "internal/bytealg.MakeNoZero"], unfollowed := true, recurses := true, named := ["provost/text.marks", "internal/bytealg.MaxLen", "errors.errorType"], apart := false, laid := [("errors.errorType", laid_errors_errorType), ("provost/text.marks", laid_provost_text_marks)], narrowed := true }
def TellReadsUptoSaid : Prop := tellReadsUptoRow.holds Tryz.pinned (OpenSpec.upto tellReadsSpec)

/-- 'provostlaw09.TellBack', WHERE WHAT IT READS IS OF BULK AT MOST 1048576: true; the input reads as it did. -/
def tellBackUptoRow : OpenClaim := { program := "ytgelbkgkjkeccaagreatdoor", sum := "b6e0e606fa735ef442c4135a42f331af943a333288e5242ba993fd3bd7e9bb0b", func := "provost/provostlaw09.TellBack", spec := "tellBack", inPlace := ["internal/bytealg.IndexByteString", "internal/bytealg.IndexString", "internal/abi.NoEscape", "internal/reflectlite.ValueOf", "(internal/reflectlite.Value).Type", "(internal/reflectlite.Value).IsNil", "internal/reflectlite.TypeOf", "(internal/reflectlite.Value).Elem", "(internal/reflectlite.Value).Set", "internal/bytealg.MakeNoZero"], unfollowed := true, recurses := true, named := ["provost/text.marks", "internal/bytealg.MaxLen", "errors.errorType"], apart := false, laid := [("errors.errorType", laid_errors_errorType), ("provost/text.marks", laid_provost_text_marks)], narrowed := true }
def TellBackUptoSaid : Prop := tellBackUptoRow.holds Tryz.pinned (OpenSpec.upto tellBackSpec)

/-- 'provostlaw09.TellChecks', WHERE WHAT IT READS IS OF BULK AT MOST 1048576: true; the input reads as it did. -/
def tellChecksUptoRow : OpenClaim := { program := "ytgelbkgkjkeccaagreatdoor", sum := "b6e0e606fa735ef442c4135a42f331af943a333288e5242ba993fd3bd7e9bb0b", func := "provost/provostlaw09.TellChecks", spec := "tellChecks", inPlace := ["internal/bytealg.IndexByteString", "internal/bytealg.IndexString", "internal/abi.NoEscape", "internal/reflectlite.ValueOf", "(internal/reflectlite.Value).Type", "(internal/reflectlite.Value).IsNil", "internal/reflectlite.TypeOf", "(internal/reflectlite.Value).Elem", "(internal/reflectlite.Value).Set", "internal/bytealg.MakeNoZero"], unfollowed := true, recurses := true, named := ["provost/text.marks", "internal/bytealg.MaxLen", "errors.errorType"], apart := false, laid := [("errors.errorType", laid_errors_errorType), ("provost/text.marks", laid_provost_text_marks)], narrowed := true }
def TellChecksUptoSaid : Prop := tellChecksUptoRow.holds Tryz.pinned (OpenSpec.upto tellChecksSpec)

/-- 'provostlaw39.ConnTells', WHERE WHAT IT READS IS OF BULK AT MOST 1048576: true; the input reads as it did. -/
def connTellsUptoRow : OpenClaim := { program := "ytgelbkgkjkeccaagreatdoor", sum := "b6e0e606fa735ef442c4135a42f331af943a333288e5242ba993fd3bd7e9bb0b", func := "provost/provostlaw39.ConnTells", spec := "connTells", inPlace := ["internal/bytealg.IndexByteString", "internal/bytealg.IndexString", "internal/reflectlite.ValueOf", "(internal/reflectlite.Value).Type", "(internal/reflectlite.Value).IsNil", "internal/reflectlite.TypeOf", "(internal/reflectlite.Value).Elem", "(internal/reflectlite.Value).Set", "internal/abi.NoEscape", "internal/bytealg.MakeNoZero"], unfollowed := true, recurses := true, named := ["provost/ask.kinds", "provost/text.marks", "internal/bytealg.MaxLen", "errors.errorType"], apart := false, laid := [("errors.errorType", laid_errors_errorType), ("provost/text.marks", laid_provost_text_marks), ("provost/ask.kinds", laid_provost_ask_kinds)], narrowed := true }
def ConnTellsUptoSaid : Prop := connTellsUptoRow.holds Tryz.pinned (OpenSpec.upto connTellsSpec)

/-- 'provostlaw45.ScriptCalls', WHERE WHAT IT READS IS OF BULK AT MOST 1048576: true; the input reads as it did. -/
def scriptCallsUptoRow : OpenClaim := { program := "ytgelbkgkjkeccaagreatdoor", sum := "b6e0e606fa735ef442c4135a42f331af943a333288e5242ba993fd3bd7e9bb0b", func := "provost/provostlaw45.ScriptCalls", spec := "scriptCalls", inPlace := ["internal/bytealg.CountString", "internal/bytealg.IndexByteString", "internal/bytealg.IndexString", "internal/abi.NoEscape", "internal/bytealg.MakeNoZero", "internal/reflectlite.ValueOf", "(internal/reflectlite.Value).Type", "(internal/reflectlite.Value).IsNil", "internal/reflectlite.TypeOf", "(internal/reflectlite.Value).Elem", "(internal/reflectlite.Value).Set"], unfollowed := true, recurses := true, named := ["provost/script.verbs", "unicode/utf8.first", "unicode/utf8.acceptRanges", "internal/bytealg.MaxLen", "provost/text.marks", "provost/ask.kinds", "errors.errorType"], apart := false, laid := [("unicode/utf8.acceptRanges", laid_unicode_utf8_acceptRanges), ("errors.errorType", laid_errors_errorType), ("provost/text.marks", laid_provost_text_marks), ("provost/ask.kinds", laid_provost_ask_kinds), ("provost/script.verbs", laid_provost_script_verbs), ("unicode/utf8.first", laid_unicode_utf8_first)], narrowed := true }
def ScriptCallsUptoSaid : Prop := scriptCallsUptoRow.holds Tryz.pinned (OpenSpec.upto scriptCallsSpec)

/-- 'provostlaw45.ScriptFrames', WHERE WHAT IT READS IS OF BULK AT MOST 1048576: true; the input reads as it did. -/
def scriptFramesUptoRow : OpenClaim := { program := "ytgelbkgkjkeccaagreatdoor", sum := "b6e0e606fa735ef442c4135a42f331af943a333288e5242ba993fd3bd7e9bb0b", func := "provost/provostlaw45.ScriptFrames", spec := "scriptFrames", inPlace := ["internal/bytealg.CountString", "internal/bytealg.IndexByteString", "internal/bytealg.IndexString", "internal/abi.NoEscape", "internal/bytealg.MakeNoZero", "internal/reflectlite.ValueOf", "(internal/reflectlite.Value).Type", "(internal/reflectlite.Value).IsNil", "internal/reflectlite.TypeOf", "(internal/reflectlite.Value).Elem", "(internal/reflectlite.Value).Set"], unfollowed := true, recurses := true, named := ["provost/script.verbs", "unicode/utf8.first", "unicode/utf8.acceptRanges", "internal/bytealg.MaxLen", "provost/text.marks", "provost/ask.kinds", "errors.errorType"], apart := false, laid := [("unicode/utf8.acceptRanges", laid_unicode_utf8_acceptRanges), ("errors.errorType", laid_errors_errorType), ("provost/text.marks", laid_provost_text_marks), ("provost/ask.kinds", laid_provost_ask_kinds), ("provost/script.verbs", laid_provost_script_verbs), ("unicode/utf8.first", laid_unicode_utf8_first)], narrowed := true }
def ScriptFramesUptoSaid : Prop := scriptFramesUptoRow.holds Tryz.pinned (OpenSpec.upto scriptFramesSpec)

end Rows
end Go.Proofs.YtgelbkgkjkeccaaGreatDoor
