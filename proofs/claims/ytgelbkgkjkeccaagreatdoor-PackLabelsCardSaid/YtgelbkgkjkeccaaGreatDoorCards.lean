/-
  DERIVED. GIVEN WITH THE SEED: THE CARDS: each row of YtgelbkgkjkeccaaGreatDoorRows.lean that lists a variable, with what it lists TIED to the program's text (the seventh form; the later family's looks); each row that meets fmt, with fmt's text TOLD by the authors' own Lean function (tested against real Go, not proved from fmt's source: count such statements apart). THE CARD IS WHAT COUNTS. Prove the row's statement (the work); the ties are given (YtgelbkgkjkeccaaGreatDoorTie.lean); close each card by the builder's one call (the guide's Derived/Test/ToyasCard.lean, 'card_holds'). Laid BY PROGRAM, IN A SANDBOX (cutbox-door.mjs). By AI agents, Wed Nov 11 2026. No macro, syntax, notation, axiom, sorry.
-/
import Derived.Test.YtgelbkgkjkeccaaGreatDoorRows
import GoSem.ClaimSeven
namespace Go.Proofs.YtgelbkgkjkeccaaGreatDoor
namespace Rows

/-- THE TIED CARD OF 'provostlaw06.SpecClones'. -/
def specClonesCard : Claim7 := { stood := { row := specClonesRow, standIns := [], harness := (true, "932b68818b095cfce4192548f70b4c123030f6ad1d4310bbaf48271b6dd4ed1e"), looks := true }, kinds := [], alts := [], laidByText := true, laidKinds := [.handle, .data], laidTests := true, laidLooks := .later }
def SpecClonesCardSaid : Prop := Claim7.holds Tryz.pinned (.plain (OpenSpec.ofChange specClonesSpec)) specClonesCard

/-- THE TIED CARD OF 'provostlaw06.SpecUpdates'. -/
def specUpdatesCard : Claim7 := { stood := { row := specUpdatesRow, standIns := [], harness := (true, "932b68818b095cfce4192548f70b4c123030f6ad1d4310bbaf48271b6dd4ed1e"), looks := true }, kinds := [], alts := [], laidByText := true, laidKinds := [.handle, .data], laidTests := true, laidLooks := .later }
def SpecUpdatesCardSaid : Prop := Claim7.holds Tryz.pinned (.plain (OpenSpec.ofChange specUpdatesSpec)) specUpdatesCard

/-- THE TIED CARD OF 'provostlaw07.PackWrites'. -/
def packWritesCard : Claim7 := { stood := { row := packWritesRow, standIns := [], harness := (true, "932b68818b095cfce4192548f70b4c123030f6ad1d4310bbaf48271b6dd4ed1e"), looks := true }, kinds := [], alts := [], laidByText := true, laidKinds := [.handle, .data], laidTests := true, laidLooks := .later }
def PackWritesCardSaid : Prop := Claim7.holds Tryz.pinned (.plain (OpenSpec.ofChange packWritesSpec)) packWritesCard

/-- THE TIED CARD OF 'provostlaw07.PackBack'. -/
def packBackCard : Claim7 := { stood := { row := packBackRow, standIns := [], harness := (true, "932b68818b095cfce4192548f70b4c123030f6ad1d4310bbaf48271b6dd4ed1e"), looks := true }, kinds := [], alts := [], laidByText := true, laidKinds := [.handle, .data], laidTests := true, laidLooks := .later }
def PackBackCardSaid : Prop := Claim7.holds Tryz.pinned (.plain (OpenSpec.ofChange packBackSpec)) packBackCard

/-- THE TIED CARD OF 'provostlaw07.PackCuts'. -/
def packCutsCard : Claim7 := { stood := { row := packCutsRow, standIns := [], harness := (true, "932b68818b095cfce4192548f70b4c123030f6ad1d4310bbaf48271b6dd4ed1e"), looks := true }, kinds := [], alts := [], laidByText := true, laidKinds := [.handle, .data], laidTests := true, laidLooks := .later }
def PackCutsCardSaid : Prop := Claim7.holds Tryz.pinned (.plain (OpenSpec.ofChange packCutsSpec)) packCutsCard

/-- THE TIED CARD OF 'provostlaw07.PackLabels'. -/
def packLabelsCard : Claim7 := { stood := { row := packLabelsRow, standIns := [], harness := (true, "932b68818b095cfce4192548f70b4c123030f6ad1d4310bbaf48271b6dd4ed1e"), looks := true }, kinds := [], alts := [], laidByText := true, laidKinds := [.handle, .data], laidTests := true, laidLooks := .later }
def PackLabelsCardSaid : Prop := Claim7.holds Tryz.pinned (.plain (OpenSpec.ofChange packLabelsSpec)) packLabelsCard

/-- THE TIED CARD OF 'provostlaw07.PackRaws'. -/
def packRawsCard : Claim7 := { stood := { row := packRawsRow, standIns := [], harness := (true, "932b68818b095cfce4192548f70b4c123030f6ad1d4310bbaf48271b6dd4ed1e"), looks := true }, kinds := [], alts := [], laidByText := true, laidKinds := [.handle, .data], laidTests := true, laidLooks := .later }
def PackRawsCardSaid : Prop := Claim7.holds Tryz.pinned (.plain (OpenSpec.ofChange packRawsSpec)) packRawsCard

/-- THE TIED CARD OF 'provostlaw07.PackReads'. -/
def packReadsCard : Claim7 := { stood := { row := packReadsRow, standIns := [], harness := (true, "932b68818b095cfce4192548f70b4c123030f6ad1d4310bbaf48271b6dd4ed1e"), looks := true }, kinds := [], alts := [], laidByText := true, laidKinds := [.handle, .data], laidTests := true, laidLooks := .later }
def PackReadsCardSaid : Prop := Claim7.holds Tryz.pinned (.plain (OpenSpec.ofChange packReadsSpec)) packReadsCard

/-- THE TIED CARD OF 'provostlaw08.AskBytes'. -/
def askBytesCard : Claim7 := { stood := { row := askBytesRow, standIns := [], harness := (true, "932b68818b095cfce4192548f70b4c123030f6ad1d4310bbaf48271b6dd4ed1e"), looks := true }, kinds := [], alts := [], laidByText := true, laidKinds := [.handle, .data, .data], laidTests := true, laidLooks := .later }
def AskBytesCardSaid : Prop := Claim7.holds Tryz.pinned (.plain (OpenSpec.ofChange askBytesSpec)) askBytesCard

/-- THE TIED CARD OF 'provostlaw08.AskBack'. -/
def askBackCard : Claim7 := { stood := { row := askBackRow, standIns := [], harness := (true, "932b68818b095cfce4192548f70b4c123030f6ad1d4310bbaf48271b6dd4ed1e"), looks := true }, kinds := [], alts := [], laidByText := true, laidKinds := [.handle, .data, .data], laidTests := true, laidLooks := .later }
def AskBackCardSaid : Prop := Claim7.holds Tryz.pinned (.plain (OpenSpec.ofChange askBackSpec)) askBackCard

/-- THE TIED CARD OF 'provostlaw08.AskUnlike'. -/
def askUnlikeCard : Claim7 := { stood := { row := askUnlikeRow, standIns := [], harness := (true, "932b68818b095cfce4192548f70b4c123030f6ad1d4310bbaf48271b6dd4ed1e"), looks := true }, kinds := [], alts := [], laidByText := true, laidKinds := [.handle, .data, .data], laidTests := true, laidLooks := .later }
def AskUnlikeCardSaid : Prop := Claim7.holds Tryz.pinned (.plain (OpenSpec.ofChange askUnlikeSpec)) askUnlikeCard

/-- THE TIED CARD OF 'provostlaw08.AskNames'. -/
def askNamesCard : Claim7 := { stood := { row := askNamesRow, standIns := [], harness := (true, "932b68818b095cfce4192548f70b4c123030f6ad1d4310bbaf48271b6dd4ed1e"), looks := true }, kinds := [], alts := [], laidByText := true, laidKinds := [.handle, .data, .data], laidTests := true, laidLooks := .later }
def AskNamesCardSaid : Prop := Claim7.holds Tryz.pinned (.plain (OpenSpec.ofChange askNamesSpec)) askNamesCard

/-- THE TIED CARD OF 'provostlaw39.ConnDeaf'. -/
def connDeafCard : Claim7 := { stood := { row := connDeafRow, standIns := [], harness := (true, "932b68818b095cfce4192548f70b4c123030f6ad1d4310bbaf48271b6dd4ed1e"), looks := true }, kinds := [], alts := [], laidByText := true, laidKinds := [.handle, .data, .data], laidTests := true, laidLooks := .later }
def ConnDeafCardSaid : Prop := Claim7.holds Tryz.pinned (.plain (OpenSpec.ofChange connDeafSpec)) connDeafCard

/-- THE TIED CARD OF 'provostlaw39.ConnCalls'. -/
def connCallsCard : Claim7 := { stood := { row := connCallsRow, standIns := [], harness := (true, "932b68818b095cfce4192548f70b4c123030f6ad1d4310bbaf48271b6dd4ed1e"), looks := true }, kinds := [], alts := [], laidByText := true, laidKinds := [.handle, .data, .data], laidTests := true, laidLooks := .later }
def ConnCallsCardSaid : Prop := Claim7.holds Tryz.pinned (.plain (OpenSpec.ofChange connCallsSpec)) connCallsCard

/-- THE TIED CARD OF 'provostlaw08.AskChecks'. -/
def askChecksCard : Claim7 := { stood := { row := askChecksRow, standIns := [], harness := (true, "932b68818b095cfce4192548f70b4c123030f6ad1d4310bbaf48271b6dd4ed1e"), looks := true }, kinds := [], alts := [], laidByText := true, laidKinds := [.handle, .data, .data], laidTests := true, laidLooks := .later }
def AskChecksCardSaid : Prop := Claim7.holds Tryz.pinned (.plain (OpenSpec.ofChange askChecksSpec)) askChecksCard

/-- THE TIED CARD OF 'provostlaw09.TellBytes'. -/
def tellBytesCard : Claim7 := { stood := { row := tellBytesRow, standIns := [], harness := (true, "932b68818b095cfce4192548f70b4c123030f6ad1d4310bbaf48271b6dd4ed1e"), looks := true }, kinds := [], alts := [], laidByText := true, laidKinds := [.handle, .data], laidTests := true, laidLooks := .later }
def TellBytesCardSaid : Prop := Claim7.holds Tryz.pinned (.plain (OpenSpec.ofChange tellBytesSpec)) tellBytesCard

/-- THE TIED CARD OF 'provostlaw09.TellReads'. -/
def tellReadsCard : Claim7 := { stood := { row := tellReadsRow, standIns := [], harness := (true, "932b68818b095cfce4192548f70b4c123030f6ad1d4310bbaf48271b6dd4ed1e"), looks := true }, kinds := [], alts := [], laidByText := true, laidKinds := [.handle, .data], laidTests := true, laidLooks := .later }
def TellReadsCardSaid : Prop := Claim7.holds Tryz.pinned (.plain (OpenSpec.ofChange tellReadsSpec)) tellReadsCard

/-- THE TIED CARD OF 'provostlaw09.TellBack'. -/
def tellBackCard : Claim7 := { stood := { row := tellBackRow, standIns := [], harness := (true, "932b68818b095cfce4192548f70b4c123030f6ad1d4310bbaf48271b6dd4ed1e"), looks := true }, kinds := [], alts := [], laidByText := true, laidKinds := [.handle, .data], laidTests := true, laidLooks := .later }
def TellBackCardSaid : Prop := Claim7.holds Tryz.pinned (.plain (OpenSpec.ofChange tellBackSpec)) tellBackCard

/-- THE TIED CARD OF 'provostlaw09.TellChecks'. -/
def tellChecksCard : Claim7 := { stood := { row := tellChecksRow, standIns := [], harness := (true, "932b68818b095cfce4192548f70b4c123030f6ad1d4310bbaf48271b6dd4ed1e"), looks := true }, kinds := [], alts := [], laidByText := true, laidKinds := [.handle, .data], laidTests := true, laidLooks := .later }
def TellChecksCardSaid : Prop := Claim7.holds Tryz.pinned (.plain (OpenSpec.ofChange tellChecksSpec)) tellChecksCard

/-- THE TIED CARD OF 'provostlaw39.ConnTells'. -/
def connTellsCard : Claim7 := { stood := { row := connTellsRow, standIns := [], harness := (true, "932b68818b095cfce4192548f70b4c123030f6ad1d4310bbaf48271b6dd4ed1e"), looks := true }, kinds := [], alts := [], laidByText := true, laidKinds := [.handle, .data, .data], laidTests := true, laidLooks := .later }
def ConnTellsCardSaid : Prop := Claim7.holds Tryz.pinned (.plain (OpenSpec.ofChange connTellsSpec)) connTellsCard

/-- THE TIED CARD OF 'provostlaw45.ScriptCalls'. -/
def scriptCallsCard : Claim7 := { stood := { row := scriptCallsRow, standIns := [], harness := (true, "932b68818b095cfce4192548f70b4c123030f6ad1d4310bbaf48271b6dd4ed1e"), looks := true }, kinds := [], alts := [], laidByText := true, laidKinds := [.data, .handle, .data, .data, .data, .pinned], laidTests := true, laidLooks := .later }
def ScriptCallsCardSaid : Prop := Claim7.holds Tryz.pinned (.plain (OpenSpec.ofChange scriptCallsSpec)) scriptCallsCard

/-- THE TIED CARD OF 'provostlaw45.ScriptFrames'. -/
def scriptFramesCard : Claim7 := { stood := { row := scriptFramesRow, standIns := [], harness := (true, "932b68818b095cfce4192548f70b4c123030f6ad1d4310bbaf48271b6dd4ed1e"), looks := true }, kinds := [], alts := [], laidByText := true, laidKinds := [.data, .handle, .data, .data, .data, .pinned], laidTests := true, laidLooks := .later }
def ScriptFramesCardSaid : Prop := Claim7.holds Tryz.pinned (.plain (OpenSpec.ofChange scriptFramesSpec)) scriptFramesCard

/-- THE SECOND FORM's CARD OF 'provostlaw06.SpecClones'. -/
def specClonesUptoCard : Claim7 := { stood := { row := specClonesUptoRow, standIns := [], harness := (true, "932b68818b095cfce4192548f70b4c123030f6ad1d4310bbaf48271b6dd4ed1e"), looks := true }, kinds := [], alts := [], laidByText := true, laidKinds := [.handle, .data], laidTests := true, laidLooks := .later }
def SpecClonesUptoCardSaid : Prop := Claim7.holds Tryz.pinned (.plain (OpenSpec.upto specClonesSpec)) specClonesUptoCard

/-- THE SECOND FORM's CARD OF 'provostlaw06.SpecUpdates'. -/
def specUpdatesUptoCard : Claim7 := { stood := { row := specUpdatesUptoRow, standIns := [], harness := (true, "932b68818b095cfce4192548f70b4c123030f6ad1d4310bbaf48271b6dd4ed1e"), looks := true }, kinds := [], alts := [], laidByText := true, laidKinds := [.handle, .data], laidTests := true, laidLooks := .later }
def SpecUpdatesUptoCardSaid : Prop := Claim7.holds Tryz.pinned (.plain (OpenSpec.upto specUpdatesSpec)) specUpdatesUptoCard

/-- THE SECOND FORM's CARD OF 'provostlaw07.PackWrites'. -/
def packWritesUptoCard : Claim7 := { stood := { row := packWritesUptoRow, standIns := [], harness := (true, "932b68818b095cfce4192548f70b4c123030f6ad1d4310bbaf48271b6dd4ed1e"), looks := true }, kinds := [], alts := [], laidByText := true, laidKinds := [.handle, .data], laidTests := true, laidLooks := .later }
def PackWritesUptoCardSaid : Prop := Claim7.holds Tryz.pinned (.plain (OpenSpec.upto packWritesSpec)) packWritesUptoCard

/-- THE SECOND FORM's CARD OF 'provostlaw07.PackBack'. -/
def packBackUptoCard : Claim7 := { stood := { row := packBackUptoRow, standIns := [], harness := (true, "932b68818b095cfce4192548f70b4c123030f6ad1d4310bbaf48271b6dd4ed1e"), looks := true }, kinds := [], alts := [], laidByText := true, laidKinds := [.handle, .data], laidTests := true, laidLooks := .later }
def PackBackUptoCardSaid : Prop := Claim7.holds Tryz.pinned (.plain (OpenSpec.upto packBackSpec)) packBackUptoCard

/-- THE SECOND FORM's CARD OF 'provostlaw07.PackCuts'. -/
def packCutsUptoCard : Claim7 := { stood := { row := packCutsUptoRow, standIns := [], harness := (true, "932b68818b095cfce4192548f70b4c123030f6ad1d4310bbaf48271b6dd4ed1e"), looks := true }, kinds := [], alts := [], laidByText := true, laidKinds := [.handle, .data], laidTests := true, laidLooks := .later }
def PackCutsUptoCardSaid : Prop := Claim7.holds Tryz.pinned (.plain (OpenSpec.upto packCutsSpec)) packCutsUptoCard

/-- THE SECOND FORM's CARD OF 'provostlaw07.PackLabels'. -/
def packLabelsUptoCard : Claim7 := { stood := { row := packLabelsUptoRow, standIns := [], harness := (true, "932b68818b095cfce4192548f70b4c123030f6ad1d4310bbaf48271b6dd4ed1e"), looks := true }, kinds := [], alts := [], laidByText := true, laidKinds := [.handle, .data], laidTests := true, laidLooks := .later }
def PackLabelsUptoCardSaid : Prop := Claim7.holds Tryz.pinned (.plain (OpenSpec.upto packLabelsSpec)) packLabelsUptoCard

/-- THE SECOND FORM's CARD OF 'provostlaw07.PackRaws'. -/
def packRawsUptoCard : Claim7 := { stood := { row := packRawsUptoRow, standIns := [], harness := (true, "932b68818b095cfce4192548f70b4c123030f6ad1d4310bbaf48271b6dd4ed1e"), looks := true }, kinds := [], alts := [], laidByText := true, laidKinds := [.handle, .data], laidTests := true, laidLooks := .later }
def PackRawsUptoCardSaid : Prop := Claim7.holds Tryz.pinned (.plain (OpenSpec.upto packRawsSpec)) packRawsUptoCard

/-- THE SECOND FORM's CARD OF 'provostlaw07.PackReads'. -/
def packReadsUptoCard : Claim7 := { stood := { row := packReadsUptoRow, standIns := [], harness := (true, "932b68818b095cfce4192548f70b4c123030f6ad1d4310bbaf48271b6dd4ed1e"), looks := true }, kinds := [], alts := [], laidByText := true, laidKinds := [.handle, .data], laidTests := true, laidLooks := .later }
def PackReadsUptoCardSaid : Prop := Claim7.holds Tryz.pinned (.plain (OpenSpec.upto packReadsSpec)) packReadsUptoCard

/-- THE SECOND FORM's CARD OF 'provostlaw08.AskBytes'. -/
def askBytesUptoCard : Claim7 := { stood := { row := askBytesUptoRow, standIns := [], harness := (true, "932b68818b095cfce4192548f70b4c123030f6ad1d4310bbaf48271b6dd4ed1e"), looks := true }, kinds := [], alts := [], laidByText := true, laidKinds := [.handle, .data, .data], laidTests := true, laidLooks := .later }
def AskBytesUptoCardSaid : Prop := Claim7.holds Tryz.pinned (.plain (OpenSpec.upto askBytesSpec)) askBytesUptoCard

/-- THE SECOND FORM's CARD OF 'provostlaw08.AskBack'. -/
def askBackUptoCard : Claim7 := { stood := { row := askBackUptoRow, standIns := [], harness := (true, "932b68818b095cfce4192548f70b4c123030f6ad1d4310bbaf48271b6dd4ed1e"), looks := true }, kinds := [], alts := [], laidByText := true, laidKinds := [.handle, .data, .data], laidTests := true, laidLooks := .later }
def AskBackUptoCardSaid : Prop := Claim7.holds Tryz.pinned (.plain (OpenSpec.upto askBackSpec)) askBackUptoCard

/-- THE SECOND FORM's CARD OF 'provostlaw08.AskUnlike'. -/
def askUnlikeUptoCard : Claim7 := { stood := { row := askUnlikeUptoRow, standIns := [], harness := (true, "932b68818b095cfce4192548f70b4c123030f6ad1d4310bbaf48271b6dd4ed1e"), looks := true }, kinds := [], alts := [], laidByText := true, laidKinds := [.handle, .data, .data], laidTests := true, laidLooks := .later }
def AskUnlikeUptoCardSaid : Prop := Claim7.holds Tryz.pinned (.plain (OpenSpec.upto askUnlikeSpec)) askUnlikeUptoCard

/-- THE SECOND FORM's CARD OF 'provostlaw08.AskNames'. -/
def askNamesUptoCard : Claim7 := { stood := { row := askNamesUptoRow, standIns := [], harness := (true, "932b68818b095cfce4192548f70b4c123030f6ad1d4310bbaf48271b6dd4ed1e"), looks := true }, kinds := [], alts := [], laidByText := true, laidKinds := [.handle, .data, .data], laidTests := true, laidLooks := .later }
def AskNamesUptoCardSaid : Prop := Claim7.holds Tryz.pinned (.plain (OpenSpec.upto askNamesSpec)) askNamesUptoCard

/-- THE SECOND FORM's CARD OF 'provostlaw39.ConnDeaf'. -/
def connDeafUptoCard : Claim7 := { stood := { row := connDeafUptoRow, standIns := [], harness := (true, "932b68818b095cfce4192548f70b4c123030f6ad1d4310bbaf48271b6dd4ed1e"), looks := true }, kinds := [], alts := [], laidByText := true, laidKinds := [.handle, .data, .data], laidTests := true, laidLooks := .later }
def ConnDeafUptoCardSaid : Prop := Claim7.holds Tryz.pinned (.plain (OpenSpec.upto connDeafSpec)) connDeafUptoCard

/-- THE SECOND FORM's CARD OF 'provostlaw39.ConnCalls'. -/
def connCallsUptoCard : Claim7 := { stood := { row := connCallsUptoRow, standIns := [], harness := (true, "932b68818b095cfce4192548f70b4c123030f6ad1d4310bbaf48271b6dd4ed1e"), looks := true }, kinds := [], alts := [], laidByText := true, laidKinds := [.handle, .data, .data], laidTests := true, laidLooks := .later }
def ConnCallsUptoCardSaid : Prop := Claim7.holds Tryz.pinned (.plain (OpenSpec.upto connCallsSpec)) connCallsUptoCard

/-- THE SECOND FORM's CARD OF 'provostlaw08.AskChecks'. -/
def askChecksUptoCard : Claim7 := { stood := { row := askChecksUptoRow, standIns := [], harness := (true, "932b68818b095cfce4192548f70b4c123030f6ad1d4310bbaf48271b6dd4ed1e"), looks := true }, kinds := [], alts := [], laidByText := true, laidKinds := [.handle, .data, .data], laidTests := true, laidLooks := .later }
def AskChecksUptoCardSaid : Prop := Claim7.holds Tryz.pinned (.plain (OpenSpec.upto askChecksSpec)) askChecksUptoCard

/-- THE SECOND FORM's CARD OF 'provostlaw09.TellBytes'. -/
def tellBytesUptoCard : Claim7 := { stood := { row := tellBytesUptoRow, standIns := [], harness := (true, "932b68818b095cfce4192548f70b4c123030f6ad1d4310bbaf48271b6dd4ed1e"), looks := true }, kinds := [], alts := [], laidByText := true, laidKinds := [.handle, .data], laidTests := true, laidLooks := .later }
def TellBytesUptoCardSaid : Prop := Claim7.holds Tryz.pinned (.plain (OpenSpec.upto tellBytesSpec)) tellBytesUptoCard

/-- THE SECOND FORM's CARD OF 'provostlaw09.TellReads'. -/
def tellReadsUptoCard : Claim7 := { stood := { row := tellReadsUptoRow, standIns := [], harness := (true, "932b68818b095cfce4192548f70b4c123030f6ad1d4310bbaf48271b6dd4ed1e"), looks := true }, kinds := [], alts := [], laidByText := true, laidKinds := [.handle, .data], laidTests := true, laidLooks := .later }
def TellReadsUptoCardSaid : Prop := Claim7.holds Tryz.pinned (.plain (OpenSpec.upto tellReadsSpec)) tellReadsUptoCard

/-- THE SECOND FORM's CARD OF 'provostlaw09.TellBack'. -/
def tellBackUptoCard : Claim7 := { stood := { row := tellBackUptoRow, standIns := [], harness := (true, "932b68818b095cfce4192548f70b4c123030f6ad1d4310bbaf48271b6dd4ed1e"), looks := true }, kinds := [], alts := [], laidByText := true, laidKinds := [.handle, .data], laidTests := true, laidLooks := .later }
def TellBackUptoCardSaid : Prop := Claim7.holds Tryz.pinned (.plain (OpenSpec.upto tellBackSpec)) tellBackUptoCard

/-- THE SECOND FORM's CARD OF 'provostlaw09.TellChecks'. -/
def tellChecksUptoCard : Claim7 := { stood := { row := tellChecksUptoRow, standIns := [], harness := (true, "932b68818b095cfce4192548f70b4c123030f6ad1d4310bbaf48271b6dd4ed1e"), looks := true }, kinds := [], alts := [], laidByText := true, laidKinds := [.handle, .data], laidTests := true, laidLooks := .later }
def TellChecksUptoCardSaid : Prop := Claim7.holds Tryz.pinned (.plain (OpenSpec.upto tellChecksSpec)) tellChecksUptoCard

/-- THE SECOND FORM's CARD OF 'provostlaw39.ConnTells'. -/
def connTellsUptoCard : Claim7 := { stood := { row := connTellsUptoRow, standIns := [], harness := (true, "932b68818b095cfce4192548f70b4c123030f6ad1d4310bbaf48271b6dd4ed1e"), looks := true }, kinds := [], alts := [], laidByText := true, laidKinds := [.handle, .data, .data], laidTests := true, laidLooks := .later }
def ConnTellsUptoCardSaid : Prop := Claim7.holds Tryz.pinned (.plain (OpenSpec.upto connTellsSpec)) connTellsUptoCard

/-- THE SECOND FORM's CARD OF 'provostlaw45.ScriptCalls'. -/
def scriptCallsUptoCard : Claim7 := { stood := { row := scriptCallsUptoRow, standIns := [], harness := (true, "932b68818b095cfce4192548f70b4c123030f6ad1d4310bbaf48271b6dd4ed1e"), looks := true }, kinds := [], alts := [], laidByText := true, laidKinds := [.data, .handle, .data, .data, .data, .pinned], laidTests := true, laidLooks := .later }
def ScriptCallsUptoCardSaid : Prop := Claim7.holds Tryz.pinned (.plain (OpenSpec.upto scriptCallsSpec)) scriptCallsUptoCard

/-- THE SECOND FORM's CARD OF 'provostlaw45.ScriptFrames'. -/
def scriptFramesUptoCard : Claim7 := { stood := { row := scriptFramesUptoRow, standIns := [], harness := (true, "932b68818b095cfce4192548f70b4c123030f6ad1d4310bbaf48271b6dd4ed1e"), looks := true }, kinds := [], alts := [], laidByText := true, laidKinds := [.data, .handle, .data, .data, .data, .pinned], laidTests := true, laidLooks := .later }
def ScriptFramesUptoCardSaid : Prop := Claim7.holds Tryz.pinned (.plain (OpenSpec.upto scriptFramesSpec)) scriptFramesUptoCard
end Rows
end Go.Proofs.YtgelbkgkjkeccaaGreatDoor
