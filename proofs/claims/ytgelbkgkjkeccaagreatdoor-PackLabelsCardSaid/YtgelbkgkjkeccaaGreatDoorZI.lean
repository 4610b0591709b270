/- The head of the program's text, as a list of signs, once; what the kernel is asked of it in every row. -/
import Derived.Test.YtgelbkgkjkeccaaGreatDoorCards
import Derived.Test.YtgelbkgkjkeccaaGreatDoorTie
import Derived.JoinedOf
import Derived.KernelRfl
namespace Go.Proofs.YtgelbkgkjkeccaaGreatDoor
open Go

def headSigns : List Char := [104, 97, 114, 110, 101, 115, 115, 32, 57, 51, 50, 98, 54, 56, 56, 49, 56, 98, 48, 57, 53, 99, 102, 99, 101, 52, 49, 57, 50, 53, 52, 56, 102, 55, 48, 98, 52, 99, 49, 50, 51, 48, 51, 48, 102, 54, 97, 100, 49, 100, 52, 51, 49, 48, 98, 98, 97, 102, 52, 56, 50, 55, 49, 98, 54, 100, 100, 52, 101, 100, 49, 101, 32, 99, 117, 116, 32, 97, 116, 32, 112, 114, 111, 118, 111, 115, 116, 47, 112, 114, 111, 118, 111, 115, 116, 108, 97, 119, 48, 54, 46, 83, 112, 101, 99, 67, 108, 111, 110, 101, 115, 32, 112, 114, 111, 118, 111, 115, 116, 47, 112, 114, 111, 118, 111, 115, 116, 108, 97, 119, 48, 54, 46, 83, 112, 101, 99, 85, 112, 100, 97, 116, 101, 115, 32, 112, 114, 111, 118, 111, 115, 116, 47, 112, 114, 111, 118, 111, 115, 116, 108, 97, 119, 48, 55, 46, 80, 97, 99, 107, 87, 114, 105, 116, 101, 115, 32, 112, 114, 111, 118, 111, 115, 116, 47, 112, 114, 111, 118, 111, 115, 116, 108, 97, 119, 48, 55, 46, 80, 97, 99, 107, 66, 97, 99, 107, 32, 112, 114, 111, 118, 111, 115, 116, 47, 112, 114, 111, 118, 111, 115, 116, 108, 97, 119, 48, 55, 46, 80, 97, 99, 107, 67, 117, 116, 115, 32, 112, 114, 111, 118, 111, 115, 116, 47, 112, 114, 111, 118, 111, 115, 116, 108, 97, 119, 48, 55, 46, 80, 97, 99, 107, 76, 97, 98, 101, 108, 115, 32, 112, 114, 111, 118, 111, 115, 116, 47, 112, 114, 111, 118, 111, 115, 116, 108, 97, 119, 48, 55, 46, 80, 97, 99, 107, 82, 97, 119, 115, 32, 112, 114, 111, 118, 111, 115, 116, 47, 112, 114, 111, 118, 111, 115, 116, 108, 97, 119, 48, 55, 46, 80, 97, 99, 107, 82, 101, 97, 100, 115, 32, 112, 114, 111, 118, 111, 115, 116, 47, 112, 114, 111, 118, 111, 115, 116, 108, 97, 119, 48, 56, 46, 65, 115, 107, 66, 121, 116, 101, 115, 32, 112, 114, 111, 118, 111, 115, 116, 47, 112, 114, 111, 118, 111, 115, 116, 108, 97, 119, 48, 56, 46, 65, 115, 107, 66, 97, 99, 107, 32, 112, 114, 111, 118, 111, 115, 116, 47, 112, 114, 111, 118, 111, 115, 116, 108, 97, 119, 48, 56, 46, 65, 115, 107, 85, 110, 108, 105, 107, 101, 32, 112, 114, 111, 118, 111, 115, 116, 47, 112, 114, 111, 118, 111, 115, 116, 108, 97, 119, 48, 56, 46, 65, 115, 107, 78, 97, 109, 101, 115, 32, 112, 114, 111, 118, 111, 115, 116, 47, 112, 114, 111, 118, 111, 115, 116, 108, 97, 119, 51, 57, 46, 67, 111, 110, 110, 68, 101, 97, 102, 32, 112, 114, 111, 118, 111, 115, 116, 47, 112, 114, 111, 118, 111, 115, 116, 108, 97, 119, 51, 57, 46, 67, 111, 110, 110, 67, 97, 108, 108, 115, 32, 112, 114, 111, 118, 111, 115, 116, 47, 112, 114, 111, 118, 111, 115, 116, 108, 97, 119, 48, 56, 46, 65, 115, 107, 67, 104, 101, 99, 107, 115, 32, 112, 114, 111, 118, 111, 115, 116, 47, 112, 114, 111, 118, 111, 115, 116, 108, 97, 119, 48, 57, 46, 84, 101, 108, 108, 66, 121, 116, 101, 115, 32, 112, 114, 111, 118, 111, 115, 116, 47, 112, 114, 111, 118, 111, 115, 116, 108, 97, 119, 48, 57, 46, 84, 101, 108, 108, 82, 101, 97, 100, 115, 32, 112, 114, 111, 118, 111, 115, 116, 47, 112, 114, 111, 118, 111, 115, 116, 108, 97, 119, 48, 57, 46, 84, 101, 108, 108, 66, 97, 99, 107, 32, 112, 114, 111, 118, 111, 115, 116, 47, 112, 114, 111, 118, 111, 115, 116, 108, 97, 119, 48, 57, 46, 84, 101, 108, 108, 67, 104, 101, 99, 107, 115, 32, 112, 114, 111, 118, 111, 115, 116, 47, 112, 114, 111, 118, 111, 115, 116, 108, 97, 119, 51, 57, 46, 67, 111, 110, 110, 84, 101, 108, 108, 115, 32, 112, 114, 111, 118, 111, 115, 116, 47, 112, 114, 111, 118, 111, 115, 116, 108, 97, 119, 52, 53, 46, 83, 99, 114, 105, 112, 116, 67, 97, 108, 108, 115, 32, 112, 114, 111, 118, 111, 115, 116, 47, 112, 114, 111, 118, 111, 115, 116, 108, 97, 119, 52, 53, 46, 83, 99, 114, 105, 112, 116, 70, 114, 97, 109, 101, 115].map Char.ofNat
set_option maxRecDepth 100000 in
theorem headOrd : Tryz.prog.initOrder = String.ofList headSigns := by kernel_rfl
theorem headChars : Tryz.prog.initOrder.toList = headSigns := by rw [headOrd, String.toList_ofList]
noncomputable def headRest : List (List Char) := (behindMainWord (wordsSigns headSigns)).tail
set_option maxRecDepth 100000 in
theorem headWords : behindMainWord (wordsSigns headSigns) = "cut".toList :: headRest := by kernel_rfl
set_option maxRecDepth 100000 in
theorem headStrip : stripLifts liftWords ("cut".toList :: headRest) = ([], "cut".toList :: headRest) := by kernel_rfl
theorem laysLater0 : Tryz.prog.laysLater = false := by kernel_rfl
theorem bearsReflect0 : Tryz.prog.bearsReflect = false := by kernel_rfl
theorem doorFits0 : Tryz.prog.doorFits [] = true := by kernel_rfl
theorem mayEnter_of (P : Program) (l : List Char) (r : List (List Char)) (h : P.initOrder.toList = l) (hw : behindMainWord (wordsSigns l) = "cut".toList :: r) (hs : stripLifts liftWords ("cut".toList :: r) = ([], "cut".toList :: r)) (h1 : P.laysLater = false) (h2 : P.bearsReflect = false) (h3 : P.doorFits [] = true) : P.mayEnter = true := by
  unfold Program.mayEnter
  rw [h, hw]
  have hs2 := hs
  simp at hs2
  simp [hs2, h1, h2, h3]
theorem headLifts_of (P : Program) (l : List Char) (r : List (List Char)) (h : P.initOrder.toList = l) (hw : behindMainWord (wordsSigns l) = "cut".toList :: r) (hs : stripLifts liftWords ("cut".toList :: r) = ([], "cut".toList :: r)) : P.headLifts = [] := by
  unfold Program.headLifts
  rw [h, hw]
  have hs2 := hs
  simp at hs2
  simp [hs2]
theorem liftsFinal_of (P : Program) (l : List Char) (r : List (List Char)) (h : P.initOrder.toList = l) (hw : behindMainWord (wordsSigns l) = "cut".toList :: r) (hl : P.headLifts = []) : P.liftsFinal = false := by
  unfold Program.liftsFinal
  rw [h, hw, hl]
  simp
theorem make_of (P : Program) (l : List Char) (r : List (List Char)) (h : P.initOrder.toList = l) (hw : behindMainWord (wordsSigns l) = "cut".toList :: r) : P.make = some .cut := by
  unfold Program.make
  rw [h, hw]
  simp
theorem mainIs_of (P : Program) (l s : List Char) (r : List (List Char)) (h : P.initOrder.toList = l) (hw : wordsSigns l = "harness".toList :: s :: r) (hs : isSumSigns s = true) : P.mainIs = some (true, s) := by
  unfold Program.mainIs
  rw [h, hw]
  simp [hs]
theorem mayEnter0 : Tryz.prog.mayEnter = true := mayEnter_of _ _ _ headChars headWords headStrip laysLater0 bearsReflect0 doorFits0
theorem stopsHeard0 : Tryz.prog.stopsHeard = true := by kernel_rfl
theorem plainKeys0 : Tryz.prog.plainKeys = true := by kernel_rfl
theorem mapsRowed0 : mapsRowed Tryz.prog = true := by kernel_rfl
theorem headLifts0 : Tryz.prog.headLifts = [] := headLifts_of _ _ _ headChars headWords headStrip
theorem liftsFinal0 : Tryz.prog.liftsFinal = false := liftsFinal_of _ _ _ headChars headWords headLifts0
theorem make0 : Tryz.prog.make = some .cut := make_of _ _ _ headChars headWords
def headSum : String := "932b68818b095cfce4192548f70b4c123030f6ad1d4310bbaf48271b6dd4ed1e"
set_option maxRecDepth 100000 in
theorem headMain : wordsSigns headSigns = "harness".toList :: headSum.toList :: (wordsSigns headSigns).tail.tail := by kernel_rfl
set_option maxRecDepth 100000 in
theorem headIsSum : isSumSigns headSum.toList = true := by kernel_rfl
theorem mainIs0 : Tryz.prog.mainIs = some (true, headSum.toList) := mainIs_of _ _ _ _ headChars headMain headIsSum
theorem looks0 : true = Tryz.pinned.checked.prog.looks [] := by kernel_rfl
theorem band {a b : Bool} (h1 : a = true) (h2 : b = true) : (a && b) = true := by rw [h1, h2]; rfl
end Go.Proofs.YtgelbkgkjkeccaaGreatDoor
