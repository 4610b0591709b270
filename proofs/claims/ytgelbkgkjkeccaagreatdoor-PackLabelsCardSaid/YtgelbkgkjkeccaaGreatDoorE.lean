/- Labels: what a slice of labels reads as; package spec's label and Labels. -/
import Derived.Test.YtgelbkgkjkeccaaGreatDoorD
namespace Go.Proofs.YtgelbkgkjkeccaaGreatDoor
open Go.RowKit

structure LabelD where
  key : ByteArray
  val : ByteArray
structure CtrD where
  name : ByteArray
  image : ByteArray
  req : ResD
  lim : ResD
  ports : List Int
  every : Int
  fails : Int
structure SpecD where
  name : ByteArray
  labels : List LabelD
  inits : List CtrD
  mains : List CtrD
  restart : Int
  grace : Int
  prio : Int

/-- A slice reads as these labels; nil and empty ones alike. -/
def RLabs (w : World) (v : Value) (l : List LabelD) : Prop :=
  (l = [] ∧ ∃ a c, v = .slice a 0 c) ∨
  (0 < l.length ∧ ∃ b off c, v = .slice (some ⟨b, off, none⟩) l.length c ∧ l.length ≤ c ∧ ∀ j (h : j < l.length), w.cell? ⟨b, off + j * 2, none⟩ = some (.string l[j].key) ∧ w.cell? ⟨b, off + j * 2 + 1, none⟩ = some (.string l[j].val))
theorem RLabs.below {w w' : World} {v : Value} {l : List LabelD} (h : RLabs w v l) (hb : Below w.heap.size w w') : RLabs w' v l := by
  rcases h with h | ⟨h0, b, off, c, hv, hc, hr⟩
  · exact .inl h
  · exact .inr ⟨h0, b, off, c, hv, hc, fun j hj => ⟨keepc hb (hr j hj).1, keepc hb (hr j hj).2⟩⟩
def LabsOk (l : List LabelD) : Prop := ∀ x ∈ l, x.key.size ≤ 1000000 ∧ x.val.size ≤ 1000000

def leB (a b : Bytes) : Bool := Op.bytesLess a b || a == b
def keyS : ByteArray := ⟨#[107, 101, 121]⟩
def valS : ByteArray := ⟨#[118, 97, 108]⟩
theorem new_cell (w : World) (C : Array Value) (t : TypeId) (n i : Nat) (x : Value) (hn : n = w.heap.size) (hx : C[i]? = some x) : (w.alloc (.cells C t)).cell? ⟨n, i, none⟩ = some x := by
  rw [World.cell?_alloc_at _ _ _ _ hn]; exact hx
/-- The key's own error. -/
def keyE (x : LabelD) (prev : Option ByteArray) : Err :=
  if keyB x.key.data.toList then (match prev with | none => none | some p => if leB x.key.data.toList p.data.toList then some (4, [keyS]) else none) else some (31, [keyS])
def labE (name : ByteArray) (i : Nat) (x : LabelD) (prev : Option ByteArray) : Err :=
  inE (firstE [keyE x prev, if valB x.val.data.toList then none else some (32, [valS])]) (atB name i)

theorem new_say (b : Bool) (c : Int) (ps : List ByteArray) (hc : c ≠ 0) : newE (sayB b c) ps = if b then none else some (c, ps) := by
  cases b <;> simp [newE, sayB, hc]

/-- A draw leaves all as it was. -/
theorem bdrew (w : World) (n : Nat) : Below w.heap.size w (w.drewN n) := ⟨rfl, rfl, rfl, Nat.le_refl _, fun _ _ => rfl⟩

set_option maxHeartbeats 1000000 in
set_option maxRecDepth 100000 in
theorem label_first (name : ByteArray) (x : LabelD) (b off n c : Nat) (hi : 0 < n) (hK : keyB x.key.data.toList = true) (w : World) (hn : name.size ≤ 1000000) (hk : x.key.size ≤ 1000000) (hv : x.val.size ≤ 1000000) (hm : LaidMarks w)
    (h0 : w.cell? ⟨b, off, none⟩ = some (.string x.key)) (h1 : w.cell? ⟨b, off + 1, none⟩ = some (.string x.val)) :
    Calls Tryz.prog 219 #[.string name, .slice (some ⟨b, off, none⟩) n c, .int .i64 0] w (RetErr w (inE (firstE [none, if valB x.val.data.toList then none else some (32, [valS])]) (atB name 0))) := by
  rw [← new_say _ 32 _ (by decide)]
  have hm1 := hm.below (bnew w (.cells #[.string x.key, .string x.val] 159))
  have HK := Lib.hid hK; clear hK
  go_enter Tryz.func219, Tryz.ntmps219
  go_wp2_with (go_at_call 269; refine (Key_any _ _ (by omega) hm1).mono ?_; rw [HK.out]; rintro e w' ⟨rfl, n1, rfl⟩)
  refine (New_one _ keyS _ _ _ (new_cell _ _ _ _ _ _ (by simp) rfl)).mono ?_
  rintro e w2 ⟨v2, rfl, hr2, hb2⟩
  have c0 : w2.cell? ⟨w.heap.size, 0, none⟩ = some (.string x.key) := keepc hb2 (by go_simp)
  have c1 : w2.cell? ⟨w.heap.size, 1, none⟩ = some (.string x.val) := keepc hb2 (by go_simp)
  have hB2 : Below w.heap.size w w2 := bto (bto (bto (bnew _ _) (bdrew _ _)) (bnew _ _)) hb2
  have hmL := hm.below hB2
  have hW2 : w.heap.size ≤ (((w.alloc (.cells #[.string x.key, .string x.val] 159)).drewN n1).alloc (.cells #[.string keyS] 9)).heap.size := by simp; omega
  have hn2 : v2 = .nilIface := hr2
  subst hn2
  go_wp2_with fail
  go_quiet (fail)
  go_wp2_with (first
    | (go_at_call 270; refine (Val_any _ _ (by omega) (LaidMarks.drewN hmL _)).mono ?_; rintro e w' ⟨rfl, rfl⟩)
    | (go_at_call 122; refine (New_one _ valS _ _ _ (new_cell _ _ _ _ _ _ (by simp) rfl)).mono ?_; rintro e w3 ⟨v3, rfl, hr3, hb3⟩; have hv3 := hr3.isV; have hs3 := hb3.size)
    | (go_at_call 121; refine (First_two .nilIface v3 _ _ _ hr2.isV hv3 (new_cell _ _ _ _ _ _ (by simp) rfl) (new_cell _ _ _ _ _ _ (by simp) rfl)).mono ?_; rintro e w' ⟨rfl, rfl⟩)
    | (go_at_call 129; refine (at_any _ _ _ hn (by omega) (by omega)).mono ?_; rintro e w4 ⟨rfl, hb4⟩)
    | (go_at_call 216; refine (In_any w.heap.size _ _ _ _ (by have := hb4.size; have := hb3.size; have := hB2.size; simp at *; omega) (RErrs.first (vs := [.nilIface, v3]) (es := [_, _]) ⟨((RErrO.below (hr2.mono hW2) (bto (bto (bdrew _ _) (bnew _ _)) hb3)).below (bnew _ _)).below hb4, ((hr3.mono (by have := hB2.size; simp at *; omega)).below (bnew _ _)).below hb4, trivial⟩)).mono ?_; rintro e w5 ⟨v5, rfl, hr5, hb5⟩))
  go_ret
  exact ⟨_, rfl, hr5, bto (bto (bto (bto hB2 (bto (bto (bdrew _ _) (bnew _ _)) hb3)) (bnew _ _)) hb4) hb5⟩

set_option maxHeartbeats 1000000 in
set_option maxRecDepth 100000 in
theorem label_bad (name : ByteArray) (x : LabelD) (b off n c : Nat) (i : Nat) (hi : i < n) (hin : i ≤ 1000000) (hK : keyB x.key.data.toList = false) (w : World) (hn : name.size ≤ 1000000) (hk : x.key.size ≤ 1000000) (hv : x.val.size ≤ 1000000) (hm : LaidMarks w)
    (h0 : w.cell? ⟨b, off + i * 2, none⟩ = some (.string x.key)) (h1 : w.cell? ⟨b, off + i * 2 + 1, none⟩ = some (.string x.val)) :
    Calls Tryz.prog 219 #[.string name, .slice (some ⟨b, off, none⟩) n c, .int .i64 (i : Int)] w (RetErr w (inE (firstE [(some (31, [keyS])), if valB x.val.data.toList then none else some (32, [valS])]) (atB name (i : Int)))) := by
  rw [← new_say _ 32 _ (by decide)]
  have hm1 := hm.below (bnew w (.cells #[.string x.key, .string x.val] 159))
  have HK := Lib.hid hK; clear hK
  go_enter Tryz.func219, Tryz.ntmps219
  go_wp2_with (go_at_call 269; refine (Key_any _ _ (by omega) hm1).mono ?_; rw [HK.out]; rintro e w' ⟨rfl, n1, rfl⟩)
  refine (New_one _ keyS _ _ _ (new_cell _ _ _ _ _ _ (by simp) rfl)).mono ?_
  rintro e w2 ⟨v2, rfl, hr2, hb2⟩
  have c0 : w2.cell? ⟨w.heap.size, 0, none⟩ = some (.string x.key) := keepc hb2 (by go_simp)
  have c1 : w2.cell? ⟨w.heap.size, 1, none⟩ = some (.string x.val) := keepc hb2 (by go_simp)
  have hB2 : Below w.heap.size w w2 := bto (bto (bto (bnew _ _) (bdrew _ _)) (bnew _ _)) hb2
  have hmL := hm.below hB2
  have hW2 : w.heap.size ≤ (((w.alloc (.cells #[.string x.key, .string x.val] 159)).drewN n1).alloc (.cells #[.string keyS] 9)).heap.size := by simp; omega
  obtain ⟨t2, y2, rfl⟩ := RErr.held (show RErr _ w2 v2 31 [keyS] from hr2)
  go_wp2_with fail
  go_quiet (fail)
  go_wp2_with (first
    | (go_at_call 270; refine (Val_any _ _ (by omega) (LaidMarks.drewN hmL _)).mono ?_; rintro e w' ⟨rfl, rfl⟩)
    | (go_at_call 122; refine (New_one _ valS _ _ _ (new_cell _ _ _ _ _ _ (by simp) rfl)).mono ?_; rintro e w3 ⟨v3, rfl, hr3, hb3⟩; have hv3 := hr3.isV; have hs3 := hb3.size)
    | (go_at_call 121; refine (First_two (.iface t2 y2) v3 _ _ _ hr2.isV hv3 (new_cell _ _ _ _ _ _ (by simp) rfl) (new_cell _ _ _ _ _ _ (by simp) rfl)).mono ?_; rintro e w' ⟨rfl, rfl⟩)
    | (go_at_call 129; refine (at_any _ _ _ hn (by omega) (by omega)).mono ?_; rintro e w4 ⟨rfl, hb4⟩)
    | (go_at_call 216; refine (In_any w.heap.size _ _ _ _ (by have := hb4.size; have := hb3.size; have := hB2.size; simp at *; omega) (RErrs.first (vs := [(.iface t2 y2), v3]) (es := [_, _]) ⟨((RErrO.below (hr2.mono hW2) (bto (bto (bdrew _ _) (bnew _ _)) hb3)).below (bnew _ _)).below hb4, ((hr3.mono (by have := hB2.size; simp at *; omega)).below (bnew _ _)).below hb4, trivial⟩)).mono ?_; rintro e w5 ⟨v5, rfl, hr5, hb5⟩))
  go_ret
  exact ⟨_, rfl, hr5, bto (bto (bto (bto hB2 (bto (bto (bdrew _ _) (bnew _ _)) hb3)) (bnew _ _)) hb4) hb5⟩

set_option maxHeartbeats 1000000 in
set_option maxRecDepth 100000 in
theorem label_le (name : ByteArray) (x : LabelD) (b off n c : Nat) (i : Nat) (hi : i + 1 < n) (hin : i + 1 ≤ 1000000) (p : ByteArray) (hK : keyB x.key.data.toList = true) (hle : leB x.key.data.toList p.data.toList = true) (w : World) (hn : name.size ≤ 1000000) (hk : x.key.size ≤ 1000000) (hv : x.val.size ≤ 1000000) (hm : LaidMarks w)
    (h0 : w.cell? ⟨b, off + (i + 1) * 2, none⟩ = some (.string x.key)) (h1 : w.cell? ⟨b, off + (i + 1) * 2 + 1, none⟩ = some (.string x.val)) (hp : w.cell? ⟨b, off + i * 2, none⟩ = some (.string p)) :
    Calls Tryz.prog 219 #[.string name, .slice (some ⟨b, off, none⟩) n c, .int .i64 ((i : Int) + 1)] w (RetErr w (inE (firstE [(some (4, [keyS])), if valB x.val.data.toList then none else some (32, [valS])]) (atB name ((i : Int) + 1)))) := by
  rw [← new_say _ 32 _ (by decide)]
  have hm1 := hm.below (bnew w (.cells #[.string x.key, .string x.val] 159))
  have HK := Lib.hid hK; clear hK
  go_enter Tryz.func219, Tryz.ntmps219
  go_wp2_with (go_at_call 269; refine (Key_any _ _ (by omega) hm1).mono ?_; rw [HK.out]; rintro e w' ⟨rfl, n1, rfl⟩)
  refine (New_one _ keyS _ _ _ (new_cell _ _ _ _ _ _ (by simp) rfl)).mono ?_
  rintro e w2 ⟨v2, rfl, hr2, hb2⟩
  have c0 : w2.cell? ⟨w.heap.size, 0, none⟩ = some (.string x.key) := keepc hb2 (by go_simp)
  have c1 : w2.cell? ⟨w.heap.size, 1, none⟩ = some (.string x.val) := keepc hb2 (by go_simp)
  have hB2 : Below w.heap.size w w2 := bto (bto (bto (bnew _ _) (bdrew _ _)) (bnew _ _)) hb2
  have hmL := hm.below hB2
  have hW2 : w.heap.size ≤ (((w.alloc (.cells #[.string x.key, .string x.val] 159)).drewN n1).alloc (.cells #[.string keyS] 9)).heap.size := by simp; omega
  have hn2 : v2 = .nilIface := hr2
  subst hn2
  have hp2 := keepc hB2 hp
  have hle1 : (Op.bytesLess x.key.toList p.toList || x.key.toList == p.toList) = true := by rw [Lib.toList_data, Lib.toList_data]; exact hle
  clear hle hp h0 h1 hr2
  go_wp2_with fail
  go_quiet (fail)
  go_wp2_with fail
  refine (New_one _ keyS _ _ _ (new_cell _ _ _ _ _ _ (by simp) rfl)).mono ?_
  rintro e w2b ⟨v2, rfl, hr2, hb2b⟩
  obtain ⟨t2, y2, rfl⟩ := RErr.held (show RErr _ w2b v2 4 [keyS] from hr2)
  have hB2b := bto (bto (bto hB2 (bdrew _ _)) (bnew _ _)) hb2b
  have c1b : w2b.cell? ⟨w.heap.size, 1, none⟩ = some (.string x.val) := keepc hb2b (keepc (bnew _ _) c1)
  have hmLb := hm.below hB2b
  go_wp2_with (first
    | (go_at_call 270; refine (Val_any _ _ (by omega) hmLb).mono ?_; rintro e w' ⟨rfl, rfl⟩)
    | (go_at_call 122; refine (New_one _ valS _ _ _ (new_cell _ _ _ _ _ _ (by simp) rfl)).mono ?_; rintro e w3 ⟨v3, rfl, hr3, hb3⟩; have hv3 := hr3.isV; have hs3 := hb3.size)
    | (go_at_call 121; refine (First_two (.iface t2 y2) v3 _ _ _ hr2.isV hv3 (new_cell _ _ _ _ _ _ (by simp) rfl) (new_cell _ _ _ _ _ _ (by simp) rfl)).mono ?_; rintro e w' ⟨rfl, rfl⟩)
    | (go_at_call 129; refine (at_any _ _ _ hn (by omega) (by omega)).mono ?_; rintro e w4 ⟨rfl, hb4⟩)
    | (go_at_call 216; refine (In_any w.heap.size _ _ _ _ (by have := hb4.size; have := hb3.size; have := hB2b.size; simp at *; omega) (RErrs.first (vs := [(.iface t2 y2), v3]) (es := [_, _]) ⟨((RErrO.below (hr2.mono (by have := hB2.size; simp at *; omega)) (bto (bnew _ _) hb3)).below (bnew _ _)).below hb4, ((hr3.mono (by have := hB2b.size; simp at *; omega)).below (bnew _ _)).below hb4, trivial⟩)).mono ?_; rintro e w5 ⟨v5, rfl, hr5, hb5⟩))
  go_ret
  exact ⟨_, rfl, hr5, bto (bto (bto (bto hB2b (bto (bnew _ _) hb3)) (bnew _ _)) hb4) hb5⟩

set_option maxHeartbeats 1000000 in
set_option maxRecDepth 100000 in
theorem label_gt (name : ByteArray) (x : LabelD) (b off n c : Nat) (i : Nat) (hi : i + 1 < n) (hin : i + 1 ≤ 1000000) (p : ByteArray) (hK : keyB x.key.data.toList = true) (hle : leB x.key.data.toList p.data.toList = false) (w : World) (hn : name.size ≤ 1000000) (hk : x.key.size ≤ 1000000) (hv : x.val.size ≤ 1000000) (hm : LaidMarks w)
    (h0 : w.cell? ⟨b, off + (i + 1) * 2, none⟩ = some (.string x.key)) (h1 : w.cell? ⟨b, off + (i + 1) * 2 + 1, none⟩ = some (.string x.val)) (hp : w.cell? ⟨b, off + i * 2, none⟩ = some (.string p)) :
    Calls Tryz.prog 219 #[.string name, .slice (some ⟨b, off, none⟩) n c, .int .i64 ((i : Int) + 1)] w (RetErr w (inE (firstE [none, if valB x.val.data.toList then none else some (32, [valS])]) (atB name ((i : Int) + 1)))) := by
  rw [← new_say _ 32 _ (by decide)]
  have hm1 := hm.below (bnew w (.cells #[.string x.key, .string x.val] 159))
  have HK := Lib.hid hK; clear hK
  go_enter Tryz.func219, Tryz.ntmps219
  go_wp2_with (go_at_call 269; refine (Key_any _ _ (by omega) hm1).mono ?_; rw [HK.out]; rintro e w' ⟨rfl, n1, rfl⟩)
  refine (New_one _ keyS _ _ _ (new_cell _ _ _ _ _ _ (by simp) rfl)).mono ?_
  rintro e w2 ⟨v2, rfl, hr2, hb2⟩
  have c0 : w2.cell? ⟨w.heap.size, 0, none⟩ = some (.string x.key) := keepc hb2 (by go_simp)
  have c1 : w2.cell? ⟨w.heap.size, 1, none⟩ = some (.string x.val) := keepc hb2 (by go_simp)
  have hB2 : Below w.heap.size w w2 := bto (bto (bto (bnew _ _) (bdrew _ _)) (bnew _ _)) hb2
  have hmL := hm.below hB2
  have hW2 : w.heap.size ≤ (((w.alloc (.cells #[.string x.key, .string x.val] 159)).drewN n1).alloc (.cells #[.string keyS] 9)).heap.size := by simp; omega
  have hn2 : v2 = .nilIface := hr2
  subst hn2
  have hp2 := keepc hB2 hp
  have hle1 : (Op.bytesLess x.key.toList p.toList || x.key.toList == p.toList) = false := by rw [Lib.toList_data, Lib.toList_data]; exact hle
  clear hle hp h0 h1
  go_wp2_with fail
  go_quiet (fail)
  go_wp2_with (first
    | (go_at_call 270; refine (Val_any _ _ (by omega) (LaidMarks.drewN hmL _)).mono ?_; rintro e w' ⟨rfl, rfl⟩)
    | (go_at_call 122; refine (New_one _ valS _ _ _ (new_cell _ _ _ _ _ _ (by simp) rfl)).mono ?_; rintro e w3 ⟨v3, rfl, hr3, hb3⟩; have hv3 := hr3.isV; have hs3 := hb3.size)
    | (go_at_call 121; refine (First_two .nilIface v3 _ _ _ hr2.isV hv3 (new_cell _ _ _ _ _ _ (by simp) rfl) (new_cell _ _ _ _ _ _ (by simp) rfl)).mono ?_; rintro e w' ⟨rfl, rfl⟩)
    | (go_at_call 129; refine (at_any _ _ _ hn (by omega) (by omega)).mono ?_; rintro e w4 ⟨rfl, hb4⟩)
    | (go_at_call 216; refine (In_any w.heap.size _ _ _ _ (by have := hb4.size; have := hb3.size; have := hB2.size; simp at *; omega) (RErrs.first (vs := [.nilIface, v3]) (es := [_, _]) ⟨((RErrO.below (hr2.mono hW2) (bto (bto (bdrew _ _) (bnew _ _)) hb3)).below (bnew _ _)).below hb4, ((hr3.mono (by have := hB2.size; simp at *; omega)).below (bnew _ _)).below hb4, trivial⟩)).mono ?_; rintro e w5 ⟨v5, rfl, hr5, hb5⟩))
  go_ret
  exact ⟨_, rfl, hr5, bto (bto (bto (bto hB2 (bto (bto (bdrew _ _) (bnew _ _)) hb3)) (bnew _ _)) hb4) hb5⟩

def prevOf (l : List LabelD) : Nat → Option ByteArray
  | 0 => none
  | j + 1 => (l[j]?).map (·.key)

theorem label_any (name : ByteArray) (l : List LabelD) (b off c i : Nat) (w : World) (hn : name.size ≤ 1000000) (hl : LabsOk l) (hi : i < l.length) (hin : i ≤ 1000000) (hm : LaidMarks w)
    (hr : ∀ j (h : j < l.length), w.cell? ⟨b, off + j * 2, none⟩ = some (.string l[j].key) ∧ w.cell? ⟨b, off + j * 2 + 1, none⟩ = some (.string l[j].val)) :
    Calls Tryz.prog 219 #[.string name, .slice (some ⟨b, off, none⟩) l.length c, .int .i64 i] w (RetErr w (labE name i l[i] (prevOf l i))) := by
  obtain ⟨hk, hv⟩ := hl l[i] (List.getElem_mem hi)
  obtain ⟨h0, h1⟩ := hr i hi
  unfold labE
  cases hK : keyB l[i].key.data.toList with
  | false =>
    have e : keyE l[i] (prevOf l i) = some (31, [keyS]) := by unfold keyE; rw [hK]; rfl
    rw [e]
    exact label_bad name l[i] b off l.length c i hi hin hK w hn hk hv hm h0 h1
  | true =>
    match i, hi with
    | 0, hi =>
      have e : keyE l[0] (prevOf l 0) = none := by unfold keyE; rw [hK]; rfl
      rw [e]
      have h0' : w.cell? ⟨b, off, none⟩ = some (.string l[0].key) := by simpa using h0
      have h1' : w.cell? ⟨b, off + 1, none⟩ = some (.string l[0].val) := by simpa using h1
      exact label_first name l[0] b off l.length c hi hK w hn hk hv hm h0' h1'
    | j + 1, hi =>
      have hp := (hr j (by omega)).1
      have hpv : prevOf l (j + 1) = some l[j].key := by simp [prevOf, List.getElem?_eq_getElem (show j < l.length by omega)]
      cases hle : leB l[j + 1].key.data.toList l[j].key.data.toList with
      | true =>
        have e : keyE l[j + 1] (prevOf l (j + 1)) = some (4, [keyS]) := by rw [hpv]; unfold keyE; rw [hK]; simp only [hle, if_true]
        rw [e]
        exact label_le name l[j + 1] b off l.length c j hi hin l[j].key hK hle w hn hk hv hm h0 h1 hp
      | false =>
        have e : keyE l[j + 1] (prevOf l (j + 1)) = none := by rw [hpv]; unfold keyE; rw [hK]; simp [hle]
        rw [e]
        exact label_gt name l[j + 1] b off l.length c j hi hin l[j].key hK hle w hn hk hv hm h0 h1 hp

/-- The first of the labels' errors, from the i-th on. -/
def labsFrom (name : ByteArray) : Nat → Option ByteArray → List LabelD → Err
  | _, _, [] => none
  | i, prev, x :: r => match labE name i x prev with
    | some e => some e
    | none => labsFrom name (i + 1) (some x.key) r
def labelsE (name : ByteArray) (l : List LabelD) : Err := if 4 < l.length then some (2, [name]) else labsFrom name 0 none l
theorem labsFrom_drop (name : ByteArray) (l : List LabelD) (k : Nat) (h : k < l.length) :
    labsFrom name k (prevOf l k) (l.drop k) = (match labE name k l[k] (prevOf l k) with | some e => some e | none => labsFrom name (k + 1) (prevOf l (k + 1)) (l.drop (k + 1))) := by
  rw [List.drop_eq_getElem_cons h]
  simp only [labsFrom]
  cases labE name k l[k] (prevOf l k) with
  | some e => rfl
  | none => simp [prevOf, List.getElem?_eq_getElem h]

set_option maxHeartbeats 1000000 in
theorem Labels_any (name : ByteArray) (l : List LabelD) (v : Value) (w : World) (hn : name.size ≤ 1000000) (hl : LabsOk l) (hm : LaidMarks w) (hr : RLabs w v l) (hlen : l.length ≤ 1000000000000) :
    Calls Tryz.prog 124 #[.string name, v] w (RetErr w (labelsE name l)) := by
  rcases hr with ⟨rfl, a, c, rfl⟩ | ⟨h0, b, off, c, rfl, hc, hr⟩
  · have hw : withinE 2 name 0 0 4 = none := withinE_no (by omega)
    go_enter Tryz.func124, Tryz.ntmps124
    go_wp2_with fail
    refine (atMost_any _ _ _ _ _).mono ?_
    rw [hw]
    rintro e w1 ⟨v1, rfl, hr1, hb1⟩
    have hv1 : v1 = .nilIface := hr1
    subst hv1
    go_wp2_with fail
    go_loop [5, 6] (fun v i => v = .nilIface ∧ i = .int .i64 0) (fun _ _ => 0)
    case atStart => exact ⟨rfl, rfl⟩
    case round =>
      obtain ⟨rfl, rfl⟩ := hrel
      go_wp2
      go_ret
      exact ⟨_, rfl, rfl, hb1⟩
  · by_cases h4 : 4 < l.length
    · have hw : withinE 2 name l.length 0 4 = some (2, [name]) := withinE_yes (by omega)
      have he : labelsE name l = some (2, [name]) := if_pos h4
      rw [he]
      clear hr he
      go_enter Tryz.func124, Tryz.ntmps124
      go_wp2_with fail
      refine (atMost_any _ _ _ _ _).mono ?_
      rw [hw]
      rintro e w1 ⟨v1, rfl, hr1, hb1⟩
      obtain ⟨t, y, rfl⟩ := RErr.held (show RErr _ w1 v1 2 [name] from hr1)
      go_wp2_with fail
      go_loop [5, 6] (fun v i => v = .iface t y ∧ i = .int .i64 0) (fun _ _ => 0)
      case atStart => exact ⟨rfl, rfl⟩
      case round =>
        obtain ⟨rfl, rfl⟩ := hrel
        go_wp2
        go_ret
        exact ⟨_, rfl, hr1, hb1⟩
    · have hw : withinE 2 name l.length 0 4 = none := withinE_no (by omega)
      have he : labelsE name l = labsFrom name 0 none l := if_neg h4
      rw [he]
      go_enter Tryz.func124, Tryz.ntmps124
      go_wp2_with fail
      refine (atMost_any _ _ _ _ _).mono ?_
      rw [hw]
      rintro e w1 ⟨v1, rfl, hr1, hb1⟩
      have hv1 : v1 = .nilIface := hr1
      subst hv1
      go_wp2_with fail
      go_loopw [5, 6] (fun v i wr => ∃ (k : Nat) (e : Err), k ≤ l.length ∧ i = .int .i64 k ∧ RErrO w.heap.size wr v e ∧ Below w.heap.size w wr ∧
          ((e = none ∧ labsFrom name k (prevOf l k) (l.drop k) = labsFrom name 0 none l) ∨ (e ≠ none ∧ e = labsFrom name 0 none l)))
        (fun _ i _ => l.length - (intOf i).toNat)
      case atStart => exact ⟨0, none, Nat.zero_le _, rfl, rfl, hb1, .inl ⟨rfl, rfl⟩⟩
      case round =>
        obtain ⟨k, e, hk, rfl, hre, hb, hcase⟩ := hrel
        rcases hcase with ⟨rfl, hd⟩ | ⟨he1, he2⟩
        · have hv : _ = Value.nilIface := hre
          subst hv
          have HD := Lib.hid hd; clear hd
          by_cases hlt : k < l.length
          · have hmk := hm.below hb
            have hrk : ∀ j (h : j < l.length), wr.cell? ⟨b, off + j * 2, none⟩ = some (.string l[j].key) ∧ wr.cell? ⟨b, off + j * 2 + 1, none⟩ = some (.string l[j].val) :=
              fun j hj => ⟨keepc hb (hr j hj).1, keepc hb (hr j hj).2⟩
            have HR := Lib.hid hrk
            clear hr hrk hre
            go_wp2_with (go_at_call 219; refine (label_any name l b off c k _ hn hl hlt (by omega) hmk HR.out).mono ?_; rintro e w2 ⟨v2, rfl, hr2, hb2⟩)
            refine ⟨⟨k + 1, labE name k l[k] (prevOf l k), by omega, by go_num, hr2.mono hb.size, bto hb hb2, ?_⟩, by simp [intOf]; omega⟩
            have h := labsFrom_drop name l k hlt
            rw [HD.out] at h
            cases hE : labE name k l[k] (prevOf l k) with
            | none => rw [hE] at h; exact .inl ⟨rfl, h.symm⟩
            | some x => rw [hE] at h; exact .inr ⟨by simp, h.symm⟩
          · have hz : l.drop k = [] := List.drop_of_length_le (by omega)
            have h := HD.out
            rw [hz] at h
            have H := Lib.hid h
            clear hr hre h hz
            go_wp2
            go_ret
            exact ⟨_, rfl, by rw [← H.out]; rfl, hb⟩
        · obtain ⟨x, rfl⟩ : ∃ x, e = some x := by cases e with | none => exact absurd rfl he1 | some x => exact ⟨x, rfl⟩
          obtain ⟨t, y, rfl⟩ := RErr.held (show RErr _ wr _ x.1 x.2 from hre)
          have H := Lib.hid he2
          clear he1 he2 hr
          go_wp2
          go_ret
          exact ⟨_, rfl, by rw [← H.out]; exact hre, hb⟩

end Go.Proofs.YtgelbkgkjkeccaaGreatDoor
