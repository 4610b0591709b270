/- Errors of the program: what an error value reads as (a code behind steps), and package fail's In, New and First. -/
import Derived.Test.YtgelbkgkjkeccaaGreatDoorB
import Derived.WideLaws
namespace Go.Proofs.YtgelbkgkjkeccaaGreatDoor
open Go.RowKit

/-- What an error value reads as: a code, behind steps; the steps lie in blocks from B on. -/
def RErr (B : Nat) (w : World) : Value → Int → List ByteArray → Prop
  | v, c, [] => v = .iface 46 (.int .i64 c)
  | v, c, p :: ps => ∃ (b : Nat) (v' : Value), v = .iface 297 (.pointer (some ⟨b, 0, none⟩)) ∧ B ≤ b ∧ w.cell? ⟨b, 0, none⟩ = some (.string p) ∧ w.cell? ⟨b, 1, none⟩ = some v' ∧ RErr B w v' c ps
abbrev Err := Option (Int × List ByteArray)
def RErrO (B : Nat) (w : World) (v : Value) : Err → Prop
  | none => v = .nilIface
  | some (c, ps) => RErr B w v c ps

/-- What lies from B on stays as it was: the error reads as it did. -/
theorem RErr.kept {B : Nat} {w w' : World} (hk : ∀ k, B ≤ k → k < w.heap.size → w'.heap[k]? = w.heap[k]?) : ∀ {ps : List ByteArray} {v : Value} {c : Int}, RErr B w v c ps → RErr B w' v c ps
  | [], _, _, h => h
  | _ :: _, _, _, ⟨b, v', e, hB, h0, h1, h2⟩ =>
    ⟨b, v', e, hB, (World.cell?_of_block (w := w) (hk b hB (World.block_lt_of_cell? w _ h0))).trans h0, (World.cell?_of_block (w := w) (hk b hB (World.block_lt_of_cell? w _ h0))).trans h1, RErr.kept hk h2⟩
theorem RErrO.kept {B : Nat} {w w' : World} {v : Value} {e : Err} (h : RErrO B w v e) (hk : ∀ k, B ≤ k → k < w.heap.size → w'.heap[k]? = w.heap[k]?) : RErrO B w' v e := by
  cases e with
  | none => exact h
  | some x => exact RErr.kept hk h
theorem RErrO.below {B : Nat} {w w' : World} {v : Value} {e : Err} (h : RErrO B w v e) (hb : Below w.heap.size w w') : RErrO B w' v e := h.kept fun k _ hk => hb.block k hk
theorem RErr.below {B : Nat} {w w' : World} (hb : Below w.heap.size w w') {ps : List ByteArray} {v : Value} {c : Int} (h : RErr B w v c ps) : RErr B w' v c ps := RErr.kept (fun k _ hk => hb.block k hk) h
theorem RErr.mono {B B' : Nat} {w : World} (hB : B' ≤ B) : ∀ {ps : List ByteArray} {v : Value} {c : Int}, RErr B w v c ps → RErr B' w v c ps
  | [], _, _, h => h
  | _ :: _, _, _, ⟨b, v', e, h, h0, h1, h2⟩ => ⟨b, v', e, Nat.le_trans hB h, h0, h1, RErr.mono hB h2⟩
theorem RErrO.mono {B B' : Nat} {w : World} {v : Value} {e : Err} (h : RErrO B w v e) (hB : B' ≤ B) : RErrO B' w v e := by
  cases e with
  | none => exact h
  | some x => exact RErr.mono hB h
theorem RErr.held {B : Nat} {w : World} {v : Value} {c : Int} : ∀ {ps : List ByteArray}, RErr B w v c ps → ∃ t x, v = .iface t x
  | [], h => ⟨_, _, h⟩
  | _ :: _, ⟨_, _, h, _⟩ => ⟨_, _, h⟩

/-- The values of a slice of errors. -/
def IsErrV (v : Value) : Prop := v = .nilIface ∨ ∃ t x, v = .iface t x
theorem RErrO.isV {B : Nat} {w : World} {v : Value} {e : Err} (h : RErrO B w v e) : IsErrV v := by
  cases e with
  | none => exact .inl h
  | some x => exact .inr (RErr.held h)
def firstV : List Value → Value
  | [] => .nilIface
  | .nilIface :: l => firstV l
  | v :: _ => v
def firstE : List Err → Err
  | [] => none
  | none :: l => firstE l
  | some x :: _ => some x
theorem firstV_held (t : TypeId) (x : Value) (l : List Value) : firstV (.iface t x :: l) = .iface t x := rfl
/-- A list of values reads as a list of errors. -/
def RErrs (B : Nat) (w : World) : List Value → List Err → Prop
  | [], [] => True
  | v :: vs, e :: es => RErrO B w v e ∧ RErrs B w vs es
  | _, _ => False
theorem RErrs.first {B : Nat} {w : World} : ∀ {vs : List Value} {es : List Err}, RErrs B w vs es → RErrO B w (firstV vs) (firstE es)
  | [], [], _ => rfl
  | v :: vs, none :: es, h => by
    have h1 : v = .nilIface := h.1
    subst h1
    show RErrO B w (firstV vs) (firstE es)
    exact RErrs.first h.2
  | v :: vs, some x :: es, h => by
    obtain ⟨t, y, rfl⟩ := RErr.held (show RErr B w v x.1 x.2 from h.1)
    exact h.1
theorem RErrs.isV {B : Nat} {w : World} : ∀ {vs : List Value} {es : List Err}, RErrs B w vs es → ∀ v ∈ vs, IsErrV v
  | [], [], _, v, hv => by cases hv
  | v :: vs, e :: es, h, u, hu => by
    rcases List.mem_cons.1 hu with rfl | hu
    · exact RErrO.isV h.1
    · exact RErrs.isV h.2 u hu

set_option maxHeartbeats 400000 in
theorem First_any (vs : List Value) (b off c : Nat) (w : World) (hv : ∀ v ∈ vs, IsErrV v) (hl : vs.length ≤ 9223372036854775807)
    (hc : ∀ j x, vs[j]? = some x → w.cell? ⟨b, off + j, none⟩ = some x) :
    Calls Tryz.prog 121 #[.slice (some ⟨b, off, none⟩) vs.length c] w fun e w' => e = .returned (firstV vs) ∧ w = w' := by
  go_enter Tryz.func121, Tryz.ntmps121
  go_wp2
  go_loop [7] (fun i => ∃ k : Nat, k ≤ vs.length ∧ i = .int .i64 k ∧ firstV (vs.drop k) = firstV vs) (fun i => vs.length - (intOf i).toNat)
  case atStart => exact ⟨0, Nat.zero_le _, rfl, rfl⟩
  case round =>
    obtain ⟨k, hk, rfl, hr⟩ := hrel
    have HR := Lib.hid hr; clear hr
    by_cases hlt : k < vs.length
    · have hg : vs[k]? = some vs[k] := List.getElem?_eq_getElem hlt
      have h1 := hc k _ hg
      have HD : Hid (vs.drop k = vs[k] :: vs.drop (k + 1)) := List.drop_eq_getElem_cons hlt
      have h2 := hv _ (List.getElem_mem hlt)
      clear hv hc hg
      generalize vs[k] = v at *
      rcases h2 with rfl | ⟨t, x, rfl⟩
      · go_wp2
        go_round
        case rel => exact ⟨k + 1, by omega, by go_num, by rw [← HR.out, HD.out]; rfl⟩
        case measure => simp [intOf]; omega
      · go_wp2
        go_ret
        refine ⟨?_, rfl⟩
        rw [← HR.out, HD.out]; rfl
    · have hz : vs.drop k = [] := List.drop_of_length_le (by omega)
      have HZ := Lib.hid hz
      clear hz hv hc
      go_wp2
      go_ret
      refine ⟨?_, rfl⟩
      rw [← HR.out, HZ.out]; rfl

set_option maxHeartbeats 400000 in
theorem In_nil (s : ByteArray) (w : World) :
    Calls Tryz.prog 216 #[.nilIface, .string s] w fun e w' => e = .returned .nilIface ∧ w = w' := by
  go_enter Tryz.func216, Tryz.ntmps216
  go_wp2
  go_ret
  exact ⟨rfl, rfl⟩
set_option maxHeartbeats 400000 in
theorem In_held (t : TypeId) (x : Value) (s : ByteArray) (w : World) :
    Calls Tryz.prog 216 #[.iface t x, .string s] w fun e w' => e = .returned (.iface 297 (.pointer (some ⟨w.heap.size, 0, none⟩))) ∧ w' = w.alloc (.cells #[.string s, .iface t x] 300) := by
  go_enter Tryz.func216, Tryz.ntmps216
  go_wp2
  go_ret
  exact ⟨rfl, rfl⟩
def inE (e : Err) (s : ByteArray) : Err := e.map fun x => (x.1, s :: x.2)
theorem In_any (B : Nat) (v : Value) (e : Err) (s : ByteArray) (w : World) (hB : B ≤ w.heap.size) (h : RErrO B w v e) :
    Calls Tryz.prog 216 #[v, .string s] w fun r w' => ∃ v', r = .returned v' ∧ RErrO B w' v' (inE e s) ∧ Below w.heap.size w w' := by
  cases e with
  | none =>
    have h' : v = .nilIface := h
    subst h'
    refine (In_nil s w).mono ?_
    rintro r w' ⟨rfl, rfl⟩
    exact ⟨_, rfl, rfl, Below.refl _ _⟩
  | some x =>
    obtain ⟨t, y, rfl⟩ := RErr.held (show RErr B w v x.1 x.2 from h)
    refine (In_held t y s w).mono ?_
    rintro r w' ⟨rfl, rfl⟩
    have hb : Below w.heap.size w (w.alloc (.cells #[.string s, .iface t y] 300)) := (Below.refl _ _).alloc (Nat.le_refl _) _
    refine ⟨_, rfl, ?_, hb⟩
    exact ⟨w.heap.size, .iface t y, rfl, hB, by simp, by simp, RErr.below hb h⟩

def newE (c : Int) (ps : List ByteArray) : Err := if c = 0 then none else some (c, ps)

set_option maxHeartbeats 400000 in
theorem New_any (code : Int) (xs : List ByteArray) (b off c : Nat) (w : World) (hl : xs.length ≤ 9223372036854775807) (hbl : b < w.heap.size)
    (hc : ∀ j x, xs[j]? = some x → w.cell? ⟨b, off + j, none⟩ = some (.string x)) :
    Calls Tryz.prog 122 #[.int .i64 code, .slice (some ⟨b, off, none⟩) xs.length c] w fun e w' => ∃ v, e = .returned v ∧ RErrO w.heap.size w' v (newE code xs) ∧ Below w.heap.size w w' := by
  by_cases h0 : code = 0
  · subst h0
    go_enter Tryz.func122, Tryz.ntmps122
    go_wp2
    go_ret
    exact ⟨_, rfl, rfl, Below.refl _ _⟩
  · have h1 : (code == 0) = false := by simp [h0]
    have he : newE code xs = some (code, xs) := by unfold newE; rw [if_neg h0]
    rw [he]
    clear h0 he
    go_enter Tryz.func122, Tryz.ntmps122
    go_wp2
    go_loopw [5, 6] (fun v i wr => ∃ k : Nat, k ≤ xs.length ∧ i = .int .i64 ((k : Int) - 1) ∧ RErr w.heap.size wr v code (xs.drop k) ∧ Below w.heap.size w wr) (fun _ i _ => (intOf i + 1).toNat)
    case atStart => exact ⟨xs.length, Nat.le_refl _, rfl, by rw [List.drop_length]; rfl, Below.refl _ _⟩
    case round =>
      obtain ⟨k, hk, rfl, hr, hb⟩ := hrel
      by_cases hlt : k = 0
      · subst hlt
        go_wp2
        go_ret
        exact ⟨_, rfl, hr, hb⟩
      · obtain ⟨j, rfl⟩ : ∃ j, k = j + 1 := ⟨k - 1, by omega⟩
        have hg : xs[j]? = some xs[j] := List.getElem?_eq_getElem (by omega)
        have h2 := hc j _ hg
        have HD : Hid (xs.drop j = xs[j] :: xs.drop (j + 1)) := List.drop_eq_getElem_cons (by omega)
        have h3 := (hb.cell (p := ⟨b, off + j, none⟩) hbl).trans h2
        clear hc hg hlt h2
        obtain ⟨t, y, rfl⟩ := RErr.held hr
        go_wp2_with (go_at_call 216; refine (In_any _ _ (some (code, xs.drop (j + 1))) _ _ hb.size hr).mono ?_; rintro e w2 ⟨v2, rfl, hr2, hb2⟩)
        refine ⟨⟨j, by omega, rfl, ?_, hb.trans (hb2.mono hb.size)⟩, by simp [intOf]⟩
        rw [HD.out]; exact hr2

/-- New of a code, at one place, and at two. -/
theorem New_one (code : Int) (x : ByteArray) (b c : Nat) (w : World) (hc : w.cell? ⟨b, 0, none⟩ = some (.string x)) :
    Calls Tryz.prog 122 #[.int .i64 code, .slice (some ⟨b, 0, none⟩) 1 c] w fun e w' => ∃ v, e = .returned v ∧ RErrO w.heap.size w' v (newE code [x]) ∧ Below w.heap.size w w' :=
  New_any code [x] b 0 c w (by simp) (World.block_lt_of_cell? w _ hc) fun j y hj => by
    match j with
    | 0 => simp at hj; subst hj; exact hc
    | j + 1 => simp at hj
theorem New_two (code : Int) (x y : ByteArray) (b c : Nat) (w : World) (hc : w.cell? ⟨b, 0, none⟩ = some (.string x)) (hd : w.cell? ⟨b, 1, none⟩ = some (.string y)) :
    Calls Tryz.prog 122 #[.int .i64 code, .slice (some ⟨b, 0, none⟩) 2 c] w fun e w' => ∃ v, e = .returned v ∧ RErrO w.heap.size w' v (newE code [x, y]) ∧ Below w.heap.size w w' :=
  New_any code [x, y] b 0 c w (by simp) (World.block_lt_of_cell? w _ hc) fun j z hj => by
    match j with
    | 0 => simp at hj; subst hj; exact hc
    | 1 => simp at hj; subst hj; exact hd
    | j + 2 => simp at hj

end Go.Proofs.YtgelbkgkjkeccaaGreatDoor
