/- What a spec's parts may be: the walks of package spec's within, atMost, at, most, req, lim, probe, label and Labels. -/
import Derived.Test.YtgelbkgkjkeccaaGreatDoorC
import Derived.Deep.RegionHeld3
namespace Go.Proofs.YtgelbkgkjkeccaaGreatDoor
open Go.RowKit

/-- What a call that makes memory leaves as it was. -/
theorem bkeep {W w1 : World} (hb : Below W.heap.size W w1) : ∀ b o, b < W.heap.size → w1.cell? ⟨b, o, none⟩ = W.cell? ⟨b, o, none⟩ := fun b o h => hb.cell (p := ⟨b, o, none⟩) h

theorem size_alloc_le (w : World) (o : Obj) : w.heap.size ≤ (w.alloc o).heap.size := by simp

/-- A slice literal of errors. -/
theorem IsErrV.cells {v : Value} (h : IsErrV v) : v.cells = #[v] := by
  rcases h with rfl | ⟨t, x, rfl⟩ <;> rfl
def bsE (n : Nat) (ps : Array (Nat × Value)) : Sem Value := Instr.buildSlice 266 n ps
theorem fold_bsE (n : Nat) (ps : Array (Nat × Value)) : Instr.buildSlice 266 n ps = bsE n ps := rfl
theorem run_errs2 (w : World) (a b : Value) (ha : IsErrV a) (hb : IsErrV b) :
    (bsE 2 #[(0, a), (1, b)]).run Tryz.prog w = .ok (.slice (some ⟨w.heap.size, 0, none⟩) 2 2) (w.alloc (.cells #[a, b] 36)) := by
  rcases ha with rfl | ⟨t, x, rfl⟩ <;> rcases hb with rfl | ⟨u, y, rfl⟩ <;> kernel_rfl
theorem run_errs3 (w : World) (a b c : Value) (ha : IsErrV a) (hb : IsErrV b) (hc : IsErrV c) :
    (bsE 3 #[(0, a), (1, b), (2, c)]).run Tryz.prog w = .ok (.slice (some ⟨w.heap.size, 0, none⟩) 3 3) (w.alloc (.cells #[a, b, c] 36)) := by
  rcases ha with rfl | ⟨t, x, rfl⟩ <;> rcases hb with rfl | ⟨u, y, rfl⟩ <;> rcases hc with rfl | ⟨u2, y2, rfl⟩ <;> kernel_rfl
@[go_sem] theorem isErrV_nil : IsErrV .nilIface := .inl rfl
@[go_sem] theorem isErrV_iface (t : TypeId) (x : Value) : IsErrV (.iface t x) := .inr ⟨t, x, rfl⟩
attribute [go_sem ↓] fold_bsE
attribute [go_sem] run_errs2 run_errs3

def withinE (code : Int) (s : ByteArray) (n lo hi : Int) : Err := if n < lo ∨ hi < n then some (code, [s]) else none
theorem withinE_yes {code : Int} {s : ByteArray} {n lo hi : Int} (h : n < lo ∨ hi < n) : withinE code s n lo hi = some (code, [s]) := if_pos h
theorem withinE_no {code : Int} {s : ByteArray} {n lo hi : Int} (h : ¬ (n < lo ∨ hi < n)) : withinE code s n lo hi = none := if_neg h

theorem First_two (a b : Value) (g c : Nat) (w : World) (ha : IsErrV a) (hb : IsErrV b) (h0 : w.cell? ⟨g, 0, none⟩ = some a) (h1 : w.cell? ⟨g, 1, none⟩ = some b) :
    Calls Tryz.prog 121 #[.slice (some ⟨g, 0, none⟩) 2 c] w fun e w' => e = .returned (firstV [a, b]) ∧ w = w' :=
  First_any [a, b] g 0 c w (by simp [ha, hb]) (by simp) fun j y hj => by
    match j with
    | 0 => simp at hj; subst hj; exact h0
    | 1 => simp at hj; subst hj; exact h1
    | j + 2 => simp at hj
theorem First_three (a b d : Value) (g c : Nat) (w : World) (ha : IsErrV a) (hb : IsErrV b) (hd : IsErrV d) (h0 : w.cell? ⟨g, 0, none⟩ = some a) (h1 : w.cell? ⟨g, 1, none⟩ = some b) (h2 : w.cell? ⟨g, 2, none⟩ = some d) :
    Calls Tryz.prog 121 #[.slice (some ⟨g, 0, none⟩) 3 c] w fun e w' => e = .returned (firstV [a, b, d]) ∧ w = w' :=
  First_any [a, b, d] g 0 c w (by simp [ha, hb, hd]) (by simp) fun j y hj => by
    match j with
    | 0 => simp at hj; subst hj; exact h0
    | 1 => simp at hj; subst hj; exact h1
    | 2 => simp at hj; subst hj; exact h2
    | j + 3 => simp at hj

theorem bto {w0 w w' : World} (h : Below w0.heap.size w0 w) (k : Below w.heap.size w w') : Below w0.heap.size w0 w' := h.trans (k.mono h.size)
theorem bnew (w : World) (o : Obj) : Below w.heap.size w (w.alloc o) := (Below.refl _ _).alloc (Nat.le_refl _) _
theorem errs2 {W w1 w2 w4 : World} {v1 v2 : Value} {e1 e2 : Err} (h1 : RErrO W.heap.size w1 v1 e1) (h2 : RErrO w1.heap.size w2 v2 e2) (b1 : Below W.heap.size W w1) (b2 : Below w1.heap.size w1 w2) (b4 : Below w2.heap.size w2 w4) :
    RErrO W.heap.size w4 (firstV [v1, v2]) (firstE [e1, e2]) := RErrs.first (vs := [v1, v2]) (es := [e1, e2]) ⟨(h1.below b2).below b4, (h2.mono b1.size).below b4, trivial⟩
theorem errs3 {W w1 w2 w3 w4 : World} {v1 v2 v3 : Value} {e1 e2 e3 : Err} (h1 : RErrO W.heap.size w1 v1 e1) (h2 : RErrO w1.heap.size w2 v2 e2) (h3 : RErrO w2.heap.size w3 v3 e3) (b1 : Below W.heap.size W w1) (b2 : Below w1.heap.size w1 w2) (b3 : Below w2.heap.size w2 w3) (b4 : Below w3.heap.size w3 w4) :
    RErrO W.heap.size w4 (firstV [v1, v2, v3]) (firstE [e1, e2, e3]) :=
  RErrs.first (vs := [v1, v2, v3]) (es := [e1, e2, e3]) ⟨((h1.below b2).below b3).below b4, ((h2.mono b1.size).below b3).below b4, (h3.mono (Nat.le_trans b1.size b2.size)).below b4, trivial⟩

theorem keepc {w w' : World} {b o : Nat} {x : Value} (hb : Below w.heap.size w w') (h : w.cell? ⟨b, o, none⟩ = some x) : w'.cell? ⟨b, o, none⟩ = some x :=
  (bkeep hb _ _ (World.block_lt_of_cell? w _ h)).trans h
/-- An error comes back; old memory stands. -/
def RetErr (w : World) (x : Err) (e : Ending) (w' : World) : Prop := ∃ v, e = .returned v ∧ RErrO w.heap.size w' v x ∧ Below w.heap.size w w'

set_option maxHeartbeats 400000 in
theorem within_any (s : ByteArray) (n lo hi : Int) (w : World) :
    Calls Tryz.prog 127 #[.string s, .int .i64 n, .int .i64 lo, .int .i64 hi] w (RetErr w (withinE 1 s n lo hi)) := by
  by_cases h : n < lo ∨ hi < n
  · rw [withinE_yes h]
    by_cases h1 : n < lo
    · clear h
      go_enter Tryz.func127, Tryz.ntmps127
      go_wp2_with (go_at_call 122; refine (New_one 1 s _ _ _ (by simp)).mono ?_; rintro e w' ⟨v, rfl, hr, hb⟩)
      go_ret
      exact ⟨_, rfl, hr.mono (by simp), ((Below.refl _ _).alloc (Nat.le_refl _) _).trans (hb.mono (by simp))⟩
    · have h2 : hi < n := h.resolve_left h1
      clear h
      go_enter Tryz.func127, Tryz.ntmps127
      go_wp2_with (go_at_call 122; refine (New_one 1 s _ _ _ (by simp)).mono ?_; rintro e w' ⟨v, rfl, hr, hb⟩)
      go_ret
      exact ⟨_, rfl, hr.mono (by simp), ((Below.refl _ _).alloc (Nat.le_refl _) _).trans (hb.mono (by simp))⟩
  · rw [withinE_no h]
    have h1 : ¬ n < lo := fun x => h (.inl x)
    have h2 : ¬ hi < n := fun x => h (.inr x)
    clear h
    go_enter Tryz.func127, Tryz.ntmps127
    go_wp2
    go_ret
    exact ⟨_, rfl, rfl, Below.refl _ _⟩

set_option maxHeartbeats 400000 in
theorem atMost_any (s : ByteArray) (n lo hi : Int) (w : World) :
    Calls Tryz.prog 125 #[.string s, .int .i64 n, .int .i64 lo, .int .i64 hi] w (RetErr w (withinE 2 s n lo hi)) := by
  by_cases h : n < lo ∨ hi < n
  · rw [withinE_yes h]
    by_cases h1 : n < lo
    · clear h
      go_enter Tryz.func125, Tryz.ntmps125
      go_wp2_with (go_at_call 122; refine (New_one 2 s _ _ _ (by simp)).mono ?_; rintro e w' ⟨v, rfl, hr, hb⟩)
      go_ret
      exact ⟨_, rfl, hr.mono (by simp), ((Below.refl _ _).alloc (Nat.le_refl _) _).trans (hb.mono (by simp))⟩
    · have h2 : hi < n := h.resolve_left h1
      clear h
      go_enter Tryz.func125, Tryz.ntmps125
      go_wp2_with (go_at_call 122; refine (New_one 2 s _ _ _ (by simp)).mono ?_; rintro e w' ⟨v, rfl, hr, hb⟩)
      go_ret
      exact ⟨_, rfl, hr.mono (by simp), ((Below.refl _ _).alloc (Nat.le_refl _) _).trans (hb.mono (by simp))⟩
  · rw [withinE_no h]
    have h1 : ¬ n < lo := fun x => h (.inl x)
    have h2 : ¬ hi < n := fun x => h (.inr x)
    clear h
    go_enter Tryz.func125, Tryz.ntmps125
    go_wp2
    go_ret
    exact ⟨_, rfl, rfl, Below.refl _ _⟩

def atB (s : ByteArray) (n : Int) : ByteArray := s ++ ⟨#[91]⟩ ++ ⟨(textI n).toArray⟩ ++ ⟨#[93]⟩

set_option maxHeartbeats 400000 in
theorem at_any (s : ByteArray) (n : Int) (w : World) (hs : s.size ≤ 1000000) (h0 : 0 ≤ n) (h1 : n ≤ 1000000) :
    Calls Tryz.prog 129 #[.string s, .int .i64 n] w fun e w' => e = .returned (.string (atB s n)) ∧ Below w.heap.size w w' := by
  have ht := textI_le n
  go_enter Tryz.func129, Tryz.ntmps129
  go_wp2_with (go_at_call 181; refine (Text_any n _ (by omega) (by omega)).mono ?_; rintro e w' ⟨rfl, hb⟩)
  go_ret
  exact ⟨rfl, hb⟩

def mostE (s : ByteArray) (n least : Int) : Err := if n = 0 then none else withinE 1 s n least 1099511627776
set_option maxHeartbeats 400000 in
theorem most_any (s : ByteArray) (n least : Int) (w : World) :
    Calls Tryz.prog 297 #[.string s, .int .i64 n, .int .i64 least] w (RetErr w (mostE s n least)) := by
  by_cases h : n = 0
  · have e : mostE s n least = none := if_pos h
    rw [e]
    subst h
    go_enter Tryz.func297, Tryz.ntmps297
    go_wp2
    go_ret
    exact ⟨_, rfl, rfl, Below.refl _ _⟩
  · have e : mostE s n least = withinE 1 s n least 1099511627776 := if_neg h
    rw [e]
    have h2 : (n == 0) = false := by simp [h]
    clear e h
    go_enter Tryz.func297, Tryz.ntmps297
    go_wp2_with (go_at_call 127; refine (within_any _ _ _ _ _).mono ?_; rintro e w' ⟨v, rfl, hr, hb⟩)
    go_ret
    exact ⟨_, rfl, hr, hb⟩

structure ResD where
  cpu : Int
  mem : Int
  pids : Int
  deriving DecidableEq
def cpuS : ByteArray := ⟨#[99, 112, 117]⟩
def memS : ByteArray := ⟨#[109, 101, 109]⟩
def pidsS : ByteArray := ⟨#[112, 105, 100, 115]⟩
def reqS : ByteArray := ⟨#[114, 101, 113]⟩
def limS : ByteArray := ⟨#[108, 105, 109]⟩
def reqE (r : ResD) : Err := inE (firstE [withinE 1 cpuS r.cpu 0 1099511627776, withinE 1 memS r.mem 0 1099511627776, withinE 1 pidsS r.pids 0 1099511627776]) reqS
def limE (l r : ResD) : Err := inE (firstE [mostE cpuS l.cpu r.cpu, mostE memS l.mem r.mem, mostE pidsS l.pids r.pids]) limS

set_option maxHeartbeats 1000000 in
set_option maxRecDepth 100000 in
theorem req_any (r : ResD) (w : World) :
    Calls Tryz.prog 273 #[.agg #[.int .i64 r.cpu, .int .i64 r.mem, .int .i64 r.pids]] w (RetErr w (reqE r)) := by
  have KEEP : Hid (∀ W W' : World, Below W.heap.size W W' → (W.cell? ⟨w.heap.size, 0, none⟩ = some (.int .i64 r.cpu) ∧ W.cell? ⟨w.heap.size, 1, none⟩ = some (.int .i64 r.mem) ∧ W.cell? ⟨w.heap.size, 2, none⟩ = some (.int .i64 r.pids)) → (W'.cell? ⟨w.heap.size, 0, none⟩ = some (.int .i64 r.cpu) ∧ W'.cell? ⟨w.heap.size, 1, none⟩ = some (.int .i64 r.mem) ∧ W'.cell? ⟨w.heap.size, 2, none⟩ = some (.int .i64 r.pids))) := fun W W' hb h => ⟨keepc hb h.1, keepc hb h.2.1, keepc hb h.2.2⟩
  go_enter Tryz.func273, Tryz.ntmps273
  go_wp2_with fail
  go_region_held3 (fun w' => w'.cell? ⟨w.heap.size, 0, none⟩ = some (.int .i64 r.cpu) ∧ w'.cell? ⟨w.heap.size, 1, none⟩ = some (.int .i64 r.mem) ∧ w'.cell? ⟨w.heap.size, 2, none⟩ = some (.int .i64 r.pids))
    (first | assumption | exact KEEP.out _ _ hb (by assumption) | exact KEEP.out _ _ hb3 (by assumption) | exact KEEP.out _ _ hb2 (by assumption) | exact KEEP.out _ _ hb1 (by assumption) | exact KEEP.out _ _ (bnew _ _) (by assumption) | simp)
    (first
      | (go_at_call_of 127 (Value.string ⟨#[99, 112, 117]⟩); refine (within_any _ _ _ _ _).mono ?_; rintro e w1 ⟨v1, rfl, hr1, hb1⟩; have hv1 := hr1.isV)
      | (go_at_call_of 127 (Value.string ⟨#[109, 101, 109]⟩); refine (within_any _ _ _ _ _).mono ?_; rintro e w2 ⟨v2, rfl, hr2, hb2⟩; have hv2 := hr2.isV)
      | (go_at_call_of 127 (Value.string ⟨#[112, 105, 100, 115]⟩); refine (within_any _ _ _ _ _).mono ?_; rintro e w3 ⟨v3, rfl, hr3, hb3⟩; have hv3 := hr3.isV)
      | (go_at_call 121; refine (First_three v1 v2 v3 _ _ _ hv1 hv2 hv3 (by simp) (by simp) (by simp)).mono ?_; rintro e w' ⟨rfl, rfl⟩)
      | (go_at_call 216; refine (In_any _ _ _ _ _ (by have := hb1.size; have := hb2.size; have := hb3.size; simp at *; omega) (errs3 hr1 hr2 hr3 hb1 hb2 hb3 (bnew _ _))).mono ?_; rintro e w4 ⟨v, rfl, hr, hb⟩))
  go_wp2
  go_ret
  exact ⟨_, rfl, hr.mono (by simp), bto (bto (bto (bto (bto (bnew _ _).drew hb1) hb2) hb3) (bnew _ _)) hb⟩

set_option maxHeartbeats 1000000 in
set_option maxRecDepth 100000 in
theorem lim_any (l r : ResD) (w : World) :
    Calls Tryz.prog 274 #[.agg #[.int .i64 l.cpu, .int .i64 l.mem, .int .i64 l.pids], .agg #[.int .i64 r.cpu, .int .i64 r.mem, .int .i64 r.pids]] w (RetErr w (limE l r)) := by
  have KEEP : Hid (∀ W W' : World, Below W.heap.size W W' → (W.cell? ⟨w.heap.size, 0, none⟩ = some (.int .i64 l.cpu) ∧ W.cell? ⟨w.heap.size, 1, none⟩ = some (.int .i64 l.mem) ∧ W.cell? ⟨w.heap.size, 2, none⟩ = some (.int .i64 l.pids) ∧ W.cell? ⟨w.heap.size + 1, 0, none⟩ = some (.int .i64 r.cpu) ∧ W.cell? ⟨w.heap.size + 1, 1, none⟩ = some (.int .i64 r.mem) ∧ W.cell? ⟨w.heap.size + 1, 2, none⟩ = some (.int .i64 r.pids)) → (W'.cell? ⟨w.heap.size, 0, none⟩ = some (.int .i64 l.cpu) ∧ W'.cell? ⟨w.heap.size, 1, none⟩ = some (.int .i64 l.mem) ∧ W'.cell? ⟨w.heap.size, 2, none⟩ = some (.int .i64 l.pids) ∧ W'.cell? ⟨w.heap.size + 1, 0, none⟩ = some (.int .i64 r.cpu) ∧ W'.cell? ⟨w.heap.size + 1, 1, none⟩ = some (.int .i64 r.mem) ∧ W'.cell? ⟨w.heap.size + 1, 2, none⟩ = some (.int .i64 r.pids))) := fun W W' hb h => ⟨keepc hb h.1, keepc hb h.2.1, keepc hb h.2.2.1, keepc hb h.2.2.2.1, keepc hb h.2.2.2.2.1, keepc hb h.2.2.2.2.2⟩
  go_enter Tryz.func274, Tryz.ntmps274
  go_wp2_with fail
  go_region_held3 (fun w' => w'.cell? ⟨w.heap.size, 0, none⟩ = some (.int .i64 l.cpu) ∧ w'.cell? ⟨w.heap.size, 1, none⟩ = some (.int .i64 l.mem) ∧ w'.cell? ⟨w.heap.size, 2, none⟩ = some (.int .i64 l.pids) ∧ w'.cell? ⟨w.heap.size + 1, 0, none⟩ = some (.int .i64 r.cpu) ∧ w'.cell? ⟨w.heap.size + 1, 1, none⟩ = some (.int .i64 r.mem) ∧ w'.cell? ⟨w.heap.size + 1, 2, none⟩ = some (.int .i64 r.pids))
    (first | assumption | exact KEEP.out _ _ hb (by assumption) | exact KEEP.out _ _ hb3 (by assumption) | exact KEEP.out _ _ hb2 (by assumption) | exact KEEP.out _ _ hb1 (by assumption) | exact KEEP.out _ _ (bnew _ _) (by assumption) | simp)
    (first
      | (go_at_call_of 297 (Value.string ⟨#[99, 112, 117]⟩); refine (most_any _ _ _ _).mono ?_; rintro e w1 ⟨v1, rfl, hr1, hb1⟩; have hv1 := hr1.isV)
      | (go_at_call_of 297 (Value.string ⟨#[109, 101, 109]⟩); refine (most_any _ _ _ _).mono ?_; rintro e w2 ⟨v2, rfl, hr2, hb2⟩; have hv2 := hr2.isV)
      | (go_at_call_of 297 (Value.string ⟨#[112, 105, 100, 115]⟩); refine (most_any _ _ _ _).mono ?_; rintro e w3 ⟨v3, rfl, hr3, hb3⟩; have hv3 := hr3.isV)
      | (go_at_call 121; refine (First_three v1 v2 v3 _ _ _ hv1 hv2 hv3 (by simp) (by simp) (by simp)).mono ?_; rintro e w' ⟨rfl, rfl⟩)
      | (go_at_call 216; refine (In_any _ _ _ _ _ (by have := hb1.size; have := hb2.size; have := hb3.size; simp at *; omega) (errs3 hr1 hr2 hr3 hb1 hb2 hb3 (bnew _ _))).mono ?_; rintro e w4 ⟨v, rfl, hr, hb⟩))
  go_wp2
  go_ret
  exact ⟨_, rfl, hr.mono (by simp; omega), bto (bto (bto (bto (bto (bto (bnew _ _) (bnew _ _)).drew hb1) hb2) hb3) (bnew _ _)) hb⟩

def everyS : ByteArray := ⟨#[101, 118, 101, 114, 121]⟩
def failsS : ByteArray := ⟨#[102, 97, 105, 108, 115]⟩
def probeS : ByteArray := ⟨#[112, 114, 111, 98, 101]⟩
def probeE (every fails top : Int) : Err := inE (firstE [withinE 1 everyS every 0 top, if every = 0 then withinE 1 failsS fails 0 0 else withinE 1 failsS fails 1 10]) probeS

set_option maxHeartbeats 1000000 in
set_option maxRecDepth 100000 in
theorem probe_any (every fails top : Int) (w : World) :
    Calls Tryz.prog 276 #[.agg #[.int .i64 every, .int .i64 fails], .int .i64 top] w (RetErr w (probeE every fails top)) := by
  by_cases h0 : every = 0
  · have he : probeE every fails top = inE (firstE [withinE 1 everyS every 0 top, withinE 1 failsS fails 0 0]) probeS := by unfold probeE; rw [if_pos h0]
    rw [he]
    have h1 : (every == 0) = true := by simp [h0]
    clear he h0
    have KEEP : Hid (∀ W W' : World, Below W.heap.size W W' → (W.cell? ⟨w.heap.size, 0, none⟩ = some (.int .i64 every) ∧ W.cell? ⟨w.heap.size, 1, none⟩ = some (.int .i64 fails)) → (W'.cell? ⟨w.heap.size, 0, none⟩ = some (.int .i64 every) ∧ W'.cell? ⟨w.heap.size, 1, none⟩ = some (.int .i64 fails))) := fun W W' hb h => ⟨keepc hb h.1, keepc hb h.2⟩
    go_enter Tryz.func276, Tryz.ntmps276
    go_wp2_with fail
    go_region_held3 (fun w' => w'.cell? ⟨w.heap.size, 0, none⟩ = some (.int .i64 every) ∧ w'.cell? ⟨w.heap.size, 1, none⟩ = some (.int .i64 fails))
      (first | assumption | exact KEEP.out _ _ hb (by assumption) | exact KEEP.out _ _ hb2 (by assumption) | exact KEEP.out _ _ hb1 (by assumption) | exact KEEP.out _ _ (bnew _ _) (by assumption) | simp)
      (first
        | (go_at_call_of 127 (Value.string ⟨#[101, 118, 101, 114, 121]⟩); refine (within_any _ _ _ _ _).mono ?_; rintro e w1 ⟨v1, rfl, hr1, hb1⟩; have hv1 := hr1.isV)
        | (go_at_call_of 127 (Value.string ⟨#[102, 97, 105, 108, 115]⟩); refine (within_any _ _ _ _ _).mono ?_; rintro e w2 ⟨v2, rfl, hr2, hb2⟩; have hv2 := hr2.isV)
        | (go_at_call 121; refine (First_two v1 v2 _ _ _ hv1 hv2 (by simp) (by simp)).mono ?_; rintro e w' ⟨rfl, rfl⟩)
        | (go_at_call 216; refine (In_any _ _ _ _ _ (by have := hb1.size; have := hb2.size; simp at *; omega) (errs2 hr1 hr2 hb1 hb2 (bnew _ _))).mono ?_; rintro e w4 ⟨v, rfl, hr, hb⟩))
    go_wp2
    go_ret
    exact ⟨_, rfl, hr.mono (by simp), bto (bto (bto (bto (bnew _ _).drew hb1) hb2) (bnew _ _)) hb⟩
  · have he : probeE every fails top = inE (firstE [withinE 1 everyS every 0 top, withinE 1 failsS fails 1 10]) probeS := by unfold probeE; rw [if_neg h0]
    rw [he]
    have h1 : (every == 0) = false := by simp [h0]
    clear he h0
    have KEEP : Hid (∀ W W' : World, Below W.heap.size W W' → (W.cell? ⟨w.heap.size, 0, none⟩ = some (.int .i64 every) ∧ W.cell? ⟨w.heap.size, 1, none⟩ = some (.int .i64 fails)) → (W'.cell? ⟨w.heap.size, 0, none⟩ = some (.int .i64 every) ∧ W'.cell? ⟨w.heap.size, 1, none⟩ = some (.int .i64 fails))) := fun W W' hb h => ⟨keepc hb h.1, keepc hb h.2⟩
    go_enter Tryz.func276, Tryz.ntmps276
    go_wp2_with fail
    go_region_held3 (fun w' => w'.cell? ⟨w.heap.size, 0, none⟩ = some (.int .i64 every) ∧ w'.cell? ⟨w.heap.size, 1, none⟩ = some (.int .i64 fails))
      (first | assumption | exact KEEP.out _ _ hb (by assumption) | exact KEEP.out _ _ hb2 (by assumption) | exact KEEP.out _ _ hb1 (by assumption) | exact KEEP.out _ _ (bnew _ _) (by assumption) | simp)
      (first
        | (go_at_call_of 127 (Value.string ⟨#[101, 118, 101, 114, 121]⟩); refine (within_any _ _ _ _ _).mono ?_; rintro e w1 ⟨v1, rfl, hr1, hb1⟩; have hv1 := hr1.isV)
        | (go_at_call_of 127 (Value.string ⟨#[102, 97, 105, 108, 115]⟩); refine (within_any _ _ _ _ _).mono ?_; rintro e w2 ⟨v2, rfl, hr2, hb2⟩; have hv2 := hr2.isV)
        | (go_at_call 121; refine (First_two v1 v2 _ _ _ hv1 hv2 (by simp) (by simp)).mono ?_; rintro e w' ⟨rfl, rfl⟩)
        | (go_at_call 216; refine (In_any _ _ _ _ _ (by have := hb1.size; have := hb2.size; simp at *; omega) (errs2 hr1 hr2 hb1 hb2 (bnew _ _))).mono ?_; rintro e w4 ⟨v, rfl, hr, hb⟩))
    go_wp2
    go_ret
    exact ⟨_, rfl, hr.mono (by simp), bto (bto (bto (bto (bnew _ _).drew hb1) hb2) (bnew _ _)) hb⟩

end Go.Proofs.YtgelbkgkjkeccaaGreatDoor
