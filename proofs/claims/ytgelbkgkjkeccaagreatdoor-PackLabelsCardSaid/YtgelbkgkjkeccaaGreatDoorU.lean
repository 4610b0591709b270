/- The spoiling of what a call owns: ints, labels, specs. -/
import Derived.Test.YtgelbkgkjkeccaaGreatDoorT
namespace Go.Proofs.YtgelbkgkjkeccaaGreatDoor
open Go.RowKit

/-- Only cells in blocks of I were written; no block changed its size or its type. -/
structure Shaped (I : Nat → Prop) (w w' : World) : Prop where
  kept : Kept I w w'
  shape : ∀ (g : Nat) (cur : Array Value) (e : TypeId), w.heap[g]? = some (.cells cur e (0, 0)) → ∃ cur', w'.heap[g]? = some (.cells cur' e (0, 0)) ∧ cur'.size = cur.size
theorem Shaped.refl (I : Nat → Prop) (w : World) : Shaped I w w := ⟨Kept.refl I w, fun _ cur _ h => ⟨cur, h, rfl⟩⟩
theorem Shaped.trans {I : Nat → Prop} {w w1 w2 : World} (h : Shaped I w w1) (k : Shaped I w1 w2) : Shaped I w w2 :=
  ⟨h.kept.trans k.kept fun _ _ h => h, fun g cur e hh => let ⟨c1, h1, e1⟩ := h.shape g cur e hh; let ⟨c2, h2, e2⟩ := k.shape g c1 e h1; ⟨c2, h2, e2.trans e1⟩⟩
theorem Shaped.mono {I J : Nat → Prop} {w w1 : World} (h : Shaped I w w1) (hI : ∀ k, I k → J k) : Shaped J w w1 := ⟨h.kept.weaken hI, h.shape⟩
theorem Shaped.set {I : Nat → Prop} (w : World) (g o : Nat) (x : Value) (hI : I g) : Shaped I w (w.setCell ⟨g, o, none⟩ x) := by
  refine ⟨(kept_set w g o x).weaken (fun k hk => hk ▸ hI), fun k cur e hh => ?_⟩
  by_cases hk : k = g
  · subst hk
    exact ⟨_, setCell_atn _ _ _ _ _ _ hh, by simp⟩
  · exact ⟨cur, (Below.heap_setCell _ _ _ _ hk).trans hh, rfl⟩

set_option maxHeartbeats 2000000 in
set_option maxRecDepth 100000 in
theorem spoilInts_row (g n c : Nat) (cur : Array Value) (w : World) (hg : w.heap[g]? = some (.cells cur 3 (0, 0))) (hn : n ≤ cur.size) (hl : n ≤ 1000000) :
    Calls Tryz.prog 33 #[.slice (some ⟨g, 0, none⟩) n c] w fun e w' => e = .returned (.tuple #[]) ∧ Shaped (· = g) w w' := by
  go_enter Tryz.func33, Tryz.ntmps33
  go_wp2
  go_loopw [5] (fun i wr => ∃ k : Nat, k ≤ n ∧ i = .int .i64 k ∧ Shaped (· = g) w wr) (fun i _ => n - (intOf i).toNat)
  case atStart => exact ⟨0, Nat.zero_le _, rfl, Shaped.refl _ _⟩
  case round =>
    obtain ⟨k, hk, rfl, hs⟩ := hrel
    obtain ⟨cur', hh, hsz⟩ := hs.shape g cur 3 hg
    have HS := Lib.hid hs
    by_cases hlt : k < n
    · have hks : k < cur'.size := by omega
      have c0 : wr.cell? ⟨g, k, none⟩ = some cur'[k] := by simp [World.cell?, hh, hks]
      have f0 : wr.frozen? ⟨g, k, none⟩ = false := by simp [World.frozen?, hh]
      clear hs hh hg
      go_wp2
      exact ⟨⟨k + 1, hlt, by go_num, HS.out.trans (Shaped.set _ _ _ _ rfl)⟩, by simp [intOf]; omega⟩
    · clear hs hh hg
      go_wp2
      go_end0
      exact ⟨rfl, HS.out⟩

set_option maxHeartbeats 1000000 in
theorem spoilInts_zero (a : Option Addr) (c : Nat) (w : World) : Calls Tryz.prog 33 #[.slice a 0 c] w fun e w' => e = .returned (.tuple #[]) ∧ w' = w := by
  go_enter Tryz.func33, Tryz.ntmps33
  go_wp2
  go_loop [5] (fun i => i = .int .i64 0) (fun _ => 0)
  case atStart => exact rfl
  case round =>
    obtain rfl := hrel
    go_wp2
    go_end0
    exact ⟨rfl, rfl⟩
theorem spoilInts_any (I : Nat → Prop) (v : Value) (n : Nat) (xs : List Value) (w : World) (h : ORow I w 3 1 v n xs) (hl : n ≤ 1000000) :
    Calls Tryz.prog 33 #[v] w fun e w' => e = .returned (.tuple #[]) ∧ Shaped I w w' := by
  rcases h.2 with ⟨rfl, rfl⟩ | ⟨g, cap, cur, rfl, hI, hh, h1, h2, _⟩
  · refine (spoilInts_zero _ _ _).mono ?_
    rintro e w' ⟨rfl, rfl⟩
    exact ⟨rfl, Shaped.refl _ _⟩
  · refine (spoilInts_row g n cap cur w hh (by omega) hl).mono ?_
    rintro e w' ⟨rfl, hs⟩
    exact ⟨rfl, hs.mono fun k hk => hk ▸ hI⟩

set_option maxHeartbeats 2000000 in
set_option maxRecDepth 100000 in
theorem spoilLabs_row (g n c : Nat) (cur : Array Value) (w : World) (hg : w.heap[g]? = some (.cells cur 159 (0, 0))) (hn : n * 2 ≤ cur.size) (hl : n ≤ 1000000) :
    Calls Tryz.prog 120 #[.slice (some ⟨g, 0, none⟩) n c] w fun e w' => e = .returned (.tuple #[]) ∧ Shaped (· = g) w w' := by
  go_enter Tryz.func120, Tryz.ntmps120
  go_wp2
  go_loopw [5] (fun i wr => ∃ k : Nat, k ≤ n ∧ i = .int .i64 k ∧ Shaped (· = g) w wr) (fun i _ => n - (intOf i).toNat)
  case atStart => exact ⟨0, Nat.zero_le _, rfl, Shaped.refl _ _⟩
  case round =>
    obtain ⟨k, hk, rfl, hs⟩ := hrel
    obtain ⟨cur', hh, hsz⟩ := hs.shape g cur 159 hg
    have HS := Lib.hid hs
    by_cases hlt : k < n
    · have hks : k * 2 < cur'.size := by omega
      have hks1 : k * 2 + 1 < cur'.size := by omega
      have c0 : wr.cell? ⟨g, k * 2, none⟩ = some cur'[k * 2] := by simp [World.cell?, hh, hks]
      have f0 : wr.frozen? ⟨g, k * 2, none⟩ = false := by simp [World.frozen?, hh]
      have hh1 := setCell_atn wr g (k * 2) cur' 159 (.string ⟨#[115, 112, 111, 105, 108, 116]⟩) hh
      have c1 : (wr.setCell ⟨g, k * 2, none⟩ (.string ⟨#[115, 112, 111, 105, 108, 116]⟩)).cell? ⟨g, k * 2 + 1, none⟩ = some ((cur'.setIfInBounds (k * 2) (.string ⟨#[115, 112, 111, 105, 108, 116]⟩))[k * 2 + 1]'(by simp; omega)) := by simp only [World.cell?, hh1]; simp [hks1]
      have f1 : (wr.setCell ⟨g, k * 2, none⟩ (.string ⟨#[115, 112, 111, 105, 108, 116]⟩)).frozen? ⟨g, k * 2 + 1, none⟩ = false := by simp [World.frozen?, hh1]
      clear hs hh hg hh1
      go_wp2
      exact ⟨⟨k + 1, hlt, by go_num, HS.out.trans ((Shaped.set (I := (· = g)) _ _ _ _ rfl).trans (Shaped.set (I := (· = g)) _ _ _ _ rfl))⟩, by simp [intOf]; omega⟩
    · clear hs hh hg
      go_wp2
      go_end0
      exact ⟨rfl, HS.out⟩

/-- Finer: which block was written. -/
theorem spoilInts_own (I : Nat → Prop) (v : Value) (n : Nat) (xs : List Value) (w : World) (h : ORow I w 3 1 v n xs) (hl : n ≤ 1000000) :
    Calls Tryz.prog 33 #[v] w fun e w' => e = .returned (.tuple #[]) ∧ Shaped (fun k => v.ownBlock = some k) w w' := by
  rcases h.2 with ⟨rfl, rfl⟩ | ⟨g, cap, cur, rfl, hI, hh, h1, h2, _⟩
  · refine (spoilInts_zero _ _ _).mono ?_
    rintro e w' ⟨rfl, rfl⟩
    exact ⟨rfl, Shaped.refl _ _⟩
  · refine (spoilInts_row g n cap cur w hh (by omega) hl).mono ?_
    rintro e w' ⟨rfl, hs⟩
    exact ⟨rfl, hs.mono fun k hk => by subst hk; rfl⟩
set_option maxHeartbeats 1000000 in
theorem spoilLabs_zero (a : Option Addr) (c : Nat) (w : World) : Calls Tryz.prog 120 #[.slice a 0 c] w fun e w' => e = .returned (.tuple #[]) ∧ w' = w := by
  go_enter Tryz.func120, Tryz.ntmps120
  go_wp2
  go_loop [5] (fun i => i = .int .i64 0) (fun _ => 0)
  case atStart => exact rfl
  case round =>
    obtain rfl := hrel
    go_wp2
    go_end0
    exact ⟨rfl, rfl⟩
theorem spoilLabs_own (I : Nat → Prop) (v : Value) (n : Nat) (xs : List Value) (w : World) (h : ORow I w 159 2 v n xs) (hl : n ≤ 1000000) :
    Calls Tryz.prog 120 #[v] w fun e w' => e = .returned (.tuple #[]) ∧ Shaped (fun k => v.ownBlock = some k) w w' := by
  rcases h.2 with ⟨rfl, rfl⟩ | ⟨g, cap, cur, rfl, hI, hh, h1, h2, _⟩
  · refine (spoilLabs_zero _ _ _).mono ?_
    rintro e w' ⟨rfl, rfl⟩
    exact ⟨rfl, Shaped.refl _ _⟩
  · refine (spoilLabs_row g n cap cur w hh (by omega) hl).mono ?_
    rintro e w' ⟨rfl, hs⟩
    exact ⟨rfl, hs.mono fun k hk => by subst hk; rfl⟩
theorem ORow.shaped {I J : Nat → Prop} {w w' : World} {e : TypeId} {size n : Nat} {v : Value} {xs : List Value} (h : ORow I w e size v n xs) (hs : Shaped J w w') : ∃ xs', ORow I w' e size v n xs' := by
  rcases h.2 with ⟨rfl, rfl⟩ | ⟨g, cap, cur, rfl, hI, hh, h1, h2, _⟩
  · exact ⟨[], by simp, .inl ⟨rfl, rfl⟩⟩
  · obtain ⟨cur', hh', hsz⟩ := hs.shape g cur e hh
    refine ⟨cur'.toList.take (n * size), ?_, .inr ⟨g, cap, cur', rfl, hI, hh', h1, by omega, rfl⟩⟩
    rw [List.length_take, Array.length_toList, hsz, h2, Nat.min_eq_left (Nat.mul_le_mul_right _ h1)]
end Go.Proofs.YtgelbkgkjkeccaaGreatDoor
