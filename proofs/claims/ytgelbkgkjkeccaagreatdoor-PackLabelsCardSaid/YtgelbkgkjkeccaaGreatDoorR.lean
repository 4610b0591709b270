/- The statements' own book: likenesses of ints, labels, containers, specs; the spoiling of ints. -/
import Derived.Test.YtgelbkgkjkeccaaGreatDoorQ
namespace Go.Proofs.YtgelbkgkjkeccaaGreatDoor
open Go.RowKit

/-- A slice of ints: by its length, and its cells, if it has any. -/
theorem IInts.cells {I : Nat → Prop} {w : World} {a : Option Addr} {c : Nat} {l : List Int} (h : IInts I w (.slice a l.length c) l) (h0 : 0 < l.length) : ∃ b off, a = some ⟨b, off, none⟩ ∧ l.length ≤ c ∧ I b ∧ ∀ j (h : j < l.length), w.cell? ⟨b, off + j, none⟩ = some (.int .i64 l[j]) := by
  rcases h with ⟨rfl, _⟩ | ⟨_, b, off, c', hv, hc, hI, hr⟩
  · exact absurd h0 (by simp)
  · injection hv with h1 _ h2
    subst h1 h2
    exact ⟨b, off, rfl, hc, hI, hr⟩
theorem take_next {α : Type} [DecidableEq α] {xs ys : List α} {k : Nat} (hx : k < xs.length) (hy : k < ys.length) (h : xs.take k = ys.take k) :
    (xs[k] = ys[k] → xs.take (k + 1) = ys.take (k + 1)) ∧ (xs[k] ≠ ys[k] → xs ≠ ys) := by
  constructor
  · intro e
    rw [List.take_add_one, List.take_add_one, h, List.getElem?_eq_getElem hx, List.getElem?_eq_getElem hy, e]
  · rintro e rfl
    exact e rfl
set_option maxHeartbeats 2000000 in
set_option maxRecDepth 100000 in
theorem sameInts_row (b1 o1 c1 b2 o2 c2 n : Nat) (xs ys : List Int) (w : World) (hx : xs.length = n) (hy : ys.length = n) (hn : n ≤ 1000000)
    (h1 : ∀ j (h : j < n), w.cell? ⟨b1, o1 + j, none⟩ = some (.int .i64 (xs[j]'(by omega)))) (h2 : ∀ j (h : j < n), w.cell? ⟨b2, o2 + j, none⟩ = some (.int .i64 (ys[j]'(by omega)))) :
    Calls Tryz.prog 29 #[.slice (some ⟨b1, o1, none⟩) n c1, .slice (some ⟨b2, o2, none⟩) n c2] w fun e w' => e = .returned (.bool (xs == ys)) ∧ Below w.heap.size w w' := by
  have HX := Lib.hid hx
  have HY := Lib.hid hy
  have H1 := Lib.hid h1
  have H2 := Lib.hid h2
  clear h1 h2
  go_enter Tryz.func29, Tryz.ntmps29
  go_wp2
  go_loopw [5, 6] (fun s i wr => ∃ k : Nat, k ≤ n ∧ i = .int .i64 k ∧ Below w.heap.size w wr ∧ ((s = .bool true ∧ xs.take k = ys.take k) ∨ (s = .bool false ∧ xs ≠ ys))) (fun _ i _ => n - (intOf i).toNat)
  case atStart => exact ⟨0, Nat.zero_le _, rfl, Below.refl _ _, .inl ⟨by simp, rfl⟩⟩
  case round =>
    obtain ⟨k, hk, rfl, hb, hs⟩ := hrel
    have HB := Lib.hid hb
    rcases hs with ⟨rfl, ht⟩ | ⟨rfl, hne⟩
    · by_cases hlt : k < n
      · have HN := Lib.hid (take_next (by have := HX.out; omega) (by have := HY.out; omega) ht)
        have d1 := keepc hb (H1.out k hlt)
        have d2 := keepc hb (H2.out k hlt)
        clear ht hb
        go_wp2_with fail
        go_quiet (fail)
        go_wp2
        refine ⟨⟨k + 1, hlt, by go_num, bto HB.out (bdrew _ _), ?_⟩, by simp [intOf]; omega⟩
        by_cases he : xs[k]'(by have := HX.out; omega) = ys[k]'(by have := HY.out; omega)
        · exact .inl ⟨by simp [he], HN.out.1 he⟩
        · exact .inr ⟨by simp [he], HN.out.2 he⟩
      · have HE : Hid (xs = ys) := by
          have e1 : k = n := by omega
          rw [e1] at ht
          rw [List.take_of_length_le (by have := HX.out; omega), List.take_of_length_le (by have := HY.out; omega)] at ht
          exact ht
        clear ht hb
        go_wp2
        go_ret
        exact ⟨by rw [HE.out]; simp, HB.out⟩
    · have HE : Hid (xs ≠ ys) := hne
      clear hne hb
      go_wp2
      go_ret
      exact ⟨by simp [HE.out], HB.out⟩

set_option maxHeartbeats 2000000 in
theorem sameInts_lens (a1 a2 : Option Addr) (c1 c2 n m : Nat) (w : World) (hnm : n ≠ m) :
    Calls Tryz.prog 29 #[.slice a1 n c1, .slice a2 m c2] w fun e w' => e = .returned (.bool false) ∧ Below w.heap.size w w' := by
  go_enter Tryz.func29, Tryz.ntmps29
  go_wp2
  go_loop [5, 6] (fun s i => s = .bool false ∧ i = .int .i64 0) (fun _ _ => 0)
  case atStart => exact ⟨by simp; omega, rfl⟩
  case round =>
    obtain ⟨rfl, rfl⟩ := hrel
    go_wp2
    go_ret
    exact ⟨rfl, Below.refl _ _⟩
set_option maxHeartbeats 2000000 in
theorem sameInts_zero (a1 a2 : Option Addr) (c1 c2 : Nat) (w : World) :
    Calls Tryz.prog 29 #[.slice a1 0 c1, .slice a2 0 c2] w fun e w' => e = .returned (.bool true) ∧ Below w.heap.size w w' := by
  go_enter Tryz.func29, Tryz.ntmps29
  go_wp2
  go_loop [5, 6] (fun s i => s = .bool true ∧ i = .int .i64 0) (fun _ _ => 0)
  case atStart => exact ⟨by simp, rfl⟩
  case round =>
    obtain ⟨rfl, rfl⟩ := hrel
    go_wp2
    go_ret
    exact ⟨rfl, Below.refl _ _⟩
theorem sameInts_any (I J : Nat → Prop) (a1 a2 : Option Addr) (c1 c2 : Nat) (xs ys : List Int) (w : World) (h1 : IInts I w (.slice a1 xs.length c1) xs) (h2 : IInts J w (.slice a2 ys.length c2) ys) (hl : xs.length ≤ 1000000) :
    Calls Tryz.prog 29 #[.slice a1 xs.length c1, .slice a2 ys.length c2] w fun e w' => e = .returned (.bool (xs == ys)) ∧ Below w.heap.size w w' := by
  by_cases hlen : xs.length = ys.length
  · by_cases h0 : 0 < xs.length
    · obtain ⟨b1, o1, rfl, _, _, r1⟩ := h1.cells h0
      obtain ⟨b2, o2, rfl, _, _, r2⟩ := h2.cells (by omega)
      have := sameInts_row b1 o1 c1 b2 o2 c2 xs.length xs ys w rfl hlen.symm hl r1 (fun j hj => r2 j (by omega))
      rw [← hlen]
      exact this
    · have e1 : xs = [] := List.length_eq_zero_iff.1 (by omega)
      have e2 : ys = [] := List.length_eq_zero_iff.1 (by omega)
      subst e1 e2
      exact sameInts_zero a1 a2 c1 c2 w
  · refine (sameInts_lens a1 a2 c1 c2 _ _ w hlen).mono ?_
    rintro e w' ⟨rfl, hb⟩
    have hne : xs ≠ ys := fun e => hlen (by rw [e])
    exact ⟨by simp [hne], hb⟩

end Go.Proofs.YtgelbkgkjkeccaaGreatDoor
