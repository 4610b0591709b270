/- The likeness of labels, whatever they are; slices.Equal of labels. -/
import Derived.Test.YtgelbkgkjkeccaaGreatDoorS
namespace Go.Proofs.YtgelbkgkjkeccaaGreatDoor
open Go.RowKit

theorem ILabs.cells {I : Nat → Prop} {w : World} {a : Option Addr} {c : Nat} {l : List LabelD} (h : ILabs I w (.slice a l.length c) l) (h0 : 0 < l.length) : ∃ b off, a = some ⟨b, off, none⟩ ∧ l.length ≤ c ∧ I b ∧ ∀ j (h : j < l.length), w.cell? ⟨b, off + j * 2, none⟩ = some (.string l[j].key) ∧ w.cell? ⟨b, off + j * 2 + 1, none⟩ = some (.string l[j].val) := by
  rcases h with ⟨rfl, _⟩ | ⟨_, b, off, c', hv, hc, hI, hr⟩
  · exact absurd h0 (by simp)
  · injection hv with h1 _ h2
    subst h1 h2
    exact ⟨b, off, rfl, hc, hI, hr⟩
set_option maxHeartbeats 2000000 in
theorem sameLabs_lens (a1 a2 : Option Addr) (c1 c2 n m : Nat) (w : World) (hnm : n ≠ m) :
    Calls Tryz.prog 54 #[.slice a1 n c1, .slice a2 m c2] w fun e w' => e = .returned (.bool false) ∧ Below w.heap.size w w' := by
  go_enter Tryz.func54, Tryz.ntmps54
  go_wp2
  go_loop [5, 6] (fun s i => s = .bool false ∧ i = .int .i64 0) (fun _ _ => 0)
  case atStart => exact ⟨by simp; omega, rfl⟩
  case round =>
    obtain ⟨rfl, rfl⟩ := hrel
    go_wp2
    go_ret
    exact ⟨rfl, Below.refl _ _⟩
set_option maxHeartbeats 2000000 in
theorem sameLabs_zero (a1 a2 : Option Addr) (c1 c2 : Nat) (w : World) :
    Calls Tryz.prog 54 #[.slice a1 0 c1, .slice a2 0 c2] w fun e w' => e = .returned (.bool true) ∧ Below w.heap.size w w' := by
  go_enter Tryz.func54, Tryz.ntmps54
  go_wp2
  go_loop [5, 6] (fun s i => s = .bool true ∧ i = .int .i64 0) (fun _ _ => 0)
  case atStart => exact ⟨by simp, rfl⟩
  case round =>
    obtain ⟨rfl, rfl⟩ := hrel
    go_wp2
    go_ret
    exact ⟨rfl, Below.refl _ _⟩
theorem sameLabs_any (I J : Nat → Prop) (a1 a2 : Option Addr) (c1 c2 : Nat) (xs ys : List LabelD) (w : World) (h1 : ILabs I w (.slice a1 xs.length c1) xs) (h2 : ILabs J w (.slice a2 ys.length c2) ys) (hl : xs.length ≤ 1000000) :
    Calls Tryz.prog 54 #[.slice a1 xs.length c1, .slice a2 ys.length c2] w fun e w' => e = .returned (.bool (decide (xs = ys))) ∧ Below w.heap.size w w' := by
  by_cases hlen : xs.length = ys.length
  · by_cases h0 : 0 < xs.length
    · obtain ⟨b1, o1, rfl, _, _, r1⟩ := h1.cells h0
      obtain ⟨b2, o2, rfl, _, _, r2⟩ := h2.cells (by omega)
      have := sameLabs_row b1 o1 c1 b2 o2 c2 xs.length xs ys w rfl hlen.symm hl r1 (fun j hj => r2 j (by omega))
      rw [← hlen]
      exact this
    · have e1 : xs = [] := List.length_eq_zero_iff.1 (by omega)
      have e2 : ys = [] := List.length_eq_zero_iff.1 (by omega)
      subst e1 e2
      exact sameLabs_zero a1 a2 c1 c2 w
  · refine (sameLabs_lens a1 a2 c1 c2 _ _ w hlen).mono ?_
    rintro e w' ⟨rfl, hb⟩
    have hne : xs ≠ ys := fun e => hlen (by rw [e])
    exact ⟨by simp [hne], hb⟩
end Go.Proofs.YtgelbkgkjkeccaaGreatDoor
