/- Names, keys, values and images, as the document has them: parts between marks. No program in sight. -/
import Derived.Test.YtgelbkgkjkeccaaGreatDoorA
namespace Go.Proofs.YtgelbkgkjkeccaaGreatDoor
open Go.RowKit

/-! ### names, keys, values and images, as the document has them -/
def smallB (c : UInt8) : Bool := (decide (97 ≤ c.toNat) && decide (c.toNat ≤ 122)) || (decide (48 ≤ c.toNat) && decide (c.toNat ≤ 57))
def splitB (c : UInt8) : List UInt8 → List (List UInt8)
  | [] => [[]]
  | b :: r => if b = c then [] :: splitB c r else match splitB c r with
    | [] => [[b]]
    | h :: t => (b :: h) :: t
theorem splitB_pos (c : UInt8) (l : List UInt8) : 0 < (splitB c l).length := by
  cases l with
  | nil => simp [splitB]
  | cons b r =>
    simp only [splitB]
    split
    · simp
    · split <;> simp
theorem cut_nil (c : UInt8) : Lib.cut [] [c] = ([], [], false) := rfl
theorem cut_cons (c b : UInt8) (r : List UInt8) : Lib.cut (b :: r) [c] = if b = c then ([], r, true) else (b :: (Lib.cut r [c]).1, (Lib.cut r [c]).2.1, (Lib.cut r [c]).2.2) := by
  have hge := Lib.index_ge r [c]
  have hi : Lib.index (b :: r) [c] = if c = b then 0 else if Lib.index r [c] == -1 then -1 else Lib.index r [c] + 1 := by
    show (if List.isPrefixOf [c] (b :: r) then (0 : Int) else _) = _
    by_cases h : c = b
    · subst h; simp
    · simp [h]
  unfold Lib.cut
  rw [hi]
  by_cases h : b = c
  · subst h
    simp
  · have h2 : ¬ c = b := fun e => h e.symm
    rw [if_neg h2, if_neg h]
    by_cases h3 : Lib.index r [c] = -1
    · rw [h3]; simp
    · have h4 : (Lib.index r [c] == -1) = false := by simpa using h3
      rw [h4]
      simp only [Bool.false_eq_true, if_false]
      have h5 : 0 ≤ Lib.index r [c] := by omega
      rw [if_pos h5, if_pos (by omega)]
      obtain ⟨k, hk⟩ : ∃ k : Nat, Lib.index r [c] = k := ⟨(Lib.index r [c]).toNat, by omega⟩
      rw [hk]
      have e1 : ((k : Int) + 1).toNat = k + 1 := by omega
      rw [e1]
      simp
theorem splitB_cut (c : UInt8) (l : List UInt8) : splitB c l = if (Lib.cut l [c]).2.2 then (Lib.cut l [c]).1 :: splitB c (Lib.cut l [c]).2.1 else [l] := by
  induction l with
  | nil => rfl
  | cons b r ih =>
    rw [cut_cons]
    simp only [splitB]
    by_cases h : b = c
    · rw [if_pos h, if_pos h]; rfl
    · rw [if_neg h, if_neg h, ih]
      cases hc : (Lib.cut r [c]).2.2 <;> simp
theorem cut_false {c : UInt8} {l : List UInt8} (h : (Lib.cut l [c]).2.2 = false) : (Lib.cut l [c]).1 = l := by
  unfold Lib.cut at *
  split
  · rename_i h1; rw [if_pos h1] at h; cases h
  · rfl
theorem namesB_split : ∀ (n : Nat) (l : List UInt8), namesB n l = (decide ((splitB 47 l).length ≤ n) && (splitB 47 l).all nameB)
  | 0, l => by
    have := splitB_pos 47 l
    rw [decide_eq_false (by omega)]
    rfl
  | n + 1, l => by
    rw [splitB_cut]
    show (if nameB (Lib.cut l [47]).1 then (if (Lib.cut l [47]).2.2 then namesB n (Lib.cut l [47]).2.1 else true) else false) = _
    cases hc : (Lib.cut l [47]).2.2 with
    | false =>
      have := cut_false hc
      rw [this]
      cases hn : nameB l <;> simp [hn]
    | true =>
      rw [namesB_split n]
      cases hn : nameB (Lib.cut l [47]).1 <;> simp [hn]
theorem splitB_len (c : UInt8) : ∀ l : List UInt8, (∀ x ∈ splitB c l, x ≠ []) → 2 * (splitB c l).length ≤ l.length + 1
  | [], h => absurd rfl (h [] (by simp [splitB]))
  | b :: r, h => by
    simp only [splitB] at *
    split at h
    · exact absurd rfl (h [] (by simp))
    · rename_i hb
      rw [if_neg hb]
      cases hs : splitB c r with
      | nil => simp
      | cons x t =>
        rw [hs] at h
        simp only at h
        simp only [List.length_cons]
        by_cases hx : x = []
        · -- the part begins with b
          subst hx
          cases r with
          | nil => simp [splitB] at hs; simp [hs]
          | cons b' r' =>
            simp only [splitB] at hs
            split at hs
            · injection hs with _ hs
              have := splitB_len c r' (by rw [hs]; intro x hx; exact h x (by simp [hx]))
              rw [hs] at this
              simp only [List.length_cons]
              omega
            · split at hs <;> simp at hs
        · have := splitB_len c r (by
            rw [hs]
            intro y hy
            rcases List.mem_cons.1 hy with rfl | hy
            · exact hx
            · exact h y (by simp [hy]))
          rw [hs] at this
          simp only [List.length_cons] at this
          omega
theorem nameB_ne {l : List UInt8} (h : nameB l = true) : l ≠ [] := by rintro rfl; cases h
theorem repoB_split (l : List UInt8) : repoB l = (decide (l.length ≤ 24) && (splitB 47 l).all nameB) := by
  unfold repoB
  rw [namesB_split]
  cases h : (splitB 47 l).all nameB with
  | false => simp
  | true =>
    by_cases hl : l.length ≤ 24
    · have := splitB_len 47 l fun x hx => nameB_ne (List.all_eq_true.1 h x hx)
      rw [decide_eq_true hl, decide_eq_true (by omega)]; rfl
    · rw [decide_eq_false hl]; rfl
theorem imgB_split (l : List UInt8) : imgB l = match splitB 58 l with
    | [a, b] => decide (a.length ≤ 24) && (splitB 47 a).all nameB && tagB b
    | _ => false := by
  rw [splitB_cut]
  unfold imgB
  cases hc : (Lib.cut l [58]).2.2 with
  | false => rfl
  | true =>
    simp only [if_true]
    rw [splitB_cut]
    rw [repoB_split]
    cases hc2 : (Lib.cut (Lib.cut l [58]).2.1 [58]).2.2 with
    | false => simp
    | true =>
      simp only [if_true]
      have hp := splitB_pos 58 (Lib.cut (Lib.cut l [58]).2.1 [58]).2.1
      cases hs : splitB 58 (Lib.cut (Lib.cut l [58]).2.1 [58]).2.1 with
      | nil => rw [hs] at hp; simp at hp
      | cons x t =>
        have ht : tagB (Lib.cut l [58]).2.1 = false := by
          have hm : (58 : UInt8) ∈ (Lib.cut l [58]).2.1 := by
            apply Decidable.byContradiction
            intro hn
            have hno : ∀ r : List UInt8, ¬ (58 : UInt8) ∈ r → (Lib.cut r [58]).2.2 = false := by
              intro r
              induction r with
              | nil => intro _; rfl
              | cons b r ih =>
                intro h
                rw [cut_cons, if_neg (fun e => h (by simp [e]))]
                exact ih (fun e => h (by simp [e]))
            rw [hno _ hn] at hc2
            cases hc2
          have ho : okB 2 58 = false := by decide
          unfold tagB allB
          have : (Lib.cut l [58]).2.1.all (okB 2) = false := by
            rw [List.all_eq_false]
            exact ⟨58, hm, by rw [ho]; simp⟩
          rw [this]
          simp
        rw [ht]
        simp
theorem ok1_small (c : UInt8) : okB 1 c = (smallB c || c == 45) := by
  have h : ∀ k : Fin 256, okB 1 (UInt8.ofNat k.val) = (smallB (UInt8.ofNat k.val) || UInt8.ofNat k.val == 45) := by decide +kernel
  have := h ⟨c.toNat, c.toNat_lt⟩
  simpa using this
theorem ok2_small (c : UInt8) : okB 2 c = (smallB c || (c == 45 || c == 46)) := by
  have h : ∀ k : Fin 256, okB 2 (UInt8.ofNat k.val) = (smallB (UInt8.ofNat k.val) || (UInt8.ofNat k.val == 45 || UInt8.ofNat k.val == 46)) := by decide +kernel
  have := h ⟨c.toNat, c.toNat_lt⟩
  simpa using this
theorem ok4_small (c : UInt8) : okB 4 c = (smallB c || ((decide (65 ≤ c.toNat) && decide (c.toNat ≤ 90)) || (c == 45 || (c == 46 || c == 95)))) := by
  have h : ∀ k : Fin 256, okB 4 (UInt8.ofNat k.val) = (smallB (UInt8.ofNat k.val) || ((decide (65 ≤ (UInt8.ofNat k.val).toNat) && decide ((UInt8.ofNat k.val).toNat ≤ 90)) || (UInt8.ofNat k.val == 45 || (UInt8.ofNat k.val == 46 || UInt8.ofNat k.val == 95)))) := by decide +kernel
  have := h ⟨c.toNat, c.toNat_lt⟩
  simpa using this
end Go.Proofs.YtgelbkgkjkeccaaGreatDoor
