/- Package spec's clones and Clone. -/
import Derived.Test.YtgelbkgkjkeccaaGreatDoorN
namespace Go.Proofs.YtgelbkgkjkeccaaGreatDoor
open Go.RowKit

/-! what is read, in blocks of I -/
def IInts (I : Nat → Prop) (w : World) (v : Value) (l : List Int) : Prop :=
  (l = [] ∧ ∃ a c, v = .slice a 0 c) ∨
  (0 < l.length ∧ ∃ b off c, v = .slice (some ⟨b, off, none⟩) l.length c ∧ l.length ≤ c ∧ I b ∧ ∀ j (h : j < l.length), w.cell? ⟨b, off + j, none⟩ = some (.int .i64 l[j]))
def ILabs (I : Nat → Prop) (w : World) (v : Value) (l : List LabelD) : Prop :=
  (l = [] ∧ ∃ a c, v = .slice a 0 c) ∨
  (0 < l.length ∧ ∃ b off c, v = .slice (some ⟨b, off, none⟩) l.length c ∧ l.length ≤ c ∧ I b ∧ ∀ j (h : j < l.length), w.cell? ⟨b, off + j * 2, none⟩ = some (.string l[j].key) ∧ w.cell? ⟨b, off + j * 2 + 1, none⟩ = some (.string l[j].val))
def ICtrs (I : Nat → Prop) (w : World) (v : Value) (l : List CtrD) : Prop :=
  (l = [] ∧ ∃ a c, v = .slice a 0 c) ∨
  (0 < l.length ∧ ∃ b off c, v = .slice (some ⟨b, off, none⟩) l.length c ∧ l.length ≤ c ∧ I b ∧ ∀ j (h : j < l.length), ∃ q, IInts I w q l[j].ports ∧ ∀ i x, (ctrCells l[j] q)[i]? = some x → w.cell? ⟨b, off + j * 11 + i, none⟩ = some x)
theorem RInts_iff (B : Nat) (w : World) (v : Value) (l : List Int) : RInts B w v l ↔ IInts (· < B) w v l := Iff.rfl
theorem RCtrs_iff (B : Nat) (w : World) (v : Value) (l : List CtrD) : RCtrs B w v l ↔ ICtrs (· < B) w v l := Iff.rfl
theorem ILabs.R {I : Nat → Prop} {w : World} {v : Value} {l : List LabelD} (h : ILabs I w v l) : RLabs w v l :=
  h.imp_right fun ⟨h0, b, off, c, hv, hc, _, hr⟩ => ⟨h0, b, off, c, hv, hc, hr⟩
theorem IInts.R {I : Nat → Prop} {w : World} {v : Value} {l : List Int} (h : IInts I w v l) : RInts w.heap.size w v l :=
  h.imp_right fun ⟨h0, b, off, c, hv, hc, _, hr⟩ => ⟨h0, b, off, c, hv, hc, cell_lt (hr 0 h0), hr⟩
theorem ICtrs.R {I : Nat → Prop} {w : World} {v : Value} {l : List CtrD} (h : ICtrs I w v l) : RCtrs w.heap.size w v l :=
  h.imp_right fun ⟨h0, b, off, c, hv, hc, _, hr⟩ => ⟨h0, b, off, c, hv, hc, let ⟨_, _, h2⟩ := hr 0 h0; cell_lt (h2 0 _ rfl), fun j hj => let ⟨q, h1, h2⟩ := hr j hj; ⟨q, h1.R, h2⟩⟩
theorem IInts.kept {I M : Nat → Prop} {w w' : World} {v : Value} {l : List Int} (h : IInts I w v l) (hk : Kept M w w') (hM : ∀ k, I k → ¬ M k) : IInts I w' v l :=
  h.imp_right fun ⟨h0, b, off, c, hv, hc, hI, hr⟩ => ⟨h0, b, off, c, hv, hc, hI, fun j hj => hk.cell (hM b hI) (hr j hj)⟩
theorem ILabs.kept {I M : Nat → Prop} {w w' : World} {v : Value} {l : List LabelD} (h : ILabs I w v l) (hk : Kept M w w') (hM : ∀ k, I k → ¬ M k) : ILabs I w' v l :=
  h.imp_right fun ⟨h0, b, off, c, hv, hc, hI, hr⟩ => ⟨h0, b, off, c, hv, hc, hI, fun j hj => ⟨hk.cell (hM b hI) (hr j hj).1, hk.cell (hM b hI) (hr j hj).2⟩⟩
theorem ICtrs.kept {I M : Nat → Prop} {w w' : World} {v : Value} {l : List CtrD} (h : ICtrs I w v l) (hk : Kept M w w') (hM : ∀ k, I k → ¬ M k) : ICtrs I w' v l :=
  h.imp_right fun ⟨h0, b, off, c, hv, hc, hI, hr⟩ => ⟨h0, b, off, c, hv, hc, hI, fun j hj => let ⟨q, h1, h2⟩ := hr j hj; ⟨q, h1.kept hk hM, fun i x hx => hk.cell (hM b hI) (h2 i x hx)⟩⟩
theorem kept_false {w w' : World} (h : Below w.heap.size w w') : Kept (fun _ => False) w w' := Kept.of_below h
theorem IInts.below {I : Nat → Prop} {w w' : World} {v : Value} {l : List Int} (h : IInts I w v l) (hk : Below w.heap.size w w') : IInts I w' v l := h.kept (kept_false hk) fun _ _ h => h
theorem ILabs.below {I : Nat → Prop} {w w' : World} {v : Value} {l : List LabelD} (h : ILabs I w v l) (hk : Below w.heap.size w w') : ILabs I w' v l := h.kept (kept_false hk) fun _ _ h => h
theorem ICtrs.below {I : Nat → Prop} {w w' : World} {v : Value} {l : List CtrD} (h : ICtrs I w v l) (hk : Below w.heap.size w w') : ICtrs I w' v l := h.kept (kept_false hk) fun _ _ h => h
/-- A call's own rows read as such. -/
theorem OInts.I {I : Nat → Prop} {w : World} {v : Value} {l : List Int} (h : OInts I w v l) : IInts I w v l := by
  rcases ORow.cell h with ⟨rfl, h0⟩ | ⟨g, c, rfl, hc, hI, hr, _⟩
  · exact .inl ⟨List.length_eq_zero_iff.1 h0, _, _, rfl⟩
  · rcases Nat.eq_zero_or_pos l.length with h0 | h0
    · exact .inl ⟨List.length_eq_zero_iff.1 h0, _, _, by rw [h0]⟩
    · exact .inr ⟨h0, g, 0, c, rfl, hc, hI, fun j hj => by rw [Nat.zero_add]; exact hr j _ (by simp [hj])⟩
theorem labCells_len (x : LabelD) : (labCells x).length = 2 := rfl
theorem OLabs.I {I : Nat → Prop} {w : World} {v : Value} {l : List LabelD} (h : OLabs I w v l) : ILabs I w v l := by
  rcases ORow.cell h with ⟨rfl, h0⟩ | ⟨g, c, rfl, hc, hI, hr, _⟩
  · exact .inl ⟨List.length_eq_zero_iff.1 h0, _, _, rfl⟩
  · rcases Nat.eq_zero_or_pos l.length with h0 | h0
    · exact .inl ⟨List.length_eq_zero_iff.1 h0, _, _, by rw [h0]⟩
    · refine .inr ⟨h0, g, 0, c, rfl, hc, hI, fun j hj => ⟨?_, ?_⟩⟩
      · rw [Nat.zero_add]
        exact hr (j * 2 + 0) _ (by rw [labsCells, flat_get labCells labCells_len l j 0 l[j] (by omega) (List.getElem?_eq_getElem hj)]; rfl)
      · rw [Nat.zero_add]
        exact hr (j * 2 + 1) _ (by rw [labsCells, flat_get labCells labCells_len l j 1 l[j] (by omega) (List.getElem?_eq_getElem hj)]; rfl)
theorem ctrs_get {l : List CtrD} {qs : List Value} {j i : Nat} {x : Value} (hq : qs.length = l.length) (hj : j < l.length) (h : (ctrCells l[j] (qs[j]'(by omega)))[i]? = some x) : (ctrsCells l qs)[j * 11 + i]? = some x := by
  have hi : i < 11 := (Array.getElem?_eq_some_iff.1 h).1
  rw [ctrsCells, flat_get ctrL ctrL_len (l.zip qs) j i (l[j], qs[j]'(by omega)) hi (by simp [List.getElem?_zip_eq_some, hj, show j < qs.length by omega])]
  simpa [ctrL] using h
theorem OCtrs.I {I : Nat → Prop} {w : World} {v : Value} {l : List CtrD} (h : OCtrs I w v l) : ICtrs I w v l := by
  obtain ⟨qs, hq, hR, hO⟩ := h
  rcases hR.cell with ⟨rfl, h0⟩ | ⟨g, c, rfl, hc, hI, hr, _⟩
  · exact .inl ⟨List.length_eq_zero_iff.1 h0, _, _, rfl⟩
  · rcases Nat.eq_zero_or_pos l.length with h0 | h0
    · exact .inl ⟨List.length_eq_zero_iff.1 h0, _, _, by rw [h0]⟩
    · refine .inr ⟨h0, g, 0, c, rfl, hc, hI, fun j hj => ⟨qs[j]'(by omega), (hO j _ _ (List.getElem?_eq_getElem (by omega)) (List.getElem?_eq_getElem hj)).I, fun i x hx => ?_⟩⟩
      rw [Nat.zero_add]
      exact hr _ _ (ctrs_get hq hj hx)
theorem OCtrs.kept {I M : Nat → Prop} {w w' : World} {v : Value} {l : List CtrD} (h : OCtrs I w v l) (hk : Kept M w w') (hM : ∀ k, I k → ¬ M k) : OCtrs I w' v l := by
  obtain ⟨qs, hq, hR, hO⟩ := h
  exact ⟨qs, hq, hR.kept hk hM, fun j q c h1 h2 => ORow.kept (hO j q c h1 h2) hk hM⟩
theorem OCtrs.mono {I J : Nat → Prop} {w : World} {v : Value} {l : List CtrD} (h : OCtrs I w v l) (hM : ∀ k, I k → J k) : OCtrs J w v l := by
  obtain ⟨qs, hq, hR, hO⟩ := h
  exact ⟨qs, hq, hR.mono hM, fun j q c h1 h2 => ORow.mono (hO j q c h1 h2) hM⟩
theorem ctrs_set : ∀ (l : List CtrD) (qs : List Value) (k : Nat) (v : Value), qs.length = l.length → k < l.length → (ctrsCells l qs).set (k * 11 + 8) v = ctrsCells l (qs.set k v)
  | [], _, _, _, _, h => by simp at h
  | c :: l, [], _, _, h, _ => by simp at h
  | c :: l, q :: qs, 0, v, _, _ => by
    show (ctrL (c, q) ++ ctrsCells l qs).set 8 v = ctrL (c, v) ++ ctrsCells l qs
    rw [List.set_append_left _ _ (by simp [ctrL_len])]
    rfl
  | c :: l, q :: qs, k + 1, v, hq, hk => by
    show (ctrL (c, q) ++ ctrsCells l qs).set ((k + 1) * 11 + 8) v = ctrL (c, q) ++ ctrsCells l (qs.set k v)
    rw [List.set_append_right _ _ (by rw [ctrL_len]; omega), ctrL_len]
    have e : (k + 1) * 11 + 8 - 11 = k * 11 + 8 := by omega
    rw [e, ctrs_set l qs k v (by simpa using hq) (by simpa using hk)]
theorem setCell_atn (w : World) (g o : Nat) (cur : Array Value) (e : TypeId) (u : Value) (h : w.heap[g]? = some (.cells cur e (0, 0))) : (w.setCell ⟨g, o, none⟩ u).heap[g]? = some (.cells (cur.setIfInBounds o u) e (0, 0)) := by
  simp [World.setCell, Array.getElem?_modify, h]

/-- slices.Clone of ints. -/
theorem cloneInts_any (I : Nat → Prop) (a : Option Addr) (c : Nat) (l : List Int) (w : World) (h : IInts I w (.slice a l.length c) l) (hl : l.length ≤ 1000000) :
    Calls Tryz.prog 204 #[.slice a l.length c] w fun e w' => ∃ v', e = .returned v' ∧ OInts (Ran w.heap.size w'.heap.size) w' v' l ∧ Below w.heap.size w w' := by
  have hnil : ∀ n, OInts (Ran w.heap.size n) w (.slice none 0 0) [] := fun n => ⟨rfl, .inl ⟨rfl, rfl⟩⟩
  rcases h with ⟨rfl, _⟩ | ⟨h0, b, off, c', hv, hc, hI, hr⟩
  · cases a with
    | none =>
      refine (Tryz.slices_Clone_int_nil 0 c w).mono ?_
      rintro e w' ⟨rfl, rfl⟩
      exact ⟨_, rfl, hnil _, Below.refl _ _⟩
    | some a =>
      refine (Tryz.slices_Clone_int_zero a c w).mono ?_
      rintro e w' ⟨v', rfl, ho, _, hb⟩
      exact ⟨_, rfl, ORow.of_own ho, hb⟩
  · injection hv with h1 _ h2
    subst h1 h2
    refine (Tryz.slices_Clone_int b off l.length c l w (Nat.le_refl _) (by omega) (fun j hj => by rw [hr j hj]; simp [List.getD_eq_getElem?_getD, hj])).mono ?_
    rintro e w' ⟨v', rfl, ho, _, hb⟩
    rw [List.take_length] at ho
    exact ⟨_, rfl, ORow.of_own ho, hb⟩
theorem oneCells (l : List Value) (h : ∀ u ∈ l, u.oneCell' = true) : ∀ u ∈ l, u.oneCell' = true := h
/-- slices.Clone of labels. -/
theorem cloneLabs_any (I : Nat → Prop) (v : Value) (l : List LabelD) (w : World) (h : ILabs I w v l) (hl : l.length ≤ 1000000) :
    Calls Tryz.prog 114 #[v] w fun e w' => ∃ v', e = .returned v' ∧ OLabs (Ran w.heap.size w'.heap.size) w' v' l ∧ Below w.heap.size w w' := by
  rcases h with ⟨rfl, a, c, rfl⟩ | ⟨h0, b, off, c', rfl, hc, hI, hr⟩
  · cases a with
    | none =>
      refine (cloneLabs_nil c w).mono ?_
      rintro e w' ⟨rfl, rfl⟩
      exact ⟨_, rfl, ⟨rfl, .inl ⟨rfl, rfl⟩⟩, Below.refl _ _⟩
    | some a =>
      refine (cloneLabs_row a 0 c [] w rfl (by omega) (fun j u h => by simp at h) (fun u h => by cases h)).mono ?_
      rintro e w' ⟨v', rfl, ho, _, hb⟩
      exact ⟨_, rfl, ORow.of_own ho, hb⟩
  · refine (cloneLabs_row ⟨b, off, none⟩ l.length c' (labsCells l) w (flat_len labCells labCells_len l) hl ?_ ?_).mono ?_
    · intro k u hk
      obtain ⟨x, hx, hu⟩ := flat_of labCells labCells_len (by omega) l k u hk
      have hj := (List.getElem?_eq_some_iff.1 hx).1
      have hxe : l[k / 2] = x := (List.getElem?_eq_some_iff.1 hx).2
      have h2 := hr (k / 2) hj
      rw [hxe] at h2
      rw [Addr.add_lit]
      rcases Nat.mod_two_eq_zero_or_one k with hm | hm <;> rw [hm] at hu
      · have : u = .string x.key := by simpa [labCells] using hu.symm
        subst this
        have e : off + k = off + k / 2 * 2 := by omega
        rw [e]; exact h2.1
      · have : u = .string x.val := by simpa [labCells] using hu.symm
        subst this
        have e : off + k = off + k / 2 * 2 + 1 := by omega
        rw [e]; exact h2.2
    · intro u hu
      obtain ⟨x, _, hx⟩ := List.mem_flatMap.1 hu
      rcases List.mem_cons.1 hx with rfl | hx
      · rfl
      · rcases List.mem_cons.1 hx with rfl | hx
        · rfl
        · cases hx
    · rintro e w' ⟨v', rfl, ho, _, hb⟩
      exact ⟨_, rfl, ORow.of_own ho, hb⟩
end Go.Proofs.YtgelbkgkjkeccaaGreatDoor
