/- Rows of a spec: what may lie where; slices.Clone of labels and of containers. -/
import Derived.Test.YtgelbkgkjkeccaaGreatDoorM
import Derived.Test.YtgelbkgkjkeccaaGreatDoorJ
namespace Go.Proofs.YtgelbkgkjkeccaaGreatDoor
open Go.RowKit

/-- A row of a call's own, in a block of I. -/
def ORow (I : Nat → Prop) (w : World) (e : TypeId) (size : Nat) (v : Value) (n : Nat) (xs : List Value) : Prop :=
  xs.length = n * size ∧
  ((v = .slice none 0 0 ∧ n = 0) ∨
   ∃ g cap cur, v = .slice (some ⟨g, 0, none⟩) n cap ∧ I g ∧ w.heap[g]? = some (.cells cur e (0, 0)) ∧ n ≤ cap ∧ cur.size = cap * size ∧ cur.toList.take (n * size) = xs)
/-- The blocks from lo on, below hi. -/
def Ran (lo hi k : Nat) : Prop := lo ≤ k ∧ k < hi
theorem ORow.of_own {w : World} {B : Nat} {e : TypeId} {size n : Nat} {v : Value} {xs : List Value} (h : w.ownsRow B e size v n xs) : ORow (Ran B w.heap.size) w e size v n xs := by
  refine ⟨h.1, ?_⟩
  rcases h.2 with h2 | ⟨g, cap, cur, hv, hb, hh, h1, _, h3, h4⟩
  · exact .inl h2
  · exact .inr ⟨g, cap, cur, hv, ⟨hb, (Array.getElem?_eq_some_iff.1 hh).1⟩, hh, h1, h3, h4⟩
theorem ORow.mono {I J : Nat → Prop} {w : World} {e : TypeId} {size n : Nat} {v : Value} {xs : List Value} (h : ORow I w e size v n xs) (hI : ∀ k, I k → J k) : ORow J w e size v n xs :=
  ⟨h.1, h.2.imp_right fun ⟨g, cap, cur, hv, hb, r⟩ => ⟨g, cap, cur, hv, hI g hb, r⟩⟩
theorem ORow.kept {I M : Nat → Prop} {w w' : World} {e : TypeId} {size n : Nat} {v : Value} {xs : List Value} (h : ORow I w e size v n xs) (hk : Kept M w w') (hI : ∀ k, I k → ¬ M k) : ORow I w' e size v n xs :=
  ⟨h.1, h.2.imp_right fun ⟨g, cap, cur, hv, hb, hh, r⟩ => ⟨g, cap, cur, hv, hb, (hk.block g (Array.getElem?_eq_some_iff.1 hh).1 (hI g hb)).trans hh, r⟩⟩
theorem ORow.below {I : Nat → Prop} {w w' : World} {e : TypeId} {size n : Nat} {v : Value} {xs : List Value} (h : ORow I w e size v n xs) (hk : Below w.heap.size w w') : ORow I w' e size v n xs :=
  h.kept (Kept.of_below (M := fun _ => False) hk) fun _ _ h => h
theorem ORow.cell {I : Nat → Prop} {w : World} {e : TypeId} {size n : Nat} {v : Value} {xs : List Value} (h : ORow I w e size v n xs) :
    (v = .slice none 0 0 ∧ n = 0) ∨ ∃ g c, v = .slice (some ⟨g, 0, none⟩) n c ∧ n ≤ c ∧ I g ∧ (∀ j x, xs[j]? = some x → w.cell? ⟨g, j, none⟩ = some x) ∧ (∀ j, w.frozen? ⟨g, j, none⟩ = false) := by
  rcases h.2 with h2 | ⟨g, cap, cur, rfl, hb, hh, h1, h3, h4⟩
  · exact .inl h2
  · refine .inr ⟨g, cap, rfl, h1, hb, fun j x hj => ?_, fun j => by simp [World.frozen?, hh]⟩
    rw [← h4] at hj
    have hj2 : cur[j]? = some x := by
      rw [List.getElem?_take] at hj
      split at hj
      · simpa using hj
      · simp at hj
    simp [World.cell?, hh, hj2]

/-- Of parts all of one length: which one lies where. -/
theorem flat_get {α : Type} {n : Nat} (f : α → List Value) (hf : ∀ x, (f x).length = n) : ∀ (l : List α) (j i : Nat) (x : α), i < n → l[j]? = some x → (l.flatMap f)[j * n + i]? = (f x)[i]?
  | [], j, _, _, _, h => by simp at h
  | y :: l, 0, i, x, hi, h => by
    have : y = x := by simpa using h
    subst this
    rw [List.flatMap_cons, Nat.zero_mul, Nat.zero_add, List.getElem?_append_left (by rw [hf]; exact hi)]
  | y :: l, j + 1, i, x, hi, h => by
    rw [List.flatMap_cons, List.getElem?_append_right (by rw [hf, Nat.succ_mul]; omega), hf]
    have e : (j + 1) * n + i - n = j * n + i := by rw [Nat.succ_mul]; omega
    rw [e]
    exact flat_get f hf l j i x hi (by simpa using h)
theorem flat_len {α : Type} {n : Nat} (f : α → List Value) (hf : ∀ x, (f x).length = n) (l : List α) : (l.flatMap f).length = l.length * n := by
  induction l with
  | nil => simp
  | cons y l ih => rw [List.flatMap_cons, List.length_append, ih, hf, List.length_cons, Nat.succ_mul, Nat.add_comm]
theorem flat_of {α : Type} {n : Nat} (f : α → List Value) (hf : ∀ x, (f x).length = n) (hn : 0 < n) (l : List α) (k : Nat) (u : Value) (h : (l.flatMap f)[k]? = some u) : ∃ x, l[k / n]? = some x ∧ (f x)[k % n]? = some u := by
  have hk : k < l.length * n := by rw [← flat_len f hf l]; exact (List.getElem?_eq_some_iff.1 h).1
  have hj : k / n < l.length := Nat.div_lt_of_lt_mul (by rw [Nat.mul_comm]; exact hk)
  refine ⟨l[k / n], List.getElem?_eq_getElem hj, ?_⟩
  rw [← flat_get f hf l (k / n) (k % n) _ (Nat.mod_lt _ hn) (List.getElem?_eq_getElem hj), Nat.mul_comm, Nat.div_add_mod]
  exact h

def labCells (x : LabelD) : List Value := [.string x.key, .string x.val]
def labsCells (l : List LabelD) : List Value := l.flatMap labCells
def ctrL (x : CtrD × Value) : List Value := (ctrCells x.1 x.2).toList
theorem ctrL_len (x : CtrD × Value) : (ctrL x).length = 11 := rfl
def ctrsCells (l : List CtrD) (qs : List Value) : List Value := (l.zip qs).flatMap ctrL

/-- Labels, ints, containers in blocks of I, of a call's own. -/
def OLabs (I : Nat → Prop) (w : World) (v : Value) (l : List LabelD) : Prop := ORow I w 159 2 v l.length (labsCells l)
def OInts (I : Nat → Prop) (w : World) (v : Value) (l : List Int) : Prop := ORow I w 3 1 v l.length (l.map (.int .i64))
def OCtrs (I : Nat → Prop) (w : World) (v : Value) (l : List CtrD) : Prop :=
  ∃ qs : List Value, qs.length = l.length ∧ ORow I w 44 11 v l.length (ctrsCells l qs) ∧ ∀ (j : Nat) (q : Value) (c : CtrD), qs[j]? = some q → l[j]? = some c → OInts I w q c.ports

theorem info159 : (Tryz.prog.info? 159).map (fun i => (i.zero, i.size, i.bytes)) = some (some (.agg #[.string ⟨#[]⟩, .string ⟨#[]⟩]), 2, 32) := by kernel_rfl
theorem info44 : (Tryz.prog.info? 44).map (fun i => (i.zero, i.size, i.bytes)) = some (some (.agg #[.string ⟨#[]⟩, .string ⟨#[]⟩, .int .i64 0, .int .i64 0, .int .i64 0, .int .i64 0, .int .i64 0, .int .i64 0, .slice none 0 0, .int .i64 0, .int .i64 0]), 11, 120) := by kernel_rfl

def ClonePost (e : TypeId) (size n : Nat) (news : List Value) (w : World) (r : Ending) (w' : World) : Prop :=
  ∃ v', r = .returned v' ∧ w'.ownsRow w.heap.size e size v' n news ∧ v' ≠ .slice none 0 0 ∧ Below w.heap.size w w'
set_option maxHeartbeats 2000000 in
set_option maxRecDepth 100000 in
theorem cloneLabs_row (ad : Addr) (n c : Nat) (news : List Value) (w : World) (hl : news.length = n * 2) (hn : n ≤ 1000000)
    (hc : ∀ j u, news[j]? = some u → w.cell? (ad.add j) = some u) (h1 : ∀ u ∈ news, u.oneCell' = true) :
    Calls Tryz.prog 114 #[.slice (some ad) n c] w (ClonePost 159 2 n news w) := by
  obtain ⟨i0, hi0, hz0, hz1, hz2⟩ := info_parts info159
  have A : Aside (∀ j u, news[j]? = some u → w.cell? (ad.add j) = some u) := hc
  clear hc
  have q22 : ∀ (w : World) (a : Option Addr) (n c n' c' : Nat), (binOp .eql 22 (.slice a n c) (.slice none n' c')).run Tryz.prog w = .ok (.bool a.isNone) w := fun w a n c n' c' => Lib.run_eql_slice_nil w _ _ a n c n' c' Tryz.underlying22
  go_enter Tryz.func114, Tryz.ntmps114
  go_wp2_with (at_builtin; refine wpList_append_own _ rfl _ _ 22 rfl w.heap.size 159 i0 _ 2 32 Tryz.underlying22 hi0 hz0 hz1 hz2 rfl (by decide) _ _ _ rfl (World.ownsRow_made w #[] 0 (Nat.le_refl _) (Nat.zero_le _) (by simp)) ad n c news rfl ?qc1 ?qc2 ?qc3 ?qc4 ?qc5 ?qc6 ?_)
  case qc1 => exact hl
  case qc2 => intro j u hj; exact Lib.cell?_alloc_some _ (A.out j u hj)
  case qc3 => exact h1
  case qc4 => unfold maxLen; omega
  case qc5 => omega
  case qc6 => simp
  intro v' w1 hown hgrow hnil
  go_wp2
  go_ret
  exact ⟨v', rfl, by simpa using hown, hnil, ((Below.refl _ w).alloc (Nat.le_refl _) _).grown hgrow (by simp) (by intro k hk; simp [Value.ownBlock] at hk; omega)⟩
theorem cloneLabs_nil (c : Nat) (w : World) : Calls Tryz.prog 114 #[.slice none 0 c] w fun e w' => e = .returned (.slice none 0 0) ∧ w' = w := by
  have q22 : ∀ (w : World) (a : Option Addr) (n c n' c' : Nat), (binOp .eql 22 (.slice a n c) (.slice none n' c')).run Tryz.prog w = .ok (.bool a.isNone) w := fun w a n c n' c' => Lib.run_eql_slice_nil w _ _ a n c n' c' Tryz.underlying22
  go_enter Tryz.func114, Tryz.ntmps114
  go_wp2
  go_ret
  exact ⟨rfl, rfl⟩
set_option maxHeartbeats 2000000 in
set_option maxRecDepth 100000 in
theorem cloneCtrs_row (ad : Addr) (n c : Nat) (news : List Value) (w : World) (hl : news.length = n * 11) (hn : n ≤ 1000000)
    (hc : ∀ j u, news[j]? = some u → w.cell? (ad.add j) = some u) (h1 : ∀ u ∈ news, u.oneCell' = true) :
    Calls Tryz.prog 214 #[.slice (some ad) n c] w (ClonePost 44 11 n news w) := by
  obtain ⟨i0, hi0, hz0, hz1, hz2⟩ := info_parts info44
  have A : Aside (∀ j u, news[j]? = some u → w.cell? (ad.add j) = some u) := hc
  clear hc
  have q22 : ∀ (w : World) (a : Option Addr) (n c n' c' : Nat), (binOp .eql 23 (.slice a n c) (.slice none n' c')).run Tryz.prog w = .ok (.bool a.isNone) w := fun w a n c n' c' => Lib.run_eql_slice_nil w _ _ a n c n' c' Tryz.underlying23
  go_enter Tryz.func214, Tryz.ntmps214
  go_wp2_with (at_builtin; refine wpList_append_own _ rfl _ _ 23 rfl w.heap.size 44 i0 _ 11 120 Tryz.underlying23 hi0 hz0 hz1 hz2 rfl (by decide) _ _ _ rfl (World.ownsRow_made w #[] 0 (Nat.le_refl _) (Nat.zero_le _) (by simp)) ad n c news rfl ?qc1 ?qc2 ?qc3 ?qc4 ?qc5 ?qc6 ?_)
  case qc1 => exact hl
  case qc2 => intro j u hj; exact Lib.cell?_alloc_some _ (A.out j u hj)
  case qc3 => exact h1
  case qc4 => unfold maxLen; omega
  case qc5 => omega
  case qc6 => simp
  intro v' w1 hown hgrow hnil
  go_wp2
  go_ret
  exact ⟨v', rfl, by simpa using hown, hnil, ((Below.refl _ w).alloc (Nat.le_refl _) _).grown hgrow (by simp) (by intro k hk; simp [Value.ownBlock] at hk; omega)⟩
theorem cloneCtrs_nil (c : Nat) (w : World) : Calls Tryz.prog 214 #[.slice none 0 c] w fun e w' => e = .returned (.slice none 0 0) ∧ w' = w := by
  have q22 : ∀ (w : World) (a : Option Addr) (n c n' c' : Nat), (binOp .eql 23 (.slice a n c) (.slice none n' c')).run Tryz.prog w = .ok (.bool a.isNone) w := fun w a n c n' c' => Lib.run_eql_slice_nil w _ _ a n c n' c' Tryz.underlying23
  go_enter Tryz.func214, Tryz.ntmps214
  go_wp2
  go_ret
  exact ⟨rfl, rfl⟩

end Go.Proofs.YtgelbkgkjkeccaaGreatDoor
