/- What may be changed of a spec: the plain law of the statement SpecUpdates; a row of containers of which one cell is stored. -/
import Derived.Test.YtgelbkgkjkeccaaGreatDoorZE
import Derived.Test.YtgelbkgkjkeccaaGreatDoorWg
namespace Go.Proofs.YtgelbkgkjkeccaaGreatDoor
open Go.RowKit

def retagL (l : Bytes) : Bytes := (Lib.cut l [58]).1 ++ [58, 57]
def retag (s : ByteArray) : ByteArray := ⟨(retagL s.data.toList).toArray⟩
theorem cut_mid {c : UInt8} : ∀ (r t : List UInt8), c ∉ r → Lib.cut (r ++ c :: t) [c] = (r, t, true)
  | [], t, _ => by rw [List.nil_append, cut_cons, if_pos rfl]
  | b :: r, t, h => by
    rw [List.cons_append, cut_cons, if_neg (fun e => h (by simp [e])), cut_mid r t (fun e => h (by simp [e]))]
theorem retag_cut {l : Bytes} (h : imgB l = true) : Lib.cut (retagL l) [58] = ((Lib.cut l [58]).1, [57], true) := cut_mid _ _ (cut_len l (imgB_in h).1).2
theorem retag_img {l : Bytes} (h : imgB l = true) : imgB (retagL l) = true := by
  unfold imgB
  rw [retag_cut h]
  show (true && repoB (Lib.cut l [58]).1 && tagB [57]) = true
  rw [(imgB_in h).2.1]
  decide
theorem partsB_of {l : Bytes} (h : imgB l = true) : (partsB l).1 = (Lib.cut l [58]).1 := by unfold partsB; rw [if_pos h]
theorem retag_same {l : Bytes} (h : imgB l = true) : sameB l (retagL l) = true ∧ sameB (retagL l) l = true := by
  unfold sameB
  rw [h, retag_img h, partsB_of h, partsB_of (retag_img h), retag_cut h]
  simp
theorem retag_len {l : Bytes} (h : imgB l = true) : (retagL l).length ≤ 26 := by
  have := repoB_len (imgB_in h).2.1
  unfold retagL
  simp only [List.length_append, List.length_cons, List.length_nil]
  omega

theorem alikeB_refl (c : CtrD) : alikeB c c = true := by simp [alikeB]
theorem frozen_self : ∀ (xs : List CtrD) (i : Nat), frozenFrom i xs xs = none
  | [], _ => rfl
  | x :: xs, i => by unfold frozenFrom; rw [alikeB_refl]; simp [frozen_self xs]
theorem frozen_set : ∀ (xs : List CtrD) (k i : Nat) (c : CtrD) (h : k < xs.length), alikeB xs[k] c = true → alikeB c xs[k] = true → sameB xs[k].image.data.toList c.image.data.toList = true → sameB c.image.data.toList xs[k].image.data.toList = true →
    frozenFrom i xs (xs.set k c) = none ∧ frozenFrom i (xs.set k c) xs = none
  | [], k, _, _, h, _, _, _, _ => absurd h (by simp)
  | x :: xs, 0, i, c, h, a1, a2, s1, s2 => by
    have a1 : alikeB x c = true := a1
    have a2 : alikeB c x = true := a2
    have s1 : sameB x.image.data.toList c.image.data.toList = true := s1
    have s2 : sameB c.image.data.toList x.image.data.toList = true := s2
    constructor
    · show frozenFrom i (x :: xs) (c :: xs) = none
      unfold frozenFrom
      rw [a1, s1]; simp [frozen_self xs]
    · show frozenFrom i (c :: xs) (x :: xs) = none
      unfold frozenFrom
      rw [a2, s2]; simp [frozen_self xs]
  | x :: xs, k + 1, i, c, h, a1, a2, s1, s2 => by
    have ih := frozen_set xs k (i + 1) c (by simpa using h) a1 a2 s1 s2
    constructor
    · show frozenFrom i (x :: xs) (x :: xs.set k c) = none
      unfold frozenFrom
      rw [alikeB_refl]; simp [ih.1]
    · show frozenFrom i (x :: xs.set k c) (x :: xs) = none
      unfold frozenFrom
      rw [alikeB_refl]; simp [ih.2]
theorem frozen_bad : ∀ (xs : List CtrD) (k i : Nat) (c : CtrD) (h : k < xs.length), alikeB xs[k] c = false → frozenFrom i xs (xs.set k c) = some (4, [atB mainS ((i + k : Nat) : Int)])
  | [], k, _, _, h, _ => absurd h (by simp)
  | x :: xs, 0, i, c, h, a1 => by
    have a1 : alikeB x c = false := a1
    show frozenFrom i (x :: xs) (c :: xs) = _
    unfold frozenFrom
    rw [a1]; rfl
  | x :: xs, k + 1, i, c, h, a1 => by
    have ih := frozen_bad xs k (i + 1) c (by simpa using h) a1
    show frozenFrom i (x :: xs) (x :: xs.set k c) = _
    unfold frozenFrom
    rw [alikeB_refl]
    have e : i + 1 + k = i + (k + 1) := by omega
    rw [e] at ih
    simp [ih]
/-- A spec with another's labels, Restart, Grace, Prio, and other main containers. -/
abbrev updS (s t : SpecD) (ms : List CtrD) : SpecD := ⟨s.name, t.labels, s.inits, ms, t.restart, t.grace, t.prio⟩
/-- The container with another tag; with more of a request besides. -/
abbrev tagC (c : CtrD) : CtrD := ⟨c.name, retag c.image, c.req, c.lim, c.ports, c.every, c.fails⟩
abbrev cpuC (c : CtrD) : CtrD := ⟨c.name, retag c.image, ⟨c.req.cpu + 1, c.req.mem, c.req.pids⟩, c.lim, c.ports, c.every, c.fails⟩
theorem upd_free (s t : SpecD) (k : Nat) (hk : k < s.mains.length) (hi : imgB s.mains[k].image.data.toList = true) :
    frozenE s (updS s t (s.mains.set k (tagC s.mains[k]))) = none ∧ frozenE (updS s t (s.mains.set k (tagC s.mains[k]))) s = none := by
  have h1 : alikeB s.mains[k] (tagC s.mains[k]) = true := by simp [alikeB]
  have h2 : alikeB (tagC s.mains[k]) s.mains[k] = true := by simp [alikeB]
  have h3 := frozen_set s.mains k 0 (tagC s.mains[k]) hk h1 h2 (retag_same hi).1 (retag_same hi).2
  constructor
  · unfold frozenE
    simp [h3.1]
  · unfold frozenE
    simp [h3.2]
theorem upd_bad (s t : SpecD) (k : Nat) (hk : k < s.mains.length) :
    frozenE s (updS s t (s.mains.set k (cpuC s.mains[k]))) = some (4, [atB mainS ((0 + k : Nat) : Int)]) ∧ decide (s = updS s t (s.mains.set k (cpuC s.mains[k]))) = false := by
  have h1 : alikeB s.mains[k] (cpuC s.mains[k]) = false := by
    have : decide (s.mains[k].req = (cpuC s.mains[k]).req) = false := by
      apply decide_eq_false
      intro e
      have := congrArg ResD.cpu e
      simp at this
      omega
    unfold alikeB
    rw [this]
    simp
  constructor
  · unfold frozenE
    simp [frozen_bad s.mains k 0 (cpuC s.mains[k]) hk h1]
  · apply decide_eq_false
    intro e
    have e1 : s.mains = s.mains.set k (cpuC s.mains[k]) := congrArg SpecD.mains e
    have e2 := congrArg (fun l => l[k]?) e1
    simp [hk] at e2
    have e3 : (cpuC s.mains[k]).req.cpu = s.mains[k].req.cpu := by
      have := congrArg (fun c : CtrD => c.req.cpu) e2
      exact this.symm
    simp at e3
    omega
theorem mk_toList' (l : Bytes) : (⟨l.toArray⟩ : ByteArray).data.toList = l := rfl

/-! a row of containers of which one cell is stored -/
theorem ctrs_put : ∀ (l : List CtrD) (qs : List Value) (k o : Nat) (c' : CtrD) (v : Value), qs.length = l.length → (h : k < l.length) → o < 11 → (∀ q, (ctrL (l[k], q)).set o v = ctrL (c', q)) → (ctrsCells l qs).set (k * 11 + o) v = ctrsCells (l.set k c') qs
  | [], _, _, _, _, _, _, h, _, _ => by simp at h
  | c :: l, [], _, _, _, _, h, _, _, _ => by simp at h
  | c :: l, q :: qs, 0, o, c', v, _, _, ho, hc => by
    show (ctrL (c, q) ++ ctrsCells l qs).set (0 * 11 + o) v = ctrL (c', q) ++ ctrsCells l qs
    rw [Nat.zero_mul, Nat.zero_add, List.set_append_left _ _ (by rw [ctrL_len]; exact ho)]
    exact congrArg (· ++ ctrsCells l qs) (hc q)
  | c :: l, q :: qs, k + 1, o, c', v, hq, hk, ho, hc => by
    show (ctrL (c, q) ++ ctrsCells l qs).set ((k + 1) * 11 + o) v = ctrL (c, q) ++ ctrsCells (l.set k c') qs
    rw [List.set_append_right _ _ (by rw [ctrL_len]; omega), ctrL_len]
    have e : (k + 1) * 11 + o - 11 = k * 11 + o := by omega
    rw [e, ctrs_put l qs k o c' v (by simpa using hq) (by simpa using hk) ho hc]
theorem OCtrs.put {I : Nat → Prop} {w : World} {g n cap : Nat} {l : List CtrD} (h : OCtrs I w (.slice (some ⟨g, 0, none⟩) n cap) l) (k : Nat) (hk : k < l.length) (o : Nat) (ho : o < 11) (c' : CtrD) (v : Value)
    (hc : ∀ q, (ctrL (l[k], q)).set o v = ctrL (c', q)) (hp : c'.ports = l[k].ports) : OCtrs I (w.setCell ⟨g, k * 11 + o, none⟩ v) (.slice (some ⟨g, 0, none⟩) n cap) (l.set k c') := by
  obtain ⟨qs, hq, hR, hO⟩ := h
  have hK : Kept (· = g) w (w.setCell ⟨g, k * 11 + o, none⟩ v) := kept_set _ _ _ _
  rcases hR.2 with ⟨h0, _⟩ | ⟨g', cap', cur, hv, hI, hh, h1, h2, h3⟩
  · cases h0
  · injection hv with ha hn hc'
    injection ha with ha
    injection ha with ha
    subst ha hn hc'
    refine ⟨qs, by simp [hq], ⟨?_, .inr ⟨g, cap, _, by rw [List.length_set], hI, setCell_atn _ _ _ _ _ _ hh, by simpa using h1, by simpa using h2, ?_⟩⟩, ?_⟩
    · rw [List.length_set, ← ctrs_put l qs k o c' v hq hk ho hc, List.length_set]; exact hR.1
    · rw [List.length_set, Array.toList_setIfInBounds, List.take_set, h3, ctrs_put l qs k o c' v hq hk ho hc]
    · intro j q c hj hcj
      have hc2 : ∃ c0, l[j]? = some c0 ∧ c.ports = c0.ports := by
        by_cases e : k = j
        · subst e
          rw [List.getElem?_set_self hk] at hcj
          injection hcj with hcj
          exact ⟨l[k], List.getElem?_eq_getElem hk, by rw [← hcj, hp]⟩
        · rw [List.getElem?_set_ne e] at hcj
          exact ⟨c, hcj, rfl⟩
      obtain ⟨c0, hc0, hpp⟩ := hc2
      have h4 := hO j q c0 hj hc0
      rw [← hpp] at h4
      refine ⟨h4.1, h4.2.imp_right ?_⟩
      rintro ⟨g2, cp, cr, hv, hI2, hh2, r⟩
      refine ⟨g2, cp, cr, hv, hI2, (hK.block g2 (Array.getElem?_eq_some_iff.1 hh2).1 (fun e => ?_)).trans hh2, r⟩
      subst e
      rw [hh] at hh2
      injection hh2 with hh2
      injection hh2 with _ ht
      exact absurd ht (by decide)
theorem IInts.mono {I J : Nat → Prop} {w : World} {v : Value} {l : List Int} (h : IInts I w v l) (hI : ∀ k, I k → J k) : IInts J w v l :=
  h.imp_right fun ⟨h0, b, off, c, hv, hc, hi, hr⟩ => ⟨h0, b, off, c, hv, hc, hI _ hi, hr⟩
theorem ILabs.mono {I J : Nat → Prop} {w : World} {v : Value} {l : List LabelD} (h : ILabs I w v l) (hI : ∀ k, I k → J k) : ILabs J w v l :=
  h.imp_right fun ⟨h0, b, off, c, hv, hc, hi, hr⟩ => ⟨h0, b, off, c, hv, hc, hI _ hi, hr⟩
theorem ICtrs.mono {I J : Nat → Prop} {w : World} {v : Value} {l : List CtrD} (h : ICtrs I w v l) (hI : ∀ k, I k → J k) : ICtrs J w v l :=
  h.imp_right fun ⟨h0, b, off, c, hv, hc, hi, hr⟩ => ⟨h0, b, off, c, hv, hc, hI _ hi, fun j hj => let ⟨q, h1, h2⟩ := hr j hj; ⟨q, h1.mono hI, h2⟩⟩
theorem ISpec.mono {I J : Nat → Prop} {w : World} {s : SpecD} {a b c : Value} (h : ISpec I w s a b c) (hI : ∀ k, I k → J k) : ISpec J w s a b c := ⟨h.labs.mono hI, h.inits.mono hI, h.mains.mono hI⟩
end Go.Proofs.YtgelbkgkjkeccaaGreatDoor
