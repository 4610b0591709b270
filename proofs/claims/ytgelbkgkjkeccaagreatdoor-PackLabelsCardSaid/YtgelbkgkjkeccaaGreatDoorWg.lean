/- What follows of a spec, a container, labels that have no error: bounds of all numbers and texts. No program in sight. -/
import Derived.Test.YtgelbkgkjkeccaaGreatDoorJ
import Derived.Test.YtgelbkgkjkeccaaGreatDoorWb
import Derived.Test.YtgelbkgkjkeccaaGreatDoorWc
namespace Go.Proofs.YtgelbkgkjkeccaaGreatDoor
open Go.RowKit

theorem firstE_none : ∀ {l : List Err}, firstE l = none → ∀ e ∈ l, e = none
  | [], _, e, he => by cases he
  | none :: l, h, e, he => by
    rcases List.mem_cons.1 he with rfl | he
    · rfl
    · exact firstE_none (l := l) h e he
  | some x :: l, h, e, he => by cases h
theorem firstE_of : ∀ {l : List Err}, (∀ e ∈ l, e = none) → firstE l = none
  | [], _ => rfl
  | e :: l, h => by
    have : e = none := h e (by simp)
    subst this
    exact firstE_of (l := l) fun x hx => h x (by simp [hx])
theorem inE_none {e : Err} {s : ByteArray} (h : inE e s = none) : e = none := by cases e with
  | none => rfl
  | some x => cases h
theorem withinE_in {c : Int} {s : ByteArray} {n lo hi : Int} (h : withinE c s n lo hi = none) : lo ≤ n ∧ n ≤ hi := by
  unfold withinE at h
  split at h
  · cases h
  · omega
theorem reqE_in {r : ResD} (h : reqE r = none) : ResR r := by
  have h1 := firstE_none (inE_none h)
  have a := withinE_in (h1 (withinE 1 cpuS r.cpu 0 1099511627776) (by simp))
  have b := withinE_in (h1 (withinE 1 memS r.mem 0 1099511627776) (by simp))
  have c := withinE_in (h1 (withinE 1 pidsS r.pids 0 1099511627776) (by simp))
  exact ⟨a, b, c⟩
theorem mostE_in {s : ByteArray} {n least : Int} (h : mostE s n least = none) (hl : 0 ≤ least) : NumR 1099511627776 n := by
  unfold mostE at h
  split at h
  · rename_i h0; subst h0; exact ⟨by omega, by omega⟩
  · have := withinE_in h; exact ⟨by omega, this.2⟩
theorem limE_in {l r : ResD} (h : limE l r = none) (hr : ResR r) : ResR l := by
  have h1 := firstE_none (inE_none h)
  exact ⟨mostE_in (h1 (mostE cpuS l.cpu r.cpu) (by simp)) hr.cpu.1, mostE_in (h1 (mostE memS l.mem r.mem) (by simp)) hr.mem.1, mostE_in (h1 (mostE pidsS l.pids r.pids) (by simp)) hr.pids.1⟩
theorem portStep_in {i : Nat} {ps : List Int} {x : Int} (h : portStep i ps x = none) : 1 ≤ x ∧ x ≤ 65535 := by
  unfold portStep at h
  split at h
  · cases h
  · rename_i h1; exact withinE_in h1
theorem portsFrom_in : ∀ {xs : List Int} {i : Nat} {ps : List Int}, (portsFrom i ps xs).1 = none → ∀ x ∈ xs, 1 ≤ x ∧ x ≤ 65535
  | [], _, _, _, x, hx => by cases hx
  | y :: r, i, ps, h, x, hx => by
    unfold portsFrom at h
    cases hs : portStep i ps y with
    | some e => rw [hs] at h; cases h
    | none =>
      rw [hs] at h
      rcases List.mem_cons.1 hx with rfl | hx
      · exact portStep_in hs
      · exact portsFrom_in (xs := r) h x hx
theorem portE_in {xs : List Int} {most : Int} {ps : List Int} (h : (portE xs most ps).1 = none) : (xs.length : Int) ≤ most ∧ ∀ x ∈ xs, 1 ≤ x ∧ x ≤ 65535 := by
  unfold portE at h
  cases hw : withinE 2 portsS xs.length 0 most with
  | some e => rw [hw] at h; cases h
  | none => rw [hw] at h; exact ⟨(withinE_in hw).2, portsFrom_in h⟩
theorem probeE_in {e f top : Int} (h : probeE e f top = none) : 0 ≤ e ∧ e ≤ top ∧ 0 ≤ f ∧ f ≤ 10 := by
  have h1 := firstE_none (inE_none h)
  have a := withinE_in (h1 (withinE 1 everyS e 0 top) (by simp))
  have b := h1 (if e = 0 then withinE 1 failsS f 0 0 else withinE 1 failsS f 1 10) (by simp)
  split at b
  · have := withinE_in b; omega
  · have := withinE_in b; omega
theorem nameB_len {l : Bytes} (h : nameB l = true) : l.length ≤ 16 ∧ allB l 1 = true := by
  cases l with
  | nil => cases h
  | cons a r =>
    simp only [nameB, Bool.and_eq_true, decide_eq_true_eq] at h
    exact ⟨h.1.1.1, h.1.1.2⟩
theorem nameE_in {c : CtrD} {ns : List ByteArray} (h : nameE c ns = none) : nameB c.name.data.toList = true := by
  unfold nameE at h
  split at h
  · assumption
  · cases h
theorem imageE_in {c : CtrD} (h : imageE c = none) : imgB c.image.data.toList = true := by
  unfold imageE at h
  split at h
  · assumption
  · cases h
theorem cut_len {c : UInt8} : ∀ (l : List UInt8), (Lib.cut l [c]).2.2 = true → l = (Lib.cut l [c]).1 ++ c :: (Lib.cut l [c]).2.1 ∧ c ∉ (Lib.cut l [c]).1
  | [], h => by cases h
  | b :: r, h => by
    rw [cut_cons] at *
    split at h
    · rename_i hb
      rw [if_pos hb, hb]
      exact ⟨rfl, by simp⟩
    · rename_i hb
      rw [if_neg hb]
      have ih := cut_len r h
      refine ⟨?_, ?_⟩
      · exact congrArg (b :: ·) ih.1
      · intro hm
        rcases List.mem_cons.1 hm with e | hm
        · exact hb e.symm
        · exact ih.2 hm
theorem imgB_in {l : Bytes} (h : imgB l = true) : (Lib.cut l [58]).2.2 = true ∧ repoB (Lib.cut l [58]).1 = true ∧ tagB (Lib.cut l [58]).2.1 = true := by
  unfold imgB at h
  simp only [Bool.and_eq_true] at h
  exact ⟨h.1.1, h.1.2, h.2⟩
theorem tagB_len {l : Bytes} (h : tagB l = true) : l.length ≤ 8 := by
  unfold tagB at h
  simp only [Bool.and_eq_true, decide_eq_true_eq] at h
  exact h.1.2
theorem repoB_len {l : Bytes} (h : repoB l = true) : l.length ≤ 24 := by
  unfold repoB at h
  simp only [Bool.and_eq_true, decide_eq_true_eq] at h
  exact h.1
theorem imgB_len {l : Bytes} (h : imgB l = true) : l.length ≤ 33 := by
  obtain ⟨h1, h2, h3⟩ := imgB_in h
  have h4 := congrArg List.length (cut_len l h1).1
  have := repoB_len h2
  have := tagB_len h3
  simp only [List.length_append, List.length_cons] at h4
  omega
theorem contE_in {c : CtrD} {ns : List ByteArray} {ps : List Int} {most every : Int} (h : (contE c ns ps most every).1 = none) (h3 : most ≤ 3) (h1 : every ≤ 1000) : CtrR c ∧ imgB c.image.data.toList = true ∧ nameB c.name.data.toList = true := by
  have hh := firstE_none h
  have a := nameE_in (hh (nameE c ns) (by simp))
  have b := imageE_in (hh (imageE c) (by simp))
  have r := reqE_in (hh (reqE c.req) (by simp))
  have l := limE_in (hh (limE c.lim c.req) (by simp)) r
  have p := portE_in (hh (portE c.ports most ps).1 (by simp))
  have q := probeE_in (hh (probeE c.every c.fails every) (by simp))
  refine ⟨⟨?_, ?_, r, l, by omega, fun x hx => ?_, ⟨q.1, by omega⟩, ⟨q.2.2.1, by omega⟩⟩, b, a⟩
  · rw [size_len]; exact (nameB_len a).1
  · rw [size_len]; exact imgB_len b
  · have := p.2 x hx; exact ⟨by omega, by omega⟩
theorem contsFrom_in {name : ByteArray} {most every : Int} (h3 : most ≤ 3) (h1 : every ≤ 1000) : ∀ {l : List CtrD} {i : Nat} {ns : List ByteArray} {ps : List Int}, (contsFrom name most every i ns ps l).1 = none → ∀ c ∈ l, CtrR c ∧ imgB c.image.data.toList = true ∧ nameB c.name.data.toList = true
  | [], _, _, _, _, c, hc => by cases hc
  | y :: r, i, ns, ps, h, c, hc => by
    unfold contsFrom at h
    cases hs : (contE y ns ps most every).1 with
    | some e => rw [hs] at h; cases h
    | none =>
      rw [hs] at h
      rcases List.mem_cons.1 hc with rfl | hc
      · exact contE_in hs h3 h1
      · exact contsFrom_in h3 h1 (l := r) h c hc
theorem valB_len {l : Bytes} (h : valB l = true) : l.length ≤ 16 := by
  unfold valB at h
  simp only [Bool.and_eq_true, decide_eq_true_eq] at h
  exact h.1
theorem keyB_len {l : Bytes} (h : keyB l = true) : l.length ≤ 33 := by
  unfold keyB at h
  rw [namesB] at h
  split at h
  · rename_i h1
    split at h
    · rename_i h2
      rw [namesB] at h
      split at h
      · rename_i h3
        split at h
        · cases h
        · rename_i h4
          have h4 : (Lib.cut (Lib.cut l [47]).2.1 [47]).2.2 = false := by simpa using h4
          rw [cut_false h4] at h3
          have h5 := congrArg List.length (cut_len l h2).1
          have := (nameB_len h1).1
          have := (nameB_len h3).1
          simp only [List.length_append, List.length_cons] at h5
          omega
      · cases h
    · rename_i h2
      have h2 : (Lib.cut l [47]).2.2 = false := by simpa using h2
      rw [cut_false h2] at h1
      have := (nameB_len h1).1
      omega
  · cases h
theorem labE_in {name : ByteArray} {i : Nat} {x : LabelD} {prev : Option ByteArray} (h : labE name i x prev = none) : LabR x := by
  have hh := firstE_none (inE_none h)
  have a := hh (keyE x prev) (by simp)
  have b := hh (if valB x.val.data.toList then none else some (32, [valS])) (by simp)
  refine ⟨?_, ?_⟩
  · unfold keyE at a
    split at a
    · rename_i h1; rw [size_len]; exact keyB_len h1
    · cases a
  · split at b
    · rename_i h1; rw [size_len]; exact valB_len h1
    · cases b
theorem labsFrom_in {name : ByteArray} : ∀ {l : List LabelD} {i : Nat} {prev : Option ByteArray}, labsFrom name i prev l = none → ∀ x ∈ l, LabR x
  | [], _, _, _, x, hx => by cases hx
  | y :: r, i, prev, h, x, hx => by
    unfold labsFrom at h
    cases hs : labE name i y prev with
    | some e => rw [hs] at h; cases h
    | none =>
      rw [hs] at h
      rcases List.mem_cons.1 hx with rfl | hx
      · exact labE_in hs
      · exact labsFrom_in (l := r) h x hx
theorem labelsE_in {name : ByteArray} {l : List LabelD} (h : labelsE name l = none) : l.length ≤ 4 ∧ ∀ x ∈ l, LabR x := by
  unfold labelsE at h
  split at h
  · cases h
  · exact ⟨by omega, labsFrom_in h⟩
/-- A spec that may be. -/
theorem checkE_parts {s : SpecD} (h : checkE s = none) : check1 s = none ∧ check2 s = none ∧ check3 s = none := by
  unfold checkE at h
  cases h1 : check1 s with
  | some e => rw [h1] at h; cases h
  | none =>
    cases h2 : check2 s with
    | some e => rw [h1, h2] at h; cases h
    | none => rw [h1, h2] at h; exact ⟨rfl, rfl, h⟩
theorem checkE_in {s : SpecD} (h : checkE s = none) : SpecR s ∧ 1 ≤ s.mains.length ∧ ∀ c ∈ s.mains, imgB c.image.data.toList = true := by
  obtain ⟨h1, h2, h3⟩ := checkE_parts h
  have g1 := firstE_none h1
  have g2 := firstE_none h2
  have g3 := firstE_none h3
  have a := g1 (if nameB s.name.data.toList then none else some (30, [nameS])) (by simp)
  have b := labelsE_in (g1 (labelsE labelsS s.labels) (by simp))
  have c := withinE_in (g1 (withinE 2 initS s.inits.length 0 3) (by simp))
  have d := contsFrom_in (by omega) (by omega) (g2 (contsFrom initS 0 0 0 [] [] s.inits).1 (by simp))
  have e := withinE_in (g2 (withinE 2 mainS s.mains.length 1 4) (by simp))
  have f := contsFrom_in (by omega) (by omega) (g3 (contsFrom mainS 3 1000 0 (contsFrom initS 0 0 0 [] [] s.inits).2.1 (contsFrom initS 0 0 0 [] [] s.inits).2.2 s.mains).1 (by simp))
  have r := withinE_in (g3 (withinE 1 restartS s.restart 1 3) (by simp))
  have g := withinE_in (g3 (withinE 1 graceS s.grace 0 1000) (by simp))
  have p := withinE_in (g3 (withinE 1 prioS s.prio 0 10) (by simp))
  refine ⟨⟨?_, b.1, b.2, by omega, fun x hx => (d x hx).1, by omega, fun x hx => (f x hx).1, ⟨by omega, by omega⟩, ⟨by omega, by omega⟩, ⟨by omega, by omega⟩⟩, by omega, fun x hx => (f x hx).2.1⟩
  split at a
  · rename_i h0; rw [size_len]; exact (nameB_len h0).1
  · cases a
end Go.Proofs.YtgelbkgkjkeccaaGreatDoor
