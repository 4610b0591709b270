/- The statement SpecUpdates: the walk. -/
import Derived.Test.YtgelbkgkjkeccaaGreatDoorZJ
import Derived.Laws.RangeString
import Derived.Laws.RangeAny
import Derived.StillTailTactics
import Derived.Outline
namespace Go.Proofs.YtgelbkgkjkeccaaGreatDoor
open Go.RowKit

theorem OCtrs.head {I : Nat → Prop} {w : World} {a : Option Addr} {c : Nat} {l : List CtrD} (h : OCtrs I w (.slice a l.length c) l) (h0 : 0 < l.length) : ∃ g, a = some ⟨g, 0, none⟩ ∧ I g := by
  obtain ⟨g, qs, h1, _, _, h4, _⟩ := h.spoil h0
  exact ⟨g, h1, h4⟩
theorem OCtrs.cellAt {I : Nat → Prop} {w : World} {g n c : Nat} {l : List CtrD} (h : OCtrs I w (.slice (some ⟨g, 0, none⟩) n c) l) (k o : Nat) (hk : k < l.length) (ho : o < 11) :
    (∃ x, w.cell? ⟨g, k * 11 + o, none⟩ = some x) ∧ w.frozen? ⟨g, k * 11 + o, none⟩ = false := by
  obtain ⟨qs, hq, hR, _⟩ := h
  rcases hR.2 with ⟨h0, _⟩ | ⟨g', cap, cur, hv, hI, hh, h1, h2, h3⟩
  · cases h0
  · injection hv with ha _ _
    injection ha with ha
    injection ha with ha
    subst ha
    have hlt : k * 11 + o < cur.size := by rw [h2]; omega
    exact ⟨⟨cur[k * 11 + o], by simp [World.cell?, hh, hlt]⟩, by simp [World.frozen?, hh]⟩
theorem retag_get {img : ByteArray} {r t : List UInt8} (h : img.data.toList = r ++ 58 :: t) (p : Nat) (hp : p < img.size) (hlt : p < r.length) : img[p] = r[p] := by
  have e : img[p] = img.data.toList[p]'(by rw [← size_len]; exact hp) := rfl
  rw [e]
  simp only [h]
  exact List.getElem_append_left hlt
theorem retag_mark {img : ByteArray} {r t : List UInt8} (h : img.data.toList = r ++ 58 :: t) (hp : r.length < img.size) : img[r.length] = 58 := by
  have e : img[r.length] = img.data.toList[r.length]'(by rw [← size_len]; exact hp) := rfl
  rw [e]
  simp only [h]
  rw [List.getElem_append_right (Nat.le_refl _)]
  simp
theorem repoB_ascii {r : List UInt8} (h : repoB r = true) : ∀ b ∈ r, b.toNat < 128 := by
  have hs : ∀ l : List UInt8, ∀ b ∈ l, b = 47 ∨ ∃ x ∈ splitB 47 l, b ∈ x := by
    intro l
    induction l with
    | nil => intro b hb; cases hb
    | cons c l ih =>
      intro b hb
      simp only [splitB]
      split
      · rename_i hc
        rcases List.mem_cons.1 hb with rfl | hb
        · exact .inl hc
        · rcases ih b hb with h | ⟨x, hx, hm⟩
          · exact .inl h
          · exact .inr ⟨x, by simp [hx], hm⟩
      · cases hsp : splitB 47 l with
        | nil => have := splitB_pos 47 l; rw [hsp] at this; simp at this
        | cons y ys =>
          rcases List.mem_cons.1 hb with rfl | hb
          · exact .inr ⟨b :: y, by simp, by simp⟩
          · rcases ih b hb with h | ⟨x, hx, hm⟩
            · exact .inl h
            · rw [hsp] at hx
              rcases List.mem_cons.1 hx with rfl | hx
              · exact .inr ⟨c :: x, by simp, by simp [hm]⟩
              · exact .inr ⟨x, by simp [hx], hm⟩
  intro b hb
  rw [repoB_split] at h
  simp only [Bool.and_eq_true, List.all_eq_true] at h
  rcases hs r b hb with rfl | ⟨x, hx, hm⟩
  · decide
  · have h1 := (nameB_len (h.2 x hx)).2
    unfold allB at h1
    have h2 := List.all_eq_true.1 h1 b hm
    rw [ok1_small] at h2
    unfold smallB at h2
    simp only [Bool.or_eq_true, Bool.and_eq_true, decide_eq_true_eq, beq_iff_eq] at h2
    rcases h2 with (h2 | h2) | h2
    · omega
    · omega
    · subst h2; decide
theorem retag_ba {img : ByteArray} {r t : List UInt8} (h : img.data.toList = r ++ 58 :: t) (hc : (Lib.cut img.data.toList [58]).1 = r) : img.extract 0 r.length ++ ⟨#[58, 57]⟩ = retag img := by
  apply ByteArray.ext
  apply Array.ext'
  have e : (img.extract 0 r.length).data.toList = r := by
    rw [ByteArray.data_extract, Array.toList_extract, h]
    simp
  rw [ByteArray.data_append, Array.toList_append, e]
  unfold retag retagL
  rw [hc]
/-- Contracts whose containers' number is told beside. -/
theorem Frozen_to (I J : Nat → Prop) (a b : SpecD) (la ia ma lb ib mb : Option Addr) (lc ic mc kc jc nc n : Nat) (hn : b.mains.length = n) (w : World) (ha : ISpec I w a (.slice la a.labels.length lc) (.slice ia a.inits.length ic) (.slice ma a.mains.length mc)) (hb : ISpec J w b (.slice lb b.labels.length kc) (.slice ib b.inits.length jc) (.slice mb n nc)) (oa : SpecOk a) (ob : SpecOk b) (hm : LaidMarks w) :
    Calls Tryz.prog 37 #[specV a (.slice la a.labels.length lc) (.slice ia a.inits.length ic) (.slice ma a.mains.length mc), specV b (.slice lb b.labels.length kc) (.slice ib b.inits.length jc) (.slice mb n nc)] w (RetErr w (frozenE a b)) := by
  subst hn; exact Frozen_any I J a b la ia ma lb ib mb lc ic mc kc jc nc w ha hb oa ob hm
theorem Frozen_of (I J : Nat → Prop) (a b : SpecD) (la ia ma lb ib mb : Option Addr) (lc ic mc kc jc nc n : Nat) (hn : a.mains.length = n) (w : World) (ha : ISpec I w a (.slice la a.labels.length lc) (.slice ia a.inits.length ic) (.slice ma n mc)) (hb : ISpec J w b (.slice lb b.labels.length kc) (.slice ib b.inits.length jc) (.slice mb b.mains.length nc)) (oa : SpecOk a) (ob : SpecOk b) (hm : LaidMarks w) :
    Calls Tryz.prog 37 #[specV a (.slice la a.labels.length lc) (.slice ia a.inits.length ic) (.slice ma n mc), specV b (.slice lb b.labels.length kc) (.slice ib b.inits.length jc) (.slice mb b.mains.length nc)] w (RetErr w (frozenE a b)) := by
  subst hn; exact Frozen_any I J a b la ia ma lb ib mb lc ic mc kc jc nc w ha hb oa ob hm
theorem specSame_to (I J : Nat → Prop) (a b : SpecD) (la ia ma lb ib mb : Option Addr) (lc ic mc kc jc nc n : Nat) (hn : b.mains.length = n) (hne : decide (a = b) = false) (w : World) (ha : ISpec I w a (.slice la a.labels.length lc) (.slice ia a.inits.length ic) (.slice ma a.mains.length mc)) (hb : ISpec J w b (.slice lb b.labels.length kc) (.slice ib b.inits.length jc) (.slice mb n nc)) (oa : SpecOk a) (ob : SpecOk b) :
    Calls Tryz.prog 32 #[specV a (.slice la a.labels.length lc) (.slice ia a.inits.length ic) (.slice ma a.mains.length mc), specV b (.slice lb b.labels.length kc) (.slice ib b.inits.length jc) (.slice mb n nc)] w fun e w' => e = .returned (.bool false) ∧ Below w.heap.size w w' := by
  subst hn
  have h := specSame_any I J a b la ia ma lb ib mb lc ic mc kc jc nc w ha hb oa ob
  rw [hne] at h
  exact h
/-- now, as it is read: the labels of another spec, the rest its own. -/
theorem now_spec {I J K : Nat → Prop} {w : World} {s t : SpecD} {ms : List CtrD} {lv iv mv : Value} (hl : ILabs I w lv t.labels) (hi : OCtrs J w iv s.inits) (hm : OCtrs K w mv ms) : ISpec (fun _ => True) w (updS s t ms) lv iv mv :=
  ⟨hl.mono fun _ _ => trivial, hi.I.mono fun _ _ => trivial, hm.I.mono fun _ _ => trivial⟩
theorem updS_ok {s t : SpecD} {ms : List CtrD} (hs : SpecOk s) (ht : SpecOk t) (hm : CtrsOk ms) : SpecOk (updS s t ms) := ⟨hs.name, ht.labs, ht.nlabs, hs.inits, hm⟩
theorem ctrsOk_set {l : List CtrD} (h : CtrsOk l) (k : Nat) (c : CtrD) (hc : CtrOk c) : CtrsOk (l.set k c) := by
  refine ⟨by rw [List.length_set]; exact h.1, fun x hx => ?_⟩
  rcases List.mem_or_eq_of_mem_set hx with hx | rfl
  · exact h.2 x hx
  · exact hc
theorem iter_below (w : World) (s : ByteArray) (p : Nat) : Below w.heap.size w (w.iter s p) := bnew _ _

set_option maxHeartbeats 12000000 in
set_option maxRecDepth 100000 in
theorem SpecUpdates_any (a b : SpecD) (la ia ma lb ib mb : Option Addr) (lc ic mc kc jc nc : Nat) (n : Int) (hn1 : -9223372036854775808 ≤ n) (hn2 : n ≤ 9223372036854775807) (w : World) (ha : ISpec (· < w.heap.size) w a (.slice la a.labels.length lc) (.slice ia a.inits.length ic) (.slice ma a.mains.length mc)) (hb : ISpec (· < w.heap.size) w b (.slice lb b.labels.length kc) (.slice ib b.inits.length jc) (.slice mb b.mains.length nc)) (hm : LaidMarks w) (hg : ErrTyped w) :
    Calls Tryz.prog 4 #[specV a (.slice la a.labels.length lc) (.slice ia a.inits.length ic) (.slice ma a.mains.length mc), specV b (.slice lb b.labels.length kc) (.slice ib b.inits.length jc) (.slice mb b.mains.length nc), .int .i64 n] w fun e w' => e = .returned (.bool true) ∧ Below w.heap.size w w' := by
  have hgl := hg.lt
  go_enter Tryz.func4, Tryz.ntmps4
  go_wp2_with fail
  obtain ⟨W, hW⟩ : ∃ W, W = ((w.alloc (.cells #[.string a.name, .slice la a.labels.length lc, .slice ia a.inits.length ic, .slice ma a.mains.length mc, .int .i64 a.restart, .int .i64 a.grace, .int .i64 a.prio] 25)).alloc (.cells #[.string b.name, .slice lb b.labels.length kc, .slice ib b.inits.length jc, .slice mb b.mains.length nc, .int .i64 b.restart, .int .i64 b.grace, .int .i64 b.prio] 25)) := ⟨_, rfl⟩
  have B0 : Below w.heap.size w W := by rw [hW]; exact bto (bnew _ _) (bnew _ _)
  have s0 : W.heap.size = w.heap.size + 2 := by rw [hW]; simp
  have gA : W.heap[w.heap.size]? = some (.cells #[.string a.name, .slice la a.labels.length lc, .slice ia a.inits.length ic, .slice ma a.mains.length mc, .int .i64 a.restart, .int .i64 a.grace, .int .i64 a.prio] 25 (0, 0)) := by rw [hW, Below.heap_alloc _ _ _ (by simp)]; exact heap_alloc_new _ _
  have gB : W.heap[w.heap.size + 1]? = some (.cells #[.string b.name, .slice lb b.labels.length kc, .slice ib b.inits.length jc, .slice mb b.mains.length nc, .int .i64 b.restart, .int .i64 b.grace, .int .i64 b.prio] 25 (0, 0)) := by
    rw [hW]
    have := heap_alloc_new (w.alloc (.cells #[.string a.name, .slice la a.labels.length lc, .slice ia a.inits.length ic, .slice ma a.mains.length mc, .int .i64 a.restart, .int .i64 a.grace, .int .i64 a.prio] 25)) (.cells #[.string b.name, .slice lb b.labels.length kc, .slice ib b.inits.length jc, .slice mb b.mains.length nc, .int .i64 b.restart, .int .i64 b.grace, .int .i64 b.prio] 25)
    simpa using this
  rw [← hW]
  clear hW
  have HA := Lib.hid (ha.below B0)
  have HB := Lib.hid (hb.below B0)
  have HM := Lib.hid (hm.below B0)
  have HG := Lib.hid (hg.below B0 hgl)
  have HB0 := Lib.hid B0
  have HS0 := Lib.hid s0
  have GA := Lib.hid gA
  have GB := Lib.hid gB
  have hgl2 : 1 < W.heap.size := by omega
  clear gA gB ha hb hm hg B0 s0
  refine (works06_any W HM.out HG.out).mono ?_
  rintro e w1 ⟨rfl, hb1⟩
  have HX1 := Lib.hid hb1
  clear hb1
  have a0 : w1.cell? ⟨w.heap.size, 0, none⟩ = some (.string a.name) := keepc HX1.out (by simp [World.cell?, GA.out])
  have a1 : w1.cell? ⟨w.heap.size, 1, none⟩ = some (.slice la a.labels.length lc) := keepc HX1.out (by simp [World.cell?, GA.out])
  have a2 : w1.cell? ⟨w.heap.size, 2, none⟩ = some (.slice ia a.inits.length ic) := keepc HX1.out (by simp [World.cell?, GA.out])
  have a3 : w1.cell? ⟨w.heap.size, 3, none⟩ = some (.slice ma a.mains.length mc) := keepc HX1.out (by simp [World.cell?, GA.out])
  have a4 : w1.cell? ⟨w.heap.size, 4, none⟩ = some (.int .i64 a.restart) := keepc HX1.out (by simp [World.cell?, GA.out])
  have a5 : w1.cell? ⟨w.heap.size, 5, none⟩ = some (.int .i64 a.grace) := keepc HX1.out (by simp [World.cell?, GA.out])
  have a6 : w1.cell? ⟨w.heap.size, 6, none⟩ = some (.int .i64 a.prio) := keepc HX1.out (by simp [World.cell?, GA.out])
  go_wp2_with fail
  refine (Light_any _ a la ia ma lc ic mc w1 (HA.out.below HX1.out)).mono ?_
  rintro e w2 ⟨rfl, hb2⟩
  have HX2 := Lib.hid (bto HX1.out hb2)
  clear hb2
  clear a0 a1 a2 a3 a4 a5 a6
  cases hla : lightS a with
  | false =>
    go_wp2
    go_ret
    exact ⟨rfl, bto HB0.out HX2.out⟩
  | true =>
    have hoa := lightS_ok hla
    have b0 : w2.cell? ⟨w.heap.size + 1, 0, none⟩ = some (.string b.name) := keepc HX2.out (by simp [World.cell?, GB.out])
    have b1 : w2.cell? ⟨w.heap.size + 1, 1, none⟩ = some (.slice lb b.labels.length kc) := keepc HX2.out (by simp [World.cell?, GB.out])
    have b2 : w2.cell? ⟨w.heap.size + 1, 2, none⟩ = some (.slice ib b.inits.length jc) := keepc HX2.out (by simp [World.cell?, GB.out])
    have b3 : w2.cell? ⟨w.heap.size + 1, 3, none⟩ = some (.slice mb b.mains.length nc) := keepc HX2.out (by simp [World.cell?, GB.out])
    have b4 : w2.cell? ⟨w.heap.size + 1, 4, none⟩ = some (.int .i64 b.restart) := keepc HX2.out (by simp [World.cell?, GB.out])
    have b5 : w2.cell? ⟨w.heap.size + 1, 5, none⟩ = some (.int .i64 b.grace) := keepc HX2.out (by simp [World.cell?, GB.out])
    have b6 : w2.cell? ⟨w.heap.size + 1, 6, none⟩ = some (.int .i64 b.prio) := keepc HX2.out (by simp [World.cell?, GB.out])
    go_wp2_with fail
    refine (Light_any _ b lb ib mb kc jc nc w2 (HB.out.below HX2.out)).mono ?_
    rintro e w3 ⟨rfl, hb3⟩
    have HX3 := Lib.hid (bto HX2.out hb3)
    clear hb3
    clear b0 b1 b2 b3 b4 b5 b6
    cases hlb : lightS b with
    | false =>
      go_wp2
      go_ret
      exact ⟨rfl, bto HB0.out HX3.out⟩
    | true =>
      have hob := lightS_ok hlb
      have a0 : w3.cell? ⟨w.heap.size, 0, none⟩ = some (.string a.name) := keepc HX3.out (by simp [World.cell?, GA.out])
      have a1 : w3.cell? ⟨w.heap.size, 1, none⟩ = some (.slice la a.labels.length lc) := keepc HX3.out (by simp [World.cell?, GA.out])
      have a2 : w3.cell? ⟨w.heap.size, 2, none⟩ = some (.slice ia a.inits.length ic) := keepc HX3.out (by simp [World.cell?, GA.out])
      have a3 : w3.cell? ⟨w.heap.size, 3, none⟩ = some (.slice ma a.mains.length mc) := keepc HX3.out (by simp [World.cell?, GA.out])
      have a4 : w3.cell? ⟨w.heap.size, 4, none⟩ = some (.int .i64 a.restart) := keepc HX3.out (by simp [World.cell?, GA.out])
      have a5 : w3.cell? ⟨w.heap.size, 5, none⟩ = some (.int .i64 a.grace) := keepc HX3.out (by simp [World.cell?, GA.out])
      have a6 : w3.cell? ⟨w.heap.size, 6, none⟩ = some (.int .i64 a.prio) := keepc HX3.out (by simp [World.cell?, GA.out])
      go_wp2_with fail
      refine (Check_any a _ ia ma ic mc w3 hoa (HM.out.below HX3.out) (laid_lt (HM.out.below HX3.out)) (HA.out.labs.below HX3.out).R (HA.out.inits.below HX3.out).R (HA.out.mains.below HX3.out).R).mono ?_
      rintro e w4 ⟨v4, rfl, hr4, hb4⟩
      have HX4 := Lib.hid (bto HX3.out hb4)
      clear hb4
      clear a0 a1 a2 a3 a4 a5 a6
      cases hck : checkE a with
      | some y =>
        rw [hck] at hr4
        obtain ⟨t, z, rfl⟩ := RErr.held (show RErr _ _ v4 y.1 y.2 from hr4)
        clear hr4 hck
        go_wp2
        go_ret
        exact ⟨rfl, bto HB0.out HX4.out⟩
      | none =>
        rw [hck] at hr4
        have h4 : v4 = .nilIface := hr4
        subst h4
        obtain ⟨hR, hm1, himg⟩ := checkE_in hck
        clear hr4 hck
        have a0 : w4.cell? ⟨w.heap.size, 0, none⟩ = some (.string a.name) := keepc HX4.out (by simp [World.cell?, GA.out])
        have a1 : w4.cell? ⟨w.heap.size, 1, none⟩ = some (.slice la a.labels.length lc) := keepc HX4.out (by simp [World.cell?, GA.out])
        have a2 : w4.cell? ⟨w.heap.size, 2, none⟩ = some (.slice ia a.inits.length ic) := keepc HX4.out (by simp [World.cell?, GA.out])
        have a3 : w4.cell? ⟨w.heap.size, 3, none⟩ = some (.slice ma a.mains.length mc) := keepc HX4.out (by simp [World.cell?, GA.out])
        have a4 : w4.cell? ⟨w.heap.size, 4, none⟩ = some (.int .i64 a.restart) := keepc HX4.out (by simp [World.cell?, GA.out])
        have a5 : w4.cell? ⟨w.heap.size, 5, none⟩ = some (.int .i64 a.grace) := keepc HX4.out (by simp [World.cell?, GA.out])
        have a6 : w4.cell? ⟨w.heap.size, 6, none⟩ = some (.int .i64 a.prio) := keepc HX4.out (by simp [World.cell?, GA.out])
        have b0 : w4.cell? ⟨w.heap.size + 1, 0, none⟩ = some (.string b.name) := keepc HX4.out (by simp [World.cell?, GB.out])
        have b1 : w4.cell? ⟨w.heap.size + 1, 1, none⟩ = some (.slice lb b.labels.length kc) := keepc HX4.out (by simp [World.cell?, GB.out])
        have b2 : w4.cell? ⟨w.heap.size + 1, 2, none⟩ = some (.slice ib b.inits.length jc) := keepc HX4.out (by simp [World.cell?, GB.out])
        have b3 : w4.cell? ⟨w.heap.size + 1, 3, none⟩ = some (.slice mb b.mains.length nc) := keepc HX4.out (by simp [World.cell?, GB.out])
        have b4 : w4.cell? ⟨w.heap.size + 1, 4, none⟩ = some (.int .i64 b.restart) := keepc HX4.out (by simp [World.cell?, GB.out])
        have b5 : w4.cell? ⟨w.heap.size + 1, 5, none⟩ = some (.int .i64 b.grace) := keepc HX4.out (by simp [World.cell?, GB.out])
        have b6 : w4.cell? ⟨w.heap.size + 1, 6, none⟩ = some (.int .i64 b.prio) := keepc HX4.out (by simp [World.cell?, GB.out])
        go_wp2_with fail
        refine (Clone_any2 _ a la ia ma lc ic mc w4 hoa (HA.out.below HX4.out)).mono ?_
        rintro e w5 ⟨lv, iv, mv, rfl, hO5, hb5, mid, hI5, hM5, hmid1, hmid2⟩
        obtain ⟨l1, i1, m1, dc1, dc2, dc3, rfl, rfl, rfl⟩ := hO5.forms
        obtain ⟨g, rfl, hIg⟩ := hM5.head (by omega)
        have HX5 := Lib.hid (bto HX4.out hb5)
        have HI5 := Lib.hid hI5
        have HM5 := Lib.hid hM5
        have hz5 : w.heap.size + 1 < w5.heap.size := by have := HX5.out.size; have := HS0.out; omega
        have hy5 : w.heap.size < w5.heap.size := by omega
        have hz4 : w.heap.size + 1 < w4.heap.size := by have := HX4.out.size; have := HS0.out; omega
        have hg3 : mid ≤ g := hIg.1
        have hg4 : w4.heap.size ≤ g := by omega
        have hg5 : g < w5.heap.size := hIg.2
        clear hb5 hO5 hI5 hM5
        clear a0 a1 a2 a3 a4 a5 a6 b0 b1 b2 b3 b4 b5 b6
        have a0 : w5.cell? ⟨w.heap.size, 0, none⟩ = some (.string a.name) := keepc HX5.out (by simp [World.cell?, GA.out])
        have a1 : w5.cell? ⟨w.heap.size, 1, none⟩ = some (.slice la a.labels.length lc) := keepc HX5.out (by simp [World.cell?, GA.out])
        have a2 : w5.cell? ⟨w.heap.size, 2, none⟩ = some (.slice ia a.inits.length ic) := keepc HX5.out (by simp [World.cell?, GA.out])
        have a3 : w5.cell? ⟨w.heap.size, 3, none⟩ = some (.slice ma a.mains.length mc) := keepc HX5.out (by simp [World.cell?, GA.out])
        have a4 : w5.cell? ⟨w.heap.size, 4, none⟩ = some (.int .i64 a.restart) := keepc HX5.out (by simp [World.cell?, GA.out])
        have a5 : w5.cell? ⟨w.heap.size, 5, none⟩ = some (.int .i64 a.grace) := keepc HX5.out (by simp [World.cell?, GA.out])
        have a6 : w5.cell? ⟨w.heap.size, 6, none⟩ = some (.int .i64 a.prio) := keepc HX5.out (by simp [World.cell?, GA.out])
        have b0 : w5.cell? ⟨w.heap.size + 1, 0, none⟩ = some (.string b.name) := keepc HX5.out (by simp [World.cell?, GB.out])
        have b1 : w5.cell? ⟨w.heap.size + 1, 1, none⟩ = some (.slice lb b.labels.length kc) := keepc HX5.out (by simp [World.cell?, GB.out])
        have b2 : w5.cell? ⟨w.heap.size + 1, 2, none⟩ = some (.slice ib b.inits.length jc) := keepc HX5.out (by simp [World.cell?, GB.out])
        have b3 : w5.cell? ⟨w.heap.size + 1, 3, none⟩ = some (.slice mb b.mains.length nc) := keepc HX5.out (by simp [World.cell?, GB.out])
        have b4 : w5.cell? ⟨w.heap.size + 1, 4, none⟩ = some (.int .i64 b.restart) := keepc HX5.out (by simp [World.cell?, GB.out])
        have b5 : w5.cell? ⟨w.heap.size + 1, 5, none⟩ = some (.int .i64 b.grace) := keepc HX5.out (by simp [World.cell?, GB.out])
        have b6 : w5.cell? ⟨w.heap.size + 1, 6, none⟩ = some (.int .i64 b.prio) := keepc HX5.out (by simp [World.cell?, GB.out])
        go_wp2_with fail
        obtain ⟨W6, hW6⟩ : ∃ W6, W6 = w5.alloc (.cells #[.string a.name, .slice lb b.labels.length kc, .slice i1 a.inits.length dc2, .slice (some ⟨g, 0, none⟩) a.mains.length dc3, .int .i64 b.restart, .int .i64 b.grace, .int .i64 b.prio] 25) := ⟨_, rfl⟩
        have b56 : Below w5.heap.size w5 W6 := by rw [hW6]; exact bnew _ _
        have s6 : W6.heap.size = w5.heap.size + 1 := by rw [hW6]; simp
        have gC : W6.heap[w5.heap.size]? = some (.cells #[.string a.name, .slice lb b.labels.length kc, .slice i1 a.inits.length dc2, .slice (some ⟨g, 0, none⟩) a.mains.length dc3, .int .i64 b.restart, .int .i64 b.grace, .int .i64 b.prio] 25 (0, 0)) := by rw [hW6]; exact heap_alloc_new _ _
        rw [← hW6]
        clear hW6
        have HX6 := Lib.hid (bto HX5.out b56)
        have HI6 := Lib.hid (HI5.out.kept (kept_false b56) fun _ _ h => h)
        have HM6 := Lib.hid (HM5.out.kept (kept_false b56) fun _ _ h => h)
        have GC := Lib.hid gC
        have HS6 := Lib.hid s6
        obtain ⟨k, hk⟩ : ∃ k : Nat, n % (a.mains.length : Int) = k := ⟨(n % (a.mains.length : Int)).toNat, (Int.toNat_of_nonneg (Int.emod_nonneg _ (by omega))).symm⟩
        have hkl : k < a.mains.length := by have := Int.emod_lt_of_pos n (show (0 : Int) < a.mains.length by omega); omega
        have hBe := Below_any n a.mains.length W6 (by omega) (by have := hoa.mains.1; omega) hn1 hn2
        rw [hk] at hBe
        have HBe := Lib.hid hBe
        clear b56 s6 gC hBe hk
        clear a0 a1 a2 a3 a4 a5 a6 b0 b1 b2 b3 b4 b5 b6
        obtain ⟨bm, off, hma, hmc, hIb, hrm⟩ := HA.out.mains.at (by omega)
        subst hma
        obtain ⟨c, hc⟩ : ∃ c, c = a.mains[k] := ⟨_, rfl⟩
        obtain ⟨qa, qc, hqq, hcells⟩ := hrm k hkl
        rw [← hc] at hcells
        have hbm : bm < w.heap.size := hIb
        have x1 : W6.cell? ⟨bm, off + k * 11 + 1, none⟩ = some (.string c.image) := keepc HX6.out (hcells 1 _ rfl)
        have HX2c : Hid (W.cell? ⟨bm, off + k * 11 + 2, none⟩ = some (.int .i64 c.req.cpu)) := Lib.hid (hcells 2 _ rfl)
        have himc : imgB c.image.data.toList = true := by rw [hc]; exact himg _ (List.getElem_mem hkl)
        have hcR : 0 ≤ c.req.cpu ∧ c.req.cpu ≤ 1099511627776 := by rw [hc]; exact (hR.mains _ (List.getElem_mem hkl)).req.cpu
        have HC := Lib.hid hc
        have HIM := Lib.hid himc
        clear hrm hqq hcells himg hR hc
        have a0 : W6.cell? ⟨w.heap.size, 0, none⟩ = some (.string a.name) := keepc HX6.out (by simp [World.cell?, GA.out])
        have a1 : W6.cell? ⟨w.heap.size, 1, none⟩ = some (.slice la a.labels.length lc) := keepc HX6.out (by simp [World.cell?, GA.out])
        have a2 : W6.cell? ⟨w.heap.size, 2, none⟩ = some (.slice ia a.inits.length ic) := keepc HX6.out (by simp [World.cell?, GA.out])
        have a3 : W6.cell? ⟨w.heap.size, 3, none⟩ = some (.slice (some ⟨bm, off, none⟩) a.mains.length mc) := keepc HX6.out (by simp [World.cell?, GA.out])
        have a4 : W6.cell? ⟨w.heap.size, 4, none⟩ = some (.int .i64 a.restart) := keepc HX6.out (by simp [World.cell?, GA.out])
        have a5 : W6.cell? ⟨w.heap.size, 5, none⟩ = some (.int .i64 a.grace) := keepc HX6.out (by simp [World.cell?, GA.out])
        have a6 : W6.cell? ⟨w.heap.size, 6, none⟩ = some (.int .i64 a.prio) := keepc HX6.out (by simp [World.cell?, GA.out])
        go_wp2_with fail
        refine HBe.out.mono ?_
        rintro e w7 ⟨rfl, rfl⟩
        obtain ⟨hcut, hrepo, _⟩ := imgB_in himc
        obtain ⟨hsp, hno⟩ := cut_len _ hcut
        obtain ⟨r, hr⟩ : ∃ r, r = (Lib.cut c.image.data.toList [58]).1 := ⟨_, rfl⟩
        obtain ⟨t, ht⟩ : ∃ t, t = (Lib.cut c.image.data.toList [58]).2.1 := ⟨_, rfl⟩
        rw [← hr, ← ht] at hsp
        rw [← hr] at hno hrepo
        have hsz : r.length < c.image.size := by rw [size_len, hsp]; simp
        have HSP := Lib.hid hsp
        have HAS := Lib.hid (repoB_ascii hrepo)
        have HNO := Lib.hid hno
        have HRT := Lib.hid (retag_ba hsp hr.symm)
        clear hcut hrepo hsp hno hr ht himc
        go_wp2_with fail
        go_loopw [9] (fun v w' => v = .string c.image ∧ ∃ p : Nat, p ≤ r.length ∧ w' = W6.iter c.image p) (fun _ w' => c.image.size - w'.iterPos W6.heap.size)
        case atStart => exact ⟨rfl, 0, Nat.zero_le _, rfl⟩
        case round =>
          obtain ⟨rfl, p, hp, rfl⟩ := hrel
          have hpi : p < c.image.size := by omega
          by_cases hlt : p < r.length
          · have hgp := retag_get HSP.out p hpi hlt
            have hasc : (c.image[p]).toNat < 128 := by rw [hgp]; exact HAS.out _ (List.getElem_mem hlt)
            have hne : ((c.image[p].toNat : Int) == 58) = false := by
              simp only [beq_eq_false_iff_ne, ne_eq]
              intro e
              have : c.image[p] = 58 := UInt8.toNat_inj.1 (by show _ = 58; omega)
              exact HNO.out (by rw [← this, hgp]; exact List.getElem_mem hlt)
            have hnx : ∀ ty, (Instr.next (.pointer (some ⟨W6.heap.size, 0, none⟩)) true ty).run Tryz.prog (W6.iter c.image p) = _ := fun ty => run_next_ascii W6 c.image p ty hpi hasc
            clear hgp
            go_wp2
            go_roundw
            case rel => exact ⟨rfl, p + 1, by omega, rfl⟩
            case measure => simp; omega
          · have hpe : p = r.length := by omega
            have hmk := retag_mark HSP.out hsz
            have hasc : c.image[p].toNat < 128 := by simp only [hpe, hmk]; decide
            have heq : ((c.image[p].toNat : Int) == 58) = true := by simp only [hpe, hmk]; decide
            have hnx : ∀ ty, (Instr.next (.pointer (some ⟨W6.heap.size, 0, none⟩)) true ty).run Tryz.prog (W6.iter c.image p) = _ := fun ty => run_next_ascii W6 c.image p ty hpi hasc
            have HRP : Hid (c.image.extract 0 p ++ ⟨#[58, 57]⟩ = retag c.image) := by rw [hpe]; exact HRT
            clear hmk hpe hlt
            have HXi := Lib.hid (iter_below W6 c.image (p + 1))
            have HIi := Lib.hid (HI6.out.kept (kept_false HXi.out) fun _ _ h => h)
            have HMi := Lib.hid (HM6.out.kept (kept_false HXi.out) fun _ _ h => h)
            have c3 : (W6.iter c.image (p + 1)).cell? ⟨w5.heap.size, 3, none⟩ = some (.slice (some ⟨g, 0, none⟩) a.mains.length dc3) := keepc HXi.out (by simp [World.cell?, GC.out])
            have hci : c.image.size ≤ 1000 := by have := hoa.mains.2 _ (List.getElem_mem hkl); rw [← HC.out] at this; exact this.2.1
            have hce : (c.image.extract 0 p).size ≤ 1000 := by rw [ByteArray.size_extract]; omega
            obtain ⟨⟨y1, hy1⟩, hf1⟩ := HMi.out.cellAt k 1 hkl (by omega)
            have hK7 : Kept (· = g) (W6.iter c.image (p + 1)) ((W6.iter c.image (p + 1)).setCell ⟨g, k * 11 + 1, none⟩ (.string (c.image.extract 0 p ++ ⟨#[58, 57]⟩))) := kept_set _ _ _ _
            have hM7 : OCtrs (Ran mid w5.heap.size) ((W6.iter c.image (p + 1)).setCell ⟨g, k * 11 + 1, none⟩ (.string (c.image.extract 0 p ++ ⟨#[58, 57]⟩))) (.slice (some ⟨g, 0, none⟩) a.mains.length dc3) (a.mains.set k (tagC c)) := HMi.out.put k hkl 1 (by omega) (tagC c) _ (fun q => by rw [← HC.out, HRP.out]; rfl) (by rw [← HC.out])
            have HK7 := Lib.hid hK7
            have HM7 := Lib.hid hM7
            have HI7 : Hid (OCtrs (Ran w4.heap.size mid) ((W6.iter c.image (p + 1)).setCell ⟨g, k * 11 + 1, none⟩ (.string (c.image.extract 0 p ++ ⟨#[58, 57]⟩))) (.slice i1 a.inits.length dc2) a.inits) := Lib.hid (HIi.out.kept hK7 fun i hi e => by have := hi.2; omega)
            have HXW : Hid (Below W.heap.size W (W6.iter c.image (p + 1))) := bto HX6.out HXi.out
            have HA7 := Lib.hid ((HA.out.below HXW.out).kept hK7 fun i hi e => by have h1 : i < w.heap.size := hi; have h2 : i = g := e; omega)
            have HB7 := Lib.hid ((HB.out.labs.below HXW.out).kept hK7 fun i hi e => by have h1 : i < w.heap.size := hi; have h2 : i = g := e; omega)
            have HM7b : Hid (LaidMarks ((W6.iter c.image (p + 1)).setCell ⟨g, k * 11 + 1, none⟩ (.string (c.image.extract 0 p ++ ⟨#[58, 57]⟩)))) := Lib.hid ((HM.out.below HXW.out).kept hK7 (by have := laid_lt HM.out; have := HS0.out; omega))
            have HX7 : Hid (Below W.heap.size W ((W6.iter c.image (p + 1)).setCell ⟨g, k * 11 + 1, none⟩ (.string (c.image.extract 0 p ++ ⟨#[58, 57]⟩)))) := Lib.hid (belowk0 HXW.out hK7 (fun i hi => by have h2 : i = g := hi; have := HX4.out.size; omega) HXW.out.size)
            have hcc : CtrOk (tagC c) := ⟨(by have := hoa.mains.2 _ (List.getElem_mem hkl); rw [← HC.out] at this; exact this.1), (by show (retag c.image).size ≤ 1000; have := retag_len HIM.out; unfold retag; rw [mk_size]; omega), (by have := hoa.mains.2 _ (List.getElem_mem hkl); rw [← HC.out] at this; exact this.2.2)⟩
            have HN7 := Lib.hid (now_spec (s := a) (t := b) HB7.out HI7.out HM7.out)
            have HOK7 := Lib.hid (updS_ok hoa hob (ctrsOk_set hoa.mains k (tagC c) hcc))
            have HFR := Lib.hid (upd_free a b k hkl (by rw [← HC.out]; exact HIM.out))
            rw [← HC.out] at HFR
            have hl7 : (a.mains.set k (tagC c)).length = a.mains.length := List.length_set
            have a0 : ((W6.iter c.image (p + 1)).setCell ⟨g, k * 11 + 1, none⟩ (.string (c.image.extract 0 p ++ ⟨#[58, 57]⟩))).cell? ⟨w.heap.size, 0, none⟩ = some (.string a.name) := HK7.out.cell (by omega) (keepc HXW.out (by simp [World.cell?, GA.out]))
            have a1 : ((W6.iter c.image (p + 1)).setCell ⟨g, k * 11 + 1, none⟩ (.string (c.image.extract 0 p ++ ⟨#[58, 57]⟩))).cell? ⟨w.heap.size, 1, none⟩ = some (.slice la a.labels.length lc) := HK7.out.cell (by omega) (keepc HXW.out (by simp [World.cell?, GA.out]))
            have a2 : ((W6.iter c.image (p + 1)).setCell ⟨g, k * 11 + 1, none⟩ (.string (c.image.extract 0 p ++ ⟨#[58, 57]⟩))).cell? ⟨w.heap.size, 2, none⟩ = some (.slice ia a.inits.length ic) := HK7.out.cell (by omega) (keepc HXW.out (by simp [World.cell?, GA.out]))
            have a3 : ((W6.iter c.image (p + 1)).setCell ⟨g, k * 11 + 1, none⟩ (.string (c.image.extract 0 p ++ ⟨#[58, 57]⟩))).cell? ⟨w.heap.size, 3, none⟩ = some (.slice (some ⟨bm, off, none⟩) a.mains.length mc) := HK7.out.cell (by omega) (keepc HXW.out (by simp [World.cell?, GA.out]))
            have a4 : ((W6.iter c.image (p + 1)).setCell ⟨g, k * 11 + 1, none⟩ (.string (c.image.extract 0 p ++ ⟨#[58, 57]⟩))).cell? ⟨w.heap.size, 4, none⟩ = some (.int .i64 a.restart) := HK7.out.cell (by omega) (keepc HXW.out (by simp [World.cell?, GA.out]))
            have a5 : ((W6.iter c.image (p + 1)).setCell ⟨g, k * 11 + 1, none⟩ (.string (c.image.extract 0 p ++ ⟨#[58, 57]⟩))).cell? ⟨w.heap.size, 5, none⟩ = some (.int .i64 a.grace) := HK7.out.cell (by omega) (keepc HXW.out (by simp [World.cell?, GA.out]))
            have a6 : ((W6.iter c.image (p + 1)).setCell ⟨g, k * 11 + 1, none⟩ (.string (c.image.extract 0 p ++ ⟨#[58, 57]⟩))).cell? ⟨w.heap.size, 6, none⟩ = some (.int .i64 a.prio) := HK7.out.cell (by omega) (keepc HXW.out (by simp [World.cell?, GA.out]))
            have b0 : ((W6.iter c.image (p + 1)).setCell ⟨g, k * 11 + 1, none⟩ (.string (c.image.extract 0 p ++ ⟨#[58, 57]⟩))).cell? ⟨w5.heap.size, 0, none⟩ = some (.string a.name) := HK7.out.cell (by omega) (keepc HXi.out (by simp [World.cell?, GC.out]))
            have b1 : ((W6.iter c.image (p + 1)).setCell ⟨g, k * 11 + 1, none⟩ (.string (c.image.extract 0 p ++ ⟨#[58, 57]⟩))).cell? ⟨w5.heap.size, 1, none⟩ = some (.slice lb b.labels.length kc) := HK7.out.cell (by omega) (keepc HXi.out (by simp [World.cell?, GC.out]))
            have b2 : ((W6.iter c.image (p + 1)).setCell ⟨g, k * 11 + 1, none⟩ (.string (c.image.extract 0 p ++ ⟨#[58, 57]⟩))).cell? ⟨w5.heap.size, 2, none⟩ = some (.slice i1 a.inits.length dc2) := HK7.out.cell (by omega) (keepc HXi.out (by simp [World.cell?, GC.out]))
            have b3 : ((W6.iter c.image (p + 1)).setCell ⟨g, k * 11 + 1, none⟩ (.string (c.image.extract 0 p ++ ⟨#[58, 57]⟩))).cell? ⟨w5.heap.size, 3, none⟩ = some (.slice (some ⟨g, 0, none⟩) a.mains.length dc3) := HK7.out.cell (by omega) (keepc HXi.out (by simp [World.cell?, GC.out]))
            have b4 : ((W6.iter c.image (p + 1)).setCell ⟨g, k * 11 + 1, none⟩ (.string (c.image.extract 0 p ++ ⟨#[58, 57]⟩))).cell? ⟨w5.heap.size, 4, none⟩ = some (.int .i64 b.restart) := HK7.out.cell (by omega) (keepc HXi.out (by simp [World.cell?, GC.out]))
            have b5 : ((W6.iter c.image (p + 1)).setCell ⟨g, k * 11 + 1, none⟩ (.string (c.image.extract 0 p ++ ⟨#[58, 57]⟩))).cell? ⟨w5.heap.size, 5, none⟩ = some (.int .i64 b.grace) := HK7.out.cell (by omega) (keepc HXi.out (by simp [World.cell?, GC.out]))
            have b6 : ((W6.iter c.image (p + 1)).setCell ⟨g, k * 11 + 1, none⟩ (.string (c.image.extract 0 p ++ ⟨#[58, 57]⟩))).cell? ⟨w5.heap.size, 6, none⟩ = some (.int .i64 b.prio) := HK7.out.cell (by omega) (keepc HXi.out (by simp [World.cell?, GC.out]))
            clear hK7 hM7
            have h5W : W.heap.size ≤ w5.heap.size := HX5.out.size
            have hWw := HS0.out
            go_wp2_with fail
            refine (Frozen_to _ _ a (updS a b (a.mains.set k (tagC c))) la ia (some ⟨bm, off, none⟩) lb i1 (some ⟨g, 0, none⟩) lc ic mc kc dc2 dc3 a.mains.length hl7 _ HA7.out HN7.out hoa HOK7.out HM7b.out).mono ?_
            rintro e w8 ⟨v8, rfl, hr8, hb8⟩
            rw [HFR.out.1] at hr8
            have h8 : v8 = .nilIface := hr8
            subst h8
            have HX8 := Lib.hid hb8
            clear hr8 hb8 a0 a1 a2 a3 a4 a5 a6 b0 b1 b2 b3 b4 b5 b6
            have a0 : w8.cell? ⟨w.heap.size, 0, none⟩ = some (.string a.name) := keepc HX8.out (HK7.out.cell (by omega) (keepc HXW.out (by simp [World.cell?, GA.out])))
            have a1 : w8.cell? ⟨w.heap.size, 1, none⟩ = some (.slice la a.labels.length lc) := keepc HX8.out (HK7.out.cell (by omega) (keepc HXW.out (by simp [World.cell?, GA.out])))
            have a2 : w8.cell? ⟨w.heap.size, 2, none⟩ = some (.slice ia a.inits.length ic) := keepc HX8.out (HK7.out.cell (by omega) (keepc HXW.out (by simp [World.cell?, GA.out])))
            have a3 : w8.cell? ⟨w.heap.size, 3, none⟩ = some (.slice (some ⟨bm, off, none⟩) a.mains.length mc) := keepc HX8.out (HK7.out.cell (by omega) (keepc HXW.out (by simp [World.cell?, GA.out])))
            have a4 : w8.cell? ⟨w.heap.size, 4, none⟩ = some (.int .i64 a.restart) := keepc HX8.out (HK7.out.cell (by omega) (keepc HXW.out (by simp [World.cell?, GA.out])))
            have a5 : w8.cell? ⟨w.heap.size, 5, none⟩ = some (.int .i64 a.grace) := keepc HX8.out (HK7.out.cell (by omega) (keepc HXW.out (by simp [World.cell?, GA.out])))
            have a6 : w8.cell? ⟨w.heap.size, 6, none⟩ = some (.int .i64 a.prio) := keepc HX8.out (HK7.out.cell (by omega) (keepc HXW.out (by simp [World.cell?, GA.out])))
            have b0 : w8.cell? ⟨w5.heap.size, 0, none⟩ = some (.string a.name) := keepc HX8.out (HK7.out.cell (by omega) (keepc HXi.out (by simp [World.cell?, GC.out])))
            have b1 : w8.cell? ⟨w5.heap.size, 1, none⟩ = some (.slice lb b.labels.length kc) := keepc HX8.out (HK7.out.cell (by omega) (keepc HXi.out (by simp [World.cell?, GC.out])))
            have b2 : w8.cell? ⟨w5.heap.size, 2, none⟩ = some (.slice i1 a.inits.length dc2) := keepc HX8.out (HK7.out.cell (by omega) (keepc HXi.out (by simp [World.cell?, GC.out])))
            have b3 : w8.cell? ⟨w5.heap.size, 3, none⟩ = some (.slice (some ⟨g, 0, none⟩) a.mains.length dc3) := keepc HX8.out (HK7.out.cell (by omega) (keepc HXi.out (by simp [World.cell?, GC.out])))
            have b4 : w8.cell? ⟨w5.heap.size, 4, none⟩ = some (.int .i64 b.restart) := keepc HX8.out (HK7.out.cell (by omega) (keepc HXi.out (by simp [World.cell?, GC.out])))
            have b5 : w8.cell? ⟨w5.heap.size, 5, none⟩ = some (.int .i64 b.grace) := keepc HX8.out (HK7.out.cell (by omega) (keepc HXi.out (by simp [World.cell?, GC.out])))
            have b6 : w8.cell? ⟨w5.heap.size, 6, none⟩ = some (.int .i64 b.prio) := keepc HX8.out (HK7.out.cell (by omega) (keepc HXi.out (by simp [World.cell?, GC.out])))
            go_wp2_with fail
            refine (Frozen_of _ _ (updS a b (a.mains.set k (tagC c))) a lb i1 (some ⟨g, 0, none⟩) la ia (some ⟨bm, off, none⟩) kc dc2 dc3 lc ic mc a.mains.length hl7 _ (HN7.out.below HX8.out) (HA7.out.below HX8.out) HOK7.out hoa (HM7b.out.below HX8.out)).mono ?_
            rintro e w9 ⟨v9, rfl, hr9, hb9⟩
            rw [HFR.out.2] at hr9
            have h9 : v9 = .nilIface := hr9
            subst h9
            have HX9 := Lib.hid (bto HX8.out hb9)
            clear hr9 hb9 a0 a1 a2 a3 a4 a5 a6 b0 b1 b2 b3 b4 b5 b6 y1 hy1 hf1
            have HX10 := Lib.hid (bto HX9.out (bdrew1 w9))
            have a3 : w9.cell? ⟨w.heap.size, 3, none⟩ = some (.slice (some ⟨bm, off, none⟩) a.mains.length mc) := keepc HX9.out (HK7.out.cell (by omega) (keepc HXW.out (by simp [World.cell?, GA.out])))
            have b3 : w9.cell? ⟨w5.heap.size, 3, none⟩ = some (.slice (some ⟨g, 0, none⟩) a.mains.length dc3) := keepc HX9.out (HK7.out.cell (by omega) (keepc HXi.out (by simp [World.cell?, GC.out])))
            have x2 : w9.cell? ⟨bm, off + k * 11 + 2, none⟩ = some (.int .i64 c.req.cpu) := keepc HX9.out (HK7.out.cell (by omega) (keepc HXW.out HX2c.out))
            have a3d : w9.drew.cell? ⟨w.heap.size, 3, none⟩ = some (.slice (some ⟨bm, off, none⟩) a.mains.length mc) := keepc HX10.out (HK7.out.cell (by omega) (keepc HXW.out (by simp [World.cell?, GA.out])))
            have b3d : w9.drew.cell? ⟨w5.heap.size, 3, none⟩ = some (.slice (some ⟨g, 0, none⟩) a.mains.length dc3) := keepc HX10.out (HK7.out.cell (by omega) (keepc HXi.out (by simp [World.cell?, GC.out])))
            have x2d : w9.drew.cell? ⟨bm, off + k * 11 + 2, none⟩ = some (.int .i64 c.req.cpu) := keepc HX10.out (HK7.out.cell (by omega) (keepc HXW.out HX2c.out))
            have hM10 := HM7.out.kept (kept_false HX10.out) fun _ _ h => h
            have HM10 := Lib.hid hM10
            obtain ⟨⟨y2, hy2⟩, hf2⟩ := hM10.cellAt k 2 (by rw [List.length_set]; exact hkl) (by omega)
            have hK11 : Kept (· = g) w9.drew ((w9.setCell ⟨g, k * 11 + 2, none⟩ (.int .i64 (c.req.cpu + 1))).drew) := kept_set w9.drew _ _ _
            have hset : (a.mains.set k (tagC c)).set k (cpuC c) = a.mains.set k (cpuC c) := List.set_set ..
            have hM11 : OCtrs (Ran mid w5.heap.size) ((w9.setCell ⟨g, k * 11 + 2, none⟩ (.int .i64 (c.req.cpu + 1))).drew) (.slice (some ⟨g, 0, none⟩) a.mains.length dc3) (a.mains.set k (cpuC c)) := by
              have h := hM10.put k (by rw [List.length_set]; exact hkl) 2 (by omega) (cpuC c) (.int .i64 (c.req.cpu + 1)) (fun q => by rw [List.getElem_set_self]; rfl) (by rw [List.getElem_set_self])
              rw [hset] at h
              exact h
            have HK11 := Lib.hid hK11
            have HM11 := Lib.hid hM11
            have HI11 : Hid (OCtrs (Ran w4.heap.size mid) ((w9.setCell ⟨g, k * 11 + 2, none⟩ (.int .i64 (c.req.cpu + 1))).drew) (.slice i1 a.inits.length dc2) a.inits) := Lib.hid ((HI7.out.kept (kept_false HX10.out) fun _ _ h => h).kept hK11 fun i hi e => by have := hi.2; omega)
            have HA11 := Lib.hid ((HA7.out.below HX10.out).kept hK11 fun i hi e => by have h1 : i < w.heap.size := hi; have h2 : i = g := e; omega)
            have HB11 := Lib.hid ((HB7.out.below HX10.out).kept hK11 fun i hi e => by have h1 : i < w.heap.size := hi; have h2 : i = g := e; omega)
            have HM11b : Hid (LaidMarks ((w9.setCell ⟨g, k * 11 + 2, none⟩ (.int .i64 (c.req.cpu + 1))).drew)) := Lib.hid ((HM7b.out.below HX10.out).kept hK11 (by have := laid_lt HM.out; omega))
            have HX11 : Hid (Below W.heap.size W ((w9.setCell ⟨g, k * 11 + 2, none⟩ (.int .i64 (c.req.cpu + 1))).drew)) := Lib.hid (belowk0 (bto HX7.out HX10.out) hK11 (fun i hi => by have h2 : i = g := hi; have := HX4.out.size; omega) (bto HX7.out HX10.out).size)
            have hcc2 : CtrOk (cpuC c) := ⟨hcc.1, hcc.2.1, hcc.2.2⟩
            have HN11 := Lib.hid (now_spec (s := a) (t := b) HB11.out HI11.out HM11.out)
            have HOK11 := Lib.hid (updS_ok hoa hob (ctrsOk_set hoa.mains k (cpuC c) hcc2))
            have HBD := Lib.hid (upd_bad a b k hkl)
            rw [← HC.out] at HBD
            have hl11 : (a.mains.set k (cpuC c)).length = a.mains.length := List.length_set
            clear hM10 hM11 hK11 hset hl7 hcc
            have a0 : ((w9.setCell ⟨g, k * 11 + 2, none⟩ (.int .i64 (c.req.cpu + 1))).drew).cell? ⟨w.heap.size, 0, none⟩ = some (.string a.name) := HK11.out.cell (by omega) (keepc HX10.out (HK7.out.cell (by omega) (keepc HXW.out (by simp [World.cell?, GA.out]))))
            have a1 : ((w9.setCell ⟨g, k * 11 + 2, none⟩ (.int .i64 (c.req.cpu + 1))).drew).cell? ⟨w.heap.size, 1, none⟩ = some (.slice la a.labels.length lc) := HK11.out.cell (by omega) (keepc HX10.out (HK7.out.cell (by omega) (keepc HXW.out (by simp [World.cell?, GA.out]))))
            have a2 : ((w9.setCell ⟨g, k * 11 + 2, none⟩ (.int .i64 (c.req.cpu + 1))).drew).cell? ⟨w.heap.size, 2, none⟩ = some (.slice ia a.inits.length ic) := HK11.out.cell (by omega) (keepc HX10.out (HK7.out.cell (by omega) (keepc HXW.out (by simp [World.cell?, GA.out]))))
            have a3 : ((w9.setCell ⟨g, k * 11 + 2, none⟩ (.int .i64 (c.req.cpu + 1))).drew).cell? ⟨w.heap.size, 3, none⟩ = some (.slice (some ⟨bm, off, none⟩) a.mains.length mc) := HK11.out.cell (by omega) (keepc HX10.out (HK7.out.cell (by omega) (keepc HXW.out (by simp [World.cell?, GA.out]))))
            have a4 : ((w9.setCell ⟨g, k * 11 + 2, none⟩ (.int .i64 (c.req.cpu + 1))).drew).cell? ⟨w.heap.size, 4, none⟩ = some (.int .i64 a.restart) := HK11.out.cell (by omega) (keepc HX10.out (HK7.out.cell (by omega) (keepc HXW.out (by simp [World.cell?, GA.out]))))
            have a5 : ((w9.setCell ⟨g, k * 11 + 2, none⟩ (.int .i64 (c.req.cpu + 1))).drew).cell? ⟨w.heap.size, 5, none⟩ = some (.int .i64 a.grace) := HK11.out.cell (by omega) (keepc HX10.out (HK7.out.cell (by omega) (keepc HXW.out (by simp [World.cell?, GA.out]))))
            have a6 : ((w9.setCell ⟨g, k * 11 + 2, none⟩ (.int .i64 (c.req.cpu + 1))).drew).cell? ⟨w.heap.size, 6, none⟩ = some (.int .i64 a.prio) := HK11.out.cell (by omega) (keepc HX10.out (HK7.out.cell (by omega) (keepc HXW.out (by simp [World.cell?, GA.out]))))
            have b0 : ((w9.setCell ⟨g, k * 11 + 2, none⟩ (.int .i64 (c.req.cpu + 1))).drew).cell? ⟨w5.heap.size, 0, none⟩ = some (.string a.name) := HK11.out.cell (by omega) (keepc HX10.out (HK7.out.cell (by omega) (keepc HXi.out (by simp [World.cell?, GC.out]))))
            have b1 : ((w9.setCell ⟨g, k * 11 + 2, none⟩ (.int .i64 (c.req.cpu + 1))).drew).cell? ⟨w5.heap.size, 1, none⟩ = some (.slice lb b.labels.length kc) := HK11.out.cell (by omega) (keepc HX10.out (HK7.out.cell (by omega) (keepc HXi.out (by simp [World.cell?, GC.out]))))
            have b2 : ((w9.setCell ⟨g, k * 11 + 2, none⟩ (.int .i64 (c.req.cpu + 1))).drew).cell? ⟨w5.heap.size, 2, none⟩ = some (.slice i1 a.inits.length dc2) := HK11.out.cell (by omega) (keepc HX10.out (HK7.out.cell (by omega) (keepc HXi.out (by simp [World.cell?, GC.out]))))
            have b3 : ((w9.setCell ⟨g, k * 11 + 2, none⟩ (.int .i64 (c.req.cpu + 1))).drew).cell? ⟨w5.heap.size, 3, none⟩ = some (.slice (some ⟨g, 0, none⟩) a.mains.length dc3) := HK11.out.cell (by omega) (keepc HX10.out (HK7.out.cell (by omega) (keepc HXi.out (by simp [World.cell?, GC.out]))))
            have b4 : ((w9.setCell ⟨g, k * 11 + 2, none⟩ (.int .i64 (c.req.cpu + 1))).drew).cell? ⟨w5.heap.size, 4, none⟩ = some (.int .i64 b.restart) := HK11.out.cell (by omega) (keepc HX10.out (HK7.out.cell (by omega) (keepc HXi.out (by simp [World.cell?, GC.out]))))
            have b5 : ((w9.setCell ⟨g, k * 11 + 2, none⟩ (.int .i64 (c.req.cpu + 1))).drew).cell? ⟨w5.heap.size, 5, none⟩ = some (.int .i64 b.grace) := HK11.out.cell (by omega) (keepc HX10.out (HK7.out.cell (by omega) (keepc HXi.out (by simp [World.cell?, GC.out]))))
            have b6 : ((w9.setCell ⟨g, k * 11 + 2, none⟩ (.int .i64 (c.req.cpu + 1))).drew).cell? ⟨w5.heap.size, 6, none⟩ = some (.int .i64 b.prio) := HK11.out.cell (by omega) (keepc HX10.out (HK7.out.cell (by omega) (keepc HXi.out (by simp [World.cell?, GC.out]))))
            go_wp2_with fail
            go_still_tail 14, (by kernel_rfl)
            go_wp2_with fail
            refine (Frozen_to _ _ a (updS a b (a.mains.set k (cpuC c))) la ia (some ⟨bm, off, none⟩) lb i1 (some ⟨g, 0, none⟩) lc ic mc kc dc2 dc3 a.mains.length hl11 _ HA11.out HN11.out hoa HOK11.out HM11b.out).mono ?_
            rintro e w12 ⟨v12, rfl, hr12, hb12⟩
            rw [HBD.out.1] at hr12
            obtain ⟨t12, z12, rfl⟩ := RErr.held (show RErr _ _ v12 4 _ from hr12)
            have HX12 := Lib.hid hb12
            have HG12 : Hid (ErrTyped w12) := Lib.hid ((((HG.out.below HXW.out hgl2).kept HK7.out (by have := HX4.out.size; omega)).below HX10.out (by have := HX7.out.size; omega)).kept HK11.out (by have := HX4.out.size; omega) |>.below hb12 (by have := HX11.out.size; omega))
            have HCd : Hid (Calls Tryz.prog 38 #[.iface t12 z12] w12 fun e w' => e = .returned (.int .i64 4) ∧ Below w12.heap.size w12 w') := Lib.hid (Code_any _ _ _ w12 HG12.out hr12)
            clear hr12 hb12 a0 a1 a2 a3 a4 a5 a6 b0 b1 b2 b3 b4 b5 b6 y2 hy2 hf2 a3d b3d x2d
            go_wp2_with fail
            refine HCd.out.mono ?_
            rintro e w13 ⟨rfl, hb13⟩
            have HX13 := Lib.hid (bto HX12.out hb13)
            clear hb13
            have a0 : w13.cell? ⟨w.heap.size, 0, none⟩ = some (.string a.name) := keepc HX13.out (HK11.out.cell (by omega) (keepc HX10.out (HK7.out.cell (by omega) (keepc HXW.out (by simp [World.cell?, GA.out])))))
            have a1 : w13.cell? ⟨w.heap.size, 1, none⟩ = some (.slice la a.labels.length lc) := keepc HX13.out (HK11.out.cell (by omega) (keepc HX10.out (HK7.out.cell (by omega) (keepc HXW.out (by simp [World.cell?, GA.out])))))
            have a2 : w13.cell? ⟨w.heap.size, 2, none⟩ = some (.slice ia a.inits.length ic) := keepc HX13.out (HK11.out.cell (by omega) (keepc HX10.out (HK7.out.cell (by omega) (keepc HXW.out (by simp [World.cell?, GA.out])))))
            have a3 : w13.cell? ⟨w.heap.size, 3, none⟩ = some (.slice (some ⟨bm, off, none⟩) a.mains.length mc) := keepc HX13.out (HK11.out.cell (by omega) (keepc HX10.out (HK7.out.cell (by omega) (keepc HXW.out (by simp [World.cell?, GA.out])))))
            have a4 : w13.cell? ⟨w.heap.size, 4, none⟩ = some (.int .i64 a.restart) := keepc HX13.out (HK11.out.cell (by omega) (keepc HX10.out (HK7.out.cell (by omega) (keepc HXW.out (by simp [World.cell?, GA.out])))))
            have a5 : w13.cell? ⟨w.heap.size, 5, none⟩ = some (.int .i64 a.grace) := keepc HX13.out (HK11.out.cell (by omega) (keepc HX10.out (HK7.out.cell (by omega) (keepc HXW.out (by simp [World.cell?, GA.out])))))
            have a6 : w13.cell? ⟨w.heap.size, 6, none⟩ = some (.int .i64 a.prio) := keepc HX13.out (HK11.out.cell (by omega) (keepc HX10.out (HK7.out.cell (by omega) (keepc HXW.out (by simp [World.cell?, GA.out])))))
            have b0 : w13.cell? ⟨w5.heap.size, 0, none⟩ = some (.string a.name) := keepc HX13.out (HK11.out.cell (by omega) (keepc HX10.out (HK7.out.cell (by omega) (keepc HXi.out (by simp [World.cell?, GC.out])))))
            have b1 : w13.cell? ⟨w5.heap.size, 1, none⟩ = some (.slice lb b.labels.length kc) := keepc HX13.out (HK11.out.cell (by omega) (keepc HX10.out (HK7.out.cell (by omega) (keepc HXi.out (by simp [World.cell?, GC.out])))))
            have b2 : w13.cell? ⟨w5.heap.size, 2, none⟩ = some (.slice i1 a.inits.length dc2) := keepc HX13.out (HK11.out.cell (by omega) (keepc HX10.out (HK7.out.cell (by omega) (keepc HXi.out (by simp [World.cell?, GC.out])))))
            have b3 : w13.cell? ⟨w5.heap.size, 3, none⟩ = some (.slice (some ⟨g, 0, none⟩) a.mains.length dc3) := keepc HX13.out (HK11.out.cell (by omega) (keepc HX10.out (HK7.out.cell (by omega) (keepc HXi.out (by simp [World.cell?, GC.out])))))
            have b4 : w13.cell? ⟨w5.heap.size, 4, none⟩ = some (.int .i64 b.restart) := keepc HX13.out (HK11.out.cell (by omega) (keepc HX10.out (HK7.out.cell (by omega) (keepc HXi.out (by simp [World.cell?, GC.out])))))
            have b5 : w13.cell? ⟨w5.heap.size, 5, none⟩ = some (.int .i64 b.grace) := keepc HX13.out (HK11.out.cell (by omega) (keepc HX10.out (HK7.out.cell (by omega) (keepc HXi.out (by simp [World.cell?, GC.out])))))
            have b6 : w13.cell? ⟨w5.heap.size, 6, none⟩ = some (.int .i64 b.prio) := keepc HX13.out (HK11.out.cell (by omega) (keepc HX10.out (HK7.out.cell (by omega) (keepc HXi.out (by simp [World.cell?, GC.out])))))
            go_wp2_with fail
            refine (specSame_to _ _ a (updS a b (a.mains.set k (cpuC c))) la ia (some ⟨bm, off, none⟩) lb i1 (some ⟨g, 0, none⟩) lc ic mc kc dc2 dc3 a.mains.length hl11 HBD.out.2 _ (HA11.out.below HX13.out) (HN11.out.below HX13.out) hoa HOK11.out).mono ?_
            rintro e w14 ⟨rfl, hb14⟩
            have HX14 := Lib.hid (bto HX13.out hb14)
            clear hb14 a0 a1 a2 a3 a4 a5 a6 b0 b1 b2 b3 b4 b5 b6
            go_wp2
            go_ret
            exact ⟨rfl, bto HB0.out (bto HX11.out HX14.out)⟩
end Go.Proofs.YtgelbkgkjkeccaaGreatDoor
