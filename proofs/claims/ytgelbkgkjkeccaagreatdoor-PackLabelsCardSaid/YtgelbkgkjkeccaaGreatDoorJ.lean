/- A whole spec: the walk of package spec's Check. -/
import Derived.Test.YtgelbkgkjkeccaaGreatDoorI
namespace Go.Proofs.YtgelbkgkjkeccaaGreatDoor
open Go.RowKit

def labelsS : ByteArray := ⟨#[108, 97, 98, 101, 108, 115]⟩
def initS : ByteArray := ⟨#[105, 110, 105, 116]⟩
def mainS : ByteArray := ⟨#[109, 97, 105, 110]⟩
def restartS : ByteArray := ⟨#[114, 101, 115, 116, 97, 114, 116]⟩
def graceS : ByteArray := ⟨#[103, 114, 97, 99, 101]⟩
def prioS : ByteArray := ⟨#[112, 114, 105, 111]⟩
/-- The first group of a spec's errors; the second; the third. -/
def check1 (s : SpecD) : Err := firstE [if nameB s.name.data.toList then none else some (30, [nameS]), labelsE labelsS s.labels, withinE 2 initS s.inits.length 0 3]
def check2 (s : SpecD) : Err := firstE [(contsFrom initS 0 0 0 [] [] s.inits).1, withinE 2 mainS s.mains.length 1 4]
def check3 (s : SpecD) : Err := firstE [(contsFrom mainS 3 1000 0 (contsFrom initS 0 0 0 [] [] s.inits).2.1 (contsFrom initS 0 0 0 [] [] s.inits).2.2 s.mains).1, withinE 1 restartS s.restart 1 3, withinE 1 graceS s.grace 0 1000, withinE 1 prioS s.prio 0 10]
def checkE (s : SpecD) : Err := match check1 s with
  | some e => some e
  | none => match check2 s with
    | some e => some e
    | none => check3 s
structure SpecOk (s : SpecD) : Prop where
  name : s.name.size ≤ 1000
  labs : LabsOk s.labels
  nlabs : s.labels.length ≤ 1000
  inits : CtrsOk s.inits
  mains : CtrsOk s.mains
theorem RCtrs.form {B : Nat} {w : World} {v : Value} {l : List CtrD} (h : RCtrs B w v l) : ∃ a c, v = .slice a l.length c := by
  rcases h with ⟨h0, a, c, h⟩ | ⟨_, b, off, c, h, _⟩
  · exact ⟨_, _, by rw [h, h0]; rfl⟩
  · exact ⟨_, _, h⟩
theorem RInts.mono {B B' : Nat} {w : World} {v : Value} {l : List Int} (h : RInts B w v l) (hB : B ≤ B') : RInts B' w v l := by
  rcases h with h | ⟨h0, b, off, c, hv, hc, hl, hr⟩
  · exact .inl h
  · exact .inr ⟨h0, b, off, c, hv, hc, by omega, hr⟩
theorem RCtrs.mono {B B' : Nat} {w : World} {v : Value} {l : List CtrD} (h : RCtrs B w v l) (hB : B ≤ B') : RCtrs B' w v l := by
  rcases h with h | ⟨h0, b, off, c, hv, hc, hl, hr⟩
  · exact .inl h
  · exact .inr ⟨h0, b, off, c, hv, hc, by omega, fun j hj => let ⟨q, h1, h2⟩ := hr j hj; ⟨q, h1.mono hB, h2⟩⟩
theorem bdrew1 (w : World) : Below w.heap.size w w.drew := (Below.refl _ _).drew
/-- What is written lies from B0 on. -/
theorem belowk0 {M : Nat → Prop} {B0 : Nat} {w W W' : World} (h : Below B0 w W) (k : Kept M W W') (hM : ∀ i, M i → B0 ≤ i) (hB : B0 ≤ W.heap.size) : Below B0 w W' :=
  h.trans ⟨k.os, k.tape, k.output, k.size, fun i hi => k.block i (by omega) (fun hm => by have := hM i hm; omega)⟩
theorem errs4 {v1 v2 v3 v4 : Value} {B : Nat} {w : World} {e1 e2 e3 e4 : Err} (h1 : RErrO B w v1 e1) (h2 : RErrO B w v2 e2) (h3 : RErrO B w v3 e3) (h4 : RErrO B w v4 e4) :
    RErrO B w (firstV [v1, v2, v3, v4]) (firstE [e1, e2, e3, e4]) := RErrs.first (vs := [v1, v2, v3, v4]) (es := [e1, e2, e3, e4]) ⟨h1, h2, h3, h4, trivial⟩
theorem run_errs4 (w : World) (a b c d : Value) (ha : IsErrV a) (hb : IsErrV b) (hc : IsErrV c) (hd : IsErrV d) :
    (bsE 4 #[(0, a), (1, b), (2, c), (3, d)]).run Tryz.prog w = .ok (.slice (some ⟨w.heap.size, 0, none⟩) 4 4) (w.alloc (.cells #[a, b, c, d] 36)) := by
  rcases ha with rfl | ⟨t1, x1, rfl⟩ <;> rcases hb with rfl | ⟨t2, x2, rfl⟩ <;> rcases hc with rfl | ⟨t3, x3, rfl⟩ <;> rcases hd with rfl | ⟨t4, x4, rfl⟩ <;> kernel_rfl
attribute [go_sem] run_errs4
theorem contsFrom_len (name : ByteArray) (most every : Int) : ∀ (l : List CtrD) (i : Nat) (ns : List ByteArray) (ps : List Int), (∀ c ∈ l, CtrOk c) →
    (contsFrom name most every i ns ps l).2.1.length ≤ ns.length + l.length ∧ (contsFrom name most every i ns ps l).2.2.length ≤ ps.length + 1000 * l.length
  | [], _, _, _, _ => ⟨Nat.le_refl _, Nat.le_refl _⟩
  | c :: r, i, ns, ps, h => by
    have hc := (h c (by simp)).2.2
    have hp := portE_len c.ports most ps
    unfold contsFrom
    split
    · refine ⟨by simp, ?_⟩
      show (portE c.ports most ps).2.length ≤ _
      simp; omega
    · have hr := contsFrom_len name most every r (i + 1) (ns ++ [c.name]) (contE c ns ps most every).2 (fun x hx => h x (by simp [hx]))
      have e : (contE c ns ps most every).2 = (portE c.ports most ps).2 := rfl
      rw [e] at hr ⊢
      simp at hr ⊢
      omega
theorem seen_new (w : World) : IsSeen w.heap.size (w.alloc (.cells #[.slice none 0 0, .slice none 0 0] 175)) w.heap.size (.slice none 0 0) (.slice none 0 0) [] [] :=
  ⟨by show (w.heap.push _)[w.heap.size]? = _; simp, Nat.le_refl _, ⟨by simp, .inl ⟨rfl, rfl⟩⟩, ⟨by simp, .inl ⟨rfl, rfl⟩⟩⟩
theorem First_four (a b c d : Value) (g cap : Nat) (w : World) (ha : IsErrV a) (hb : IsErrV b) (hc : IsErrV c) (hd : IsErrV d)
    (h : ∀ j x, [a, b, c, d][j]? = some x → w.cell? ⟨g, j, none⟩ = some x) :
    Calls Tryz.prog 121 #[.slice (some ⟨g, 0, none⟩) 4 cap] w fun r w' => r = .returned (firstV [a, b, c, d]) ∧ w = w' :=
  First_any [a, b, c, d] g 0 cap w (by simp [ha, hb, hc, hd]) (by simp) fun j x hj => by rw [Nat.zero_add]; exact h j x hj

set_option maxHeartbeats 8000000 in
set_option maxRecDepth 100000 in
theorem Check_any (s : SpecD) (lv : Value) (ia ma : Option Addr) (ic mc : Nat) (w : World)
    (hs : SpecOk s) (hm : LaidMarks w) (hw3 : 3 < w.heap.size) (hlv : RLabs w lv s.labels) (hiv : RCtrs w.heap.size w (.slice ia s.inits.length ic) s.inits) (hmv : RCtrs w.heap.size w (.slice ma s.mains.length mc) s.mains) :
    Calls Tryz.prog 35 #[.agg #[.string s.name, lv, .slice ia s.inits.length ic, .slice ma s.mains.length mc, .int .i64 s.restart, .int .i64 s.grace, .int .i64 s.prio]] w (RetErr w (checkE s)) := by
  obtain ⟨hn, hlab, hnl, hoki, hokm⟩ := hs
  have KEEP : Hid (∀ W W' : World, Below W.heap.size W W' → (W.cell? ⟨w.heap.size, 0, none⟩ = some (.string s.name) ∧ W.cell? ⟨w.heap.size, 1, none⟩ = some (lv) ∧ W.cell? ⟨w.heap.size, 2, none⟩ = some (.slice ia s.inits.length ic) ∧ W.cell? ⟨w.heap.size, 3, none⟩ = some (.slice ma s.mains.length mc) ∧ W.cell? ⟨w.heap.size, 4, none⟩ = some (.int .i64 s.restart) ∧ W.cell? ⟨w.heap.size, 5, none⟩ = some (.int .i64 s.grace) ∧ W.cell? ⟨w.heap.size, 6, none⟩ = some (.int .i64 s.prio)) → (W'.cell? ⟨w.heap.size, 0, none⟩ = some (.string s.name) ∧ W'.cell? ⟨w.heap.size, 1, none⟩ = some (lv) ∧ W'.cell? ⟨w.heap.size, 2, none⟩ = some (.slice ia s.inits.length ic) ∧ W'.cell? ⟨w.heap.size, 3, none⟩ = some (.slice ma s.mains.length mc) ∧ W'.cell? ⟨w.heap.size, 4, none⟩ = some (.int .i64 s.restart) ∧ W'.cell? ⟨w.heap.size, 5, none⟩ = some (.int .i64 s.grace) ∧ W'.cell? ⟨w.heap.size, 6, none⟩ = some (.int .i64 s.prio))) := fun W W' hb h => ⟨keepc hb h.1, keepc hb h.2.1, keepc hb h.2.2.1, keepc hb h.2.2.2.1, keepc hb h.2.2.2.2.1, keepc hb h.2.2.2.2.2.1, keepc hb h.2.2.2.2.2.2⟩
  have KEEPK : Hid (∀ (M : Nat → Prop) (W W' : World), Kept M W W' → ¬ M w.heap.size → (W.cell? ⟨w.heap.size, 0, none⟩ = some (.string s.name) ∧ W.cell? ⟨w.heap.size, 1, none⟩ = some (lv) ∧ W.cell? ⟨w.heap.size, 2, none⟩ = some (.slice ia s.inits.length ic) ∧ W.cell? ⟨w.heap.size, 3, none⟩ = some (.slice ma s.mains.length mc) ∧ W.cell? ⟨w.heap.size, 4, none⟩ = some (.int .i64 s.restart) ∧ W.cell? ⟨w.heap.size, 5, none⟩ = some (.int .i64 s.grace) ∧ W.cell? ⟨w.heap.size, 6, none⟩ = some (.int .i64 s.prio)) → (W'.cell? ⟨w.heap.size, 0, none⟩ = some (.string s.name) ∧ W'.cell? ⟨w.heap.size, 1, none⟩ = some (lv) ∧ W'.cell? ⟨w.heap.size, 2, none⟩ = some (.slice ia s.inits.length ic) ∧ W'.cell? ⟨w.heap.size, 3, none⟩ = some (.slice ma s.mains.length mc) ∧ W'.cell? ⟨w.heap.size, 4, none⟩ = some (.int .i64 s.restart) ∧ W'.cell? ⟨w.heap.size, 5, none⟩ = some (.int .i64 s.grace) ∧ W'.cell? ⟨w.heap.size, 6, none⟩ = some (.int .i64 s.prio))) := fun M W W' hb hm h => ⟨hb.cell hm (h.1), hb.cell hm (h.2.1), hb.cell hm (h.2.2.1), hb.cell hm (h.2.2.2.1), hb.cell hm (h.2.2.2.2.1), hb.cell hm (h.2.2.2.2.2.1), hb.cell hm (h.2.2.2.2.2.2)⟩
  go_enter Tryz.func35, Tryz.ntmps35
  go_wp2_with fail
  go_region_held3 (fun w' => w'.cell? ⟨w.heap.size, 0, none⟩ = some (.string s.name) ∧ w'.cell? ⟨w.heap.size, 1, none⟩ = some (lv) ∧ w'.cell? ⟨w.heap.size, 2, none⟩ = some (.slice ia s.inits.length ic) ∧ w'.cell? ⟨w.heap.size, 3, none⟩ = some (.slice ma s.mains.length mc) ∧ w'.cell? ⟨w.heap.size, 4, none⟩ = some (.int .i64 s.restart) ∧ w'.cell? ⟨w.heap.size, 5, none⟩ = some (.int .i64 s.grace) ∧ w'.cell? ⟨w.heap.size, 6, none⟩ = some (.int .i64 s.prio))
    (first | assumption | exact KEEP.out _ _ hb3 (by assumption) | exact KEEP.out _ _ hb2 (by assumption) | exact KEEP.out _ _ hb1 (by assumption) | exact KEEP.out _ _ (bdrew _ _) (by assumption) | exact KEEP.out _ _ (bdrew1 _) (by assumption) | exact KEEP.out _ _ (bnew _ _) (by assumption) | simp)
    (first
      | (go_at_call 123; refine (Name_any _ _ (by omega) (hm.below (by first | exact (bnew _ _).drew | exact (bto (bnew _ _) (bnew _ _)).drew | exact bto (bnew _ _).drew (bnew _ _)))).mono ?_; rintro e w' ⟨rfl, rfl⟩)
      | (go_at_call 122; refine (New_one _ nameS _ _ _ (by first | exact new_cell _ _ _ _ _ _ (by simp) rfl | exact (show (World.alloc _ _).cell? _ = _ from new_cell _ _ _ _ _ _ (by simp) rfl))).mono ?_; rintro e w1 ⟨v1, rfl, hr1, hb1⟩; have hv1 := hr1.isV; have B01 : Below w.heap.size w w1 := (by first | exact bto (bto (bnew _ _) (bnew _ _)).drew hb1 | exact bto (bto (bnew _ _).drew (bnew _ _)) hb1))
      | (go_at_call 124; refine (Labels_any labelsS s.labels lv _ (by decide) hlab (hm.below B01) (hlv.below B01) (by omega)).mono ?_; rintro e w2 ⟨v2, rfl, hr2, hb2⟩; have hv2 := hr2.isV)
      | (go_at_call 125; refine (atMost_any initS _ _ _ _).mono ?_; rintro e w3 ⟨v3, rfl, hr3, hb3⟩; have hv3 := hr3.isV)
      | (go_at_call 121; refine (First_three v1 v2 v3 _ _ _ hv1 hv2 hv3 (by simp) (by simp) (by simp)).mono ?_; rintro e w' ⟨rfl, rfl⟩))
  all_goals
    have hE1 : RErrO w.heap.size (w3.alloc (.cells #[v1, v2, v3] 36)) (firstV [v1, v2, v3]) (check1 s) := by
      have h1 := RErrO.mono hr1 (show w.heap.size ≤ _ by simp <;> omega)
      rw [new_say _ _ _ (by decide)] at h1
      exact RErrs.first (vs := [v1, v2, v3]) (es := [_, _, _]) ⟨((h1.below hb2).below hb3).below (bnew _ _), ((RErrO.mono hr2 B01.size).below hb3).below (bnew _ _), (RErrO.mono hr3 (Nat.le_trans B01.size hb2.size)).below (bnew _ _), trivial⟩
    have B04 : Below w.heap.size w (w3.alloc (.cells #[v1, v2, v3] 36)) := bto (bto (bto B01 hb2) hb3) (bnew _ _)
    have hSb : (w3.alloc (.cells #[v1, v2, v3] 36)).cell? ⟨w.heap.size, 0, none⟩ = some (.string s.name) ∧ (w3.alloc (.cells #[v1, v2, v3] 36)).cell? ⟨w.heap.size, 1, none⟩ = some (lv) ∧ (w3.alloc (.cells #[v1, v2, v3] 36)).cell? ⟨w.heap.size, 2, none⟩ = some (.slice ia s.inits.length ic) ∧ (w3.alloc (.cells #[v1, v2, v3] 36)).cell? ⟨w.heap.size, 3, none⟩ = some (.slice ma s.mains.length mc) ∧ (w3.alloc (.cells #[v1, v2, v3] 36)).cell? ⟨w.heap.size, 4, none⟩ = some (.int .i64 s.restart) ∧ (w3.alloc (.cells #[v1, v2, v3] 36)).cell? ⟨w.heap.size, 5, none⟩ = some (.int .i64 s.grace) ∧ (w3.alloc (.cells #[v1, v2, v3] 36)).cell? ⟨w.heap.size, 6, none⟩ = some (.int .i64 s.prio) := by first | assumption | (refine KEEP.out _ _ (bnew _ _) (by assumption))
    have hB3 := (bto (bto B01 hb2) hb3).size
    generalize hV : firstV [v1, v2, v3] = vF at *
    clear hV hr1 hr2 hr3 hb1 hb2 hb3 B01
    cases hc1 : check1 s with
    | some y =>
      have he : checkE s = some y := by unfold checkE; rw [hc1]
      rw [hc1] at hE1
      obtain ⟨t, z, rfl⟩ := RErr.held (show RErr _ _ vF y.1 y.2 from hE1)
      have HE := Lib.hid he
      clear hc1 he hSb
      go_wp2
      go_ret
      refine ⟨_, rfl, ?_, B04⟩
      rw [HE.out]; exact hE1
    | none =>
      rw [hc1] at hE1
      have hvF : vF = .nilIface := hE1
      subst hvF
      have HC1 := Lib.hid hc1; clear hc1
      go_wp2_with fail
      obtain ⟨G, hG⟩ : ∃ G, G = (w3.alloc (.cells #[v1, v2, v3] 36)).heap.size := ⟨_, rfl⟩
      obtain ⟨W, hW⟩ : ∃ W, W = (w3.alloc (.cells #[v1, v2, v3] 36)).alloc (.cells #[.slice none 0 0, .slice none 0 0] 175) := ⟨_, rfl⟩
      have hsW : IsSeen G W G (.slice none 0 0) (.slice none 0 0) [] [] := by rw [hW, hG]; exact seen_new _
      have B0W : Below w.heap.size w W := by rw [hW]; exact bto B04 (bnew _ _)
      have hGw : w.heap.size < G := by rw [hG]; simp; omega
      have hG3 : 3 < G := by omega
      have hGe : w3.heap.size + 1 = G := by rw [hG]; simp
      have hSW : W.cell? ⟨w.heap.size, 0, none⟩ = some (.string s.name) ∧ W.cell? ⟨w.heap.size, 1, none⟩ = some (lv) ∧ W.cell? ⟨w.heap.size, 2, none⟩ = some (.slice ia s.inits.length ic) ∧ W.cell? ⟨w.heap.size, 3, none⟩ = some (.slice ma s.mains.length mc) ∧ W.cell? ⟨w.heap.size, 4, none⟩ = some (.int .i64 s.restart) ∧ W.cell? ⟨w.heap.size, 5, none⟩ = some (.int .i64 s.grace) ∧ W.cell? ⟨w.heap.size, 6, none⟩ = some (.int .i64 s.prio) := by rw [hW]; exact KEEP.out _ _ (bnew _ _) hSb
      have hmW := hm.below B0W
      have hiW := (hiv.below B0W).mono (Nat.le_of_lt hGw)
      have hmvW := (hmv.below B0W).mono (Nat.le_of_lt hGw)
      have hMb : ∀ nv pv, IsSeen G W G nv pv [] [] → ¬ Mut G nv pv w.heap.size := fun nv pv h hm => by have := (h.mut_lt _ hm).1; omega
      rw [hGe, ← hW]
      clear hSb hE1 B04 hW hGe hB3 hG
      go_region_held3 (fun w' => w'.cell? ⟨w.heap.size, 0, none⟩ = some (.string s.name) ∧ w'.cell? ⟨w.heap.size, 1, none⟩ = some (lv) ∧ w'.cell? ⟨w.heap.size, 2, none⟩ = some (.slice ia s.inits.length ic) ∧ w'.cell? ⟨w.heap.size, 3, none⟩ = some (.slice ma s.mains.length mc) ∧ w'.cell? ⟨w.heap.size, 4, none⟩ = some (.int .i64 s.restart) ∧ w'.cell? ⟨w.heap.size, 5, none⟩ = some (.int .i64 s.grace) ∧ w'.cell? ⟨w.heap.size, 6, none⟩ = some (.int .i64 s.prio))
        (first | assumption | exact KEEP.out _ _ hb6 (by assumption) | exact KEEPK.out _ _ _ hk5 (hMb _ _ hsW) (by assumption) | exact KEEP.out _ _ (bdrew _ _) (by assumption) | exact KEEP.out _ _ (bdrew1 _) (by assumption) | exact KEEP.out _ _ (bnew _ _) (by assumption) | simp)
        (first
          | (go_at_call 126; refine (containers_any G initS s.inits _ 0 0 G _ _ [] [] _ (hsW.below (bdrew1 _)) (hmW.below (bdrew1 _)) hG3 (hiW.below (bdrew1 _)) hoki (by decide) (by simp) (by simp)).mono ?_; rintro e w5 ⟨v5, nv, pv, rfl, hC⟩; have hv5 := hC.err.isV; have hk5 := hC.kept)
          | (go_at_call 125; refine (atMost_any mainS _ _ _ _).mono ?_; rintro e w6 ⟨v6, rfl, hr6, hb6⟩; have hv6 := hr6.isV)
          | (go_at_call 121; refine (First_two v5 v6 _ _ _ hv5 hv6 (by simp) (by simp)).mono ?_; rintro e w' ⟨rfl, rfl⟩))
      have hE2 : RErrO w.heap.size (w6.alloc (.cells #[v5, v6] 36)) (firstV [v5, v6]) (check2 s) :=
        RErrs.first (vs := [v5, v6]) (es := [_, _]) ⟨((RErrO.mono hC.err B0W.size).below hb6).below (bnew _ _), (RErrO.mono hr6 (Nat.le_trans B0W.size hk5.size)).below (bnew _ _), trivial⟩
      have hMG : ∀ i, Mut G (.slice none 0 0) (.slice none 0 0) i → w.heap.size ≤ i := fun i hi => by have := (hsW.mut_lt i hi).1; omega
      have B06 : Below w.heap.size w (w6.alloc (.cells #[v5, v6] 36)) := bto (bto (belowk0 (bto B0W (bdrew1 _)) hk5 hMG B0W.size) hb6) (bnew _ _)
      have hSX : (w6.alloc (.cells #[v5, v6] 36)).cell? ⟨w.heap.size, 0, none⟩ = some (.string s.name) ∧ (w6.alloc (.cells #[v5, v6] 36)).cell? ⟨w.heap.size, 1, none⟩ = some (lv) ∧ (w6.alloc (.cells #[v5, v6] 36)).cell? ⟨w.heap.size, 2, none⟩ = some (.slice ia s.inits.length ic) ∧ (w6.alloc (.cells #[v5, v6] 36)).cell? ⟨w.heap.size, 3, none⟩ = some (.slice ma s.mains.length mc) ∧ (w6.alloc (.cells #[v5, v6] 36)).cell? ⟨w.heap.size, 4, none⟩ = some (.int .i64 s.restart) ∧ (w6.alloc (.cells #[v5, v6] 36)).cell? ⟨w.heap.size, 5, none⟩ = some (.int .i64 s.grace) ∧ (w6.alloc (.cells #[v5, v6] 36)).cell? ⟨w.heap.size, 6, none⟩ = some (.int .i64 s.prio) := by first | assumption | (refine KEEP.out _ _ (bnew _ _) (by assumption))
      have hsX0 := (hC.seen.below hb6).below (bnew w6 (.cells #[v5, v6] 36))
      have hmvX0 := ((hmvW.below (bdrew1 _)).kept hk5 (fun i hi => (hsW.mut_lt i hi).1)).below (bto hb6 (bnew w6 (.cells #[v5, v6] 36)))
      obtain ⟨X, hX⟩ : ∃ X, X = w6.alloc (.cells #[v5, v6] 36) := ⟨_, rfl⟩
      rw [← hX] at hE2 B06 hSX hsX0 hmvX0
      have hsX : IsSeen G X G nv pv _ _ := hsX0
      have hmvX : RCtrs G X _ s.mains := hmvX0
      have hmX := hm.below B06
      rw [← hX]
      clear hX hsX0 hmvX0 hC hk5 hb6 hr6 hSW hmvW hiW hmW
      generalize hV2 : firstV [v5, v6] = vF at *
      clear hV2
      cases hc2 : check2 s with
      | some y =>
        have he : checkE s = some y := by unfold checkE; rw [HC1.out, hc2]
        rw [hc2] at hE2
        obtain ⟨t, z, rfl⟩ := RErr.held (show RErr _ _ vF y.1 y.2 from hE2)
        have HE := Lib.hid he
        clear hc2 he hSX
        go_wp2
        go_ret
        refine ⟨_, rfl, ?_, B06⟩
        rw [HE.out]; exact hE2
      | none =>
        rw [hc2] at hE2
        have hvF : vF = .nilIface := hE2
        subst hvF
        have he : checkE s = check3 s := by unfold checkE; rw [HC1.out, hc2]
        have HE := Lib.hid he; clear he hc2
        go_wp2_with fail
        go_region_held3 (fun w' => w'.cell? ⟨w.heap.size, 0, none⟩ = some (.string s.name) ∧ w'.cell? ⟨w.heap.size, 1, none⟩ = some (lv) ∧ w'.cell? ⟨w.heap.size, 2, none⟩ = some (.slice ia s.inits.length ic) ∧ w'.cell? ⟨w.heap.size, 3, none⟩ = some (.slice ma s.mains.length mc) ∧ w'.cell? ⟨w.heap.size, 4, none⟩ = some (.int .i64 s.restart) ∧ w'.cell? ⟨w.heap.size, 5, none⟩ = some (.int .i64 s.grace) ∧ w'.cell? ⟨w.heap.size, 6, none⟩ = some (.int .i64 s.prio))
          (first | assumption | exact KEEP.out _ _ hb10 (by assumption) | exact KEEP.out _ _ hb9 (by assumption) | exact KEEP.out _ _ hb8 (by assumption) | exact KEEPK.out _ _ _ hk7 (fun h => by have := (hsX.mut_lt _ h).1; omega) (by assumption) | exact KEEP.out _ _ (bdrew _ _) (by assumption) | exact KEEP.out _ _ (bdrew1 _) (by assumption) | exact KEEP.out _ _ (bnew _ _) (by assumption) | simp)
          (first
            | (go_at_call 126; refine (containers_any G mainS s.mains _ 3 1000 G nv pv _ _ _ (hsX.below (bdrew1 _)) (hmX.below (bdrew1 _)) hG3 (hmvX.below (bdrew1 _)) hokm (by decide) (by have := (contsFrom_len initS 0 0 s.inits 0 [] [] hoki.2).1; have := hoki.1; simp at *; omega) (by have := (contsFrom_len initS 0 0 s.inits 0 [] [] hoki.2).2; have := hoki.1; simp at *; omega)).mono ?_; rintro e w7 ⟨v7, nv2, pv2, rfl, hC7⟩; have hv7 := hC7.err.isV; have hk7 := hC7.kept)
            | (go_at_call_of 127 (Value.string ⟨#[114, 101, 115, 116, 97, 114, 116]⟩); refine (within_any _ _ _ _ _).mono ?_; rintro e w8 ⟨v8, rfl, hr8, hb8⟩; have hv8 := hr8.isV)
            | (go_at_call_of 127 (Value.string ⟨#[103, 114, 97, 99, 101]⟩); refine (within_any _ _ _ _ _).mono ?_; rintro e w9 ⟨v9, rfl, hr9, hb9⟩; have hv9 := hr9.isV)
            | (go_at_call_of 127 (Value.string ⟨#[112, 114, 105, 111]⟩); refine (within_any _ _ _ _ _).mono ?_; rintro e w10 ⟨v10, rfl, hr10, hb10⟩; have hv10 := hr10.isV)
            | (go_at_call 121; refine (First_four v7 v8 v9 v10 _ _ _ hv7 hv8 hv9 hv10 (fun j x hj => new_cells _ [v7, v8, v9, v10] 36 j x hj)).mono ?_; rintro e w' ⟨rfl, rfl⟩))
        have hMX : ∀ i, Mut G nv pv i → w.heap.size ≤ i := fun i hi => by have := (hsX.mut_lt i hi).1; omega
        have B07 := belowk0 (bto B06 (bdrew1 _)) hk7 hMX B06.size
        have hE3 : RErrO w.heap.size (w10.alloc (.cells #[v7, v8, v9, v10] 36)) (firstV [v7, v8, v9, v10]) (check3 s) :=
          errs4 (((((RErrO.mono hC7.err B06.size).below hb8).below hb9).below hb10).below (bnew _ _)) ((((RErrO.mono hr8 B07.size).below hb9).below hb10).below (bnew _ _)) (((RErrO.mono hr9 (Nat.le_trans B07.size hb8.size)).below hb10).below (bnew _ _)) ((RErrO.mono hr10 (Nat.le_trans (Nat.le_trans B07.size hb8.size) hb9.size)).below (bnew _ _))
        have HE3 := Lib.hid hE3; clear hE3
        go_wp2
        go_ret
        refine ⟨_, rfl, ?_, bto (bto (bto (bto B07 hb8) hb9) hb10) (bnew _ _)⟩
        rw [HE.out]; exact HE3.out

end Go.Proofs.YtgelbkgkjkeccaaGreatDoor
