/- What is read lies in the ranges, error or not; package pack's Of. A spec's bytes: what is written is the plain coding; what Of reads. No program in sight. Law 07: works. Law 07: PackBack. -/
import Derived.Test.YtgelbkgkjkeccaaGreatDoorNGd
import Derived.Test.YtgelbkgkjkeccaaGreatDoorNGc
import Derived.Test.YtgelbkgkjkeccaaGreatDoorZE
namespace Go.Proofs.YtgelbkgkjkeccaaGreatDoor
open Go.RowKit

theorem textP_in (m : Nat) (r : RS) : (textP m r).2.size ≤ m := by
  have h := numP_in m r
  unfold textP
  split
  · exact Nat.zero_le _
  · split
    · exact Nat.zero_le _
    · rw [mk_size]
      simp
      omega
theorem resP_in (r : RS) : ResR (resP r).2 := ⟨numP_in _ _, numP_in _ _, numP_in _ _⟩
theorem listP_in {α : Type} {one : RS → RS × α} {Ok : α → Prop} (h : ∀ r, Ok (one r).2) : ∀ (n : Nat) (r : RS), (listP one n r).2.length ≤ n ∧ ∀ x ∈ (listP one n r).2, Ok x
  | 0, r => ⟨Nat.le_refl _, fun x hx => by cases hx⟩
  | n + 1, r => by
    have h2 := listP_in h n (one r).1
    rw [listP]
    split
    · exact ⟨Nat.zero_le _, fun x hx => by cases hx⟩
    · split
      · exact ⟨Nat.zero_le _, fun x hx => by cases hx⟩
      · refine ⟨Nat.succ_le_succ h2.1, fun x hx => ?_⟩
        rcases List.mem_cons.1 hx with rfl | hx
        · exact h r
        · exact h2.2 x hx
theorem takeAllP_in {α : Type} {one : RS → RS × α} {Ok : α → Prop} (h : ∀ r, Ok (one r).2) (m : Nat) (r : RS) : (takeAllP m one r).2.length ≤ m ∧ ∀ x ∈ (takeAllP m one r).2, Ok x := by
  rw [takeAllP_eq]
  have h1 := listP_in h (numP m r).2.toNat (numP m r).1
  have h2 := numP_in m r
  exact ⟨Nat.le_trans h1.1 (by omega), h1.2⟩
theorem contP_in (r : RS) : CtrR (contP r).2 :=
  have h := fun r => takeAllP_in (one := numP 65535) (Ok := NumR 65535) (fun r => numP_in 65535 r) 3 r
  ⟨textP_in _ _, textP_in _ _, resP_in _, resP_in _, (h _).1, (h _).2, numP_in _ _, numP_in _ _⟩
theorem labP_in (r : RS) : LabR (labP r).2 := ⟨textP_in _ _, textP_in _ _⟩
theorem specP_in (r : RS) : SpecR (specP r).2 :=
  have hl := fun r => takeAllP_in (one := labP) labP_in 4 r
  have hc := fun m r => takeAllP_in (one := contP) contP_in m r
  ⟨textP_in _ _, (hl _).1, (hl _).2, (hc _ _).1, (hc _ _).2, (hc _ _).1, (hc _ _).2, numP_in _ _, numP_in _ _, numP_in _ _⟩
theorem SpecR.ok {s : SpecD} (h : SpecR s) : SpecOk s := by
  have hc : ∀ l : List CtrD, l.length ≤ 4 → (∀ x ∈ l, CtrR x) → CtrsOk l := fun l h1 h2 => ⟨by omega, fun c hc => ⟨Nat.le_trans (h2 c hc).name (by omega), Nat.le_trans (h2 c hc).image (by omega), Nat.le_trans (h2 c hc).nports (by omega)⟩⟩
  exact ⟨Nat.le_trans h.name (by omega), fun x hx => ⟨Nat.le_trans (h.labs x hx).key (by omega), Nat.le_trans (h.labs x hx).val (by omega)⟩, Nat.le_trans h.nlabs (by omega), hc _ (Nat.le_trans h.ninits (by omega)) h.inits, hc _ h.nmains h.mains⟩

def wireS : ByteArray := ⟨#[119, 105, 114, 101]⟩
def zeroS : SpecD := ⟨⟨#[]⟩, [], [], [], 0, 0, 0⟩
def ofR (l : List UInt8) : RS × SpecD := specP ⟨l, 0⟩
def ofE (l : List UInt8) : Err := firstE [newE (endR (ofR l).1).c [wireS], checkE (ofR l).2]
def ofS (l : List UInt8) : SpecD := match ofE l with
  | none => (ofR l).2
  | some _ => zeroS
theorem ofS_none {l : List UInt8} (h : ofE l = none) : ofS l = (ofR l).2 := by unfold ofS; rw [h]
theorem ofS_some {l : List UInt8} {y : Int × List ByteArray} (h : ofE l = some y) : ofS l = zeroS := by unfold ofS; rw [h]
def OfPost (w : World) (l : List UInt8) (e : Ending) (w' : World) : Prop := ∃ lv iv mv v, e = .returned (.tuple #[specV (ofS l) lv iv mv, v]) ∧ OSpec (Ran w.heap.size w'.heap.size) w' (ofS l) lv iv mv ∧ RErrO w.heap.size w' v (ofE l) ∧ Below w.heap.size w w'
theorem zero_own (I : Nat → Prop) (w : World) : OSpec I w zeroS (.slice none 0 0) (.slice none 0 0) (.slice none 0 0) :=
  ⟨⟨rfl, .inl ⟨rfl, rfl⟩⟩, ⟨[], rfl, ⟨rfl, .inl ⟨rfl, rfl⟩⟩, fun j q c h => by simp at h⟩, ⟨[], rfl, ⟨rfl, .inl ⟨rfl, rfl⟩⟩, fun j q c h => by simp at h⟩⟩
theorem results_cell_tmp {P : Program} {fn : Func} {p t2 : Tmp} {ty : TypeId} (h : fn.results = #[.cell p ty, .tmp t2]) (tmps : Array Value) (w : World) (g : Nat) (t : TypeId) (cs : Array Value) (fr : Nat × Nat) (d : TypeDesc)
    (hp : tmps.getD p undef = .pointer (some ⟨g, 0, none⟩)) (hg : w.heap[g]? = some (.cells cs t fr))
    (hu : P.underlying ty = some d) (hd : (match d with | .struct _ | .array _ _ => true | _ => false) = true) (hi : (P.info? ty).map (·.size) = some cs.size) :
    (results fn tmps).run P w = .ok (.tuple #[.agg cs, tmps.getD t2 undef]) w := by
  have hp' : tmps[p]?.getD undef = .pointer (some ⟨g, 0, none⟩) := by simpa using hp
  simp [results, h, hp', asAddr, run_loadVar_row w g t ty cs fr d hg hu hd hi]
def MidO (B p : Nat) (X : World) (er : Err) (s6 : Value) (wx : World) : Prop := RErrO B wx s6 er ∧ Kept (· = p) X wx

set_option maxHeartbeats 8000000 in
set_option maxRecDepth 100000 in
theorem Of_any (l : List UInt8) (w : World) (hm : LaidMarks w) (hl : l.length ≤ 1000000) : Calls Tryz.prog 47 #[.string (baOf l)] w (OfPost w l) := by
  have h3 := laid_lt hm
  have HM := Lib.hid hm
  clear hm
  go_enter Tryz.func47, Tryz.ntmps47
  go_wp2_with fail
  obtain ⟨W0, hW0⟩ : ∃ W, W = w.alloc (.cells #[.string ⟨#[]⟩, .slice none 0 0, .slice none 0 0, .slice none 0 0, .int .i64 0, .int .i64 0, .int .i64 0] 25) := ⟨_, rfl⟩
  have HB0 : Hid (Below w.heap.size w W0) := Lib.hid (by rw [hW0]; exact bnew _ _)
  have HX0 : Hid (W0.heap[w.heap.size]? = some (.cells #[.string ⟨#[]⟩, .slice none 0 0, .slice none 0 0, .slice none 0 0, .int .i64 0, .int .i64 0, .int .i64 0] 25 (0, 0))) := Lib.hid (by rw [hW0]; exact heap_alloc_new _ _)
  have HS0 : Hid (W0.heap.size = w.heap.size + 1) := Lib.hid (by rw [hW0]; simp)
  rw [← hW0]
  clear hW0
  have hS0 : w.heap.size < W0.heap.size := by have := HS0.out; omega
  refine (Read_any (baOf l) W0).mono ?_
  rintro e W ⟨rfl, hW⟩
  obtain ⟨p, hp⟩ : ∃ p, p = W0.heap.size := ⟨_, rfl⟩
  have hr0 := RdAt.new W0 (baOf l)
  rw [← hW, ← hp, ba_toList] at hr0
  have HR0 : Hid (RdAt p W ⟨l, 0⟩) := Lib.hid hr0
  have HB1 : Hid (Below w.heap.size w W) := Lib.hid (by rw [hW]; exact bto HB0.out (bnew _ _))
  have HX1 : Hid (W.heap[w.heap.size]? = some (.cells #[.string ⟨#[]⟩, .slice none 0 0, .slice none 0 0, .slice none 0 0, .int .i64 0, .int .i64 0, .int .i64 0] 25 (0, 0))) := Lib.hid (by rw [hW]; exact boxB (bnew _ _) HX0.out)
  have hpw : w.heap.size < p := by omega
  have hpW : p < W.heap.size := hr0.lt
  rw [← hp]
  clear hr0 hW hp hS0 HB0 HX0 HS0
  go_wp2_with fail
  refine (Raw_any p W ⟨l, 0⟩ HR0.out hl).mono ?_
  rintro e w1 ⟨lv, iv, mv, rfl, ho, h1, k1⟩
  obtain ⟨r, hr⟩ : ∃ x, x = (specP ⟨l, 0⟩).1 := ⟨_, rfl⟩
  obtain ⟨s, hs⟩ : ∃ x, x = (specP ⟨l, 0⟩).2 := ⟨_, rfl⟩
  have hok := (specP_in ⟨l, 0⟩).ok
  have HEQ : Hid (ofR l = (r, s)) := Lib.hid (by rw [hr, hs]; rfl)
  rw [← hs] at ho hok ⊢
  rw [← hr] at h1
  clear hr hs
  obtain ⟨la, lc, hf1⟩ := ho.labs.form
  obtain ⟨ia, ic, hf2⟩ := ho.inits.form
  obtain ⟨ma, mc, hf3⟩ := ho.mains.form
  subst hf1 hf2 hf3
  obtain ⟨g, hgw⟩ : ∃ g, g = w1.heap.size := ⟨_, rfl⟩
  have hs1 : W.heap.size ≤ w1.heap.size := k1.size
  have HE : Hid (ofE l = firstE [newE (endR r).c [wireS], checkE s]) := Lib.hid (by unfold ofE; rw [HEQ.out])
  have HO := Lib.hid ho
  have H1 := Lib.hid h1
  have K1 := Lib.hid k1
  clear h1 k1 ho
  go_upto_region 3 with fail
  obtain ⟨X, hX⟩ : ∃ X, X = w1.alloc (.cells #[.string s.name, .slice la s.labels.length lc, .slice ia s.inits.length ic, .slice ma s.mains.length mc, .int .i64 s.restart, .int .i64 s.grace, .int .i64 s.prio] 25) := ⟨_, rfl⟩
  have HG : Hid (X.heap[g]? = some (.cells #[.string s.name, .slice la s.labels.length lc, .slice ia s.inits.length ic, .slice ma s.mains.length mc, .int .i64 s.restart, .int .i64 s.grace, .int .i64 s.prio] 25 (0, 0))) := Lib.hid (by rw [hX, hgw]; exact heap_alloc_new _ _)
  have HRX : Hid (RdAt p X r) := Lib.hid (by rw [hX]; exact H1.out.keptBelow (bnew _ _))
  have HKX : Hid (Kept (· = p) W X) := Lib.hid (by rw [hX]; exact keptA K1.out (bnew _ _))
  have HOX : Hid (OSpec (Ran W.heap.size g) X s (.slice la s.labels.length lc) (.slice ia s.inits.length ic) (.slice ma s.mains.length mc)) := Lib.hid (by rw [hX, hgw]; exact HO.out.below (bnew _ _))
  have hXg : g + 1 ≤ X.heap.size := by rw [hX, hgw]; simp
  have hgp : g ≠ p := by omega
  have hWg : W.heap.size ≤ g := by omega
  rw [← hX, ← hgw]
  clear hX hgw H1 K1 HO hs1
  have BX : Hid (Below w.heap.size w X) := Lib.hid (belowk0 HB1.out HKX.out (fun i hi => by have h2 : i = p := hi; omega) HB1.out.size)
  go_cut [6] (MidO W.heap.size p X (firstE [newE (endR r).c [wireS], checkE s]))
  case first =>
    have CE : Hid (∀ w, RdAt p w r → Calls Tryz.prog 146 #[.pointer (some ⟨p, 0, none⟩)] w (RdPost p w (endR r) (.int .i64 (endR r).c))) := Lib.hid fun w h => rend_any p w r h
    have CEA := Lib.hid (RdPost.alloc CE.out)
    have S0 : X.cell? ⟨g, 0, none⟩ = some (.string s.name) ∧ X.cell? ⟨g, 1, none⟩ = some (.slice la s.labels.length lc) ∧ X.cell? ⟨g, 2, none⟩ = some (.slice ia s.inits.length ic) ∧ X.cell? ⟨g, 3, none⟩ = some (.slice ma s.mains.length mc) ∧ X.cell? ⟨g, 4, none⟩ = some (.int .i64 s.restart) ∧ X.cell? ⟨g, 5, none⟩ = some (.int .i64 s.grace) ∧ X.cell? ⟨g, 6, none⟩ = some (.int .i64 s.prio) := ⟨cell_at HG.out rfl, cell_at HG.out rfl, cell_at HG.out rfl, cell_at HG.out rfl, cell_at HG.out rfl, cell_at HG.out rfl, cell_at HG.out rfl⟩
    have KEEP : Hid (∀ A B : World, Below A.heap.size A B → (A.cell? ⟨g, 0, none⟩ = some (.string s.name) ∧ A.cell? ⟨g, 1, none⟩ = some (.slice la s.labels.length lc) ∧ A.cell? ⟨g, 2, none⟩ = some (.slice ia s.inits.length ic) ∧ A.cell? ⟨g, 3, none⟩ = some (.slice ma s.mains.length mc) ∧ A.cell? ⟨g, 4, none⟩ = some (.int .i64 s.restart) ∧ A.cell? ⟨g, 5, none⟩ = some (.int .i64 s.grace) ∧ A.cell? ⟨g, 6, none⟩ = some (.int .i64 s.prio)) → (B.cell? ⟨g, 0, none⟩ = some (.string s.name) ∧ B.cell? ⟨g, 1, none⟩ = some (.slice la s.labels.length lc) ∧ B.cell? ⟨g, 2, none⟩ = some (.slice ia s.inits.length ic) ∧ B.cell? ⟨g, 3, none⟩ = some (.slice ma s.mains.length mc) ∧ B.cell? ⟨g, 4, none⟩ = some (.int .i64 s.restart) ∧ B.cell? ⟨g, 5, none⟩ = some (.int .i64 s.grace) ∧ B.cell? ⟨g, 6, none⟩ = some (.int .i64 s.prio))) := Lib.hid fun A B hb h => ⟨keepc hb h.1, keepc hb h.2.1, keepc hb h.2.2.1, keepc hb h.2.2.2.1, keepc hb h.2.2.2.2.1, keepc hb h.2.2.2.2.2.1, keepc hb h.2.2.2.2.2.2⟩
    have KEEPP : Hid (∀ A B : World, Kept (· = p) A B → (A.cell? ⟨g, 0, none⟩ = some (.string s.name) ∧ A.cell? ⟨g, 1, none⟩ = some (.slice la s.labels.length lc) ∧ A.cell? ⟨g, 2, none⟩ = some (.slice ia s.inits.length ic) ∧ A.cell? ⟨g, 3, none⟩ = some (.slice ma s.mains.length mc) ∧ A.cell? ⟨g, 4, none⟩ = some (.int .i64 s.restart) ∧ A.cell? ⟨g, 5, none⟩ = some (.int .i64 s.grace) ∧ A.cell? ⟨g, 6, none⟩ = some (.int .i64 s.prio)) → (B.cell? ⟨g, 0, none⟩ = some (.string s.name) ∧ B.cell? ⟨g, 1, none⟩ = some (.slice la s.labels.length lc) ∧ B.cell? ⟨g, 2, none⟩ = some (.slice ia s.inits.length ic) ∧ B.cell? ⟨g, 3, none⟩ = some (.slice ma s.mains.length mc) ∧ B.cell? ⟨g, 4, none⟩ = some (.int .i64 s.restart) ∧ B.cell? ⟨g, 5, none⟩ = some (.int .i64 s.grace) ∧ B.cell? ⟨g, 6, none⟩ = some (.int .i64 s.prio))) := Lib.hid fun A B hb h => ⟨hb.cell hgp h.1, hb.cell hgp h.2.1, hb.cell hgp h.2.2.1, hb.cell hgp h.2.2.2.1, hb.cell hgp h.2.2.2.2.1, hb.cell hgp h.2.2.2.2.2.1, hb.cell hgp h.2.2.2.2.2.2⟩
    have hsX : 3 < X.heap.size := by omega
    go_region_held3 (fun w' => w'.cell? ⟨g, 0, none⟩ = some (.string s.name) ∧ w'.cell? ⟨g, 1, none⟩ = some (.slice la s.labels.length lc) ∧ w'.cell? ⟨g, 2, none⟩ = some (.slice ia s.inits.length ic) ∧ w'.cell? ⟨g, 3, none⟩ = some (.slice ma s.mains.length mc) ∧ w'.cell? ⟨g, 4, none⟩ = some (.int .i64 s.restart) ∧ w'.cell? ⟨g, 5, none⟩ = some (.int .i64 s.grace) ∧ w'.cell? ⟨g, 6, none⟩ = some (.int .i64 s.prio))
      (first | with_reducible assumption | with_reducible exact KEEP.out _ _ (bnew _ _) s3 | with_reducible exact s3 | with_reducible exact KEEP.out _ _ (bnew _ _) s1 | with_reducible exact KEEP.out _ _ (bnew _ _) (KEEP.out _ _ (bdrew1 _) S0) | with_reducible exact KEEP.out _ _ (bdrew1 _) S0)
      (first
        | (go_at_call 146; (first
            | ((with_reducible refine (CEA.out _ _ (HRX.out.keptBelow (bdrew1 X))).mono ?_); rintro e w' ⟨rfl, w1, rfl, h1, k1⟩; have s1 := KEEPP.out _ _ k1.1 (KEEP.out _ _ (bdrew1 _) S0); have e1 : X.heap.size = w1.heap.size := k1.2.symm)
            | ((with_reducible refine (CE.out X.drew (HRX.out.keptBelow (bdrew1 X))).mono ?_); rintro e w1 ⟨rfl, h1, k1⟩; have s1 := KEEPP.out _ _ k1.1 (KEEP.out _ _ (bdrew1 _) S0); have e1 : X.heap.size = w1.heap.size := k1.2.symm)
            | ((refine (CEA.out X.drew _ (HRX.out.keptBelow (bdrew1 X))).mono ?_); rintro e w' ⟨rfl, w1, rfl, h1, k1⟩; have s1 := KEEPP.out _ _ k1.1 (KEEP.out _ _ (bdrew1 _) S0); have e1 : X.heap.size = w1.heap.size := k1.2.symm)))
        | (go_at_call 122; (refine (New_one _ wireS _ _ _ (by first | exact new_cell _ _ _ _ _ _ rfl rfl | exact new_cell _ _ _ _ _ _ e1 rfl)).mono ?_); rintro e w2 ⟨v1, rfl, hr1, hb2⟩; have hv1 := hr1.isV; have s2 := KEEP.out _ _ hb2 (KEEP.out _ _ (bnew _ _) s1); have HR1 := Lib.hid hr1; have HB2 := Lib.hid (keptA (keptA (keptB (bdrew1 X) k1.1) (bnew _ _)) hb2); clear hr1 hb2)
        | (go_at_call 35; (refine (Check_any s _ ia ma ic mc w2 hok (HM.out.below (belowk0 BX.out HB2.out (fun i hi => by have h2 : i = p := hi; omega) BX.out.size)) (by have := HB2.out.size; omega) (HOX.out.kept HB2.out (fun i hi e => by have h2 := hi.1; have h3 : i = p := e; omega)).I.labs.R (HOX.out.kept HB2.out (fun i hi e => by have h2 := hi.1; have h3 : i = p := e; omega)).I.inits.R (HOX.out.kept HB2.out (fun i hi e => by have h2 := hi.1; have h3 : i = p := e; omega)).I.mains.R).mono ?_); rintro e w3 ⟨v2, rfl, hr2, hb3⟩; have hv2 := hr2.isV; have HR2 := Lib.hid hr2; have HB3 := Lib.hid hb3; have s3 := KEEP.out _ _ hb3 s2; clear hr2 hb3)
        | (go_at_call 121; (refine (First_two v1 v2 _ _ _ hv1 hv2 (new_cell _ _ _ _ _ _ rfl rfl) (new_cell _ _ _ _ _ _ rfl rfl)).mono ?_); rintro e w' ⟨rfl, rfl⟩))
    all_goals
      go_wp2_with fail
      go_meet
      exact ⟨RErrs.first (vs := [v1, v2]) (es := [newE (endR r).c [wireS], checkE s]) ⟨((HR1.out.mono (by simp; omega)).below HB3.out).below (bnew _ _), (HR2.out.mono (by have := HB2.out.size; omega)).below (bnew _ _), trivial⟩, keptA (keptA HB2.out HB3.out) (bnew _ _)⟩
  case rest =>
    obtain ⟨her, hk⟩ := hcut
    rw [← HE.out] at her
    have HER := Lib.hid her
    have HK := Lib.hid (kept_thru HKX.out hk)
    have HZ := Lib.hid (kept_block HK.out HX1.out (by omega))
    have HGC := Lib.hid (kept_block hk HG.out hgp)
    have HOC := Lib.hid (HOX.out.kept hk (fun i hi e => by have h2 := hi.1; have h3 : i = p := e; omega))
    have BC := Lib.hid (belowk0 BX.out hk (fun i hi => by have h2 : i = p := hi; omega) BX.out.size)
    have hgc : g < wc.heap.size := (Array.getElem?_eq_some_iff.1 HGC.out).1
    have n0 : wc.cell? ⟨w.heap.size, 0, none⟩ = some (.string ⟨#[]⟩) := cell_at HZ.out rfl
    have o0 : wc.frozen? ⟨w.heap.size, 0, none⟩ = false := frozen_at HZ.out
    have n1 : wc.cell? ⟨w.heap.size, 1, none⟩ = some (.slice none 0 0) := cell_at HZ.out rfl
    have o1 : wc.frozen? ⟨w.heap.size, 1, none⟩ = false := frozen_at HZ.out
    have n2 : wc.cell? ⟨w.heap.size, 2, none⟩ = some (.slice none 0 0) := cell_at HZ.out rfl
    have o2 : wc.frozen? ⟨w.heap.size, 2, none⟩ = false := frozen_at HZ.out
    have n3 : wc.cell? ⟨w.heap.size, 3, none⟩ = some (.slice none 0 0) := cell_at HZ.out rfl
    have o3 : wc.frozen? ⟨w.heap.size, 3, none⟩ = false := frozen_at HZ.out
    have n4 : wc.cell? ⟨w.heap.size, 4, none⟩ = some (.int .i64 0) := cell_at HZ.out rfl
    have o4 : wc.frozen? ⟨w.heap.size, 4, none⟩ = false := frozen_at HZ.out
    have n5 : wc.cell? ⟨w.heap.size, 5, none⟩ = some (.int .i64 0) := cell_at HZ.out rfl
    have o5 : wc.frozen? ⟨w.heap.size, 5, none⟩ = false := frozen_at HZ.out
    have n6 : wc.cell? ⟨w.heap.size, 6, none⟩ = some (.int .i64 0) := cell_at HZ.out rfl
    have o6 : wc.frozen? ⟨w.heap.size, 6, none⟩ = false := frozen_at HZ.out
    clear hk HKX HOX BX HRX HX1 HR0 HB1 HM
    cases he : ofE l with
    | some y =>
      rw [he] at her
      obtain ⟨t, z, rfl⟩ := RErr.held (show RErr _ _ _ y.1 y.2 from her)
      have HS := Lib.hid (ofS_some he)
      have HER2 := Lib.hid (show RErrO W.heap.size wc (.iface t z) (some y) from her)
      have HOE := Lib.hid he
      clear her he HER
      have HR := Lib.hid (put11 (vs := [.string ⟨#[]⟩, .slice none 0 0, .slice none 0 0, .slice none 0 0, .int .i64 0, .int .i64 0, .int .i64 0]) (cur := [.string ⟨#[]⟩, .slice none 0 0, .slice none 0 0, .slice none 0 0, .int .i64 0, .int .i64 0, .int .i64 0]) HZ.out rfl)
      have HRK := Lib.hid (putCells_kept w.heap.size [.string ⟨#[]⟩, .slice none 0 0, .slice none 0 0, .slice none 0 0, .int .i64 0, .int .i64 0, .int .i64 0] wc 0)
      go_wp2
      refine bodyPost_ret (results_cell_tmp rfl _ _ w.heap.size 25 _ (0, 0) _ rfl HR.out Tryz.underlying25 rfl (by kernel_rfl)) rfl ?_
      refine ⟨.slice none 0 0, .slice none 0 0, .slice none 0 0, .iface t z, ?_, ?_, ?_, ?_⟩
      · rw [HS.out]; rfl
      · rw [HS.out]; exact zero_own _ _
      · rw [HOE.out]; exact (HER2.out.kept fun k hk hk2 => HRK.out.block k hk2 (fun e => by have h2 : k = w.heap.size := e; omega)).mono (by omega)
      · exact belowk0 BC.out HRK.out (fun i hi => by have h2 : i = w.heap.size := hi; omega) BC.out.size
    | none =>
      rw [he] at her
      have HS := Lib.hid (ofS_none he)
      have HOE := Lib.hid he
      have hv : _ = Value.nilIface := her
      subst hv
      clear her he HER
      have q0 : wc.cell? ⟨g, 0, none⟩ = some (.string s.name) := cell_at HGC.out rfl
      have q1 : wc.cell? ⟨g, 1, none⟩ = some (.slice la s.labels.length lc) := cell_at HGC.out rfl
      have q2 : wc.cell? ⟨g, 2, none⟩ = some (.slice ia s.inits.length ic) := cell_at HGC.out rfl
      have q3 : wc.cell? ⟨g, 3, none⟩ = some (.slice ma s.mains.length mc) := cell_at HGC.out rfl
      have q4 : wc.cell? ⟨g, 4, none⟩ = some (.int .i64 s.restart) := cell_at HGC.out rfl
      have q5 : wc.cell? ⟨g, 5, none⟩ = some (.int .i64 s.grace) := cell_at HGC.out rfl
      have q6 : wc.cell? ⟨g, 6, none⟩ = some (.int .i64 s.prio) := cell_at HGC.out rfl
      have HR := Lib.hid (put11 (vs := [.string s.name, .slice la s.labels.length lc, .slice ia s.inits.length ic, .slice ma s.mains.length mc, .int .i64 s.restart, .int .i64 s.grace, .int .i64 s.prio]) (cur := [.string ⟨#[]⟩, .slice none 0 0, .slice none 0 0, .slice none 0 0, .int .i64 0, .int .i64 0, .int .i64 0]) HZ.out rfl)
      have HRK := Lib.hid (putCells_kept w.heap.size [.string s.name, .slice la s.labels.length lc, .slice ia s.inits.length ic, .slice ma s.mains.length mc, .int .i64 s.restart, .int .i64 s.grace, .int .i64 s.prio] wc 0)
      go_wp2
      refine bodyPost_ret (results_cell_tmp rfl _ _ w.heap.size 25 _ (0, 0) _ rfl HR.out Tryz.underlying25 rfl (by kernel_rfl)) rfl ?_
      refine ⟨.slice la s.labels.length lc, .slice ia s.inits.length ic, .slice ma s.mains.length mc, .nilIface, ?_, ?_, ?_, ?_⟩
      · rw [HS.out, HEQ.out]; rfl
      · rw [HS.out, HEQ.out]
        have hsz := HRK.out.size
        refine (HOC.out.kept HRK.out (fun i hi e => by have h2 : i = w.heap.size := e; have h3 := hi.1; omega)).mono fun i hi => ⟨by have h3 := hi.1; omega, by have h3 := hi.2; exact Nat.lt_of_lt_of_le (Nat.lt_trans h3 hgc) hsz⟩
      · rw [HOE.out]; rfl
      · exact belowk0 BC.out HRK.out (fun i hi => by have h2 : i = w.heap.size := hi; omega) BC.out.size
end Go.Proofs.YtgelbkgkjkeccaaGreatDoor
namespace Go.Proofs.YtgelbkgkjkeccaaGreatDoor
open Go.RowKit

def Adds (f : WS → WS) (e : List UInt8) : Prop := ∀ s, s.c = 0 → f s = ⟨s.out ++ e, 0⟩
theorem Adds.comp {f g : WS → WS} {a b : List UInt8} (h : Adds f a) (k : Adds g b) : Adds (fun s => g (f s)) (a ++ b) := fun s hs => by
  show g (f s) = _
  rw [h s hs, k _ rfl, List.append_assoc]
theorem numW_adds {n : Int} (h : 0 ≤ n) : Adds (numW n) (encI n) := fun s hs => by
  unfold numW putW encI
  rw [if_neg (by omega), if_pos hs]
theorem putW_adds (bs : List UInt8) : Adds (putW bs) bs := fun s hs => by unfold putW; rw [if_pos hs]
theorem textW_adds (t : ByteArray) : Adds (textW t) (encT t) := by
  have h := (numW_adds (n := (t.size : Int)) (by omega)).comp (putW_adds t.data.toList)
  exact h
theorem fold_adds {α : Type} {f : α → WS → WS} {enc : α → List UInt8} : ∀ (l : List α), (∀ x ∈ l, Adds (f x) (enc x)) → Adds (fun s => l.foldl (fun s x => f x s) s) (l.flatMap enc)
  | [], _ => fun s hs => by
    cases s
    simp at hs
    subst hs
    simp
  | x :: l, h => by
    have h1 := (h x (by simp)).comp (fold_adds l fun y hy => h y (by simp [hy]))
    rw [List.flatMap_cons]
    exact h1
theorem all_adds {α : Type} {f : α → WS → WS} {enc : α → List UInt8} (l : List α) (h : ∀ x ∈ l, Adds (f x) (enc x)) : Adds (fun s => l.foldl (fun s x => f x s) (numW l.length s)) (encL enc l) := by
  have h1 := (numW_adds (n := (l.length : Int)) (by omega)).comp (fold_adds l h)
  exact h1
theorem resW_adds {r : ResD} (h : ResR r) : Adds (resW r) (encRes r) := ((numW_adds h.cpu.1).comp (numW_adds h.mem.1)).comp (numW_adds h.pids.1)
theorem ctrW_adds {c : CtrD} (h : CtrR c) : Adds (ctrW c) (encCtr c) :=
  ((((((textW_adds c.name).comp (textW_adds c.image)).comp (resW_adds h.req)).comp (resW_adds h.lim)).comp (all_adds c.ports fun x hx => numW_adds (h.ports x hx).1)).comp (numW_adds h.every.1)).comp (numW_adds h.fails.1)
theorem labW_adds (x : LabelD) : Adds (labW x) (encLab x) := (textW_adds x.key).comp (textW_adds x.val)
theorem specPW_adds {s : SpecD} (h : SpecR s) : Adds (specPW s) (encSpec s) :=
  ((((((textW_adds s.name).comp (all_adds s.labels fun x _ => labW_adds x)).comp (all_adds s.inits fun x hx => ctrW_adds (h.inits x hx))).comp (all_adds s.mains fun x hx => ctrW_adds (h.mains x hx))).comp (numW_adds h.restart.1)).comp (numW_adds h.grace.1)).comp (numW_adds h.prio.1)
theorem put_right {s : SpecD} (h : checkE s = none) : Adds (putSpecW s) (encSpec s) := fun st hs => by
  unfold putSpecW
  rw [h]
  exact specPW_adds (checkE_in h).1 st hs
theorem bytesE_right {s : SpecD} (h : checkE s = none) : bytesE s = encSpec s := by
  unfold bytesE
  rw [put_right h emptyW rfl]
  rfl
theorem bytesC_right {s : SpecD} (h : checkE s = none) : bytesC s = 0 := by
  unfold bytesC
  rw [put_right h emptyW rfl]
theorem bytesC_wrong {s : SpecD} {y : Int × List ByteArray} (h : checkE s = some y) : bytesC s = y.1 := by
  unfold bytesC putSpecW
  rw [h]
  rfl

theorem end_zero {r : RS} (h : (endR r).c = 0) : r = ⟨[], 0⟩ := by
  unfold endR failR at h
  cases r with
  | mk l c =>
    cases l with
    | nil => simpa using h
    | cons x l =>
      by_cases hc : c = 0
      · simp [hc] at h
      · simp [hc] at h
theorem newE_none {c : Int} {ps : List ByteArray} (h : newE c ps = none) : c = 0 := by
  unfold newE at h
  split at h
  · assumption
  · cases h
theorem firstE_two {a b : Err} (h : firstE [a, b] = none) : a = none ∧ b = none := by
  cases a with
  | some x => cases h
  | none => cases b with
    | some x => cases h
    | none => exact ⟨rfl, rfl⟩
theorem ofE_enc {s : SpecD} (h : checkE s = none) : ofE (encSpec s) = none ∧ ofS (encSpec s) = s := by
  have h1 := (specP_codec s (checkE_in h).1).ok []
  rw [List.append_nil] at h1
  have h2 : ofE (encSpec s) = none := by
    unfold ofE ofR
    rw [h1]
    show firstE [newE (endR ⟨[], 0⟩).c [wireS], checkE s] = none
    rw [h]
    rfl
  refine ⟨h2, ?_⟩
  rw [ofS_none h2]
  unfold ofR
  rw [h1]
theorem ofE_back {l : List UInt8} (h : ofE l = none) : checkE (ofS l) = none ∧ l = encSpec (ofS l) := by
  rw [ofS_none h]
  unfold ofE at h
  obtain ⟨h1, h2⟩ := firstE_two h
  refine ⟨h2, ?_⟩
  have h3 := end_zero (newE_none h1)
  have h4 := (specP_reads l [] (ofR l).2 (show specP ⟨l, 0⟩ = _ by rw [← h3]; rfl)).1
  rw [List.append_nil] at h4
  exact h4
theorem ofE_cut {s : SpecD} (h : checkE s = none) {q t : List UInt8} (hq : q ++ t = encSpec s) (ht : t ≠ []) : ofE q = some (40, [wireS]) := by
  have h1 := (specP_codec s (checkE_in h).1).cut q t hq ht
  have h2 : (endR (ofR q).1).c = 40 := by
    have h1' : (ofR q).1.c = 40 := h1
    unfold endR failR
    rw [if_neg (show ¬ (ofR q).1.c = 0 by rw [h1']; decide)]
    split <;> exact h1'
  unfold ofE
  rw [h2]
  rfl
theorem ofE_long {s : SpecD} (h : checkE s = none) {t : List UInt8} (ht : t ≠ []) : ofE (encSpec s ++ t) = some (3, [wireS]) := by
  have h1 := (specP_codec s (checkE_in h).1).ok t
  have h2 : (endR (ofR (encSpec s ++ t)).1).c = 3 := by
    unfold ofR
    rw [h1]
    cases t with
    | nil => exact absurd rfl ht
    | cons x t => rfl
  unfold ofE
  rw [h2]
  rfl
theorem enc_pos (s : SpecD) : encSpec s ≠ [] := by
  have h : 0 < (encSpec s).length := by
    have := putN_pos s.name.size
    unfold encSpec encT
    simp
    omega
  intro e
  rw [e] at h
  cases h
end Go.Proofs.YtgelbkgkjkeccaaGreatDoor
namespace Go.Proofs.YtgelbkgkjkeccaaGreatDoor
open Go.RowKit

/-! an error of Check has a code -/
def NZ : Err → Prop
  | none => True
  | some x => x.1 ≠ 0
theorem NZ.first : ∀ {l : List Err}, (∀ e ∈ l, NZ e) → NZ (firstE l)
  | [], _ => trivial
  | none :: l, h => NZ.first (l := l) fun e he => h e (by simp [he])
  | some x :: l, h => h (some x) (by simp)
theorem NZ.inE {e : Err} (h : NZ e) (s : ByteArray) : NZ (inE e s) := by
  cases e with
  | none => trivial
  | some x => exact h
theorem withinE_nz {c : Int} (hc : c ≠ 0) (s : ByteArray) (n lo hi : Int) : NZ (withinE c s n lo hi) := by
  unfold withinE
  split
  · exact hc
  · trivial
theorem mostE_nz (s : ByteArray) (n l : Int) : NZ (mostE s n l) := by
  unfold mostE
  split
  · trivial
  · exact withinE_nz (by decide) _ _ _ _
theorem reqE_nz (r : ResD) : NZ (reqE r) := NZ.inE (NZ.first fun e he => by
  simp only [List.mem_cons, List.not_mem_nil, or_false] at he
  rcases he with rfl | rfl | rfl <;> exact withinE_nz (by decide) _ _ _ _) _
theorem limE_nz (l r : ResD) : NZ (limE l r) := NZ.inE (NZ.first fun e he => by
  simp only [List.mem_cons, List.not_mem_nil, or_false] at he
  rcases he with rfl | rfl | rfl <;> exact mostE_nz _ _ _) _
theorem probeE_nz (a b c : Int) : NZ (probeE a b c) := NZ.inE (NZ.first fun e he => by
  simp only [List.mem_cons, List.not_mem_nil, or_false] at he
  rcases he with rfl | rfl
  · exact withinE_nz (by decide) _ _ _ _
  · split <;> exact withinE_nz (by decide) _ _ _ _) _
theorem portStep_nz (i : Nat) (ps : List Int) (x : Int) : NZ (portStep i ps x) := by
  have h := withinE_nz (c := 1) (by decide) (atB portsS i) x 1 65535
  unfold portStep
  cases hc : withinE 1 (atB portsS i) x 1 65535 with
  | some e => rw [hc] at h; exact h
  | none =>
    show NZ (if _ then _ else _)
    split
    · show (150 : Int) ≠ 0; decide
    · trivial
theorem portsFrom_nz : ∀ (xs : List Int) (i : Nat) (ps : List Int), NZ (portsFrom i ps xs).1
  | [], _, _ => trivial
  | x :: r, i, ps => by
    have h := portStep_nz i ps x
    unfold portsFrom
    cases hc : portStep i ps x with
    | some e => rw [hc] at h; exact h
    | none => exact portsFrom_nz r _ _
theorem portE_nz (xs : List Int) (m : Int) (ps : List Int) : NZ (portE xs m ps).1 := by
  have h := withinE_nz (c := 2) (by decide) portsS xs.length 0 m
  unfold portE
  cases hc : withinE 2 portsS xs.length 0 m with
  | some e => rw [hc] at h; exact h
  | none => exact portsFrom_nz _ _ _
theorem nameE_nz (c : CtrD) (ns : List ByteArray) : NZ (nameE c ns) := by
  unfold nameE
  split
  · split
    · show (7 : Int) ≠ 0; decide
    · trivial
  · show (30 : Int) ≠ 0; decide
theorem imageE_nz (c : CtrD) : NZ (imageE c) := by
  unfold imageE
  split
  · trivial
  · show (33 : Int) ≠ 0; decide
theorem contE_nz (c : CtrD) (ns : List ByteArray) (ps : List Int) (m e : Int) : NZ (contE c ns ps m e).1 := NZ.first fun e he => by
  simp only [List.mem_cons, List.not_mem_nil, or_false] at he
  rcases he with rfl | rfl | rfl | rfl | rfl | rfl
  · exact nameE_nz _ _
  · exact imageE_nz _
  · exact reqE_nz _
  · exact limE_nz _ _
  · exact portE_nz _ _ _
  · exact probeE_nz _ _ _
theorem contsFrom_nz (name : ByteArray) (m e : Int) : ∀ (l : List CtrD) (i : Nat) (ns : List ByteArray) (ps : List Int), NZ (contsFrom name m e i ns ps l).1
  | [], _, _, _ => trivial
  | c :: r, i, ns, ps => by
    have h := contE_nz c ns ps m e
    unfold contsFrom
    cases hc : (contE c ns ps m e).1 with
    | some x => rw [hc] at h; exact NZ.inE h _
    | none => exact contsFrom_nz name m e r _ _ _
theorem keyE_nz (x : LabelD) (p : Option ByteArray) : NZ (keyE x p) := by
  unfold keyE
  split
  · cases p with
    | none => trivial
    | some q =>
      show NZ (if _ then _ else _)
      split
      · show (4 : Int) ≠ 0; decide
      · trivial
  · show (31 : Int) ≠ 0; decide
theorem labE_nz (name : ByteArray) (i : Nat) (x : LabelD) (p : Option ByteArray) : NZ (labE name i x p) := NZ.inE (NZ.first fun e he => by
  simp only [List.mem_cons, List.not_mem_nil, or_false] at he
  rcases he with rfl | rfl
  · exact keyE_nz _ _
  · split
    · trivial
    · show (32 : Int) ≠ 0; decide) _
theorem labsFrom_nz (name : ByteArray) : ∀ (l : List LabelD) (i : Nat) (p : Option ByteArray), NZ (labsFrom name i p l)
  | [], _, _ => trivial
  | x :: r, i, p => by
    have h := labE_nz name i x p
    unfold labsFrom
    cases hc : labE name i x p with
    | some e => rw [hc] at h; exact h
    | none => exact labsFrom_nz name r _ _
theorem labelsE_nz (name : ByteArray) (l : List LabelD) : NZ (labelsE name l) := by
  unfold labelsE
  split
  · show (2 : Int) ≠ 0; decide
  · exact labsFrom_nz _ _ _ _
theorem checkE_nz (s : SpecD) : NZ (checkE s) := by
  have h1 : NZ (check1 s) := NZ.first fun e he => by
    simp only [List.mem_cons, List.not_mem_nil, or_false] at he
    rcases he with rfl | rfl | rfl
    · split
      · trivial
      · show (30 : Int) ≠ 0; decide
    · exact labelsE_nz _ _
    · exact withinE_nz (by decide) _ _ _ _
  have h2 : NZ (check2 s) := NZ.first fun e he => by
    simp only [List.mem_cons, List.not_mem_nil, or_false] at he
    rcases he with rfl | rfl
    · exact contsFrom_nz _ _ _ _ _ _ _
    · exact withinE_nz (by decide) _ _ _ _
  have h3 : NZ (check3 s) := NZ.first fun e he => by
    simp only [List.mem_cons, List.not_mem_nil, or_false] at he
    rcases he with rfl | rfl | rfl | rfl
    · exact contsFrom_nz _ _ _ _ _ _ _
    · exact withinE_nz (by decide) _ _ _ _
    · exact withinE_nz (by decide) _ _ _ _
    · exact withinE_nz (by decide) _ _ _ _
  unfold checkE
  cases hc : check1 s with
  | some e => rw [hc] at h1; exact h1
  | none => cases hd : check2 s with
    | some e => rw [hd] at h2; exact h2
    | none => exact h3
theorem checkE_code {s : SpecD} {y : Int × List ByteArray} (h : checkE s = some y) : y.1 ≠ 0 := by
  have h1 := checkE_nz s
  rw [h] at h1
  exact h1

theorem Code_some (B : Nat) (v : Value) (c : Int) (ps : List ByteArray) (w : World) (hg : ErrTyped w) (h : RErrO B w v (some (c, ps))) : Calls Tryz.prog 38 #[v] w fun e w' => e = .returned (.int .i64 c) ∧ Below w.heap.size w w' := Code_any B v (some (c, ps)) w hg h
theorem textE_wire (c : Int) : textE (some (c, [wireS])) = ⟨#[119, 105, 114, 101]⟩ := rfl
theorem Text_wire (B : Nat) (v : Value) (c : Int) (w : World) (hg : ErrTyped w) (h : RErrO B w v (some (c, [wireS]))) : Calls Tryz.prog 48 #[v] w fun e w' => e = .returned (.string ⟨#[119, 105, 114, 101]⟩) ∧ Below w.heap.size w w' :=
  (Text_err B v (some (c, [wireS])) w hg h (show 1 ≤ 1000000 by decide) (show 4 ≤ 140737488355328 by decide)).mono fun _ _ h1 => ⟨h1.1.trans (by rw [textE_wire]), h1.2⟩

/-! works -/
def wkC : CtrD := ⟨⟨#[97]⟩, ⟨#[98, 58, 49]⟩, ⟨0, 0, 0⟩, ⟨0, 0, 0⟩, [], 0, 0⟩
def wkS : SpecD := ⟨⟨#[119]⟩, [], [], [wkC], 1, 0, 0⟩
theorem wk_ok1 : checkE wkS = none := by kernel_rfl
theorem wk_ok : SpecOk wkS := (checkE_in wk_ok1).1.ok
theorem wk_len : (encSpec wkS).length ≤ 1000000 := by decide
theorem ofE_nil : ofE [] = some (40, [wireS]) := by kernel_rfl
theorem ofS_nil : ofS [] = zeroS := ofS_some ofE_nil
theorem wk_spec {w : World} {g : Nat} (h : w.heap[g]? = some (.cells #[.string ⟨#[97]⟩, .string ⟨#[98, 58, 49]⟩, .int .i64 0, .int .i64 0, .int .i64 0, .int .i64 0, .int .i64 0, .int .i64 0, .slice none 0 0, .int .i64 0, .int .i64 0] 44 (0, 0))) : ISpec (· < w.heap.size) w wkS (.slice none 0 0) (.slice none 0 0) (.slice (some ⟨g, 0, none⟩) 1 1) := by
  have hg : g < w.heap.size := (Array.getElem?_eq_some_iff.1 h).1
  have ho : OCtrs (· < w.heap.size) w (.slice (some ⟨g, 0, none⟩) 1 1) [wkC] := ⟨[.slice none 0 0], rfl, ⟨rfl, .inr ⟨g, 1, _, rfl, hg, h, Nat.le_refl _, rfl, rfl⟩⟩, fun j q c h1 h2 => by
    match j with
    | 0 =>
      have e1 : Value.slice none 0 0 = q := by simpa using h1
      have e2 : wkC = c := by simpa using h2
      subst e1 e2
      exact ⟨rfl, .inl ⟨rfl, rfl⟩⟩
    | j + 1 => simp at h1⟩
  have hz := (zero_own (· < w.heap.size) w).I
  exact ⟨hz.labs, hz.inits, ho.I⟩

set_option maxHeartbeats 4000000 in
set_option maxRecDepth 100000 in
theorem works07_any (w : World) (hm : LaidMarks w) (hg : ErrTyped w) : Calls Tryz.prog 39 #[] w fun e w' => e = .returned (.bool true) ∧ Below w.heap.size w w' := by
  have h3 := laid_lt hm
  have HM := Lib.hid hm
  have HGT := Lib.hid hg
  clear hm hg
  go_enter Tryz.func39, Tryz.ntmps39
  go_wp2_with fail
  obtain ⟨W, hW⟩ : ∃ W, W = (w.alloc (.cells #[.string ⟨#[97]⟩, .string ⟨#[98, 58, 49]⟩, .int .i64 0, .int .i64 0, .int .i64 0, .int .i64 0, .int .i64 0, .int .i64 0, .slice none 0 0, .int .i64 0, .int .i64 0] 44)).alloc (.cells #[.string ⟨#[119]⟩, .slice none 0 0, .slice none 0 0, .slice (some ⟨w.heap.size, 0, none⟩) 1 1, .int .i64 1, .int .i64 0, .int .i64 0] 25) := ⟨_, rfl⟩
  have HB0 : Hid (Below w.heap.size w W) := Lib.hid (by rw [hW]; exact bto (bnew _ _) (bnew _ _))
  have HS0 : Hid (W.heap.size = w.heap.size + 2) := Lib.hid (by rw [hW]; simp)
  have HX0 : Hid (W.heap[w.heap.size]? = some (.cells #[.string ⟨#[97]⟩, .string ⟨#[98, 58, 49]⟩, .int .i64 0, .int .i64 0, .int .i64 0, .int .i64 0, .int .i64 0, .int .i64 0, .slice none 0 0, .int .i64 0, .int .i64 0] 44 (0, 0))) := Lib.hid (by rw [hW, Below.heap_alloc _ _ _ (by simp)]; exact heap_alloc_new _ _)
  have HX1 : Hid (W.heap[w.heap.size + 1]? = some (.cells #[.string ⟨#[119]⟩, .slice none 0 0, .slice none 0 0, .slice (some ⟨w.heap.size, 0, none⟩) 1 1, .int .i64 1, .int .i64 0, .int .i64 0] 25 (0, 0))) := Lib.hid (by rw [hW]; exact heap_alloc_is _ _ _ (by simp))
  have hWs : w.heap.size + 2 ≤ W.heap.size := by have := HS0.out; omega

  rw [← hW]
  clear hW
  refine (Of_any [] W (HM.out.below HB0.out) (Nat.zero_le _)).mono ?_
  rintro e w1 ⟨lv, iv, mv, v1, rfl, ho, her, hb⟩
  rw [ofS_nil] at ho ⊢
  rw [ofE_nil] at her
  have HB1 := Lib.hid (bto HB0.out hb)
  have HY0 := Lib.hid (boxB hb HX0.out)
  have HY1 := Lib.hid (boxB hb HX1.out)
  have HER := Lib.hid (RErrO.mono her (Nat.le_trans (by omega : w.heap.size ≤ w.heap.size + 2) hWs))
  obtain ⟨t1, z1, rfl⟩ := RErr.held (show RErr _ _ v1 40 [wireS] from her)
  obtain ⟨xa, xb, xc, xd, xe, xf, rfl, rfl, rfl⟩ := ho.forms
  clear ho her hb
  go_upto_region 3 with fail
  obtain ⟨X1, hX1⟩ : ∃ X, X = w1.alloc (.cells #[.string zeroS.name, .slice xa zeroS.labels.length xd, .slice xb zeroS.inits.length xe, .slice xc zeroS.mains.length xf, .int .i64 zeroS.restart, .int .i64 zeroS.grace, .int .i64 zeroS.prio] 25) := ⟨_, rfl⟩
  have HBX := Lib.hid (show Below w.heap.size w X1 from by rw [hX1]; exact bto HB1.out (bnew _ _))
  have HZ0 := Lib.hid (show X1.heap[w.heap.size]? = some (.cells #[.string ⟨#[97]⟩, .string ⟨#[98, 58, 49]⟩, .int .i64 0, .int .i64 0, .int .i64 0, .int .i64 0, .int .i64 0, .int .i64 0, .slice none 0 0, .int .i64 0, .int .i64 0] 44 (0, 0)) from by rw [hX1]; exact boxB (bnew _ _) HY0.out)
  have HZ1 := Lib.hid (show X1.heap[w.heap.size + 1]? = some (.cells #[.string ⟨#[119]⟩, .slice none 0 0, .slice none 0 0, .slice (some ⟨w.heap.size, 0, none⟩) 1 1, .int .i64 1, .int .i64 0, .int .i64 0] 25 (0, 0)) from by rw [hX1]; exact boxB (bnew _ _) HY1.out)
  have HERX := Lib.hid (show RErrO w.heap.size X1 (.iface t1 z1) (some (40, [wireS])) from by rw [hX1]; exact HER.out.below (bnew _ _))
  rw [← hX1]
  clear hX1 HER HY0 HY1 HB1 HX0 HX1

  have a0 : X1.cell? ⟨w.heap.size + 1, 0, none⟩ = some (.string ⟨#[119]⟩) := cell_at HZ1.out rfl
  have a1 : X1.cell? ⟨w.heap.size + 1, 1, none⟩ = some (.slice none 0 0) := cell_at HZ1.out rfl
  have a2 : X1.cell? ⟨w.heap.size + 1, 2, none⟩ = some (.slice none 0 0) := cell_at HZ1.out rfl
  have a3 : X1.cell? ⟨w.heap.size + 1, 3, none⟩ = some (.slice (some ⟨w.heap.size, 0, none⟩) 1 1) := cell_at HZ1.out rfl
  have a4 : X1.cell? ⟨w.heap.size + 1, 4, none⟩ = some (.int .i64 1) := cell_at HZ1.out rfl
  have a5 : X1.cell? ⟨w.heap.size + 1, 5, none⟩ = some (.int .i64 0) := cell_at HZ1.out rfl
  have a6 : X1.cell? ⟨w.heap.size + 1, 6, none⟩ = some (.int .i64 0) := cell_at HZ1.out rfl
  go_wp2_with fail
  refine (packBytes_any wkS none none (some ⟨w.heap.size, 0, none⟩) 0 0 1 X1 wk_ok (wk_spec HZ0.out) (HM.out.below HBX.out) (HGT.out.below HBX.out (by omega))).mono ?_
  rintro e w2 ⟨rfl, hb2⟩
  rw [bytesE_right wk_ok1, bytesC_right wk_ok1]
  obtain ⟨L, hL⟩ : ∃ L, L = encSpec wkS := ⟨_, rfl⟩
  have hLl : L.length ≤ 1000000 := by rw [hL]; exact wk_len
  obtain ⟨hE, hS⟩ := ofE_enc wk_ok1
  rw [← hL] at hE hS ⊢
  have HE := Lib.hid hE
  have HS := Lib.hid hS
  have HB2 := Lib.hid (bto HBX.out hb2)
  have HR0 := Lib.hid (boxB hb2 HZ0.out)
  have HR1 := Lib.hid (boxB hb2 HZ1.out)
  have HER2 := Lib.hid (HERX.out.below hb2)
  clear hb2 hL hE hS HZ0 HZ1 HERX HBX a0 a1 a2 a3 a4 a5 a6
  go_wp2_with fail
  refine (Of_any L w2 (HM.out.below HB2.out) hLl).mono ?_
  rintro e w3 ⟨lv, iv, mv, v2, rfl, ho, her, hb3⟩
  rw [HS.out] at ho ⊢
  rw [HE.out] at her
  have hv2 : v2 = .nilIface := her
  subst hv2
  obtain ⟨la, ia, ma, lc, ic, mc, rfl, rfl, rfl⟩ := ho.forms
  have HO3 := Lib.hid ho
  have HB3 := Lib.hid (bto HB2.out hb3)
  have HQ0 := Lib.hid (boxB hb3 HR0.out)
  have HQ1 := Lib.hid (boxB hb3 HR1.out)
  have HER3 := Lib.hid (HER2.out.below hb3)
  clear ho her hb3 HR0 HR1 HER2 HB2
  go_upto_region 5 with fail
  obtain ⟨g, hgw⟩ : ∃ g, g = w3.heap.size := ⟨_, rfl⟩
  obtain ⟨X3, hX⟩ : ∃ X, X = w3.alloc (.cells #[.string wkS.name, .slice la wkS.labels.length lc, .slice ia wkS.inits.length ic, .slice ma wkS.mains.length mc, .int .i64 wkS.restart, .int .i64 wkS.grace, .int .i64 wkS.prio] 25) := ⟨_, rfl⟩
  have HBX := Lib.hid (show Below w.heap.size w X3 from by rw [hX]; exact bto HB3.out (bnew _ _))
  have HZ0 := Lib.hid (show X3.heap[w.heap.size]? = some (.cells #[.string ⟨#[97]⟩, .string ⟨#[98, 58, 49]⟩, .int .i64 0, .int .i64 0, .int .i64 0, .int .i64 0, .int .i64 0, .int .i64 0, .slice none 0 0, .int .i64 0, .int .i64 0] 44 (0, 0)) from by rw [hX]; exact boxB (bnew _ _) HQ0.out)
  have HZ1 := Lib.hid (show X3.heap[w.heap.size + 1]? = some (.cells #[.string ⟨#[119]⟩, .slice none 0 0, .slice none 0 0, .slice (some ⟨w.heap.size, 0, none⟩) 1 1, .int .i64 1, .int .i64 0, .int .i64 0] 25 (0, 0)) from by rw [hX]; exact boxB (bnew _ _) HQ1.out)
  have HZ2 := Lib.hid (show X3.heap[g]? = some (.cells #[.string wkS.name, .slice la wkS.labels.length lc, .slice ia wkS.inits.length ic, .slice ma wkS.mains.length mc, .int .i64 wkS.restart, .int .i64 wkS.grace, .int .i64 wkS.prio] 25 (0, 0)) from by rw [hX, hgw]; exact heap_alloc_new _ _)
  have HOX := Lib.hid (show ISpec (Ran w2.heap.size w3.heap.size) X3 wkS (.slice la wkS.labels.length lc) (.slice ia wkS.inits.length ic) (.slice ma wkS.mains.length mc) from by rw [hX]; exact (HO3.out.below (bnew _ _)).I)
  have HERX := Lib.hid (show RErrO w.heap.size X3 (.iface t1 z1) (some (40, [wireS])) from by rw [hX]; exact HER3.out.below (bnew _ _))
  rw [← hX, ← hgw]
  clear hX hgw HO3 HB3 HQ0 HQ1 HER3
  go_wp2_with (first
    | (go_at_call 38; refine (Code_some w.heap.size (.iface t1 z1) 40 [wireS] X3 (HGT.out.below HBX.out (by omega)) HERX.out).mono ?_; rintro e w4 ⟨rfl, hb4⟩)
    | (go_at_call 48; refine (Text_wire w.heap.size (.iface t1 z1) 40 w4 (HGT.out.below (bto HBX.out hb4) (by omega)) (HERX.out.below hb4)).mono ?_; rintro e w5 ⟨rfl, hb5⟩; have HU0 := Lib.hid (boxB hb5 (boxB hb4 HZ0.out)); have HU1 := Lib.hid (boxB hb5 (boxB hb4 HZ1.out)); have HU2 := Lib.hid (boxB hb5 (boxB hb4 HZ2.out)); have p0 : w5.cell? ⟨w.heap.size + 1, 0, none⟩ = some (.string ⟨#[119]⟩) := cell_at HU1.out rfl; have p1 : w5.cell? ⟨w.heap.size + 1, 1, none⟩ = some (.slice none 0 0) := cell_at HU1.out rfl; have p2 : w5.cell? ⟨w.heap.size + 1, 2, none⟩ = some (.slice none 0 0) := cell_at HU1.out rfl; have p3 : w5.cell? ⟨w.heap.size + 1, 3, none⟩ = some (.slice (some ⟨w.heap.size, 0, none⟩) 1 1) := cell_at HU1.out rfl; have p4 : w5.cell? ⟨w.heap.size + 1, 4, none⟩ = some (.int .i64 1) := cell_at HU1.out rfl; have p5 : w5.cell? ⟨w.heap.size + 1, 5, none⟩ = some (.int .i64 0) := cell_at HU1.out rfl; have p6 : w5.cell? ⟨w.heap.size + 1, 6, none⟩ = some (.int .i64 0) := cell_at HU1.out rfl; have q0 : w5.cell? ⟨g, 0, none⟩ = some (.string wkS.name) := cell_at HU2.out rfl; have q1 : w5.cell? ⟨g, 1, none⟩ = some (.slice la wkS.labels.length lc) := cell_at HU2.out rfl; have q2 : w5.cell? ⟨g, 2, none⟩ = some (.slice ia wkS.inits.length ic) := cell_at HU2.out rfl; have q3 : w5.cell? ⟨g, 3, none⟩ = some (.slice ma wkS.mains.length mc) := cell_at HU2.out rfl; have q4 : w5.cell? ⟨g, 4, none⟩ = some (.int .i64 wkS.restart) := cell_at HU2.out rfl; have q5 : w5.cell? ⟨g, 5, none⟩ = some (.int .i64 wkS.grace) := cell_at HU2.out rfl; have q6 : w5.cell? ⟨g, 6, none⟩ = some (.int .i64 wkS.prio) := cell_at HU2.out rfl)
    | (go_at_call 28; refine (specSameSpec_self (· < w5.heap.size) (Ran w2.heap.size w3.heap.size) wkS none none (some ⟨w.heap.size, 0, none⟩) la ia ma 0 0 1 lc ic mc w5 (wk_spec HU0.out) ((HOX.out.below hb4).below hb5) wk_ok).mono ?_; rintro e w6 ⟨rfl, hb6⟩))
  go_ret
  exact ⟨rfl, bto (bto (bto HBX.out hb4) hb5) hb6⟩
end Go.Proofs.YtgelbkgkjkeccaaGreatDoor
namespace Go.Proofs.YtgelbkgkjkeccaaGreatDoor
open Go.RowKit

theorem zero_ok : SpecOk zeroS := ⟨Nat.zero_le _, fun x hx => by (cases hx), Nat.zero_le _, ⟨Nat.zero_le _, fun x hx => by (cases hx)⟩, ⟨Nat.zero_le _, fun x hx => by (cases hx)⟩⟩
theorem ofS_ok (l : List UInt8) : SpecOk (ofS l) := by
  cases h : ofE l with
  | none => rw [ofS_none h]; exact (specP_in ⟨l, 0⟩).ok
  | some y => rw [ofS_some h]; exact zero_ok
theorem ba_ex (b : ByteArray) : ∃ l, b = baOf l := by
  cases b with | mk d => cases d with | mk l => exact ⟨l, rfl⟩
theorem encSpec_len2 {s : SpecD} (h : SpecR s) : (encSpec s).length ≤ 20000 := by
  have h1 := specPW_len s h emptyW
  rw [specPW_adds h emptyW rfl] at h1
  have h2 : ([] ++ encSpec s).length ≤ 0 + 20000 := h1
  rw [List.nil_append] at h2
  omega
theorem encSpec_len {s : SpecD} (h : SpecR s) : (encSpec s).length ≤ 1000000 := Nat.le_trans (encSpec_len2 h) (by omega)

set_option maxHeartbeats 12000000 in
set_option maxRecDepth 100000 in
theorem PackBack_any (a : SpecD) (la ia ma : Option Addr) (lc ic mc : Nat) (b : ByteArray) (w : World) (ha : ISpec (· < w.heap.size) w a (.slice la a.labels.length lc) (.slice ia a.inits.length ic) (.slice ma a.mains.length mc)) (hm : LaidMarks w) (hg : ErrTyped w) :
    Calls Tryz.prog 6 #[specV a (.slice la a.labels.length lc) (.slice ia a.inits.length ic) (.slice ma a.mains.length mc), .string b] w fun e w' => e = .returned (.bool true) ∧ Below w.heap.size w w' := by
  have hgl := hg.lt
  obtain ⟨l, rfl⟩ := ba_ex b
  have hbl := ba_size_of l
  have HBL := Lib.hid hbl
  clear hbl
  have HM := Lib.hid hm
  have HGT := Lib.hid hg
  have HA := Lib.hid ha
  clear hm hg ha
  go_enter Tryz.func6, Tryz.ntmps6
  go_wp2_with fail
  obtain ⟨W, hW⟩ : ∃ W, W = w.alloc (.cells #[.string a.name, .slice la a.labels.length lc, .slice ia a.inits.length ic, .slice ma a.mains.length mc, .int .i64 a.restart, .int .i64 a.grace, .int .i64 a.prio] 25) := ⟨_, rfl⟩
  have HB0 := Lib.hid (show Below w.heap.size w W from by rw [hW]; exact bnew _ _)
  have HX0 := Lib.hid (show W.heap[w.heap.size]? = some (.cells #[.string a.name, .slice la a.labels.length lc, .slice ia a.inits.length ic, .slice ma a.mains.length mc, .int .i64 a.restart, .int .i64 a.grace, .int .i64 a.prio] 25 (0, 0)) from by rw [hW]; exact heap_alloc_new _ _)
  rw [← hW]
  clear hW
  refine (works07_any W (HM.out.below HB0.out) (HGT.out.below HB0.out hgl)).mono ?_
  rintro e w1 ⟨rfl, hb1⟩
  have HB1 := Lib.hid (bto HB0.out hb1)
  have HX1 := Lib.hid (boxB hb1 HX0.out)
  have HA1 := Lib.hid (HA.out.below HB1.out)
  clear hb1 HX0
  have a0 : w1.cell? ⟨w.heap.size, 0, none⟩ = some (.string a.name) := cell_at HX1.out rfl
  have a1 : w1.cell? ⟨w.heap.size, 1, none⟩ = some (.slice la a.labels.length lc) := cell_at HX1.out rfl
  have a2 : w1.cell? ⟨w.heap.size, 2, none⟩ = some (.slice ia a.inits.length ic) := cell_at HX1.out rfl
  have a3 : w1.cell? ⟨w.heap.size, 3, none⟩ = some (.slice ma a.mains.length mc) := cell_at HX1.out rfl
  have a4 : w1.cell? ⟨w.heap.size, 4, none⟩ = some (.int .i64 a.restart) := cell_at HX1.out rfl
  have a5 : w1.cell? ⟨w.heap.size, 5, none⟩ = some (.int .i64 a.grace) := cell_at HX1.out rfl
  have a6 : w1.cell? ⟨w.heap.size, 6, none⟩ = some (.int .i64 a.prio) := cell_at HX1.out rfl
  go_wp2_with fail
  refine (Light_any _ a la ia ma lc ic mc w1 HA1.out).mono ?_
  rintro e w2 ⟨rfl, hb2⟩
  have HB2 := Lib.hid (bto HB1.out hb2)
  have HX2 := Lib.hid (boxB hb2 HX1.out)
  have HA2 := Lib.hid (HA.out.below HB2.out)
  clear hb2 HX1 a0 a1 a2 a3 a4 a5 a6
  cases hla : lightS a with
  | false =>
    go_wp2
    go_ret
    exact ⟨rfl, HB2.out⟩
  | true =>
    have hoa := lightS_ok hla
    by_cases hlen : 3000 < (baOf l).size
    · go_wp2
      go_ret
      exact ⟨rfl, HB2.out⟩
    · have hll : l.length ≤ 3000 := by have := HBL.out; omega
      have a0 : w2.cell? ⟨w.heap.size, 0, none⟩ = some (.string a.name) := cell_at HX2.out rfl
      have a1 : w2.cell? ⟨w.heap.size, 1, none⟩ = some (.slice la a.labels.length lc) := cell_at HX2.out rfl
      have a2 : w2.cell? ⟨w.heap.size, 2, none⟩ = some (.slice ia a.inits.length ic) := cell_at HX2.out rfl
      have a3 : w2.cell? ⟨w.heap.size, 3, none⟩ = some (.slice ma a.mains.length mc) := cell_at HX2.out rfl
      have a4 : w2.cell? ⟨w.heap.size, 4, none⟩ = some (.int .i64 a.restart) := cell_at HX2.out rfl
      have a5 : w2.cell? ⟨w.heap.size, 5, none⟩ = some (.int .i64 a.grace) := cell_at HX2.out rfl
      have a6 : w2.cell? ⟨w.heap.size, 6, none⟩ = some (.int .i64 a.prio) := cell_at HX2.out rfl
      go_wp2_with fail
      have HA3 := Lib.hid (HA2.out.mono (J := (· < w2.heap.size)) fun k hk => Nat.lt_of_lt_of_le hk HB2.out.size)
      refine (packBytes_any a la ia ma lc ic mc w2 hoa HA3.out (HM.out.below HB2.out) (HGT.out.below HB2.out hgl)).mono ?_
      rintro e w3 ⟨rfl, hb3⟩
      have HB3 := Lib.hid (bto HB2.out hb3)
      have HX3 := Lib.hid (boxB hb3 HX2.out)
      have HA4 := Lib.hid (HA.out.below HB3.out)
      clear hb3 HX2 HA3 a0 a1 a2 a3 a4 a5 a6 hlen
      have a0 : w3.cell? ⟨w.heap.size, 0, none⟩ = some (.string a.name) := cell_at HX3.out rfl
      have a1 : w3.cell? ⟨w.heap.size, 1, none⟩ = some (.slice la a.labels.length lc) := cell_at HX3.out rfl
      have a2 : w3.cell? ⟨w.heap.size, 2, none⟩ = some (.slice ia a.inits.length ic) := cell_at HX3.out rfl
      have a3 : w3.cell? ⟨w.heap.size, 3, none⟩ = some (.slice ma a.mains.length mc) := cell_at HX3.out rfl
      have a4 : w3.cell? ⟨w.heap.size, 4, none⟩ = some (.int .i64 a.restart) := cell_at HX3.out rfl
      have a5 : w3.cell? ⟨w.heap.size, 5, none⟩ = some (.int .i64 a.grace) := cell_at HX3.out rfl
      have a6 : w3.cell? ⟨w.heap.size, 6, none⟩ = some (.int .i64 a.prio) := cell_at HX3.out rfl
      obtain ⟨bc, hbc⟩ : ∃ c, c = bytesC a := ⟨_, rfl⟩
      obtain ⟨be, hbe⟩ : ∃ c, c = bytesE a := ⟨_, rfl⟩
      rw [← hbc, ← hbe]
      have HBC0 := Lib.hid hbc
      have HBE0 := Lib.hid hbe
      clear hbc hbe
      go_wp2_with fail
      refine (Check_any a _ ia ma ic mc w3 hoa (HM.out.below HB3.out) (laid_lt (HM.out.below HB3.out)) HA4.out.labs.R HA4.out.inits.R HA4.out.mains.R).mono ?_
      rintro e w4 ⟨v4, rfl, hr4, hb4⟩
      have HB4 := Lib.hid (bto HB3.out hb4)
      have HX4 := Lib.hid (boxB hb4 HX3.out)
      have HA5 := Lib.hid (HA.out.below HB4.out)
      clear hb4 HX3 HA4 a0 a1 a2 a3 a4 a5 a6
      cases hck : checkE a with
      | some y =>
        rw [hck] at hr4
        obtain ⟨t4, z4, rfl⟩ := RErr.held (show RErr _ _ v4 y.1 y.2 from hr4)
        have hne := checkE_code hck
        have hbc := HBC0.out
        rw [bytesC_wrong hck] at hbc
        subst hbc
        obtain ⟨y1, y2⟩ := y
        have hne1 : (y1 == 0) = false := by simpa using hne
        have hne2 : ¬ y1 = 0 := hne
        clear hr4 hck hne HBC0
        go_wp2_with fail
        refine (Of_any l w4 (HM.out.below HB4.out) (by omega)).mono ?_
        rintro e w8 ⟨lv8, iv8, mv8, v8, rfl, ho8, her8, hb8⟩
        obtain ⟨xa, xb, xc, xd, xe, xf, rfl, rfl, rfl⟩ := ho8.forms
        have HO8 := Lib.hid ho8
        have HB8 := Lib.hid (bto HB4.out hb8)
        have hok8 := ofS_ok l
        clear ho8 hb8
        obtain ⟨s8, hs8⟩ : ∃ s, s = ofS l := ⟨_, rfl⟩
        rw [← hs8] at HO8 hok8 ⊢
        have HS8 := Lib.hid hs8
        clear hs8
        go_upto_region 13 with fail
        obtain ⟨g8, hg8⟩ : ∃ g, g = w8.heap.size := ⟨_, rfl⟩
        obtain ⟨X8, hX⟩ : ∃ X, X = w8.alloc (.cells #[.string s8.name, .slice xa s8.labels.length xd, .slice xb s8.inits.length xe, .slice xc s8.mains.length xf, .int .i64 s8.restart, .int .i64 s8.grace, .int .i64 s8.prio] 25) := ⟨_, rfl⟩
        have HBX8 := Lib.hid (show Below w.heap.size w X8 from by rw [hX]; exact bto HB8.out (bnew _ _))
        have HG8 := Lib.hid (show X8.heap[g8]? = some (.cells #[.string s8.name, .slice xa s8.labels.length xd, .slice xb s8.inits.length xe, .slice xc s8.mains.length xf, .int .i64 s8.restart, .int .i64 s8.grace, .int .i64 s8.prio] 25 (0, 0)) from by rw [hX, hg8]; exact heap_alloc_new _ _)
        have HOX8 := Lib.hid (show ISpec (Ran w4.heap.size w8.heap.size) X8 s8 (.slice xa s8.labels.length xd) (.slice xb s8.inits.length xe) (.slice xc s8.mains.length xf) from by rw [hX]; exact (HO8.out.below (bnew _ _)).I)
        have HOL8 := Lib.hid (HOX8.out.mono (J := (· < X8.heap.size)) fun k hk => Nat.lt_of_lt_of_le hk.2 (show w8.heap.size ≤ X8.heap.size by rw [hX]; simp))
        rw [← hX, ← hg8]
        clear hX hg8 HO8 HB8
        cases he8 : ofE l with
        | some y8 =>
          rw [he8] at her8
          obtain ⟨t8, z8, rfl⟩ := RErr.held (show RErr _ _ v8 y8.1 y8.2 from her8)
          have hs8 := HS8.out
          rw [ofS_some he8] at hs8
          clear HS8
          subst hs8
          have HZ8 := Lib.hid (zero_own (· < X8.heap.size) X8).I
          clear her8 he8
          have k0 : X8.cell? ⟨g8, 0, none⟩ = some (.string zeroS.name) := cell_at HG8.out rfl
          have k1 : X8.cell? ⟨g8, 1, none⟩ = some (.slice xa zeroS.labels.length xd) := cell_at HG8.out rfl
          have k2 : X8.cell? ⟨g8, 2, none⟩ = some (.slice xb zeroS.inits.length xe) := cell_at HG8.out rfl
          have k3 : X8.cell? ⟨g8, 3, none⟩ = some (.slice xc zeroS.mains.length xf) := cell_at HG8.out rfl
          have k4 : X8.cell? ⟨g8, 4, none⟩ = some (.int .i64 zeroS.restart) := cell_at HG8.out rfl
          have k5 : X8.cell? ⟨g8, 5, none⟩ = some (.int .i64 zeroS.grace) := cell_at HG8.out rfl
          have k6 : X8.cell? ⟨g8, 6, none⟩ = some (.int .i64 zeroS.prio) := cell_at HG8.out rfl
          go_wp2_with (go_at_call 28; refine (specSameSpec_self (Ran w4.heap.size w8.heap.size) (· < X8.heap.size) zeroS xa xb xc none none none xd xe xf 0 0 0 X8 HOX8.out HZ8.out zero_ok).mono ?_; rintro e w9 ⟨rfl, hb9⟩)
          go_ret
          exact ⟨rfl, bto HBX8.out hb9⟩
        | none =>
          rw [he8] at her8
          have hv8 : v8 = .nilIface := her8
          subst hv8
          obtain ⟨hck, hen⟩ := ofE_back he8
          rw [← HS8.out] at hck hen
          have HCK := Lib.hid hck
          have hbe : bytesE s8 = l := (bytesE_right hck).trans hen.symm
          have hbc : bytesC s8 = 0 := bytesC_right hck
          have HBE := Lib.hid hbe
          have HBC := Lib.hid hbc
          clear her8 he8 hck hen hbe hbc
          have k0 : X8.cell? ⟨g8, 0, none⟩ = some (.string s8.name) := cell_at HG8.out rfl
          have k1 : X8.cell? ⟨g8, 1, none⟩ = some (.slice xa s8.labels.length xd) := cell_at HG8.out rfl
          have k2 : X8.cell? ⟨g8, 2, none⟩ = some (.slice xb s8.inits.length xe) := cell_at HG8.out rfl
          have k3 : X8.cell? ⟨g8, 3, none⟩ = some (.slice xc s8.mains.length xf) := cell_at HG8.out rfl
          have k4 : X8.cell? ⟨g8, 4, none⟩ = some (.int .i64 s8.restart) := cell_at HG8.out rfl
          have k5 : X8.cell? ⟨g8, 5, none⟩ = some (.int .i64 s8.grace) := cell_at HG8.out rfl
          have k6 : X8.cell? ⟨g8, 6, none⟩ = some (.int .i64 s8.prio) := cell_at HG8.out rfl
          go_wp2_with fail
          refine (packBytes_any s8 xa xb xc xd xe xf X8 hok8 HOL8.out (HM.out.below HBX8.out) (HGT.out.below HBX8.out hgl)).mono ?_
          rintro e w9 ⟨rfl, hb9⟩
          rw [HBE.out, HBC.out]
          have HB9 := Lib.hid (bto HBX8.out hb9)
          have HG9 := Lib.hid (boxB hb9 HG8.out)
          have HO9 := Lib.hid (HOL8.out.below hb9)
          clear hb9 k0 k1 k2 k3 k4 k5 k6
          have k0 : w9.cell? ⟨g8, 0, none⟩ = some (.string s8.name) := cell_at HG9.out rfl
          have k1 : w9.cell? ⟨g8, 1, none⟩ = some (.slice xa s8.labels.length xd) := cell_at HG9.out rfl
          have k2 : w9.cell? ⟨g8, 2, none⟩ = some (.slice xb s8.inits.length xe) := cell_at HG9.out rfl
          have k3 : w9.cell? ⟨g8, 3, none⟩ = some (.slice xc s8.mains.length xf) := cell_at HG9.out rfl
          have k4 : w9.cell? ⟨g8, 4, none⟩ = some (.int .i64 s8.restart) := cell_at HG9.out rfl
          have k5 : w9.cell? ⟨g8, 5, none⟩ = some (.int .i64 s8.grace) := cell_at HG9.out rfl
          have k6 : w9.cell? ⟨g8, 6, none⟩ = some (.int .i64 s8.prio) := cell_at HG9.out rfl
          have hbb : ((baOf l).toList == (baOf l).toList) = true := beq_self_eq_true _
          go_wp2_with (go_at_call 35; refine (Check_any s8 _ xb xc xe xf w9 hok8 (HM.out.below HB9.out) (laid_lt (HM.out.below HB9.out)) HO9.out.labs.R HO9.out.inits.R HO9.out.mains.R).mono ?_; rintro e w10 ⟨v10, rfl, hr10, hb10⟩; rw [HCK.out] at hr10; have hv10 : v10 = .nilIface := hr10; subst hv10)
          go_ret
          exact ⟨rfl, bto HB9.out hb10⟩
      | none =>
        rw [hck] at hr4
        have hv4 : v4 = .nilIface := hr4
        subst hv4
        have hbc := HBC0.out
        have hbe := HBE0.out
        rw [bytesC_right hck] at hbc
        rw [bytesE_right hck] at hbe
        obtain ⟨hE, hS⟩ := ofE_enc hck
        have hR := (checkE_in hck).1
        have hEl : be.length ≤ 1000000 := by rw [hbe]; exact encSpec_len hR
        rw [← hbe] at hE hS
        have HE := Lib.hid hE
        have HS := Lib.hid hS
        subst hbc
        clear hr4 hck hE hS hbe hR HBC0 HBE0
        go_wp2_with fail
        refine (Of_any be w4 (HM.out.below HB4.out) hEl).mono ?_
        rintro e w5 ⟨lv, iv, mv, v5, rfl, ho, her, hb5⟩
        rw [HS.out] at ho ⊢
        rw [HE.out] at her
        have hv5 : v5 = .nilIface := her
        subst hv5
        obtain ⟨ya, yb, yc, yd, ye, yf, rfl, rfl, rfl⟩ := ho.forms
        have HO5 := Lib.hid ho
        have HB5 := Lib.hid (bto HB4.out hb5)
        have HX5 := Lib.hid (boxB hb5 HX4.out)
        clear ho her hb5 HX4 HA5
        go_upto_region 10 with fail
        obtain ⟨g5, hg5⟩ : ∃ g, g = w5.heap.size := ⟨_, rfl⟩
        obtain ⟨X5, hX⟩ : ∃ X, X = w5.alloc (.cells #[.string a.name, .slice ya a.labels.length yd, .slice yb a.inits.length ye, .slice yc a.mains.length yf, .int .i64 a.restart, .int .i64 a.grace, .int .i64 a.prio] 25) := ⟨_, rfl⟩
        have HBX5 := Lib.hid (show Below w.heap.size w X5 from by rw [hX]; exact bto HB5.out (bnew _ _))
        have HZ5 := Lib.hid (show X5.heap[w.heap.size]? = some (.cells #[.string a.name, .slice la a.labels.length lc, .slice ia a.inits.length ic, .slice ma a.mains.length mc, .int .i64 a.restart, .int .i64 a.grace, .int .i64 a.prio] 25 (0, 0)) from by rw [hX]; exact boxB (bnew _ _) HX5.out)
        have HG5 := Lib.hid (show X5.heap[g5]? = some (.cells #[.string a.name, .slice ya a.labels.length yd, .slice yb a.inits.length ye, .slice yc a.mains.length yf, .int .i64 a.restart, .int .i64 a.grace, .int .i64 a.prio] 25 (0, 0)) from by rw [hX, hg5]; exact heap_alloc_new _ _)
        have HOX5 := Lib.hid (show ISpec (Ran w4.heap.size w5.heap.size) X5 a (.slice ya a.labels.length yd) (.slice yb a.inits.length ye) (.slice yc a.mains.length yf) from by rw [hX]; exact (HO5.out.below (bnew _ _)).I)
        have HA6 := Lib.hid (HA.out.below HBX5.out)
        rw [← hX, ← hg5]
        clear hX hg5 HO5 HB5 HX5
        have a0 : X5.cell? ⟨w.heap.size, 0, none⟩ = some (.string a.name) := cell_at HZ5.out rfl
        have a1 : X5.cell? ⟨w.heap.size, 1, none⟩ = some (.slice la a.labels.length lc) := cell_at HZ5.out rfl
        have a2 : X5.cell? ⟨w.heap.size, 2, none⟩ = some (.slice ia a.inits.length ic) := cell_at HZ5.out rfl
        have a3 : X5.cell? ⟨w.heap.size, 3, none⟩ = some (.slice ma a.mains.length mc) := cell_at HZ5.out rfl
        have a4 : X5.cell? ⟨w.heap.size, 4, none⟩ = some (.int .i64 a.restart) := cell_at HZ5.out rfl
        have a5 : X5.cell? ⟨w.heap.size, 5, none⟩ = some (.int .i64 a.grace) := cell_at HZ5.out rfl
        have a6 : X5.cell? ⟨w.heap.size, 6, none⟩ = some (.int .i64 a.prio) := cell_at HZ5.out rfl
        have q0 : X5.cell? ⟨g5, 0, none⟩ = some (.string a.name) := cell_at HG5.out rfl
        have q1 : X5.cell? ⟨g5, 1, none⟩ = some (.slice ya a.labels.length yd) := cell_at HG5.out rfl
        have q2 : X5.cell? ⟨g5, 2, none⟩ = some (.slice yb a.inits.length ye) := cell_at HG5.out rfl
        have q3 : X5.cell? ⟨g5, 3, none⟩ = some (.slice yc a.mains.length yf) := cell_at HG5.out rfl
        have q4 : X5.cell? ⟨g5, 4, none⟩ = some (.int .i64 a.restart) := cell_at HG5.out rfl
        have q5 : X5.cell? ⟨g5, 5, none⟩ = some (.int .i64 a.grace) := cell_at HG5.out rfl
        have q6 : X5.cell? ⟨g5, 6, none⟩ = some (.int .i64 a.prio) := cell_at HG5.out rfl
        go_wp2_with fail
        refine (specSameSpec_self (Ran w4.heap.size w5.heap.size) (· < w.heap.size) a ya yb yc la ia ma yd ye yf lc ic mc X5 HOX5.out HA6.out hoa).mono ?_
        rintro e w6 ⟨rfl, hb6⟩
        have HB6 := Lib.hid (bto HBX5.out hb6)
        clear hb6 a0 a1 a2 a3 a4 a5 a6 q0 q1 q2 q3 q4 q5 q6
        go_wp2_with fail
        refine (Of_any l w6 (HM.out.below HB6.out) (by omega)).mono ?_
        rintro e w8 ⟨lv8, iv8, mv8, v8, rfl, ho8, her8, hb8⟩
        obtain ⟨xa, xb, xc, xd, xe, xf, rfl, rfl, rfl⟩ := ho8.forms
        have HO8 := Lib.hid ho8
        have HB8 := Lib.hid (bto HB6.out hb8)
        have hok8 := ofS_ok l
        clear ho8 hb8
        obtain ⟨s8, hs8⟩ : ∃ s, s = ofS l := ⟨_, rfl⟩
        rw [← hs8] at HO8 hok8 ⊢
        have HS8 := Lib.hid hs8
        clear hs8
        go_upto_region 13 with fail
        obtain ⟨g8, hg8⟩ : ∃ g, g = w8.heap.size := ⟨_, rfl⟩
        obtain ⟨X8, hX⟩ : ∃ X, X = w8.alloc (.cells #[.string s8.name, .slice xa s8.labels.length xd, .slice xb s8.inits.length xe, .slice xc s8.mains.length xf, .int .i64 s8.restart, .int .i64 s8.grace, .int .i64 s8.prio] 25) := ⟨_, rfl⟩
        have HBX8 := Lib.hid (show Below w.heap.size w X8 from by rw [hX]; exact bto HB8.out (bnew _ _))
        have HG8 := Lib.hid (show X8.heap[g8]? = some (.cells #[.string s8.name, .slice xa s8.labels.length xd, .slice xb s8.inits.length xe, .slice xc s8.mains.length xf, .int .i64 s8.restart, .int .i64 s8.grace, .int .i64 s8.prio] 25 (0, 0)) from by rw [hX, hg8]; exact heap_alloc_new _ _)
        have HOX8 := Lib.hid (show ISpec (Ran w6.heap.size w8.heap.size) X8 s8 (.slice xa s8.labels.length xd) (.slice xb s8.inits.length xe) (.slice xc s8.mains.length xf) from by rw [hX]; exact (HO8.out.below (bnew _ _)).I)
        have HOL8 := Lib.hid (HOX8.out.mono (J := (· < X8.heap.size)) fun k hk => Nat.lt_of_lt_of_le hk.2 (show w8.heap.size ≤ X8.heap.size by rw [hX]; simp))
        rw [← hX, ← hg8]
        clear hX hg8 HO8 HB8
        cases he8 : ofE l with
        | some y8 =>
          rw [he8] at her8
          obtain ⟨t8, z8, rfl⟩ := RErr.held (show RErr _ _ v8 y8.1 y8.2 from her8)
          have hs8 := HS8.out
          rw [ofS_some he8] at hs8
          clear HS8
          subst hs8
          have HZ8 := Lib.hid (zero_own (· < X8.heap.size) X8).I
          clear her8 he8
          have k0 : X8.cell? ⟨g8, 0, none⟩ = some (.string zeroS.name) := cell_at HG8.out rfl
          have k1 : X8.cell? ⟨g8, 1, none⟩ = some (.slice xa zeroS.labels.length xd) := cell_at HG8.out rfl
          have k2 : X8.cell? ⟨g8, 2, none⟩ = some (.slice xb zeroS.inits.length xe) := cell_at HG8.out rfl
          have k3 : X8.cell? ⟨g8, 3, none⟩ = some (.slice xc zeroS.mains.length xf) := cell_at HG8.out rfl
          have k4 : X8.cell? ⟨g8, 4, none⟩ = some (.int .i64 zeroS.restart) := cell_at HG8.out rfl
          have k5 : X8.cell? ⟨g8, 5, none⟩ = some (.int .i64 zeroS.grace) := cell_at HG8.out rfl
          have k6 : X8.cell? ⟨g8, 6, none⟩ = some (.int .i64 zeroS.prio) := cell_at HG8.out rfl
          go_wp2_with (go_at_call 28; refine (specSameSpec_self (Ran w6.heap.size w8.heap.size) (· < X8.heap.size) zeroS xa xb xc none none none xd xe xf 0 0 0 X8 HOX8.out HZ8.out zero_ok).mono ?_; rintro e w9 ⟨rfl, hb9⟩)
          go_ret
          exact ⟨rfl, bto HBX8.out hb9⟩
        | none =>
          rw [he8] at her8
          have hv8 : v8 = .nilIface := her8
          subst hv8
          obtain ⟨hck, hen⟩ := ofE_back he8
          rw [← HS8.out] at hck hen
          have HCK := Lib.hid hck
          have hbe : bytesE s8 = l := (bytesE_right hck).trans hen.symm
          have hbc : bytesC s8 = 0 := bytesC_right hck
          have HBE := Lib.hid hbe
          have HBC := Lib.hid hbc
          clear her8 he8 hck hen hbe hbc
          have k0 : X8.cell? ⟨g8, 0, none⟩ = some (.string s8.name) := cell_at HG8.out rfl
          have k1 : X8.cell? ⟨g8, 1, none⟩ = some (.slice xa s8.labels.length xd) := cell_at HG8.out rfl
          have k2 : X8.cell? ⟨g8, 2, none⟩ = some (.slice xb s8.inits.length xe) := cell_at HG8.out rfl
          have k3 : X8.cell? ⟨g8, 3, none⟩ = some (.slice xc s8.mains.length xf) := cell_at HG8.out rfl
          have k4 : X8.cell? ⟨g8, 4, none⟩ = some (.int .i64 s8.restart) := cell_at HG8.out rfl
          have k5 : X8.cell? ⟨g8, 5, none⟩ = some (.int .i64 s8.grace) := cell_at HG8.out rfl
          have k6 : X8.cell? ⟨g8, 6, none⟩ = some (.int .i64 s8.prio) := cell_at HG8.out rfl
          go_wp2_with fail
          refine (packBytes_any s8 xa xb xc xd xe xf X8 hok8 HOL8.out (HM.out.below HBX8.out) (HGT.out.below HBX8.out hgl)).mono ?_
          rintro e w9 ⟨rfl, hb9⟩
          rw [HBE.out, HBC.out]
          have HB9 := Lib.hid (bto HBX8.out hb9)
          have HG9 := Lib.hid (boxB hb9 HG8.out)
          have HO9 := Lib.hid (HOL8.out.below hb9)
          clear hb9 k0 k1 k2 k3 k4 k5 k6
          have k0 : w9.cell? ⟨g8, 0, none⟩ = some (.string s8.name) := cell_at HG9.out rfl
          have k1 : w9.cell? ⟨g8, 1, none⟩ = some (.slice xa s8.labels.length xd) := cell_at HG9.out rfl
          have k2 : w9.cell? ⟨g8, 2, none⟩ = some (.slice xb s8.inits.length xe) := cell_at HG9.out rfl
          have k3 : w9.cell? ⟨g8, 3, none⟩ = some (.slice xc s8.mains.length xf) := cell_at HG9.out rfl
          have k4 : w9.cell? ⟨g8, 4, none⟩ = some (.int .i64 s8.restart) := cell_at HG9.out rfl
          have k5 : w9.cell? ⟨g8, 5, none⟩ = some (.int .i64 s8.grace) := cell_at HG9.out rfl
          have k6 : w9.cell? ⟨g8, 6, none⟩ = some (.int .i64 s8.prio) := cell_at HG9.out rfl
          have hbb : ((baOf l).toList == (baOf l).toList) = true := beq_self_eq_true _
          go_wp2_with (go_at_call 35; refine (Check_any s8 _ xb xc xe xf w9 hok8 (HM.out.below HB9.out) (laid_lt (HM.out.below HB9.out)) HO9.out.labs.R HO9.out.inits.R HO9.out.mains.R).mono ?_; rintro e w10 ⟨v10, rfl, hr10, hb10⟩; rw [HCK.out] at hr10; have hv10 : v10 = .nilIface := hr10; subst hv10)
          go_ret
          exact ⟨rfl, bto HB9.out hb10⟩
end Go.Proofs.YtgelbkgkjkeccaaGreatDoor
