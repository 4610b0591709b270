/- Package pack's Put and Bytes: a spec that may be is written behind what was written; one that may not lets the writer fail. Package pack's Bytes. -/
import Derived.Test.YtgelbkgkjkeccaaGreatDoorNd
namespace Go.Proofs.YtgelbkgkjkeccaaGreatDoor
open Go.RowKit

def specPW (s : SpecD) (st : WS) : WS := numW s.prio (numW s.grace (numW s.restart (allCtrsW s.mains (allCtrsW s.inits (allLabsW s.labels (textW s.name st))))))
def putSpecW (s : SpecD) (st : WS) : WS := match checkE s with
  | none => specPW s st
  | some e => failW (codeE (some e)) st
theorem LabR.fits {x : LabelD} (h : LabR x) : FitsL x := ⟨by have := h.key; omega, by have := h.val; omega⟩
theorem specPW_len (s : SpecD) (h : SpecR s) (st : WS) : (specPW s st).out.length ≤ st.out.length + 20000 := by
  unfold specPW
  have h1 := textW_len s.name st
  have h2 := allLabsW_len s.labels (textW s.name st) fun x hx => (h.labs x hx).fits
  have h3 := allCtrsW_len s.inits (allLabsW s.labels (textW s.name st)) fun x hx => (h.inits x hx).fits
  have h4 := allCtrsW_len s.mains (allCtrsW s.inits (allLabsW s.labels (textW s.name st))) fun x hx => (h.mains x hx).fits
  have h5 := numW_len s.restart (allCtrsW s.mains (allCtrsW s.inits (allLabsW s.labels (textW s.name st))))
  have h6 := numW_len s.grace (numW s.restart (allCtrsW s.mains (allCtrsW s.inits (allLabsW s.labels (textW s.name st)))))
  have h7 := numW_len s.prio (numW s.grace (numW s.restart (allCtrsW s.mains (allCtrsW s.inits (allLabsW s.labels (textW s.name st))))))
  have := h.name
  have := h.nlabs
  have := h.ninits
  have := h.nmains
  omega
theorem putSpecW_len (s : SpecD) (st : WS) : (putSpecW s st).out.length ≤ st.out.length + 20000 := by
  unfold putSpecW
  cases hc : checkE s with
  | none => exact specPW_len s (checkE_in hc).1 st
  | some e => simp only [failW_out]; omega
set_option maxHeartbeats 8000000 in
set_option maxRecDepth 100000 in
theorem packPut_any (B p : Nat) (w : World) (st : WS) (s : SpecD) (la ia ma : Option Addr) (lc ic mc : Nat) (hs : SpecOk s) (h : WrAt B p w st) (hi : ISpec (· < B) w s (.slice la s.labels.length lc) (.slice ia s.inits.length ic) (.slice ma s.mains.length mc)) (hm : LaidMarks w) (hg : ErrTyped w) (_hB : B ≤ w.heap.size) (hl : st.out.length ≤ 400000000) :
    Calls Tryz.prog 44 #[.pointer (some ⟨p, 0, none⟩), specV s (.slice la s.labels.length lc) (.slice ia s.inits.length ic) (.slice ma s.mains.length mc)] w (WritePost B p w (putSpecW s st) (.tuple #[])) := by
  have hge := h.ge
  have hp := h.lt
  have hgl := hg.lt
  have hmf : ∀ (fn : Fn) (first cap : Array Value) (w : World), (Instr.makeFunc fn first cap).run Tryz.prog w = .ok (.func fn first cap) w := fun _ _ _ _ => rfl
  have HH := Lib.hid h
  have HI := Lib.hid hi
  have HM := Lib.hid hm
  have HG := Lib.hid hg
  clear h hi hm hg
  go_enter Tryz.func44, Tryz.ntmps44
  go_wp2_with fail
  obtain ⟨W, hW⟩ : ∃ W, W = ((w.alloc (.cells #[.pointer (some ⟨p, 0, none⟩)] 51)).alloc (.cells #[.string s.name, .slice la s.labels.length lc, .slice ia s.inits.length ic, .slice ma s.mains.length mc, .int .i64 s.restart, .int .i64 s.grace, .int .i64 s.prio] 25)) := ⟨_, rfl⟩
  have hb0 : Below w.heap.size w W := by rw [hW]; exact bto (bnew _ _) (bnew _ _)
  have hs0 : W.heap.size = w.heap.size + 2 := by rw [hW]; simp
  have hx0 : W.heap[w.heap.size]? = some (.cells #[.pointer (some ⟨p, 0, none⟩)] 51 (0, 0)) := by rw [hW, Below.heap_alloc _ _ _ (by simp)]; exact heap_alloc_new _ _
  have hx1 : W.heap[w.heap.size + 1]? = some (.cells #[.string s.name, .slice la s.labels.length lc, .slice ia s.inits.length ic, .slice ma s.mains.length mc, .int .i64 s.restart, .int .i64 s.grace, .int .i64 s.prio] 25 (0, 0)) := by rw [hW]; exact heap_alloc_is _ _ _ (by simp)
  rw [← hW]
  clear hW
  have HB0 := Lib.hid hb0
  have HS0 := Lib.hid hs0
  have HX0 := Lib.hid hx0
  have HX1 := Lib.hid hx1
  have hIW := HI.out.below hb0
  clear hb0 hx0 hx1
  refine (Check_any s _ ia ma ic mc W hs (HM.out.below HB0.out) (laid_lt (HM.out.below HB0.out)) hIW.labs.R hIW.inits.R hIW.mains.R).mono ?_
  rintro e w1 ⟨v1, rfl, hr1, hb1⟩
  have HB1 := Lib.hid (bto HB0.out hb1)
  have HY0 := Lib.hid (boxB hb1 HX0.out)
  have HY1 := Lib.hid (boxB hb1 HX1.out)
  have hz1 : w.heap.size + 2 ≤ w1.heap.size := by have := hb1.size; omega
  have hB0 : B ≤ w1.heap.size := by omega
  have H0 := Lib.hid (HH.out.keptBelow HB1.out)
  clear hb1 hIW
  cases hck : checkE s with
  | some y =>
    rw [hck] at hr1
    obtain ⟨t, z, rfl⟩ := RErr.held (show RErr _ _ v1 y.1 y.2 from hr1)
    have HE : Hid (putSpecW s st = failW (codeE (some y)) st) := Lib.hid (by unfold putSpecW; rw [hck])
    have HR1 := Lib.hid hr1
    have HYd : Hid (w1.drew.heap[w.heap.size]? = some (.cells #[.pointer (some ⟨p, 0, none⟩)] 51 (0, 0))) := HY0
    have f0 : w1.cell? ⟨w.heap.size, 0, none⟩ = some (.pointer (some ⟨p, 0, none⟩)) := by simp [World.cell?, HY0.out]
    clear hr1 hck
    go_wp2_with fail
    go_region_held3 (fun w' => w'.cell? ⟨w.heap.size, 0, none⟩ = some (.pointer (some ⟨p, 0, none⟩)))
      (first | assumption | exact k3.cellOf (boxB hb2 HYd.out) (by decide) (by omega) rfl | exact keepc hb2 (by assumption) | simp)
      (first
        | (go_at_call 38; refine (Code_any _ _ _ w1.drew (HG.out.below (bto HB1.out (bdrew1 _)) hgl) (RErrO.below (e := some y) HR1.out (bdrew1 w1))).mono ?_; rintro e w2 ⟨rfl, hb2⟩)
        | (go_at_call 135; refine (wfail_any B p w2 st _ (H0.out.keptBelow (bto (bdrew1 _) hb2))).mono ?_; rintro e w3 ⟨rfl, h3, k3⟩))
    go_wp2
    go_end0
    rw [HE.out]
    exact ⟨rfl, h3, (Wrote.of_below (bto (bto HB1.out (bdrew1 _)) hb2)).trans k3⟩
  | none =>
    rw [hck] at hr1
    have hv1 : v1 = .nilIface := hr1
    subst hv1
    have HE : Hid (putSpecW s st = specPW s st) := Lib.hid (by unfold putSpecW; rw [hck])
    have HR := Lib.hid (checkE_in hck).1
    have z1 := HR.out.name
    have z2 := HR.out.nlabs
    have z3 := HR.out.ninits
    have z4 := HR.out.nmains
    have HIW := Lib.hid (HI.out.below HB1.out)
    clear hr1 hck
    have f0_0 : w1.cell? ⟨w.heap.size, 0, none⟩ = some (.pointer (some ⟨p, 0, none⟩)) := (by simp [World.cell?, HY0.out])
    have f1_0 : w1.cell? ⟨w.heap.size + 1, 0, none⟩ = some (.string s.name) := (by simp [World.cell?, HY1.out])
    go_wp2_with fail
    refine (wtext_any B p w1 st s.name H0.out hB0 (by omega) (by omega)).mono ?_
    rintro e w_1 ⟨rfl, h1, k1⟩
    obtain ⟨s1, hs1⟩ : ∃ s1, s1 = textW s.name st := ⟨_, rfl⟩
    rw [← hs1] at h1
    have L1 := textW_len s.name st
    rw [← hs1] at L1
    have HS_1 := Lib.hid hs1
    have H1 := Lib.hid h1
    have K1 : Hid (Wrote B p w1 w_1) := Lib.hid (k1)
    have hB1 : B ≤ w_1.heap.size := by have := K1.out.size; omega
    clear h1 k1 hs1 f0_0 f1_0
    have f0_0 : w_1.cell? ⟨w.heap.size, 0, none⟩ = some (.pointer (some ⟨p, 0, none⟩)) := K1.out.cellOf HY0.out (by decide) (by omega) rfl
    have f1_1 : w_1.cell? ⟨w.heap.size + 1, 1, none⟩ = some (.slice la s.labels.length lc) := K1.out.cellOf HY1.out (by decide) (by omega) rfl
    go_wp2_with fail
    refine (PutLabels_any B p w_1 s1 s.labels la lc (fun x hx => (HR.out.labs x hx).fits) (by omega) H1.out (HIW.out.labs.wrote K1.out hge) hB1 (by omega)).mono ?_
    rintro e w_2 ⟨rfl, h2, k2⟩
    obtain ⟨s2, hs2⟩ : ∃ s2, s2 = allLabsW s.labels s1 := ⟨_, rfl⟩
    rw [← hs2] at h2
    have L2 := allLabsW_len s.labels s1 (fun x hx => (HR.out.labs x hx).fits)
    rw [← hs2] at L2
    have HS_2 := Lib.hid hs2
    have H2 := Lib.hid h2
    have K2 : Hid (Wrote B p w1 w_2) := Lib.hid (K1.out.trans k2)
    have hB2 : B ≤ w_2.heap.size := by have := K2.out.size; omega
    clear h2 k2 hs2 f0_0 f1_1
    have g0 : ∀ w : World, (Instr.index 191 (.agg #[.slice ia s.inits.length ic, .slice ma s.mains.length mc]) (.int .i64 0)).run Tryz.prog w = .ok (.slice ia s.inits.length ic) w := fun _ => by kernel_rfl
    have g1 : ∀ w : World, (Instr.index 191 (.agg #[.slice ia s.inits.length ic, .slice ma s.mains.length mc]) (.int .i64 1)).run Tryz.prog w = .ok (.slice ma s.mains.length mc) w := fun _ => by kernel_rfl
    have f1_2 : w_2.cell? ⟨w.heap.size + 1, 2, none⟩ = some (.slice ia s.inits.length ic) := K2.out.cellOf HY1.out (by decide) (by omega) rfl
    have f1_3 : w_2.cell? ⟨w.heap.size + 1, 3, none⟩ = some (.slice ma s.mains.length mc) := K2.out.cellOf HY1.out (by decide) (by omega) rfl
    have L3 := allCtrsW_len s.inits s2 fun x hx => (HR.out.inits x hx).fits
    have L4 := allCtrsW_len s.mains (allCtrsW s.inits s2) fun x hx => (HR.out.mains x hx).fits
    go_wp2_with fail
    go_loopw [30] (fun i wr => ∃ k : Nat, k ≤ 2 ∧ i = .int .i64 k ∧ WrAt B p wr (if k = 0 then s2 else if k = 1 then allCtrsW s.inits s2 else allCtrsW s.mains (allCtrsW s.inits s2)) ∧ Wrote B p w1 wr) (fun i _ => 2 - (intOf i).toNat)
    case atStart => exact ⟨0, Nat.zero_le _, rfl, H2.out, K2.out⟩
    case round =>
      obtain ⟨k, hk, rfl, h3, k3⟩ := hrel
      have K3 := Lib.hid k3
      have hB3 : B ≤ wr.heap.size := by have := k3.size; omega
      have q0 : wr.cell? ⟨w.heap.size, 0, none⟩ = some (.pointer (some ⟨p, 0, none⟩)) := k3.cellOf HY0.out (by decide) (by omega) rfl
      have HQ := Lib.hid (k3.box HY0.out (by decide) (by omega))
      clear k3 f1_2 f1_3
      match k, hk with
      | 0, _ =>
        have H3 := Lib.hid (show WrAt B p wr s2 from h3)
        clear h3
        go_wp2_with fail
        refine (putCtrs_any B p w.heap.size wr s2 s.inits ia ic HR.out.inits (by omega) H3.out (HIW.out.inits.wrote K3.out hge) HQ.out (by omega) hB3 (by omega)).mono ?_
        rintro e w4 ⟨rfl, h4, k4⟩
        have H4 := Lib.hid h4
        have K4 := Lib.hid k4
        clear h4 k4 q0
        go_wp2
        exact ⟨⟨1, by omega, by go_num, H4.out, K3.out.trans K4.out⟩, by simp [intOf]⟩
      | 1, _ =>
        have H3 := Lib.hid (show WrAt B p wr (allCtrsW s.inits s2) from h3)
        clear h3
        go_wp2_with fail
        refine (putCtrs_any B p w.heap.size wr _ s.mains ma mc HR.out.mains (by omega) H3.out (HIW.out.mains.wrote K3.out hge) HQ.out (by omega) hB3 (by omega)).mono ?_
        rintro e w4 ⟨rfl, h4, k4⟩
        have H4 := Lib.hid h4
        have K4 := Lib.hid k4
        clear h4 k4 q0
        go_wp2
        exact ⟨⟨2, by omega, by go_num, H4.out, K3.out.trans K4.out⟩, by simp [intOf]⟩
      | 2, _ =>
        obtain ⟨s4, hs4⟩ : ∃ s4, s4 = allCtrsW s.mains (allCtrsW s.inits s2) := ⟨_, rfl⟩
        have H4 := Lib.hid (show WrAt B p wr s4 by rw [hs4]; exact h3)
        rw [← hs4] at L4
        have HS_4 := Lib.hid hs4
        obtain ⟨w_4, hw4⟩ : ∃ w_4, w_4 = wr := ⟨_, rfl⟩
        subst hw4
        have K4 := K3
        have hB4 := hB3
        clear h3 hs4 q0
        have f0_0 : w_4.cell? ⟨w.heap.size, 0, none⟩ = some (.pointer (some ⟨p, 0, none⟩)) := K4.out.cellOf HY0.out (by decide) (by omega) rfl
        have f1_4 : w_4.cell? ⟨w.heap.size + 1, 4, none⟩ = some (.int .i64 s.restart) := K4.out.cellOf HY1.out (by decide) (by omega) rfl
        go_wp2_with fail
        refine (wnum_any B p w_4 s4 s.restart H4.out (HR.out.restart.small (by decide)) hB4 (by omega)).mono ?_
        rintro e w_5 ⟨rfl, h5, k5⟩
        obtain ⟨s5, hs5⟩ : ∃ s5, s5 = numW s.restart s4 := ⟨_, rfl⟩
        rw [← hs5] at h5
        have L5 := numW_len s.restart s4
        rw [← hs5] at L5
        have HS_5 := Lib.hid hs5
        have H5 := Lib.hid h5
        have K5 : Hid (Wrote B p w1 w_5) := Lib.hid (K4.out.trans k5)
        have hB5 : B ≤ w_5.heap.size := by have := K5.out.size; omega
        clear h5 k5 hs5 f0_0 f1_4
        have f0_0 : w_5.cell? ⟨w.heap.size, 0, none⟩ = some (.pointer (some ⟨p, 0, none⟩)) := K5.out.cellOf HY0.out (by decide) (by omega) rfl
        have f1_5 : w_5.cell? ⟨w.heap.size + 1, 5, none⟩ = some (.int .i64 s.grace) := K5.out.cellOf HY1.out (by decide) (by omega) rfl
        go_wp2_with fail
        refine (wnum_any B p w_5 s5 s.grace H5.out (HR.out.grace.small (by decide)) hB5 (by omega)).mono ?_
        rintro e w_6 ⟨rfl, h6, k6⟩
        obtain ⟨s6, hs6⟩ : ∃ s6, s6 = numW s.grace s5 := ⟨_, rfl⟩
        rw [← hs6] at h6
        have L6 := numW_len s.grace s5
        rw [← hs6] at L6
        have HS_6 := Lib.hid hs6
        have H6 := Lib.hid h6
        have K6 : Hid (Wrote B p w1 w_6) := Lib.hid (K5.out.trans k6)
        have hB6 : B ≤ w_6.heap.size := by have := K6.out.size; omega
        clear h6 k6 hs6 f0_0 f1_5
        have f0_0 : w_6.cell? ⟨w.heap.size, 0, none⟩ = some (.pointer (some ⟨p, 0, none⟩)) := K6.out.cellOf HY0.out (by decide) (by omega) rfl
        have f1_6 : w_6.cell? ⟨w.heap.size + 1, 6, none⟩ = some (.int .i64 s.prio) := K6.out.cellOf HY1.out (by decide) (by omega) rfl
        go_wp2_with fail
        refine (wnum_any B p w_6 s6 s.prio H6.out (HR.out.prio.small (by decide)) hB6 (by omega)).mono ?_
        rintro e w_7 ⟨rfl, h7, k7⟩
        obtain ⟨s7, hs7⟩ : ∃ s7, s7 = numW s.prio s6 := ⟨_, rfl⟩
        rw [← hs7] at h7
        have L7 := numW_len s.prio s6
        rw [← hs7] at L7
        have HS_7 := Lib.hid hs7
        have H7 := Lib.hid h7
        have K7 : Hid (Wrote B p w1 w_7) := Lib.hid (K6.out.trans k7)
        have hB7 : B ≤ w_7.heap.size := by have := K7.out.size; omega
        clear h7 k7 hs7 f0_0 f1_6
        go_wp2
        go_end0
        have E : specPW s st = s7 := by rw [HS_7.out, HS_6.out, HS_5.out, HS_4.out, HS_2.out, HS_1.out]; rfl
        rw [HE.out, E]
        exact ⟨rfl, H7.out, (Wrote.of_below HB1.out).trans K7.out⟩
end Go.Proofs.YtgelbkgkjkeccaaGreatDoor
namespace Go.Proofs.YtgelbkgkjkeccaaGreatDoor
open Go.RowKit
def bytesE (s : SpecD) : List UInt8 := endW (putSpecW s emptyW)
def bytesC (s : SpecD) : Int := (putSpecW s emptyW).c
set_option maxHeartbeats 4000000 in
set_option maxRecDepth 100000 in
theorem packBytes_any (s : SpecD) (la ia ma : Option Addr) (lc ic mc : Nat) (w : World) (hs : SpecOk s) (hi : ISpec (· < w.heap.size) w s (.slice la s.labels.length lc) (.slice ia s.inits.length ic) (.slice ma s.mains.length mc)) (hm : LaidMarks w) (hg : ErrTyped w) :
    Calls Tryz.prog 40 #[specV s (.slice la s.labels.length lc) (.slice ia s.inits.length ic) (.slice ma s.mains.length mc)] w fun e w' => e = .returned (.tuple #[.string (baOf (bytesE s)), .int .i64 (bytesC s)]) ∧ Below w.heap.size w w' := by
  have hgl := hg.lt
  have HI := Lib.hid hi
  have HM := Lib.hid hm
  have HG := Lib.hid hg
  clear hi hm hg
  go_enter Tryz.func40, Tryz.ntmps40
  go_wp2_with fail
  obtain ⟨W, hW⟩ : ∃ W, W = w.alloc (.cells #[.string s.name, .slice la s.labels.length lc, .slice ia s.inits.length ic, .slice ma s.mains.length mc, .int .i64 s.restart, .int .i64 s.grace, .int .i64 s.prio] 25) := ⟨_, rfl⟩
  have hb0 : Below w.heap.size w W := by rw [hW]; exact bnew _ _
  have hx0 : W.heap[w.heap.size]? = some (.cells #[.string s.name, .slice la s.labels.length lc, .slice ia s.inits.length ic, .slice ma s.mains.length mc, .int .i64 s.restart, .int .i64 s.grace, .int .i64 s.prio] 25 (0, 0)) := by rw [hW]; exact heap_alloc_new _ _
  have hs0 : W.heap.size = w.heap.size + 1 := by rw [hW]; simp
  rw [← hW]
  clear hW
  have hz0 : w.heap.size < W.heap.size := by omega
  clear hs0
  refine (Write_any W).mono ?_
  rintro e w1 ⟨rfl, rfl⟩
  obtain ⟨w1, hw1⟩ : ∃ w1, w1 = W.alloc (.cells #[.pointer none, .slice none 0 0, .int .i64 0] 187) := ⟨_, rfl⟩
  have hW1 := WrAt.new W
  have hb1 : Below W.heap.size W w1 := by rw [hw1]; exact bnew _ _
  rw [← hw1] at hW1 ⊢
  have hz1 : W.heap.size < w1.heap.size := by rw [hw1]; simp
  clear hw1
  have HB0 := Lib.hid hb0
  have HB1 := Lib.hid (bto hb0 hb1)
  have HX := Lib.hid (boxB hb1 hx0)
  have HW1 := Lib.hid hW1
  clear hb0 hb1 hx0 hW1
  have f0 : w1.cell? ⟨w.heap.size, 0, none⟩ = some (.string s.name) := by simp [World.cell?, HX.out]
  have f1 : w1.cell? ⟨w.heap.size, 1, none⟩ = some (.slice la s.labels.length lc) := by simp [World.cell?, HX.out]
  have f2 : w1.cell? ⟨w.heap.size, 2, none⟩ = some (.slice ia s.inits.length ic) := by simp [World.cell?, HX.out]
  have f3 : w1.cell? ⟨w.heap.size, 3, none⟩ = some (.slice ma s.mains.length mc) := by simp [World.cell?, HX.out]
  have f4 : w1.cell? ⟨w.heap.size, 4, none⟩ = some (.int .i64 s.restart) := by simp [World.cell?, HX.out]
  have f5 : w1.cell? ⟨w.heap.size, 5, none⟩ = some (.int .i64 s.grace) := by simp [World.cell?, HX.out]
  have f6 : w1.cell? ⟨w.heap.size, 6, none⟩ = some (.int .i64 s.prio) := by simp [World.cell?, HX.out]
  go_wp2_with fail
  refine (packPut_any W.heap.size W.heap.size w1 emptyW s la ia ma lc ic mc hs HW1.out ((HI.out.below HB1.out).mono fun k hk => by omega) (HM.out.below HB1.out) (HG.out.below HB1.out hgl) (by omega) (Nat.zero_le _)).mono ?_
  rintro e w2 ⟨rfl, h2, k2⟩
  have L2 := putSpecW_len s emptyW
  have L0 : emptyW.out.length = 0 := rfl
  have H2 := Lib.hid h2
  have K2 := Lib.hid k2
  clear h2 k2 f0 f1 f2 f3 f4 f5 f6
  go_wp2_with fail
  refine (wend_any W.heap.size W.heap.size w2 _ H2.out (by omega)).mono ?_
  rintro e w3 ⟨rfl, h3, k3⟩
  have K3 := Lib.hid k3
  clear h3 k3
  go_wp2
  go_ret2
  exact ⟨rfl, HB1.out.trans (((K2.out.trans K3.out).below (Nat.le_refl _) (by omega)).mono (by omega))⟩
end Go.Proofs.YtgelbkgkjkeccaaGreatDoor
