/- Package pack's takeContainer: the plain function contP. -/
import Derived.Test.YtgelbkgkjkeccaaGreatDoorNj
import Derived.Deep.RegionHeld3
namespace Go.Proofs.YtgelbkgkjkeccaaGreatDoor
open Go.RowKit

theorem keptA {p : Nat} {w w1 w2 : World} (h : Kept (· = p) w w1) (k : Below w1.heap.size w1 w2) : Kept (· = p) w w2 := h.trans (Kept.of_below (M := (· = p)) k) fun _ _ h => h
/-- A block of eleven cells that is stored whole, and two ranges of it. -/
theorem put11 {w : World} {g : Nat} {T : TypeId} {cur vs : List Value} (h : w.heap[g]? = some (.cells cur.toArray T (0, 0))) (h1 : vs.length = cur.length) : (putCells' w g 0 vs).heap[g]? = some (.cells vs.toArray T (0, 0)) := by
  have h2 := putCells_block g T vs w 0 cur h (by omega)
  rw [h2, h1]
  simp
theorem cell_at {w : World} {q i : Nat} {cs : Array Value} {T : TypeId} {fr : Nat × Nat} {x : Value} (h : w.heap[q]? = some (.cells cs T fr)) (hx : cs[i]? = some x) : w.cell? ⟨q, i, none⟩ = some x := by simp [World.cell?, h, hx]
theorem frozen_at {w : World} {q i : Nat} {cs : Array Value} {T : TypeId} (h : w.heap[q]? = some (.cells cs T (0, 0))) : w.frozen? ⟨q, i, none⟩ = false := by simp [World.frozen?, h]
theorem zb_alloc {p : Nat} {X X' : World} {o : Obj} (k : Kept (· = p) (X.alloc o) X') (h : p < X.heap.size) : X'.heap[X.heap.size]? = some o := kept_block k (heap_alloc_new X o) (by omega)
theorem zb_drew_alloc {p : Nat} {X X' : World} {o : Obj} (k : Kept (· = p) (X.drew.alloc o) X') (h : p < X.heap.size) : X'.heap[X.heap.size]? = some o := kept_block k (heap_alloc_new X.drew o) (by show X.heap.size ≠ p; omega)
theorem zb_alloc_drew {p : Nat} {X X' : World} {o : Obj} (k : Kept (· = p) (X.alloc o).drew X') (h : p < X.heap.size) : X'.heap[X.heap.size]? = some o := kept_block k (heap_alloc_new X o) (by omega)
def MidC (p : Nat) (W : World) (n0 : Nat) (nm im : ByteArray) (r2 : RS) (s3 : Value) (wx : World) : Prop := ∃ g : Nat, s3 = .pointer (some ⟨g, 0, none⟩) ∧ n0 ≤ g ∧ wx.heap[g]? = some (.cells #[.string nm, .string im, .int .i64 0, .int .i64 0, .int .i64 0, .int .i64 0, .int .i64 0, .int .i64 0, .slice none 0 0, .int .i64 0, .int .i64 0] 44 (0, 0)) ∧ RdAt p wx r2 ∧ Kept (· = p) W wx
def Mid2C (p : Nat) (W : World) (g : Nat) (nm im : ByteArray) (rq lm : ResD) (r4 : RS) (s3 : Value) (wx : World) : Prop := s3 = .pointer (some ⟨g, 0, none⟩) ∧ wx.heap[g]? = some (.cells #[.string nm, .string im, .int .i64 rq.cpu, .int .i64 rq.mem, .int .i64 rq.pids, .int .i64 lm.cpu, .int .i64 lm.mem, .int .i64 lm.pids, .slice none 0 0, .int .i64 0, .int .i64 0] 44 (0, 0)) ∧ RdAt p wx r4 ∧ ∃ w4, Kept (· = p) W w4 ∧ Kept (· = g) w4 wx
def TakeCPost (p : Nat) (w : World) (q : RS × CtrD) (e : Ending) (w' : World) : Prop := ∃ v, e = .returned (.agg (ctrCells q.2 v)) ∧ OInts (Ran w.heap.size w'.heap.size) w' v q.2.ports ∧ RdAt p w' q.1 ∧ Kept (· = p) w w'
set_option maxHeartbeats 8000000 in
set_option maxRecDepth 100000 in
theorem takeContainer_any (p : Nat) (w : World) (r : RS) (h : RdAt p w r) (hl : r.l.length ≤ 1000000) : Calls Tryz.prog 157 #[.pointer (some ⟨p, 0, none⟩)] w (TakeCPost p w (contP r)) := by
  have hp := h.lt
  have hmf : ∀ (fn : Fn) (first cap : Array Value) (w : World), (Instr.makeFunc fn first cap).run Tryz.prog w = .ok (.func fn first cap) w := fun _ _ _ _ => rfl
  have HH := Lib.hid h
  obtain ⟨r1, hr1⟩ : ∃ x, x = (textP 16 r).1 := ⟨_, rfl⟩
  obtain ⟨nm, hnm⟩ : ∃ x, x = (textP 16 r).2 := ⟨_, rfl⟩
  obtain ⟨r2, hr2⟩ : ∃ x, x = (textP 33 r1).1 := ⟨_, rfl⟩
  obtain ⟨im, him⟩ : ∃ x, x = (textP 33 r1).2 := ⟨_, rfl⟩
  obtain ⟨r3, hr3⟩ : ∃ x, x = (resP r2).1 := ⟨_, rfl⟩
  obtain ⟨rq, hrq⟩ : ∃ x, x = (resP r2).2 := ⟨_, rfl⟩
  obtain ⟨r4, hr4⟩ : ∃ x, x = (resP r3).1 := ⟨_, rfl⟩
  obtain ⟨lm, hlm⟩ : ∃ x, x = (resP r3).2 := ⟨_, rfl⟩
  obtain ⟨r5, hr5⟩ : ∃ x, x = (takeAllP 3 (numP 65535) r4).1 := ⟨_, rfl⟩
  obtain ⟨ps, hps⟩ : ∃ x, x = (takeAllP 3 (numP 65535) r4).2 := ⟨_, rfl⟩
  obtain ⟨r6, hr6⟩ : ∃ x, x = (numP 1000 r5).1 := ⟨_, rfl⟩
  obtain ⟨ev, hev⟩ : ∃ x, x = (numP 1000 r5).2 := ⟨_, rfl⟩
  obtain ⟨r7, hr7⟩ : ∃ x, x = (numP 10 r6).1 := ⟨_, rfl⟩
  obtain ⟨fl, hfl⟩ : ∃ x, x = (numP 10 r6).2 := ⟨_, rfl⟩
  have HE : Hid (contP r = (r7, ⟨nm, im, rq, lm, ps, ev, fl⟩)) := Lib.hid (by subst hr1 hnm hr2 him hr3 hrq hr4 hlm hr5 hps hr6 hev hr7 hfl; rfl)
  have l1 : r1.l.length ≤ 1000000 := by rw [hr1]; exact Nat.le_trans (textP_len 16 r) hl
  have l2 : r2.l.length ≤ 1000000 := by rw [hr2]; exact Nat.le_trans (textP_len 33 r1) l1
  have l3 : r3.l.length ≤ 1000000 := by rw [hr3]; exact Nat.le_trans (resP_len r2) l2
  have l4 : r4.l.length ≤ 1000000 := by rw [hr4]; exact Nat.le_trans (resP_len r3) l3
  have l5 : r5.l.length ≤ 1000000 := by rw [hr5]; exact Nat.le_trans (takeAllP_len (numP_len 65535) 3 r4) l4
  have l6 : r6.l.length ≤ 1000000 := by rw [hr6]; exact Nat.le_trans (numP_len 1000 r5) l5
  have C1 : Hid (∀ w, RdAt p w r → Calls Tryz.prog 153 #[.pointer (some ⟨p, 0, none⟩), .int .i64 16] w (RdPost p w r1 (.string nm))) := Lib.hid fun w h => by rw [hr1, hnm]; exact rtext_any p w r 16 (by omega) h hl
  have C2 : Hid (∀ w, RdAt p w r1 → Calls Tryz.prog 153 #[.pointer (some ⟨p, 0, none⟩), .int .i64 33] w (RdPost p w r2 (.string im))) := Lib.hid fun w h => by rw [hr2, him]; exact rtext_any p w r1 33 (by omega) h l1
  have C3 : Hid (∀ w, RdAt p w r2 → Calls Tryz.prog 241 #[.pointer (some ⟨p, 0, none⟩)] w (RdPostM p w r3 (.agg #[.int .i64 rq.cpu, .int .i64 rq.mem, .int .i64 rq.pids]))) := Lib.hid fun w h => by rw [hr3, hrq]; exact takeRes_any p w r2 h l2
  have C4 : Hid (∀ w, RdAt p w r3 → Calls Tryz.prog 241 #[.pointer (some ⟨p, 0, none⟩)] w (RdPostM p w r4 (.agg #[.int .i64 lm.cpu, .int .i64 lm.mem, .int .i64 lm.pids]))) := Lib.hid fun w h => by rw [hr4, hlm]; exact takeRes_any p w r3 h l3
  have C5 : Hid (∀ w, RdAt p w r4 → ∀ q, w.heap[q]? = some (.cells #[.pointer (some ⟨p, 0, none⟩)] 65 (0, 0)) → q ≠ p → Calls Tryz.prog 242 #[.pointer (some ⟨p, 0, none⟩), .int .i64 3, .func (.func 243) #[] #[.pointer (some ⟨q, 0, none⟩)]] w (TakePost p w (fun w' v l => OInts (Ran w.heap.size w'.heap.size) w' v l) (r5, ps))) := Lib.hid fun w h q hq hqp => by
    have := takeInts_any p q w r4 3 (by omega) h hq hqp l4
    rw [show takeAllP 3 (numP 65535) r4 = (r5, ps) by rw [hr5, hps]] at this
    exact this
  have C6 : Hid (∀ w, RdAt p w r5 → Calls Tryz.prog 159 #[.pointer (some ⟨p, 0, none⟩), .int .i64 1000] w (RdPost p w r6 (.int .i64 ev))) := Lib.hid fun w h => by rw [hr6, hev]; exact rnum_any p w r5 1000 (by omega) h l5
  have C7 : Hid (∀ w, RdAt p w r6 → Calls Tryz.prog 159 #[.pointer (some ⟨p, 0, none⟩), .int .i64 10] w (RdPost p w r7 (.int .i64 fl))) := Lib.hid fun w h => by rw [hr7, hfl]; exact rnum_any p w r6 10 (by omega) h l6
  clear hr1 hnm hr2 him hr3 hrq hr4 hlm hr5 hps hr6 hev hr7 hfl l1 l2 l3 l4 l5 l6 h hl
  go_enter Tryz.func157, Tryz.ntmps157
  go_upto_region 1 with fail
  obtain ⟨W, hW⟩ : ∃ W, W = ((w.alloc (.cells #[.pointer (some ⟨p, 0, none⟩)] 65)).alloc (.cells #[.string ⟨#[]⟩, .string ⟨#[]⟩, .int .i64 0, .int .i64 0, .int .i64 0, .int .i64 0, .int .i64 0, .int .i64 0, .slice none 0 0, .int .i64 0, .int .i64 0] 44)) := ⟨_, rfl⟩
  have hb0 : Below w.heap.size w W := by rw [hW]; exact bto (bnew _ _) (bnew _ _)
  have hs0 : W.heap.size = w.heap.size + 2 := by rw [hW]; simp
  have hx0 : W.heap[w.heap.size]? = some (.cells #[.pointer (some ⟨p, 0, none⟩)] 65 (0, 0)) := by rw [hW, Below.heap_alloc _ _ _ (by simp)]; exact heap_alloc_new _ _
  have hx1 : W.heap[w.heap.size + 1]? = some (.cells #[.string ⟨#[]⟩, .string ⟨#[]⟩, .int .i64 0, .int .i64 0, .int .i64 0, .int .i64 0, .int .i64 0, .int .i64 0, .slice none 0 0, .int .i64 0, .int .i64 0] 44 (0, 0)) := by rw [hW]; exact heap_alloc_is _ _ _ (by simp)
  rw [← hW]
  clear hW
  have HB0 := Lib.hid hb0
  have HX0 := Lib.hid hx0
  have HX1 := Lib.hid hx1
  have H0 := Lib.hid (HH.out.keptBelow hb0)
  have hWs : w.heap.size + 2 ≤ W.heap.size := by omega
  have HS0 := Lib.hid hs0
  clear hb0 hx0 hx1 hs0
  have a0 : W.cell? ⟨w.heap.size, 0, none⟩ = some (.pointer (some ⟨p, 0, none⟩)) := by simp [World.cell?, HX0.out]
  go_cut [3] (MidC p W W.heap.size nm im r2)
  case first =>
    have hNW : w.heap.size < W.heap.size := by omega
    have C1A := Lib.hid (RdPost.alloc C1.out)
    have C2A := Lib.hid (RdPost.alloc C2.out)
    have KEEP : Hid (∀ X X' : World, Kept (· = p) X X' → X.cell? ⟨w.heap.size, 0, none⟩ = some (.pointer (some ⟨p, 0, none⟩)) → X'.cell? ⟨w.heap.size, 0, none⟩ = some (.pointer (some ⟨p, 0, none⟩))) := fun X X' k h => k.cell (by omega) h
    have a0d : W.drew.cell? ⟨w.heap.size, 0, none⟩ = some (.pointer (some ⟨p, 0, none⟩)) := a0
    go_region_held3 (fun w' => w'.cell? ⟨w.heap.size, 0, none⟩ = some (.pointer (some ⟨p, 0, none⟩)))
      (first | with_reducible assumption | with_reducible exact keepc (bnew _ _) s2 | with_reducible exact keepc (bnew _ _) s1 | with_reducible exact keepc (bnew _ _) a0d | with_reducible exact keepc (bnew _ _) a0 | exact keepc (bnew W _) a0)
      (first
        | (go_at_call_of 153 (Value.int .i64 16); (first
            | ((with_reducible refine (C1A.out _ _ (H0.out.keptBelow (bdrew1 W))).mono ?_); rintro e w' ⟨rfl, w1, rfl, h1, k1⟩; have s1 := KEEP.out _ _ k1.1 a0d)
            | ((with_reducible refine (C1.out W.drew (H0.out.keptBelow (bdrew1 _))).mono ?_); rintro e w1 ⟨rfl, h1, k1⟩; have s1 := KEEP.out _ _ k1.1 a0d)
            | ((refine (C1A.out W.drew _ (H0.out.keptBelow (bdrew1 W))).mono ?_); rintro e w' ⟨rfl, w1, rfl, h1, k1⟩; have s1 := KEEP.out _ _ k1.1 a0d)))
        | (go_at_call_of 153 (Value.int .i64 33); (first
            | ((with_reducible refine (C2A.out _ _ h1).mono ?_); rintro e w' ⟨rfl, w2, rfl, h2, k2⟩; have s2 := KEEP.out _ _ k2.1 s1; have e2b : w1.heap.size = w2.heap.size := k2.2.symm; have e2a : W.heap.size = w2.heap.size := (k2.2.trans k1.2).symm)
            | ((with_reducible refine (C2.out _ h1).mono ?_); rintro e w2 ⟨rfl, h2, k2⟩; have s2 := KEEP.out _ _ k2.1 s1; have e2b : w1.heap.size = w2.heap.size := k2.2.symm; have e2a : W.heap.size = w2.heap.size := (k2.2.trans k1.2).symm))))
    all_goals
      go_wp2_with fail
      go_meet
      exact ⟨w2.heap.size, rfl, (by omega), heap_alloc_new _ _, h2.keptBelow (bnew _ _), keptA (kept_thru (keptB (bdrew1 W) k1.1) k2.1) (bnew _ _)⟩
  case rest =>
    obtain ⟨g, rfl, hg, hblk, hrd, hkp⟩ := hcut
    have HBLK := Lib.hid hblk
    have HRD := Lib.hid hrd
    have HKP := Lib.hid hkp
    have HQ := Lib.hid (kept_block hkp HX0.out (by omega))
    have HQ1 := Lib.hid (kept_block hkp HX1.out (by omega))
    have hwc : W.heap.size ≤ wc.heap.size := hkp.size
    have b0 : wc.cell? ⟨w.heap.size, 0, none⟩ = some (.pointer (some ⟨p, 0, none⟩)) := cell_at HQ.out rfl
    obtain ⟨wa, hwa⟩ : ∃ x, x = wc := ⟨_, rfl⟩
    subst hwa
    clear hblk hrd hkp a0
    go_upto_region 2 with fail
    go_cut [3] (Mid2C p wa g nm im rq lm r4)
    case first =>
      have KEEP : Hid (∀ X X' : World, Kept (· = p) X X' → X.cell? ⟨w.heap.size, 0, none⟩ = some (.pointer (some ⟨p, 0, none⟩)) → X'.cell? ⟨w.heap.size, 0, none⟩ = some (.pointer (some ⟨p, 0, none⟩))) := fun X X' k h => k.cell (by omega) h
      have hgN : w.heap.size ≠ g := by omega
      have A1 : ∀ (X : World) (i j : Nat) (v : Value), (X.setCell ⟨g, i, none⟩ v).cell? ⟨w.heap.size, j, none⟩ = X.cell? ⟨w.heap.size, j, none⟩ := fun X i j v => setc_cell_ne X _ i _ j v hgN
      have hgp : g ≠ p := by omega
      go_region_held3 (fun w' => w'.cell? ⟨w.heap.size, 0, none⟩ = some (.pointer (some ⟨p, 0, none⟩)))
        (first | with_reducible assumption | (simp only [A1]; exact s4) | with_reducible exact keepc (bdrew1 _) b0)
        (first
          | (go_at_call 241; refine (C4.out _ h3).mono ?_; rintro e w4 ⟨rfl, h4, k4⟩; have s4 := KEEP.out _ _ k4 s3; have zb4 := kept_block k4 zb3.out hgp; have z2 := cell_at (i := 2) (x := .int .i64 0) zb4 rfl; have zf2 := frozen_at (i := 2) zb4; have z3 := cell_at (i := 3) (x := .int .i64 0) zb4 rfl; have zf3 := frozen_at (i := 3) zb4; have z4 := cell_at (i := 4) (x := .int .i64 0) zb4 rfl; have zf4 := frozen_at (i := 4) zb4; have z5 := cell_at (i := 5) (x := .int .i64 0) zb4 rfl; have zf5 := frozen_at (i := 5) zb4; have z6 := cell_at (i := 6) (x := .int .i64 0) zb4 rfl; have zf6 := frozen_at (i := 6) zb4; have z7 := cell_at (i := 7) (x := .int .i64 0) zb4 rfl; have zf7 := frozen_at (i := 7) zb4; have ZB4 := Lib.hid zb4; clear zb4)
          | (go_at_call 241; refine (C3.out _ (HRD.out.keptBelow (bdrew1 _))).mono ?_; rintro e w3 ⟨rfl, h3, k3⟩; have s3 := KEEP.out _ _ k3 (keepc (bdrew1 _) b0); have zb3 := Lib.hid (kept_block k3 (boxB (bdrew1 _) HBLK.out) hgp)))
      all_goals
        have hc1 := Lib.hid (putCells_block g 44 [.int .i64 rq.cpu, .int .i64 rq.mem, .int .i64 rq.pids] w4 2 [.string nm, .string im, .int .i64 0, .int .i64 0, .int .i64 0, .int .i64 0, .int .i64 0, .int .i64 0, .slice none 0 0, .int .i64 0, .int .i64 0] ZB4.out (by simp))
        have hc2 := Lib.hid (putCells_block g 44 [.int .i64 lm.cpu, .int .i64 lm.mem, .int .i64 lm.pids] (putCells' w4 g 2 [.int .i64 rq.cpu, .int .i64 rq.mem, .int .i64 rq.pids]) 5 [.string nm, .string im, .int .i64 rq.cpu, .int .i64 rq.mem, .int .i64 rq.pids, .int .i64 0, .int .i64 0, .int .i64 0, .slice none 0 0, .int .i64 0, .int .i64 0] hc1.out (by simp))
        have hk2 := Lib.hid (kept_thru (putCells_kept g [.int .i64 rq.cpu, .int .i64 rq.mem, .int .i64 rq.pids] w4 2) (putCells_kept g [.int .i64 lm.cpu, .int .i64 lm.mem, .int .i64 lm.pids] (putCells' w4 g 2 [.int .i64 rq.cpu, .int .i64 rq.mem, .int .i64 rq.pids]) 5))
        go_wp2_with fail
        go_meet
        exact ⟨rfl, hc2.out, h4.keptSet hk2.out (Ne.symm hgp), w4, kept_thru (keptB (bdrew1 wa) k3) k4, hk2.out⟩
    case rest =>
      obtain ⟨rfl, hblk, hrd, w4, hk1, hk2⟩ := hcut
      have hgp : g ≠ p := by omega
      have hgN : w.heap.size ≠ g := by omega
      have hgN1 : w.heap.size + 1 ≠ g := by omega
      have hK : Kept (· = p) W wc := (kept_thru HKP.out hk1).trans hk2 fun i hi e => by have h2 : i = g := e; omega
      have HK := Lib.hid hK
      have HBLK3 := Lib.hid hblk
      have HRD3 := Lib.hid hrd
      have HQ3 := Lib.hid (kept_block hK HX0.out (by omega))
      have HZ3 := Lib.hid (kept_block hK HX1.out (by omega))
      have hwc3 : W.heap.size ≤ wc.heap.size := hK.size
      have hgl : g < wc.heap.size := (Array.getElem?_eq_some_iff.1 hblk).1
      have b3 : wc.cell? ⟨w.heap.size, 0, none⟩ = some (.pointer (some ⟨p, 0, none⟩)) := cell_at HQ3.out rfl
      clear hblk hrd hk1 hk2 b0 hK
      go_wp2_with fail
      refine (C5.out _ HRD3.out w.heap.size HQ3.out (by omega)).mono ?_
      rintro e w5 ⟨v5, rfl, ho5, h5, k5⟩
      obtain ⟨a5, c5, hv5⟩ := OInts.form ho5
      have HO5 := Lib.hid ho5
      have H5 := Lib.hid h5
      have K5 := Lib.hid (kept_thru HK.out k5)
      have HB5 := Lib.hid (kept_block k5 HBLK3.out hgp)
      have HQ5 := Lib.hid (kept_block k5 HQ3.out (by omega))
      have HZ5 := Lib.hid (kept_block k5 HZ3.out (by omega))
      have hw5 : wc.heap.size ≤ w5.heap.size := k5.size
      clear ho5 h5 k5 b3
      subst hv5
      have d6 : w5.cell? ⟨g, 8, none⟩ = some (.slice none 0 0) := cell_at HB5.out rfl
      have e6 : w5.frozen? ⟨g, 8, none⟩ = false := frozen_at HB5.out
      have HB6 : Hid ((w5.setCell ⟨g, 8, none⟩ (.slice a5 ps.length c5)).heap[g]? = some (.cells #[.string nm, .string im, .int .i64 rq.cpu, .int .i64 rq.mem, .int .i64 rq.pids, .int .i64 lm.cpu, .int .i64 lm.mem, .int .i64 lm.pids, .slice a5 ps.length c5, .int .i64 0, .int .i64 0] 44 (0, 0))) := Lib.hid (setCell_atn _ _ _ _ _ _ HB5.out)
      have k6 : Kept (· = g) w5 (w5.setCell ⟨g, 8, none⟩ (.slice a5 ps.length c5)) := kept_set _ _ _ _
      have HQ6 := Lib.hid (kept_block k6 HQ5.out hgN)
      have HZ6 := Lib.hid (kept_block k6 HZ5.out hgN1)
      have H6 := Lib.hid (H5.out.keptSet k6 (Ne.symm hgp))
      have K6 := Lib.hid (keptN K5.out k6 (by omega))
      have b6 : (w5.setCell ⟨g, 8, none⟩ (.slice a5 ps.length c5)).cell? ⟨w.heap.size, 0, none⟩ = some (.pointer (some ⟨p, 0, none⟩)) := cell_at HQ6.out rfl
      have HO6 := Lib.hid (ORow.kept HO5.out k6 fun i hi e => by have h1 : wc.heap.size ≤ i := hi.1; have h2 : i = g := e; omega)
      clear k6
      go_wp2_with fail
      refine (C6.out _ H6.out).mono ?_
      rintro e w7 ⟨rfl, h7, k7, hk9⟩
      clear hk9
      have H7 := Lib.hid h7
      have K7 := Lib.hid (kept_thru K6.out k7)
      have HB7 := Lib.hid (kept_block k7 HB6.out hgp)
      have HQ7 := Lib.hid (kept_block k7 HQ6.out (by omega))
      have HZ7 := Lib.hid (kept_block k7 HZ6.out (by omega))
      have hw7 := k7.size
      rw [setCell_size] at hw7
      have HO7 := Lib.hid (ORow.kept HO6.out k7 fun i hi e => by have h1 : wc.heap.size ≤ i := hi.1; have h2 : i = p := e; omega)
      clear h7 k7 b6 d6 e6
      have d8 : w7.cell? ⟨g, 9, none⟩ = some (.int .i64 0) := cell_at HB7.out rfl
      have e8 : w7.frozen? ⟨g, 9, none⟩ = false := frozen_at HB7.out
      have HB8 : Hid ((w7.setCell ⟨g, 9, none⟩ (.int .i64 ev)).heap[g]? = some (.cells #[.string nm, .string im, .int .i64 rq.cpu, .int .i64 rq.mem, .int .i64 rq.pids, .int .i64 lm.cpu, .int .i64 lm.mem, .int .i64 lm.pids, .slice a5 ps.length c5, .int .i64 ev, .int .i64 0] 44 (0, 0))) := Lib.hid (setCell_atn _ _ _ _ _ _ HB7.out)
      have k8 : Kept (· = g) w7 (w7.setCell ⟨g, 9, none⟩ (.int .i64 ev)) := kept_set _ _ _ _
      have HQ8 := Lib.hid (kept_block k8 HQ7.out hgN)
      have HZ8 := Lib.hid (kept_block k8 HZ7.out hgN1)
      have H8 := Lib.hid (H7.out.keptSet k8 (Ne.symm hgp))
      have K8 := Lib.hid (keptN K7.out k8 (by omega))
      have b8 : (w7.setCell ⟨g, 9, none⟩ (.int .i64 ev)).cell? ⟨w.heap.size, 0, none⟩ = some (.pointer (some ⟨p, 0, none⟩)) := cell_at HQ8.out rfl
      have HO8 := Lib.hid (ORow.kept HO7.out k8 fun i hi e => by have h1 : wc.heap.size ≤ i := hi.1; have h2 : i = g := e; omega)
      clear k8
      go_wp2_with fail
      refine (C7.out _ H8.out).mono ?_
      rintro e w9 ⟨rfl, h9, k9, hk9⟩
      clear hk9
      have H9 := Lib.hid h9
      have K9 := Lib.hid (kept_thru K8.out k9)
      have HB9 := Lib.hid (kept_block k9 HB8.out hgp)
      have HQ9 := Lib.hid (kept_block k9 HQ8.out (by omega))
      have HZ9 := Lib.hid (kept_block k9 HZ8.out (by omega))
      have hw9 := k9.size
      rw [setCell_size] at hw9
      have HO9 := Lib.hid (ORow.kept HO8.out k9 fun i hi e => by have h1 : wc.heap.size ≤ i := hi.1; have h2 : i = p := e; omega)
      clear h9 k9 b8 d8 e8
      have d10 : w9.cell? ⟨g, 10, none⟩ = some (.int .i64 0) := cell_at HB9.out rfl
      have e10 : w9.frozen? ⟨g, 10, none⟩ = false := frozen_at HB9.out
      have HB10 : Hid ((w9.setCell ⟨g, 10, none⟩ (.int .i64 fl)).heap[g]? = some (.cells #[.string nm, .string im, .int .i64 rq.cpu, .int .i64 rq.mem, .int .i64 rq.pids, .int .i64 lm.cpu, .int .i64 lm.mem, .int .i64 lm.pids, .slice a5 ps.length c5, .int .i64 ev, .int .i64 fl] 44 (0, 0))) := Lib.hid (setCell_atn _ _ _ _ _ _ HB9.out)
      have k10 : Kept (· = g) w9 (w9.setCell ⟨g, 10, none⟩ (.int .i64 fl)) := kept_set _ _ _ _
      have HQ10 := Lib.hid (kept_block k10 HQ9.out hgN)
      have HZ10 := Lib.hid (kept_block k10 HZ9.out hgN1)
      have H10 := Lib.hid (H9.out.keptSet k10 (Ne.symm hgp))
      have K10 := Lib.hid (keptN K9.out k10 (by omega))
      have b10 : (w9.setCell ⟨g, 10, none⟩ (.int .i64 fl)).cell? ⟨w.heap.size, 0, none⟩ = some (.pointer (some ⟨p, 0, none⟩)) := cell_at HQ10.out rfl
      have HO10 := Lib.hid (ORow.kept HO9.out k10 fun i hi e => by have h1 : wc.heap.size ≤ i := hi.1; have h2 : i = g := e; omega)
      clear k10
      have m0 : (w9.setCell ⟨g, 10, none⟩ (.int .i64 fl)).cell? ⟨g, 0, none⟩ = some (.string nm) := cell_at HB10.out rfl
      have m1 : (w9.setCell ⟨g, 10, none⟩ (.int .i64 fl)).cell? ⟨g, 1, none⟩ = some (.string im) := cell_at HB10.out rfl
      have m2 : (w9.setCell ⟨g, 10, none⟩ (.int .i64 fl)).cell? ⟨g, 2, none⟩ = some (.int .i64 rq.cpu) := cell_at HB10.out rfl
      have m3 : (w9.setCell ⟨g, 10, none⟩ (.int .i64 fl)).cell? ⟨g, 3, none⟩ = some (.int .i64 rq.mem) := cell_at HB10.out rfl
      have m4 : (w9.setCell ⟨g, 10, none⟩ (.int .i64 fl)).cell? ⟨g, 4, none⟩ = some (.int .i64 rq.pids) := cell_at HB10.out rfl
      have m5 : (w9.setCell ⟨g, 10, none⟩ (.int .i64 fl)).cell? ⟨g, 5, none⟩ = some (.int .i64 lm.cpu) := cell_at HB10.out rfl
      have m6 : (w9.setCell ⟨g, 10, none⟩ (.int .i64 fl)).cell? ⟨g, 6, none⟩ = some (.int .i64 lm.mem) := cell_at HB10.out rfl
      have m7 : (w9.setCell ⟨g, 10, none⟩ (.int .i64 fl)).cell? ⟨g, 7, none⟩ = some (.int .i64 lm.pids) := cell_at HB10.out rfl
      have m8 : (w9.setCell ⟨g, 10, none⟩ (.int .i64 fl)).cell? ⟨g, 8, none⟩ = some (.slice a5 ps.length c5) := cell_at HB10.out rfl
      have m9 : (w9.setCell ⟨g, 10, none⟩ (.int .i64 fl)).cell? ⟨g, 9, none⟩ = some (.int .i64 ev) := cell_at HB10.out rfl
      have m10 : (w9.setCell ⟨g, 10, none⟩ (.int .i64 fl)).cell? ⟨g, 10, none⟩ = some (.int .i64 fl) := cell_at HB10.out rfl
      have n0 : (w9.setCell ⟨g, 10, none⟩ (.int .i64 fl)).cell? ⟨w.heap.size + 1, 0, none⟩ = some (.string ⟨#[]⟩) := cell_at HZ10.out rfl
      have o0 : (w9.setCell ⟨g, 10, none⟩ (.int .i64 fl)).frozen? ⟨w.heap.size + 1, 0, none⟩ = false := frozen_at HZ10.out
      have n1 : (w9.setCell ⟨g, 10, none⟩ (.int .i64 fl)).cell? ⟨w.heap.size + 1, 1, none⟩ = some (.string ⟨#[]⟩) := cell_at HZ10.out rfl
      have o1 : (w9.setCell ⟨g, 10, none⟩ (.int .i64 fl)).frozen? ⟨w.heap.size + 1, 1, none⟩ = false := frozen_at HZ10.out
      have n2 : (w9.setCell ⟨g, 10, none⟩ (.int .i64 fl)).cell? ⟨w.heap.size + 1, 2, none⟩ = some (.int .i64 0) := cell_at HZ10.out rfl
      have o2 : (w9.setCell ⟨g, 10, none⟩ (.int .i64 fl)).frozen? ⟨w.heap.size + 1, 2, none⟩ = false := frozen_at HZ10.out
      have n3 : (w9.setCell ⟨g, 10, none⟩ (.int .i64 fl)).cell? ⟨w.heap.size + 1, 3, none⟩ = some (.int .i64 0) := cell_at HZ10.out rfl
      have o3 : (w9.setCell ⟨g, 10, none⟩ (.int .i64 fl)).frozen? ⟨w.heap.size + 1, 3, none⟩ = false := frozen_at HZ10.out
      have n4 : (w9.setCell ⟨g, 10, none⟩ (.int .i64 fl)).cell? ⟨w.heap.size + 1, 4, none⟩ = some (.int .i64 0) := cell_at HZ10.out rfl
      have o4 : (w9.setCell ⟨g, 10, none⟩ (.int .i64 fl)).frozen? ⟨w.heap.size + 1, 4, none⟩ = false := frozen_at HZ10.out
      have n5 : (w9.setCell ⟨g, 10, none⟩ (.int .i64 fl)).cell? ⟨w.heap.size + 1, 5, none⟩ = some (.int .i64 0) := cell_at HZ10.out rfl
      have o5 : (w9.setCell ⟨g, 10, none⟩ (.int .i64 fl)).frozen? ⟨w.heap.size + 1, 5, none⟩ = false := frozen_at HZ10.out
      have n6 : (w9.setCell ⟨g, 10, none⟩ (.int .i64 fl)).cell? ⟨w.heap.size + 1, 6, none⟩ = some (.int .i64 0) := cell_at HZ10.out rfl
      have o6 : (w9.setCell ⟨g, 10, none⟩ (.int .i64 fl)).frozen? ⟨w.heap.size + 1, 6, none⟩ = false := frozen_at HZ10.out
      have n7 : (w9.setCell ⟨g, 10, none⟩ (.int .i64 fl)).cell? ⟨w.heap.size + 1, 7, none⟩ = some (.int .i64 0) := cell_at HZ10.out rfl
      have o7 : (w9.setCell ⟨g, 10, none⟩ (.int .i64 fl)).frozen? ⟨w.heap.size + 1, 7, none⟩ = false := frozen_at HZ10.out
      have n8 : (w9.setCell ⟨g, 10, none⟩ (.int .i64 fl)).cell? ⟨w.heap.size + 1, 8, none⟩ = some (.slice none 0 0) := cell_at HZ10.out rfl
      have o8 : (w9.setCell ⟨g, 10, none⟩ (.int .i64 fl)).frozen? ⟨w.heap.size + 1, 8, none⟩ = false := frozen_at HZ10.out
      have n9 : (w9.setCell ⟨g, 10, none⟩ (.int .i64 fl)).cell? ⟨w.heap.size + 1, 9, none⟩ = some (.int .i64 0) := cell_at HZ10.out rfl
      have o9 : (w9.setCell ⟨g, 10, none⟩ (.int .i64 fl)).frozen? ⟨w.heap.size + 1, 9, none⟩ = false := frozen_at HZ10.out
      have n10 : (w9.setCell ⟨g, 10, none⟩ (.int .i64 fl)).cell? ⟨w.heap.size + 1, 10, none⟩ = some (.int .i64 0) := cell_at HZ10.out rfl
      have o10 : (w9.setCell ⟨g, 10, none⟩ (.int .i64 fl)).frozen? ⟨w.heap.size + 1, 10, none⟩ = false := frozen_at HZ10.out
      have HR := Lib.hid (put11 (vs := [.string nm, .string im, .int .i64 rq.cpu, .int .i64 rq.mem, .int .i64 rq.pids, .int .i64 lm.cpu, .int .i64 lm.mem, .int .i64 lm.pids, .slice a5 ps.length c5, .int .i64 ev, .int .i64 fl]) (cur := [.string ⟨#[]⟩, .string ⟨#[]⟩, .int .i64 0, .int .i64 0, .int .i64 0, .int .i64 0, .int .i64 0, .int .i64 0, .slice none 0 0, .int .i64 0, .int .i64 0]) HZ10.out rfl)
      have HRK := Lib.hid (putCells_kept (w.heap.size + 1) [.string nm, .string im, .int .i64 rq.cpu, .int .i64 rq.mem, .int .i64 rq.pids, .int .i64 lm.cpu, .int .i64 lm.mem, .int .i64 lm.pids, .slice a5 ps.length c5, .int .i64 ev, .int .i64 fl] (w9.setCell ⟨g, 10, none⟩ (.int .i64 fl)) 0)
      go_wp2
      refine bodyPost_ret (results_cell_row rfl _ _ (w.heap.size + 1) 44 _ (0, 0) _ rfl HR.out Tryz.underlying44 rfl (by kernel_rfl)) rfl ?_
      rw [HE.out]
      have hsz := HRK.out.size
      rw [setCell_size] at hsz
      have hO := ORow.kept HO10.out HRK.out fun i hi e => by have h1 : wc.heap.size ≤ i := hi.1; have h2 : i = w.heap.size + 1 := e; omega
      exact ⟨_, rfl, ORow.mono hO fun i hi => ⟨by have h1 : wc.heap.size ≤ i := hi.1; omega, Nat.lt_of_lt_of_le hi.2 (Nat.le_trans (by omega) hsz)⟩, H10.out.keptSet HRK.out (by omega), keptN (keptB HB0.out K10.out) HRK.out (by omega)⟩
end Go.Proofs.YtgelbkgkjkeccaaGreatDoor
