/- Package pack's Raw$1, TakeLabels$1, takeAll of labels: plain functions contP, labP, takeAllP 4 labP. Package pack's takeAll of labels and of containers, TakeLabels: plain functions takeAllP 4 labP, takeAllP m contP. Package pack's Raw: the plain function specP. -/
import Derived.Test.YtgelbkgkjkeccaaGreatDoorNk
namespace Go.Proofs.YtgelbkgkjkeccaaGreatDoor
open Go.RowKit

theorem contP_len (r : RS) : (contP r).1.l.length ≤ r.l.length := by
  unfold contP contW bindP pureP
  exact Nat.le_trans (numP_len _ _) (Nat.le_trans (numP_len _ _) (Nat.le_trans (takeAllP_len (numP_len 65535) 3 _) (Nat.le_trans (resP_len _) (Nat.le_trans (resP_len _) (Nat.le_trans (textP_len _ _) (textP_len _ _))))))
theorem labP_len (r : RS) : (labP r).1.l.length ≤ r.l.length := by
  unfold labP bindP pureP
  exact Nat.le_trans (textP_len _ _) (textP_len _ _)
set_option maxHeartbeats 4000000 in
set_option maxRecDepth 100000 in
theorem rawOne_any (p q : Nat) (w : World) (r : RS) (h : RdAt p w r) (hq : w.heap[q]? = some (.cells #[.pointer (some ⟨p, 0, none⟩)] 65 (0, 0))) (_hqp : q ≠ p) (hl : r.l.length ≤ 1000000) : Calls Tryz.prog 156 #[.pointer (some ⟨q, 0, none⟩)] w (TakeCPost p w (contP r)) := by
  have hp := h.lt
  have hql : q < w.heap.size := (Array.getElem?_eq_some_iff.1 hq).1
  have HN := Lib.hid (takeContainer_any p · r · hl)
  have HH := Lib.hid h
  have HQ := Lib.hid hq
  obtain ⟨r', hr'⟩ : ∃ x, x = (contP r).1 := ⟨_, rfl⟩
  obtain ⟨c, hc⟩ : ∃ x, x = (contP r).2 := ⟨_, rfl⟩
  have HE : Hid (contP r = (r', c)) := Lib.hid (by rw [hr', hc])
  rw [HE.out] at HN ⊢
  clear h hq hr' hc
  go_enter Tryz.func156, Tryz.ntmps156
  go_upto_region 1 with fail
  obtain ⟨W, hW⟩ : ∃ W, W = (w.alloc (.cells #[.string ⟨#[]⟩, .string ⟨#[]⟩, .int .i64 0, .int .i64 0, .int .i64 0, .int .i64 0, .int .i64 0, .int .i64 0, .slice none 0 0, .int .i64 0, .int .i64 0] 44)) := ⟨_, rfl⟩
  have HB0 : Hid (Below w.heap.size w W) := Lib.hid (by rw [hW]; exact bnew _ _)
  have HX0 : Hid (W.heap[w.heap.size]? = some (.cells #[.string ⟨#[]⟩, .string ⟨#[]⟩, .int .i64 0, .int .i64 0, .int .i64 0, .int .i64 0, .int .i64 0, .int .i64 0, .slice none 0 0, .int .i64 0, .int .i64 0] 44 (0, 0))) := Lib.hid (by rw [hW]; exact heap_alloc_new _ _)
  have H0 := Lib.hid (HH.out.keptBelow HB0.out)
  have HS0 : Hid (W.heap.size = w.heap.size + 1) := Lib.hid (by rw [hW]; simp)
  have a0 : W.cell? ⟨q, 0, none⟩ = some (.pointer (some ⟨p, 0, none⟩)) := keepc HB0.out (cell_at HQ.out rfl)
  rw [← hW]
  clear hW
  go_wp2_with fail
  refine (HN.out W H0.out).mono ?_
  rintro e w1 ⟨v, rfl, ho, h1, k1⟩
  have HO := Lib.hid ho
  have H1 := Lib.hid h1
  have K1 := Lib.hid k1
  have HZ := Lib.hid (kept_block k1 HX0.out (by omega))
  obtain ⟨pa, pc, hf⟩ := ho.form
  subst hf
  clear ho h1 k1

  have nc0 : w1.cell? ⟨w.heap.size, 0, none⟩ = some (.string ⟨#[]⟩) := cell_at HZ.out rfl
  have nf0 : w1.frozen? ⟨w.heap.size, 0, none⟩ = false := frozen_at HZ.out
  have nc1 : w1.cell? ⟨w.heap.size, 1, none⟩ = some (.string ⟨#[]⟩) := cell_at HZ.out rfl
  have nf1 : w1.frozen? ⟨w.heap.size, 1, none⟩ = false := frozen_at HZ.out
  have nc2 : w1.cell? ⟨w.heap.size, 2, none⟩ = some (.int .i64 0) := cell_at HZ.out rfl
  have nf2 : w1.frozen? ⟨w.heap.size, 2, none⟩ = false := frozen_at HZ.out
  have nc3 : w1.cell? ⟨w.heap.size, 3, none⟩ = some (.int .i64 0) := cell_at HZ.out rfl
  have nf3 : w1.frozen? ⟨w.heap.size, 3, none⟩ = false := frozen_at HZ.out
  have nc4 : w1.cell? ⟨w.heap.size, 4, none⟩ = some (.int .i64 0) := cell_at HZ.out rfl
  have nf4 : w1.frozen? ⟨w.heap.size, 4, none⟩ = false := frozen_at HZ.out
  have nc5 : w1.cell? ⟨w.heap.size, 5, none⟩ = some (.int .i64 0) := cell_at HZ.out rfl
  have nf5 : w1.frozen? ⟨w.heap.size, 5, none⟩ = false := frozen_at HZ.out
  have nc6 : w1.cell? ⟨w.heap.size, 6, none⟩ = some (.int .i64 0) := cell_at HZ.out rfl
  have nf6 : w1.frozen? ⟨w.heap.size, 6, none⟩ = false := frozen_at HZ.out
  have nc7 : w1.cell? ⟨w.heap.size, 7, none⟩ = some (.int .i64 0) := cell_at HZ.out rfl
  have nf7 : w1.frozen? ⟨w.heap.size, 7, none⟩ = false := frozen_at HZ.out
  have nc8 : w1.cell? ⟨w.heap.size, 8, none⟩ = some (.slice none 0 0) := cell_at HZ.out rfl
  have nf8 : w1.frozen? ⟨w.heap.size, 8, none⟩ = false := frozen_at HZ.out
  have nc9 : w1.cell? ⟨w.heap.size, 9, none⟩ = some (.int .i64 0) := cell_at HZ.out rfl
  have nf9 : w1.frozen? ⟨w.heap.size, 9, none⟩ = false := frozen_at HZ.out
  have nc10 : w1.cell? ⟨w.heap.size, 10, none⟩ = some (.int .i64 0) := cell_at HZ.out rfl
  have nf10 : w1.frozen? ⟨w.heap.size, 10, none⟩ = false := frozen_at HZ.out
  have HR := Lib.hid (put11 (vs := [.string c.name, .string c.image, .int .i64 c.req.cpu, .int .i64 c.req.mem, .int .i64 c.req.pids, .int .i64 c.lim.cpu, .int .i64 c.lim.mem, .int .i64 c.lim.pids, .slice pa c.ports.length pc, .int .i64 c.every, .int .i64 c.fails]) (cur := [.string ⟨#[]⟩, .string ⟨#[]⟩, .int .i64 0, .int .i64 0, .int .i64 0, .int .i64 0, .int .i64 0, .int .i64 0, .slice none 0 0, .int .i64 0, .int .i64 0]) HZ.out rfl)
  have HRK := Lib.hid (putCells_kept w.heap.size [.string c.name, .string c.image, .int .i64 c.req.cpu, .int .i64 c.req.mem, .int .i64 c.req.pids, .int .i64 c.lim.cpu, .int .i64 c.lim.mem, .int .i64 c.lim.pids, .slice pa c.ports.length pc, .int .i64 c.every, .int .i64 c.fails] w1 0)
  go_wp2
  refine bodyPost_ret (results_cell_row rfl _ _ w.heap.size 44 _ (0, 0) _ rfl HR.out Tryz.underlying44 rfl (by kernel_rfl)) rfl ?_
  have hsz := HRK.out.size
  have hO := ORow.kept HO.out HRK.out fun i hi e => by have h1 : W.heap.size ≤ i := hi.1; have h2 : i = w.heap.size := e; have := HS0.out; omega
  exact ⟨_, rfl, ORow.mono hO fun i hi => ⟨by have h1 : W.heap.size ≤ i := hi.1; have := HS0.out; omega, Nat.lt_of_lt_of_le hi.2 hsz⟩, H1.out.keptSet HRK.out (by omega), keptN (keptB HB0.out K1.out) HRK.out (Nat.le_refl _)⟩


set_option maxHeartbeats 4000000 in
set_option maxRecDepth 100000 in
theorem takeLabel_any (p q : Nat) (w : World) (r : RS) (h : RdAt p w r) (hq : w.heap[q]? = some (.cells #[.pointer (some ⟨p, 0, none⟩)] 65 (0, 0))) (hqp : q ≠ p) (hl : r.l.length ≤ 1000000) : Calls Tryz.prog 152 #[.pointer (some ⟨q, 0, none⟩)] w (RdPostM p w (labP r).1 (.agg #[.string (labP r).2.key, .string (labP r).2.val])) := by
  have hp := h.lt
  have hql : q < w.heap.size := (Array.getElem?_eq_some_iff.1 hq).1
  have HH := Lib.hid h
  have HQ := Lib.hid hq
  obtain ⟨r1, hr1⟩ : ∃ x, x = (textP 33 r).1 := ⟨_, rfl⟩
  obtain ⟨ky, hky⟩ : ∃ x, x = (textP 33 r).2 := ⟨_, rfl⟩
  obtain ⟨r2, hr2⟩ : ∃ x, x = (textP 16 r1).1 := ⟨_, rfl⟩
  obtain ⟨vl, hvl⟩ : ∃ x, x = (textP 16 r1).2 := ⟨_, rfl⟩
  have HE : Hid (labP r = (r2, ⟨ky, vl⟩)) := Lib.hid (by subst hr1 hky hr2 hvl; rfl)
  have l1 : r1.l.length ≤ 1000000 := by rw [hr1]; exact Nat.le_trans (textP_len 33 r) hl
  have C1 : Hid (∀ w, RdAt p w r → Calls Tryz.prog 153 #[.pointer (some ⟨p, 0, none⟩), .int .i64 33] w (RdPost p w r1 (.string ky))) := Lib.hid fun w h => by rw [hr1, hky]; exact rtext_any p w r 33 (by omega) h hl
  have C2 : Hid (∀ w, RdAt p w r1 → Calls Tryz.prog 153 #[.pointer (some ⟨p, 0, none⟩), .int .i64 16] w (RdPost p w r2 (.string vl))) := Lib.hid fun w h => by rw [hr2, hvl]; exact rtext_any p w r1 16 (by omega) h l1
  rw [HE.out]
  clear hr1 hky hr2 hvl l1 h hq hl HE
  go_enter Tryz.func152, Tryz.ntmps152
  go_upto_region 1 with fail
  obtain ⟨W, hW⟩ : ∃ W, W = (w.alloc (.cells #[.string ⟨#[]⟩, .string ⟨#[]⟩] 159)) := ⟨_, rfl⟩
  have HB0 : Hid (Below w.heap.size w W) := Lib.hid (by rw [hW]; exact bnew _ _)
  have HX0 : Hid (W.heap[w.heap.size]? = some (.cells #[.string ⟨#[]⟩, .string ⟨#[]⟩] 159 (0, 0))) := Lib.hid (by rw [hW]; exact heap_alloc_new _ _)
  have H0 := Lib.hid (HH.out.keptBelow HB0.out)
  have a0 : W.cell? ⟨q, 0, none⟩ = some (.pointer (some ⟨p, 0, none⟩)) := keepc HB0.out (cell_at HQ.out rfl)
  have a0d : W.drew.cell? ⟨q, 0, none⟩ = some (.pointer (some ⟨p, 0, none⟩)) := a0
  have HX0d : Hid (W.drew.heap[w.heap.size]? = some (.cells #[.string ⟨#[]⟩, .string ⟨#[]⟩] 159 (0, 0))) := HX0
  have HB0d : Hid (Below w.heap.size w W.drew) := Lib.hid (bto HB0.out (bdrew1 _))
  have hgp : w.heap.size ≠ p := by omega
  rw [← hW]
  clear hW
  have KEEP : Hid (∀ X X' : World, Kept (· = p) X X' → X.cell? ⟨q, 0, none⟩ = some (.pointer (some ⟨p, 0, none⟩)) → X'.cell? ⟨q, 0, none⟩ = some (.pointer (some ⟨p, 0, none⟩))) := fun X X' k h => k.cell (by omega) h
  have hqg : q ≠ w.heap.size := by omega
  have A1 : ∀ (X : World) (i j : Nat) (v : Value), (X.setCell ⟨w.heap.size, i, none⟩ v).cell? ⟨q, j, none⟩ = X.cell? ⟨q, j, none⟩ := fun X i j v => setc_cell_ne X _ i _ j v hqg
  go_region_held3 (fun w' => w'.cell? ⟨q, 0, none⟩ = some (.pointer (some ⟨p, 0, none⟩)))
    (first | with_reducible assumption | (simp only [A1]; exact s2) | with_reducible exact keepc (bdrew1 _) a0)
    (first
      | (go_at_call_of 153 (Value.int .i64 33); refine (C1.out W.drew (H0.out.keptBelow (bdrew1 _))).mono ?_; rintro e w1 ⟨rfl, h1, k1⟩; have s1 := KEEP.out _ _ k1.1 a0d; have zb1 := Lib.hid (kept_block k1.1 HX0d.out hgp))
      | (go_at_call_of 153 (Value.int .i64 16); refine (C2.out _ h1).mono ?_; rintro e w2 ⟨rfl, h2, k2⟩; have s2 := KEEP.out _ _ k2.1 s1; have zb2 := kept_block k2.1 zb1.out hgp; have z0 := cell_at (i := 0) (x := .string ⟨#[]⟩) zb2 rfl; have zf0 := frozen_at (i := 0) zb2; have z1 := cell_at (i := 1) (x := .string ⟨#[]⟩) zb2 rfl; have zf1 := frozen_at (i := 1) zb2; have ZB2 := Lib.hid zb2; clear zb2))
  all_goals
    have hz := Lib.hid (putCells_block w.heap.size 159 [.string ky, .string vl] w2 0 [.string ⟨#[]⟩, .string ⟨#[]⟩] ZB2.out (by simp))
    have hk := Lib.hid (putCells_kept w.heap.size [.string ky, .string vl] w2 0)
    go_wp2
    refine bodyPost_ret (results_cell_row rfl _ _ w.heap.size 159 _ (0, 0) _ rfl hz.out Tryz.underlying159 rfl (by kernel_rfl)) rfl ?_
    exact ⟨rfl, h2.keptSet hk.out (by omega), keptN (kept_thru (keptB HB0d.out k1.1) k2.1) hk.out (Nat.le_refl _)⟩

end Go.Proofs.YtgelbkgkjkeccaaGreatDoor
namespace Go.Proofs.YtgelbkgkjkeccaaGreatDoor
open Go.RowKit

theorem labsCells_snoc (acc : List LabelD) (x : LabelD) : labsCells (acc ++ [x]) = labsCells acc ++ [.string x.key, .string x.val] := by simp [labsCells, labCells]
theorem ctrsCells_snoc (acc : List CtrD) (qs : List Value) (x : CtrD) (q : Value) (h : qs.length = acc.length) : ctrsCells (acc ++ [x]) (qs ++ [q]) = ctrsCells acc qs ++ ctrL (x, q) := by
  unfold ctrsCells
  rw [List.zip_append h.symm, List.flatMap_append]
  simp
/-- Port rows live in blocks of ints: the growing row of containers never is one. -/
theorem OInts.grown {I : Nat → Prop} {w w' : World} {q v : Value} {l : List Int} {B n : Nat} {xs : List Value} (h : OInts I w q l) (ho : w.ownsRow B 44 11 v n xs) (hg : w.grownBy w' v.ownBlock) : OInts I w' q l := by
  refine ⟨h.1, h.2.imp_right ?_⟩
  rintro ⟨g, cp, cr, hv, hI, hh, r⟩
  refine ⟨g, cp, cr, hv, hI, (hg.block g (Array.getElem?_eq_some_iff.1 hh).1 fun e => ?_).trans hh, r⟩
  rcases ho.2 with ⟨rfl, _⟩ | ⟨g', cap, cur, rfl, hb, hh', _⟩
  · cases e
  · have : g = g' := by simpa [Value.ownBlock] using e
    subst this
    rw [hh'] at hh
    injection hh with hh
    injection hh with _ ht
    exact absurd ht (by decide)
def PortsIn (w wr : World) (acc : List CtrD) (qs : List Value) : Prop := qs.length = acc.length ∧ ∀ (j : Nat) (q : Value) (c : CtrD), qs[j]? = some q → acc[j]? = some c → OInts (Ran w.heap.size wr.heap.size) wr q c.ports
theorem PortsIn.nil (w wr : World) : PortsIn w wr [] [] := ⟨rfl, fun j q c h => by simp at h⟩
theorem PortsIn.kept {p : Nat} {w wr w' : World} {acc : List CtrD} {qs : List Value} (h : PortsIn w wr acc qs) (hk : Kept (· = p) wr w') (hp : p < w.heap.size) : PortsIn w w' acc qs :=
  ⟨h.1, fun j q c h1 h2 => ORow.mono (ORow.kept (h.2 j q c h1 h2) hk fun i hi e => by have h3 := hi.1; have h4 : i = p := e; omega) fun _ hi => ⟨hi.1, Nat.lt_of_lt_of_le hi.2 hk.size⟩⟩
theorem PortsIn.below {w wr w' : World} {acc : List CtrD} {qs : List Value} (h : PortsIn w wr acc qs) (hk : Below wr.heap.size wr w') : PortsIn w w' acc qs :=
  ⟨h.1, fun j q c h1 h2 => ORow.mono (ORow.below (h.2 j q c h1 h2) hk) fun _ hi => ⟨hi.1, Nat.lt_of_lt_of_le hi.2 hk.size⟩⟩
theorem PortsIn.grown {w wr w' : World} {acc : List CtrD} {qs : List Value} {v : Value} {B n : Nat} {xs : List Value} (h : PortsIn w wr acc qs) (ho : wr.ownsRow B 44 11 v n xs) (hg : wr.grownBy w' v.ownBlock) : PortsIn w w' acc qs :=
  ⟨h.1, fun j q c h1 h2 => ORow.mono (OInts.grown (h.2 j q c h1 h2) ho hg) fun _ hi => ⟨hi.1, Nat.lt_of_lt_of_le hi.2 hg.size⟩⟩
theorem PortsIn.snoc {w wr : World} {acc : List CtrD} {qs : List Value} {q : Value} {c : CtrD} (h : PortsIn w wr acc qs) (hq : OInts (Ran w.heap.size wr.heap.size) wr q c.ports) : PortsIn w wr (acc ++ [c]) (qs ++ [q]) := by
  refine ⟨by simp [h.1], fun j q' c' h1 h2 => ?_⟩
  rcases Nat.lt_or_ge j acc.length with hlt | hge
  · rw [List.getElem?_append_left (by rw [h.1]; exact hlt)] at h1
    rw [List.getElem?_append_left hlt] at h2
    exact h.2 j q' c' h1 h2
  · rw [List.getElem?_append_right (by rw [h.1]; exact hge)] at h1
    rw [List.getElem?_append_right hge] at h2
    have hj : j - acc.length = 0 := by
      rcases Nat.lt_or_ge (j - acc.length) 1 with h3 | h3
      · omega
      · rw [List.getElem?_eq_none (by simpa using h3)] at h2; cases h2
    rw [h.1, hj] at h1
    rw [hj] at h2
    injection h1 with h1
    injection h2 with h2
    subst h1 h2
    exact hq

set_option maxHeartbeats 8000000 in
set_option maxRecDepth 100000 in
theorem takeLabs_any (p q : Nat) (w : World) (r : RS) (m : Nat) (hm : m ≤ 1000) (h : RdAt p w r) (hq : w.heap[q]? = some (.cells #[.pointer (some ⟨p, 0, none⟩)] 65 (0, 0))) (hqp : q ≠ p) (hl : r.l.length ≤ 1000000) :
    Calls Tryz.prog 151 #[.pointer (some ⟨p, 0, none⟩), .int .i64 m, .func (.func 152) #[] #[.pointer (some ⟨q, 0, none⟩)]] w (TakePost p w (fun w' v l => OLabs (Ran w.heap.size w'.heap.size) w' v l) (takeAllP m labP r)) := by
  obtain ⟨i0, hi0, hz0, hz1, hz2⟩ := info_parts info159
  have hp := h.lt
  have hql : q < w.heap.size := (Array.getElem?_eq_some_iff.1 hq).1
  have hin := numP_in m r
  have hlen := numP_len m r
  have herr := numP_err (m := m) (s := r)
  have HN := Lib.hid (rnum_any p w r m (by omega) h hl)
  obtain ⟨n, hn⟩ : ∃ n : Nat, (n : Int) = (numP m r).2 := ⟨(numP m r).2.toNat, by omega⟩
  obtain ⟨r1, hr1⟩ : ∃ r1, r1 = (numP m r).1 := ⟨_, rfl⟩
  have HE : Hid (takeAllP m labP r = listP labP n r1) := Lib.hid (by rw [takeAllP_eq, ← hn, ← hr1]; rfl)
  rw [← hn, ← hr1] at HN
  rw [← hn] at hin
  rw [← hr1] at hlen
  rw [← hn, ← hr1] at herr
  have HERR := Lib.hid herr
  have hr1l : r1.l.length ≤ 1000000 := Nat.le_trans hlen hl
  have HQ := Lib.hid hq
  have hnm : n ≤ m := by omega
  clear hn hr1 h hq hin herr hlen
  go_enter Tryz.func151, Tryz.ntmps151
  go_wp2_with fail
  refine HN.out.mono ?_
  rintro e w1 ⟨rfl, h1, k1, hk9⟩
  clear hk9
  have H1 := Lib.hid h1
  have K1 := Lib.hid k1
  clear h1 k1
  go_wp2_with fail
  go_loopw [7, 11] (fun v i wr => ∃ (k : Nat) (acc : List LabelD) (s : RS), k ≤ n ∧ i = .int .i64 k ∧ acc.length = k ∧ wr.ownsRow w.heap.size 159 2 v k (labsCells acc) ∧ RdAt p wr s ∧ Kept (· = p) w wr ∧ s.l.length ≤ 1000000 ∧ (s.c = 0 ∨ acc = []) ∧ (k < n → s.c = 0) ∧ listP labP n r1 = glueL acc (listP labP (n - k) s)) (fun _ i _ => n - (intOf i).toNat)
  case atStart => exact ⟨0, [], r1, Nat.zero_le _, rfl, rfl, ⟨rfl, .inl ⟨rfl, rfl⟩⟩, H1.out, K1.out, hr1l, .inr rfl, (fun hk => Decidable.byContradiction fun hc => by have := HERR.out hc; omega), (glue_start n r1).symm⟩
  case round =>
    obtain ⟨k, acc, s, hk, rfl, hal, hown, hrd, hkp, hsl, hsc, hsc2, hgl⟩ := hrel
    have HAL := Lib.hid hal
    have HOWN := Lib.hid hown
    skip
    have HRD := Lib.hid hrd
    have HKP := Lib.hid hkp
    have HSC := Lib.hid hsc
    have HSC2 := Lib.hid hsc2
    have HGL := Lib.hid hgl
    have hB : w.heap.size ≤ wr.heap.size := hkp.size
    clear hal hown hrd hkp hsc hsc2 hgl
    by_cases hlt : k < n
    · obtain ⟨j, hj⟩ : ∃ j, n - k = j + 1 := ⟨n - k - 1, by omega⟩
      have HJ := Lib.hid hj
      have hj2 : n - (k + 1) = j := by omega
      have HJ2 := Lib.hid hj2
      clear hj hj2
      have HCL := Lib.hid (takeLabel_any p q wr s HRD.out (kept_block HKP.out HQ.out hqp) hqp hsl)
      have hsl2 := Nat.le_trans (labP_len s) hsl
      obtain ⟨s', hs'⟩ : ∃ s', s' = (labP s).1 := ⟨_, rfl⟩
      obtain ⟨x, hx⟩ : ∃ x, x = (labP s).2 := ⟨_, rfl⟩
      rw [← hs', ← hx] at HCL
      rw [← hs'] at hsl2
      have HS' := Lib.hid hs'
      have HX := Lib.hid hx
      clear hs' hx
      go_wp2_with fail
      refine HCL.out.mono ?_
      rintro e w3 ⟨rfl, h3, k3⟩
      skip
      skip
      skip
      skip
      have HO3 := Lib.hid (owns_kept HOWN.out k3 (by omega))
      skip
      have H3 := Lib.hid h3
      have K3 := Lib.hid (kept_thru HKP.out k3)
      have hB3 : w.heap.size ≤ w3.heap.size := K3.out.size
      have hc1 := h3.c1
      have hp3 := h3.lt
      clear h3 k3
      go_wp2_with (at_builtin; refine wpList_append_own _ rfl _ _ 22 rfl w.heap.size 159 i0 _ 2 32 Tryz.underlying22 hi0 hz0 hz1 hz2 rfl (by decide) _ k (labsCells acc) rfl (HO3.out.alloc _) ⟨w3.heap.size, 0, none⟩ 1 1 [.string x.key, .string x.val] rfl rfl ?c1 ?c2 ?c3 ?c4 ?c5 ?_)
      case c1 => intro j u hj; rw [Addr.add_lit, Nat.zero_add]; exact new_cells _ [.string x.key, .string x.val] _ j u hj
      case c2 => simp [Value.oneCell']
      case c3 => unfold maxLen; omega
      case c4 => omega
      case c5 => simp; omega
      intro v' w4 hown4 hgrow _
      have HO4 := Lib.hid hown4
      have K4 : Hid (Kept (· = p) w w4) := Lib.hid (keptG (K3.out.trans (Kept.of_below (M := (· = p)) (bnew w3 _)) fun _ _ h => h) hgrow (HO3.out.alloc _) (Nat.le_refl _))
      skip
      have H4 : Hid (RdAt p w4 s') := Lib.hid ((hgrow.block p (by simp; omega) (fun e => by
        rcases HO3.out.2 with ⟨hv, _⟩ | ⟨g, cap, cur, hv, hb, _⟩
        · rw [hv] at e; cases e
        · rw [hv] at e
          have : p = g := by simpa [Value.ownBlock] using e
          omega)).trans (H3.out.keptBelow (bnew w3 _)))
      clear hown4 hgrow hc1
      by_cases hc : s'.c = 0
      · have hcn : (s'.c != 0) = false := by simp [hc]
        have HNX : Hid (listP labP n r1 = glueL (acc ++ [x]) (listP labP (n - (k + 1)) s')) := Lib.hid (by rw [HGL.out, HJ.out, HJ2.out, HX.out, HS'.out]; exact glue_ok (by rw [← HS'.out]; exact hc))
        have HC := Lib.hid hc
        clear hc
        go_wp2_with (go_at_call 55; refine (rcode_any p w4 s' H4.out).mono ?_; rintro e w5 ⟨rfl, rfl⟩)
        refine ⟨⟨k + 1, acc ++ [x], s', hlt, by go_num, by rw [List.length_append, HAL.out]; rfl, by rw [labsCells_snoc]; exact HO4.out, H4.out, K4.out, hsl2, .inl HC.out, fun _ => HC.out, HNX.out⟩, by simp [intOf]; omega⟩
      · have hcn : (s'.c != 0) = true := by simp [hc]
        have HNX : Hid (listP labP n r1 = (s', [])) := Lib.hid (by rw [HGL.out, HJ.out, HS'.out]; exact glue_bad (by rw [← HS'.out]; exact hc))
        clear hc
        go_wp2_with (go_at_call 55; refine (rcode_any p w4 s' H4.out).mono ?_; rintro e w5 ⟨rfl, rfl⟩)
        go_ret
        refine ⟨_, rfl, ?_, ?_, K4.out⟩
        · rw [HE.out, HNX.out]; exact ⟨rfl, .inl ⟨rfl, rfl⟩⟩
        · rw [HE.out, HNX.out]; exact H4.out
    · have hkn : k = n := by omega
      have HNX : Hid (listP labP n r1 = (s, acc)) := Lib.hid (by rw [HGL.out, hkn, Nat.sub_self]; exact glue_end HSC.out)
      obtain ⟨a', c', hf⟩ := own_slice HOWN.out
      clear hkn
      go_wp2
      go_ret
      refine ⟨_, rfl, ?_, ?_, HKP.out⟩
      · rw [HE.out, HNX.out]
        have := ORow.of_own HOWN.out
        rw [← HAL.out] at this
        exact this
      · rw [HE.out, HNX.out]; exact HRD.out

set_option maxHeartbeats 8000000 in
set_option maxRecDepth 100000 in
theorem takeCtrs_any (p q : Nat) (w : World) (r : RS) (m : Nat) (hm : m ≤ 1000) (h : RdAt p w r) (hq : w.heap[q]? = some (.cells #[.pointer (some ⟨p, 0, none⟩)] 65 (0, 0))) (hqp : q ≠ p) (hl : r.l.length ≤ 1000000) :
    Calls Tryz.prog 158 #[.pointer (some ⟨p, 0, none⟩), .int .i64 m, .func (.func 156) #[] #[.pointer (some ⟨q, 0, none⟩)]] w (TakePost p w (fun w' v l => OCtrs (Ran w.heap.size w'.heap.size) w' v l) (takeAllP m contP r)) := by
  obtain ⟨i0, hi0, hz0, hz1, hz2⟩ := info_parts info44
  have hp := h.lt
  have hql : q < w.heap.size := (Array.getElem?_eq_some_iff.1 hq).1
  have hin := numP_in m r
  have hlen := numP_len m r
  have herr := numP_err (m := m) (s := r)
  have HN := Lib.hid (rnum_any p w r m (by omega) h hl)
  obtain ⟨n, hn⟩ : ∃ n : Nat, (n : Int) = (numP m r).2 := ⟨(numP m r).2.toNat, by omega⟩
  obtain ⟨r1, hr1⟩ : ∃ r1, r1 = (numP m r).1 := ⟨_, rfl⟩
  have HE : Hid (takeAllP m contP r = listP contP n r1) := Lib.hid (by rw [takeAllP_eq, ← hn, ← hr1]; rfl)
  rw [← hn, ← hr1] at HN
  rw [← hn] at hin
  rw [← hr1] at hlen
  rw [← hn, ← hr1] at herr
  have HERR := Lib.hid herr
  have hr1l : r1.l.length ≤ 1000000 := Nat.le_trans hlen hl
  have HQ := Lib.hid hq
  have hnm : n ≤ m := by omega
  clear hn hr1 h hq hin herr hlen
  go_enter Tryz.func158, Tryz.ntmps158
  go_wp2_with fail
  refine HN.out.mono ?_
  rintro e w1 ⟨rfl, h1, k1, hk9⟩
  clear hk9
  have H1 := Lib.hid h1
  have K1 := Lib.hid k1
  clear h1 k1
  go_wp2_with fail
  go_loopw [7, 11] (fun v i wr => ∃ (k : Nat) (acc : List CtrD) (qs : List Value) (s : RS), k ≤ n ∧ i = .int .i64 k ∧ acc.length = k ∧ wr.ownsRow w.heap.size 44 11 v k (ctrsCells acc qs) ∧ PortsIn w wr acc qs ∧ RdAt p wr s ∧ Kept (· = p) w wr ∧ s.l.length ≤ 1000000 ∧ (s.c = 0 ∨ acc = []) ∧ (k < n → s.c = 0) ∧ listP contP n r1 = glueL acc (listP contP (n - k) s)) (fun _ i _ => n - (intOf i).toNat)
  case atStart => exact ⟨0, [], [], r1, Nat.zero_le _, rfl, rfl, ⟨rfl, .inl ⟨rfl, rfl⟩⟩, PortsIn.nil _ _, H1.out, K1.out, hr1l, .inr rfl, (fun hk => Decidable.byContradiction fun hc => by have := HERR.out hc; omega), (glue_start n r1).symm⟩
  case round =>
    obtain ⟨k, acc, qs, s, hk, rfl, hal, hown, hpi, hrd, hkp, hsl, hsc, hsc2, hgl⟩ := hrel
    have HAL := Lib.hid hal
    have HOWN := Lib.hid hown
    have HPI := Lib.hid hpi
    have HRD := Lib.hid hrd
    have HKP := Lib.hid hkp
    have HSC := Lib.hid hsc
    have HSC2 := Lib.hid hsc2
    have HGL := Lib.hid hgl
    have hB : w.heap.size ≤ wr.heap.size := hkp.size
    clear hal hown hpi hrd hkp hsc hsc2 hgl
    by_cases hlt : k < n
    · obtain ⟨j, hj⟩ : ∃ j, n - k = j + 1 := ⟨n - k - 1, by omega⟩
      have HJ := Lib.hid hj
      have hj2 : n - (k + 1) = j := by omega
      have HJ2 := Lib.hid hj2
      clear hj hj2
      have HCL := Lib.hid (rawOne_any p q wr s HRD.out (kept_block HKP.out HQ.out hqp) hqp hsl)
      have hsl2 := Nat.le_trans (contP_len s) hsl
      obtain ⟨s', hs'⟩ : ∃ s', s' = (contP s).1 := ⟨_, rfl⟩
      obtain ⟨x, hx⟩ : ∃ x, x = (contP s).2 := ⟨_, rfl⟩
      rw [show contP s = (s', x) by rw [hs', hx]] at HCL
      rw [← hs'] at hsl2
      have HS' := Lib.hid hs'
      have HX := Lib.hid hx
      clear hs' hx
      go_wp2_with fail
      refine HCL.out.mono ?_
      rintro e w3 ⟨vp, rfl, hvp, h3, k3⟩
      obtain ⟨pa, pc, hvf⟩ := hvp.form
      subst hvf
      have HVP := Lib.hid (show OInts (Ran w.heap.size w3.heap.size) w3 _ _ from ORow.mono hvp fun i hi => ⟨Nat.le_trans hB hi.1, hi.2⟩)
      clear hvp
      have HO3 := Lib.hid (owns_kept HOWN.out k3 (by omega))
      have HP3 := Lib.hid ((HPI.out.kept k3 hp).snoc HVP.out)
      have H3 := Lib.hid h3
      have K3 := Lib.hid (kept_thru HKP.out k3)
      have hB3 : w.heap.size ≤ w3.heap.size := K3.out.size
      have hc1 := h3.c1
      have hp3 := h3.lt
      clear h3 k3
      go_wp2_with (at_builtin; refine wpList_append_own _ rfl _ _ 23 rfl w.heap.size 44 i0 _ 11 120 Tryz.underlying23 hi0 hz0 hz1 hz2 rfl (by decide) _ k (ctrsCells acc qs) rfl (HO3.out.alloc _) ⟨w3.heap.size, 0, none⟩ 1 1 [.string x.name, .string x.image, .int .i64 x.req.cpu, .int .i64 x.req.mem, .int .i64 x.req.pids, .int .i64 x.lim.cpu, .int .i64 x.lim.mem, .int .i64 x.lim.pids, .slice pa x.ports.length pc, .int .i64 x.every, .int .i64 x.fails] rfl rfl ?c1 ?c2 ?c3 ?c4 ?c5 ?_)
      case c1 => intro j u hj; rw [Addr.add_lit, Nat.zero_add]; exact new_cells _ [.string x.name, .string x.image, .int .i64 x.req.cpu, .int .i64 x.req.mem, .int .i64 x.req.pids, .int .i64 x.lim.cpu, .int .i64 x.lim.mem, .int .i64 x.lim.pids, .slice pa x.ports.length pc, .int .i64 x.every, .int .i64 x.fails] _ j u hj
      case c2 => simp [Value.oneCell']
      case c3 => unfold maxLen; omega
      case c4 => omega
      case c5 => simp; omega
      intro v' w4 hown4 hgrow _
      have HO4 := Lib.hid hown4
      have K4 : Hid (Kept (· = p) w w4) := Lib.hid (keptG (K3.out.trans (Kept.of_below (M := (· = p)) (bnew w3 _)) fun _ _ h => h) hgrow (HO3.out.alloc _) (Nat.le_refl _))
      have HP4 := Lib.hid ((HP3.out.below (bnew w3 _)).grown (HO3.out.alloc _) hgrow)
      have H4 : Hid (RdAt p w4 s') := Lib.hid ((hgrow.block p (by simp; omega) (fun e => by
        rcases HO3.out.2 with ⟨hv, _⟩ | ⟨g, cap, cur, hv, hb, _⟩
        · rw [hv] at e; cases e
        · rw [hv] at e
          have : p = g := by simpa [Value.ownBlock] using e
          omega)).trans (H3.out.keptBelow (bnew w3 _)))
      clear hown4 hgrow hc1
      by_cases hc : s'.c = 0
      · have hcn : (s'.c != 0) = false := by simp [hc]
        have HNX : Hid (listP contP n r1 = glueL (acc ++ [x]) (listP contP (n - (k + 1)) s')) := Lib.hid (by rw [HGL.out, HJ.out, HJ2.out, HX.out, HS'.out]; exact glue_ok (by rw [← HS'.out]; exact hc))
        have HC := Lib.hid hc
        clear hc
        go_wp2_with (go_at_call 55; refine (rcode_any p w4 s' H4.out).mono ?_; rintro e w5 ⟨rfl, rfl⟩)
        refine ⟨⟨k + 1, acc ++ [x], qs ++ [.slice pa x.ports.length pc], s', hlt, by go_num, by rw [List.length_append, HAL.out]; rfl, by rw [ctrsCells_snoc _ _ _ _ HPI.out.1]; exact HO4.out, HP4.out, H4.out, K4.out, hsl2, .inl HC.out, fun _ => HC.out, HNX.out⟩, by simp [intOf]; omega⟩
      · have hcn : (s'.c != 0) = true := by simp [hc]
        have HNX : Hid (listP contP n r1 = (s', [])) := Lib.hid (by rw [HGL.out, HJ.out, HS'.out]; exact glue_bad (by rw [← HS'.out]; exact hc))
        clear hc
        go_wp2_with (go_at_call 55; refine (rcode_any p w4 s' H4.out).mono ?_; rintro e w5 ⟨rfl, rfl⟩)
        go_ret
        refine ⟨_, rfl, ?_, ?_, K4.out⟩
        · rw [HE.out, HNX.out]; exact ⟨[], rfl, ⟨rfl, .inl ⟨rfl, rfl⟩⟩, fun j q c h => by simp at h⟩
        · rw [HE.out, HNX.out]; exact H4.out
    · have hkn : k = n := by omega
      have HNX : Hid (listP contP n r1 = (s, acc)) := Lib.hid (by rw [HGL.out, hkn, Nat.sub_self]; exact glue_end HSC.out)
      obtain ⟨a', c', hf⟩ := own_slice HOWN.out
      clear hkn
      go_wp2
      go_ret
      refine ⟨_, rfl, ?_, ?_, HKP.out⟩
      · rw [HE.out, HNX.out]
        have := ORow.of_own HOWN.out
        rw [← HAL.out] at this
        exact ⟨qs, HPI.out.1, this, HPI.out.2⟩
      · rw [HE.out, HNX.out]; exact HRD.out

set_option maxHeartbeats 2000000 in
theorem TakeLabels_any (p : Nat) (w : World) (r : RS) (h : RdAt p w r) (hl : r.l.length ≤ 1000000) : Calls Tryz.prog 51 #[.pointer (some ⟨p, 0, none⟩)] w (TakePost p w (fun w' v l => OLabs (Ran w.heap.size w'.heap.size) w' v l) (labsP r)) := by
  have hmf : ∀ (fn : Fn) (first cap : Array Value) (w : World), (Instr.makeFunc fn first cap).run Tryz.prog w = .ok (.func fn first cap) w := fun _ _ _ _ => rfl
  have hp := h.lt
  have HH := Lib.hid h
  clear h
  go_enter Tryz.func51, Tryz.ntmps51
  go_upto_region 1 with fail
  obtain ⟨W, hW⟩ : ∃ W, W = (w.alloc (.cells #[.pointer (some ⟨p, 0, none⟩)] 65)) := ⟨_, rfl⟩
  have HB0 : Hid (Below w.heap.size w W) := Lib.hid (by rw [hW]; exact bnew _ _)
  have HX0 : Hid (W.heap[w.heap.size]? = some (.cells #[.pointer (some ⟨p, 0, none⟩)] 65 (0, 0))) := Lib.hid (by rw [hW]; exact heap_alloc_new _ _)
  have H0 := Lib.hid (HH.out.keptBelow HB0.out)
  have a0 : W.cell? ⟨w.heap.size, 0, none⟩ = some (.pointer (some ⟨p, 0, none⟩)) := cell_at HX0.out rfl
  rw [← hW]
  clear hW
  go_wp2_with fail
  refine (takeLabs_any p w.heap.size W r 4 (by omega) H0.out HX0.out (by omega) hl).mono ?_
  rintro e w1 ⟨v, rfl, ho, h1, k1⟩
  have HO := Lib.hid ho
  have H1 := Lib.hid h1
  have K1 := Lib.hid k1
  clear ho h1 k1
  go_wp2
  go_ret
  exact ⟨_, rfl, ORow.mono HO.out fun i hi => ⟨Nat.le_trans HB0.out.size hi.1, hi.2⟩, H1.out, keptB HB0.out K1.out⟩
end Go.Proofs.YtgelbkgkjkeccaaGreatDoor
namespace Go.Proofs.YtgelbkgkjkeccaaGreatDoor
open Go.RowKit

theorem labsP_len (r : RS) : (labsP r).1.l.length ≤ r.l.length := takeAllP_len labP_len 4 r
theorem ctrsP_len (m : Nat) (r : RS) : (takeAllP m contP r).1.l.length ≤ r.l.length := takeAllP_len contP_len m r
def TakeSPost (p : Nat) (w : World) (q : RS × SpecD) (e : Ending) (w' : World) : Prop := ∃ lv iv mv, e = .returned (specV q.2 lv iv mv) ∧ OSpec (Ran w.heap.size w'.heap.size) w' q.2 lv iv mv ∧ RdAt p w' q.1 ∧ Kept (· = p) w w'
theorem OLabs_step {g : Nat} {M : Nat → Prop} {w1 w2 : World} {v : Value} {l : List LabelD} (h : OLabs (Ran (g + 1) w1.heap.size) w1 v l) (hk : Kept M w1 w2) (hM : ∀ i, g + 1 ≤ i → ¬ M i) : OLabs (Ran (g + 1) w2.heap.size) w2 v l :=
  ORow.mono (ORow.kept h hk fun i hi => hM i hi.1) fun _ hi => ⟨hi.1, Nat.lt_of_lt_of_le hi.2 hk.size⟩
theorem OCtrs_step {g : Nat} {M : Nat → Prop} {w1 w2 : World} {v : Value} {l : List CtrD} (h : OCtrs (Ran (g + 1) w1.heap.size) w1 v l) (hk : Kept M w1 w2) (hM : ∀ i, g + 1 ≤ i → ¬ M i) : OCtrs (Ran (g + 1) w2.heap.size) w2 v l :=
  (h.kept hk fun i hi => hM i hi.1).mono fun _ hi => ⟨hi.1, Nat.lt_of_lt_of_le hi.2 hk.size⟩
theorem OLabs.mono {I J : Nat → Prop} {w : World} {v : Value} {l : List LabelD} (h : OLabs I w v l) (hI : ∀ k, I k → J k) : OLabs J w v l := ORow.mono h hI
theorem boxK {p g : Nat} {w w' : World} {o : Obj} (k : Kept (· = p) w w') (h : w.heap[g]? = some o) (hne : g ≠ p) : w'.heap[g]? = some o := kept_block k h hne
set_option maxHeartbeats 8000000 in
set_option maxRecDepth 100000 in
theorem Raw_any (p : Nat) (w : World) (r : RS) (h : RdAt p w r) (hl : r.l.length ≤ 1000000) : Calls Tryz.prog 57 #[.pointer (some ⟨p, 0, none⟩)] w (TakeSPost p w (specP r)) := by
  have hmf : ∀ (fn : Fn) (first cap : Array Value) (w : World), (Instr.makeFunc fn first cap).run Tryz.prog w = .ok (.func fn first cap) w := fun _ _ _ _ => rfl
  have hp := h.lt
  have HH := Lib.hid h
  obtain ⟨r1, hr1⟩ : ∃ x, x = (textP 16 r).1 := ⟨_, rfl⟩
  obtain ⟨nm, hnm⟩ : ∃ x, x = (textP 16 r).2 := ⟨_, rfl⟩
  obtain ⟨r2, hr2⟩ : ∃ x, x = (labsP r1).1 := ⟨_, rfl⟩
  obtain ⟨ls, hls⟩ : ∃ x, x = (labsP r1).2 := ⟨_, rfl⟩
  obtain ⟨r3, hr3⟩ : ∃ x, x = (takeAllP 3 contP r2).1 := ⟨_, rfl⟩
  obtain ⟨is, his⟩ : ∃ x, x = (takeAllP 3 contP r2).2 := ⟨_, rfl⟩
  obtain ⟨r4, hr4⟩ : ∃ x, x = (takeAllP 4 contP r3).1 := ⟨_, rfl⟩
  obtain ⟨ms, hms⟩ : ∃ x, x = (takeAllP 4 contP r3).2 := ⟨_, rfl⟩
  obtain ⟨r5, hr5⟩ : ∃ x, x = (numP 3 r4).1 := ⟨_, rfl⟩
  obtain ⟨rs, hrs⟩ : ∃ x, x = (numP 3 r4).2 := ⟨_, rfl⟩
  obtain ⟨r6, hr6⟩ : ∃ x, x = (numP 1000 r5).1 := ⟨_, rfl⟩
  obtain ⟨gr, hgr⟩ : ∃ x, x = (numP 1000 r5).2 := ⟨_, rfl⟩
  obtain ⟨r7, hr7⟩ : ∃ x, x = (numP 10 r6).1 := ⟨_, rfl⟩
  obtain ⟨pr, hpr⟩ : ∃ x, x = (numP 10 r6).2 := ⟨_, rfl⟩
  have HE : Hid (specP r = (r7, ⟨nm, ls, is, ms, rs, gr, pr⟩)) := Lib.hid (by subst hr1 hnm hr2 hls hr3 his hr4 hms hr5 hrs hr6 hgr hr7 hpr; rfl)
  have l1 : r1.l.length ≤ 1000000 := by rw [hr1]; exact Nat.le_trans (textP_len 16 r) hl
  have l2 : r2.l.length ≤ 1000000 := by rw [hr2]; exact Nat.le_trans (labsP_len r1) l1
  have l3 : r3.l.length ≤ 1000000 := by rw [hr3]; exact Nat.le_trans (ctrsP_len 3 r2) l2
  have l4 : r4.l.length ≤ 1000000 := by rw [hr4]; exact Nat.le_trans (ctrsP_len 4 r3) l3
  have l5 : r5.l.length ≤ 1000000 := by rw [hr5]; exact Nat.le_trans (numP_len 3 r4) l4
  have l6 : r6.l.length ≤ 1000000 := by rw [hr6]; exact Nat.le_trans (numP_len 1000 r5) l5
  have C1 : Hid (∀ w, RdAt p w r → Calls Tryz.prog 153 #[.pointer (some ⟨p, 0, none⟩), .int .i64 16] w (RdPost p w r1 (.string nm))) := Lib.hid fun w h => by rw [hr1, hnm]; exact rtext_any p w r 16 (by omega) h hl
  have C2 : Hid (∀ w, RdAt p w r1 → Calls Tryz.prog 51 #[.pointer (some ⟨p, 0, none⟩)] w (TakePost p w (fun w' v l => OLabs (Ran w.heap.size w'.heap.size) w' v l) (r2, ls))) := Lib.hid fun w h => by
    have := TakeLabels_any p w r1 h l1
    rw [show labsP r1 = (r2, ls) by rw [hr2, hls]] at this
    exact this
  have C3 : Hid (∀ w, RdAt p w r2 → ∀ q, w.heap[q]? = some (.cells #[.pointer (some ⟨p, 0, none⟩)] 65 (0, 0)) → q ≠ p → Calls Tryz.prog 158 #[.pointer (some ⟨p, 0, none⟩), .int .i64 3, .func (.func 156) #[] #[.pointer (some ⟨q, 0, none⟩)]] w (TakePost p w (fun w' v l => OCtrs (Ran w.heap.size w'.heap.size) w' v l) (r3, is))) := Lib.hid fun w h q hq hqp => by
    have := takeCtrs_any p q w r2 3 (by omega) h hq hqp l2
    rw [show takeAllP 3 contP r2 = (r3, is) by rw [hr3, his]] at this
    exact this
  have C4 : Hid (∀ w, RdAt p w r3 → ∀ q, w.heap[q]? = some (.cells #[.pointer (some ⟨p, 0, none⟩)] 65 (0, 0)) → q ≠ p → Calls Tryz.prog 158 #[.pointer (some ⟨p, 0, none⟩), .int .i64 4, .func (.func 156) #[] #[.pointer (some ⟨q, 0, none⟩)]] w (TakePost p w (fun w' v l => OCtrs (Ran w.heap.size w'.heap.size) w' v l) (r4, ms))) := Lib.hid fun w h q hq hqp => by
    have := takeCtrs_any p q w r3 4 (by omega) h hq hqp l3
    rw [show takeAllP 4 contP r3 = (r4, ms) by rw [hr4, hms]] at this
    exact this
  have C5 : Hid (∀ w, RdAt p w r4 → Calls Tryz.prog 159 #[.pointer (some ⟨p, 0, none⟩), .int .i64 3] w (RdPost p w r5 (.int .i64 rs))) := Lib.hid fun w h => by rw [hr5, hrs]; exact rnum_any p w r4 3 (by omega) h l4
  have C6 : Hid (∀ w, RdAt p w r5 → Calls Tryz.prog 159 #[.pointer (some ⟨p, 0, none⟩), .int .i64 1000] w (RdPost p w r6 (.int .i64 gr))) := Lib.hid fun w h => by rw [hr6, hgr]; exact rnum_any p w r5 1000 (by omega) h l5
  have C7 : Hid (∀ w, RdAt p w r6 → Calls Tryz.prog 159 #[.pointer (some ⟨p, 0, none⟩), .int .i64 10] w (RdPost p w r7 (.int .i64 pr))) := Lib.hid fun w h => by rw [hr7, hpr]; exact rnum_any p w r6 10 (by omega) h l6
  clear hr1 hnm hr2 hls hr3 his hr4 hms hr5 hrs hr6 hgr hr7 hpr l1 l2 l3 l4 l5 l6 h hl
  rw [HE.out]
  clear HE
  go_enter Tryz.func57, Tryz.ntmps57
  go_upto_region 1 with fail
  obtain ⟨W, hW⟩ : ∃ W, W = ((w.alloc (.cells #[.pointer (some ⟨p, 0, none⟩)] 65)).alloc (.cells #[.string ⟨#[]⟩, .slice none 0 0, .slice none 0 0, .slice none 0 0, .int .i64 0, .int .i64 0, .int .i64 0] 25)) := ⟨_, rfl⟩
  have HB0 : Hid (Below w.heap.size w W) := Lib.hid (by rw [hW]; exact bto (bnew _ _) (bnew _ _))
  have HS0 : Hid (W.heap.size = w.heap.size + 2) := Lib.hid (by rw [hW]; simp)
  have HX0 : Hid (W.heap[w.heap.size]? = some (.cells #[.pointer (some ⟨p, 0, none⟩)] 65 (0, 0))) := Lib.hid (by rw [hW, Below.heap_alloc _ _ _ (by simp)]; exact heap_alloc_new _ _)
  have HX1 : Hid (W.heap[w.heap.size + 1]? = some (.cells #[.string ⟨#[]⟩, .slice none 0 0, .slice none 0 0, .slice none 0 0, .int .i64 0, .int .i64 0, .int .i64 0] 25 (0, 0))) := Lib.hid (by rw [hW]; exact heap_alloc_is _ _ _ (by simp))
  rw [← hW]
  clear hW
  have hWs : w.heap.size + 2 ≤ W.heap.size := by have := HS0.out; omega
  have H0 := Lib.hid (HH.out.keptBelow HB0.out)
  have a0 : W.cell? ⟨w.heap.size, 0, none⟩ = some (.pointer (some ⟨p, 0, none⟩)) := cell_at HX0.out rfl
  go_wp2_with fail
  refine (C1.out W H0.out).mono ?_
  rintro e w1 ⟨rfl, h1, k1⟩
  have H1 := Lib.hid h1
  have K1 := Lib.hid k1.1
  have hs1 : W.heap.size ≤ w1.heap.size := k1.1.size
  clear h1 k1 a0
  go_upto_region 2 with fail

  obtain ⟨g, hg⟩ : ∃ g, g = w1.heap.size := ⟨_, rfl⟩
  obtain ⟨X1, hX⟩ : ∃ X, X = w1.alloc (.cells #[.string nm, .slice none 0 0, .slice none 0 0, .slice none 0 0, .int .i64 0, .int .i64 0, .int .i64 0] 25) := ⟨_, rfl⟩
  have hgp : g ≠ p := by omega
  have hg0 : w.heap.size + 2 ≤ g := by omega
  have hWg : W.heap.size ≤ g := by omega
  have hgX1 : g + 1 ≤ X1.heap.size := by rw [hX, hg]; simp
  have HG1 : Hid (X1.heap[g]? = some (.cells #[.string nm, .slice none 0 0, .slice none 0 0, .slice none 0 0, .int .i64 0, .int .i64 0, .int .i64 0] 25 (0, 0))) := Lib.hid (by rw [hX, hg]; exact heap_alloc_new _ _)
  have HR1 : Hid (RdAt p X1 r1) := Lib.hid (by rw [hX]; exact H1.out.keptBelow (bnew _ _))
  have KX1 : Hid (Kept (· = p) W X1) := Lib.hid (by rw [hX]; exact keptA K1.out (bnew _ _))
  rw [← hX, ← hg]
  clear hX hg K1 H1 H0
  have HQ1 := Lib.hid (kept_block KX1.out HX0.out (by omega))

  have a2 : X1.cell? ⟨w.heap.size, 0, none⟩ = some (.pointer (some ⟨p, 0, none⟩)) := cell_at HQ1.out rfl
  have f0 := HR1.out.lt
  go_wp2_with fail
  refine (C2.out X1 HR1.out).mono ?_
  rintro e w2 ⟨v2, rfl, ho, h2, k2⟩
  obtain ⟨p2, c2, hf⟩ := ho.form
  subst hf
  have HGW := Lib.hid (kept_block k2 HG1.out hgp)
  have gc : w2.cell? ⟨g, 1, none⟩ = some (.slice none 0 0) := cell_at HGW.out rfl
  have gf : w2.frozen? ⟨g, 1, none⟩ = false := frozen_at HGW.out
  have HRW := Lib.hid h2
  have HKW := Lib.hid k2
  have HOW := Lib.hid ho
  clear h2 k2 a2 ho
  go_upto_region 3 with fail
  obtain ⟨X2, hX⟩ : ∃ X, X = w2.setCell ⟨g, 1, none⟩ (.slice p2 ls.length c2) := ⟨_, rfl⟩
  have HKS : Hid (Kept (· = g) w2 X2) := Lib.hid (by rw [hX]; exact kept_set _ _ _ _)
  have HG2 : Hid (X2.heap[g]? = some (.cells #[.string nm, .slice p2 ls.length c2, .slice none 0 0, .slice none 0 0, .int .i64 0, .int .i64 0, .int .i64 0] 25 (0, 0))) := Lib.hid (by rw [hX]; exact setCell_atn _ _ _ _ _ _ HGW.out)
  have HR2 := Lib.hid (HRW.out.keptSet HKS.out (Ne.symm hgp))
  have KX2 := Lib.hid (keptN (kept_thru KX1.out HKW.out) HKS.out hWg)
  have HQ2 := Lib.hid (kept_block KX2.out HX0.out (by omega))
  have hgX2 : g + 1 ≤ X2.heap.size := Nat.le_trans hgX1 (Nat.le_trans HKW.out.size HKS.out.size)
  have Ols := Lib.hid (OLabs_step (OLabs.mono HOW.out fun i hi => (⟨Nat.le_trans hgX1 hi.1, hi.2⟩ : Ran (g + 1) w2.heap.size i)) HKS.out (fun i hi e => by have h2 : i = g := e; omega))
  clear HOW
  rw [← hX]
  clear hX HKS HGW HRW HKW HG1 HR1 KX1 HQ1 gc gf
  have a3 : X2.cell? ⟨w.heap.size, 0, none⟩ = some (.pointer (some ⟨p, 0, none⟩)) := cell_at HQ2.out rfl
  have f0 := HR2.out.lt
  go_wp2_with fail
  refine (C3.out X2 HR2.out w.heap.size HQ2.out (by omega)).mono ?_
  rintro e w3 ⟨v3, rfl, ho, h3, k3⟩
  obtain ⟨p3, c3, hf⟩ := ho.form
  subst hf
  have HGW := Lib.hid (kept_block k3 HG2.out hgp)
  have gc : w3.cell? ⟨g, 2, none⟩ = some (.slice none 0 0) := cell_at HGW.out rfl
  have gf : w3.frozen? ⟨g, 2, none⟩ = false := frozen_at HGW.out
  have HRW := Lib.hid h3
  have HKW := Lib.hid k3
  have HOW := Lib.hid ho
  clear h3 k3 a3 ho
  go_upto_region 5 with fail
  obtain ⟨X3, hX⟩ : ∃ X, X = w3.setCell ⟨g, 2, none⟩ (.slice p3 is.length c3) := ⟨_, rfl⟩
  have HKS : Hid (Kept (· = g) w3 X3) := Lib.hid (by rw [hX]; exact kept_set _ _ _ _)
  have HG3 : Hid (X3.heap[g]? = some (.cells #[.string nm, .slice p2 ls.length c2, .slice p3 is.length c3, .slice none 0 0, .int .i64 0, .int .i64 0, .int .i64 0] 25 (0, 0))) := Lib.hid (by rw [hX]; exact setCell_atn _ _ _ _ _ _ HGW.out)
  have HR3 := Lib.hid (HRW.out.keptSet HKS.out (Ne.symm hgp))
  have KX3 := Lib.hid (keptN (kept_thru KX2.out HKW.out) HKS.out hWg)
  have HQ3 := Lib.hid (kept_block KX3.out HX0.out (by omega))
  have hgX3 : g + 1 ≤ X3.heap.size := Nat.le_trans hgX2 (Nat.le_trans HKW.out.size HKS.out.size)
  have Olsb := Lib.hid (OLabs_step ((OLabs_step Ols.out HKW.out (fun i hi e => by have h2 : i = p := e; omega))) HKS.out (fun i hi e => by have h2 : i = g := e; omega))
  clear Ols
  have Ols := Olsb
  clear Olsb
  have Ois := Lib.hid (OCtrs_step (OCtrs.mono HOW.out fun i hi => (⟨Nat.le_trans hgX2 hi.1, hi.2⟩ : Ran (g + 1) w3.heap.size i)) HKS.out (fun i hi e => by have h2 : i = g := e; omega))
  clear HOW
  rw [← hX]
  clear hX HKS HGW HRW HKW HG2 HR2 KX2 HQ2 gc gf
  have a4 : X3.cell? ⟨w.heap.size, 0, none⟩ = some (.pointer (some ⟨p, 0, none⟩)) := cell_at HQ3.out rfl
  have f0 := HR3.out.lt
  go_wp2_with fail
  refine (C4.out X3 HR3.out w.heap.size HQ3.out (by omega)).mono ?_
  rintro e w4 ⟨v4, rfl, ho, h4, k4⟩
  obtain ⟨p4, c4, hf⟩ := ho.form
  subst hf
  have HGW := Lib.hid (kept_block k4 HG3.out hgp)
  have gc : w4.cell? ⟨g, 3, none⟩ = some (.slice none 0 0) := cell_at HGW.out rfl
  have gf : w4.frozen? ⟨g, 3, none⟩ = false := frozen_at HGW.out
  have HRW := Lib.hid h4
  have HKW := Lib.hid k4
  have HOW := Lib.hid ho
  clear h4 k4 a4 ho
  go_upto_region 6 with fail
  obtain ⟨X4, hX⟩ : ∃ X, X = w4.setCell ⟨g, 3, none⟩ (.slice p4 ms.length c4) := ⟨_, rfl⟩
  have HKS : Hid (Kept (· = g) w4 X4) := Lib.hid (by rw [hX]; exact kept_set _ _ _ _)
  have HG4 : Hid (X4.heap[g]? = some (.cells #[.string nm, .slice p2 ls.length c2, .slice p3 is.length c3, .slice p4 ms.length c4, .int .i64 0, .int .i64 0, .int .i64 0] 25 (0, 0))) := Lib.hid (by rw [hX]; exact setCell_atn _ _ _ _ _ _ HGW.out)
  have HR4 := Lib.hid (HRW.out.keptSet HKS.out (Ne.symm hgp))
  have KX4 := Lib.hid (keptN (kept_thru KX3.out HKW.out) HKS.out hWg)
  have HQ4 := Lib.hid (kept_block KX4.out HX0.out (by omega))
  have hgX4 : g + 1 ≤ X4.heap.size := Nat.le_trans hgX3 (Nat.le_trans HKW.out.size HKS.out.size)
  have Olsb := Lib.hid (OLabs_step ((OLabs_step Ols.out HKW.out (fun i hi e => by have h2 : i = p := e; omega))) HKS.out (fun i hi e => by have h2 : i = g := e; omega))
  clear Ols
  have Ols := Olsb
  clear Olsb
  have Oisb := Lib.hid (OCtrs_step ((OCtrs_step Ois.out HKW.out (fun i hi e => by have h2 : i = p := e; omega))) HKS.out (fun i hi e => by have h2 : i = g := e; omega))
  clear Ois
  have Ois := Oisb
  clear Oisb
  have Oms := Lib.hid (OCtrs_step (OCtrs.mono HOW.out fun i hi => (⟨Nat.le_trans hgX3 hi.1, hi.2⟩ : Ran (g + 1) w4.heap.size i)) HKS.out (fun i hi e => by have h2 : i = g := e; omega))
  clear HOW
  rw [← hX]
  clear hX HKS HGW HRW HKW HG3 HR3 KX3 HQ3 gc gf
  have a5 : X4.cell? ⟨w.heap.size, 0, none⟩ = some (.pointer (some ⟨p, 0, none⟩)) := cell_at HQ4.out rfl
  have f0 := HR4.out.lt
  go_wp2_with fail
  refine (C5.out X4 HR4.out).mono ?_
  rintro e w5 ⟨rfl, h5, k5⟩
  replace k5 := k5.1
  have HGW := Lib.hid (kept_block k5 HG4.out hgp)
  have gc : w5.cell? ⟨g, 4, none⟩ = some (.int .i64 0) := cell_at HGW.out rfl
  have gf : w5.frozen? ⟨g, 4, none⟩ = false := frozen_at HGW.out
  have HRW := Lib.hid h5
  have HKW := Lib.hid k5
  clear h5 k5 a5
  go_upto_region 7 with fail
  obtain ⟨X5, hX⟩ : ∃ X, X = w5.setCell ⟨g, 4, none⟩ (.int .i64 rs) := ⟨_, rfl⟩
  have HKS : Hid (Kept (· = g) w5 X5) := Lib.hid (by rw [hX]; exact kept_set _ _ _ _)
  have HG5 : Hid (X5.heap[g]? = some (.cells #[.string nm, .slice p2 ls.length c2, .slice p3 is.length c3, .slice p4 ms.length c4, .int .i64 rs, .int .i64 0, .int .i64 0] 25 (0, 0))) := Lib.hid (by rw [hX]; exact setCell_atn _ _ _ _ _ _ HGW.out)
  have HR5 := Lib.hid (HRW.out.keptSet HKS.out (Ne.symm hgp))
  have KX5 := Lib.hid (keptN (kept_thru KX4.out HKW.out) HKS.out hWg)
  have HQ5 := Lib.hid (kept_block KX5.out HX0.out (by omega))
  have hgX5 : g + 1 ≤ X5.heap.size := Nat.le_trans hgX4 (Nat.le_trans HKW.out.size HKS.out.size)
  have Olsb := Lib.hid (OLabs_step ((OLabs_step Ols.out HKW.out (fun i hi e => by have h2 : i = p := e; omega))) HKS.out (fun i hi e => by have h2 : i = g := e; omega))
  clear Ols
  have Ols := Olsb
  clear Olsb
  have Oisb := Lib.hid (OCtrs_step ((OCtrs_step Ois.out HKW.out (fun i hi e => by have h2 : i = p := e; omega))) HKS.out (fun i hi e => by have h2 : i = g := e; omega))
  clear Ois
  have Ois := Oisb
  clear Oisb
  have Omsb := Lib.hid (OCtrs_step ((OCtrs_step Oms.out HKW.out (fun i hi e => by have h2 : i = p := e; omega))) HKS.out (fun i hi e => by have h2 : i = g := e; omega))
  clear Oms
  have Oms := Omsb
  clear Omsb
  rw [← hX]
  clear hX HKS HGW HRW HKW HG4 HR4 KX4 HQ4 gc gf
  have a6 : X5.cell? ⟨w.heap.size, 0, none⟩ = some (.pointer (some ⟨p, 0, none⟩)) := cell_at HQ5.out rfl
  have f0 := HR5.out.lt
  go_wp2_with fail
  refine (C6.out X5 HR5.out).mono ?_
  rintro e w6 ⟨rfl, h6, k6⟩
  replace k6 := k6.1
  have HGW := Lib.hid (kept_block k6 HG5.out hgp)
  have gc : w6.cell? ⟨g, 5, none⟩ = some (.int .i64 0) := cell_at HGW.out rfl
  have gf : w6.frozen? ⟨g, 5, none⟩ = false := frozen_at HGW.out
  have HRW := Lib.hid h6
  have HKW := Lib.hid k6
  clear h6 k6 a6
  go_upto_region 8 with fail
  obtain ⟨X6, hX⟩ : ∃ X, X = w6.setCell ⟨g, 5, none⟩ (.int .i64 gr) := ⟨_, rfl⟩
  have HKS : Hid (Kept (· = g) w6 X6) := Lib.hid (by rw [hX]; exact kept_set _ _ _ _)
  have HG6 : Hid (X6.heap[g]? = some (.cells #[.string nm, .slice p2 ls.length c2, .slice p3 is.length c3, .slice p4 ms.length c4, .int .i64 rs, .int .i64 gr, .int .i64 0] 25 (0, 0))) := Lib.hid (by rw [hX]; exact setCell_atn _ _ _ _ _ _ HGW.out)
  have HR6 := Lib.hid (HRW.out.keptSet HKS.out (Ne.symm hgp))
  have KX6 := Lib.hid (keptN (kept_thru KX5.out HKW.out) HKS.out hWg)
  have HQ6 := Lib.hid (kept_block KX6.out HX0.out (by omega))
  have hgX6 : g + 1 ≤ X6.heap.size := Nat.le_trans hgX5 (Nat.le_trans HKW.out.size HKS.out.size)
  have Olsb := Lib.hid (OLabs_step ((OLabs_step Ols.out HKW.out (fun i hi e => by have h2 : i = p := e; omega))) HKS.out (fun i hi e => by have h2 : i = g := e; omega))
  clear Ols
  have Ols := Olsb
  clear Olsb
  have Oisb := Lib.hid (OCtrs_step ((OCtrs_step Ois.out HKW.out (fun i hi e => by have h2 : i = p := e; omega))) HKS.out (fun i hi e => by have h2 : i = g := e; omega))
  clear Ois
  have Ois := Oisb
  clear Oisb
  have Omsb := Lib.hid (OCtrs_step ((OCtrs_step Oms.out HKW.out (fun i hi e => by have h2 : i = p := e; omega))) HKS.out (fun i hi e => by have h2 : i = g := e; omega))
  clear Oms
  have Oms := Omsb
  clear Omsb
  rw [← hX]
  clear hX HKS HGW HRW HKW HG5 HR5 KX5 HQ5 gc gf
  have a7 : X6.cell? ⟨w.heap.size, 0, none⟩ = some (.pointer (some ⟨p, 0, none⟩)) := cell_at HQ6.out rfl
  have f0 := HR6.out.lt
  go_wp2_with fail
  refine (C7.out X6 HR6.out).mono ?_
  rintro e w7 ⟨rfl, h7, k7⟩
  replace k7 := k7.1
  have HGW := Lib.hid (kept_block k7 HG6.out hgp)
  have gc : w7.cell? ⟨g, 6, none⟩ = some (.int .i64 0) := cell_at HGW.out rfl
  have gf : w7.frozen? ⟨g, 6, none⟩ = false := frozen_at HGW.out
  have HRW := Lib.hid h7
  have HKW := Lib.hid k7
  clear h7 k7 a7
  go_upto_region 9 with fail
  obtain ⟨X7, hX⟩ : ∃ X, X = w7.setCell ⟨g, 6, none⟩ (.int .i64 pr) := ⟨_, rfl⟩
  have HKS : Hid (Kept (· = g) w7 X7) := Lib.hid (by rw [hX]; exact kept_set _ _ _ _)
  have HG7 : Hid (X7.heap[g]? = some (.cells #[.string nm, .slice p2 ls.length c2, .slice p3 is.length c3, .slice p4 ms.length c4, .int .i64 rs, .int .i64 gr, .int .i64 pr] 25 (0, 0))) := Lib.hid (by rw [hX]; exact setCell_atn _ _ _ _ _ _ HGW.out)
  have HR7 := Lib.hid (HRW.out.keptSet HKS.out (Ne.symm hgp))
  have KX7 := Lib.hid (keptN (kept_thru KX6.out HKW.out) HKS.out hWg)
  have HQ7 := Lib.hid (kept_block KX7.out HX0.out (by omega))
  have hgX7 : g + 1 ≤ X7.heap.size := Nat.le_trans hgX6 (Nat.le_trans HKW.out.size HKS.out.size)
  have Olsb := Lib.hid (OLabs_step ((OLabs_step Ols.out HKW.out (fun i hi e => by have h2 : i = p := e; omega))) HKS.out (fun i hi e => by have h2 : i = g := e; omega))
  clear Ols
  have Ols := Olsb
  clear Olsb
  have Oisb := Lib.hid (OCtrs_step ((OCtrs_step Ois.out HKW.out (fun i hi e => by have h2 : i = p := e; omega))) HKS.out (fun i hi e => by have h2 : i = g := e; omega))
  clear Ois
  have Ois := Oisb
  clear Oisb
  have Omsb := Lib.hid (OCtrs_step ((OCtrs_step Oms.out HKW.out (fun i hi e => by have h2 : i = p := e; omega))) HKS.out (fun i hi e => by have h2 : i = g := e; omega))
  clear Oms
  have Oms := Omsb
  clear Omsb
  rw [← hX]
  clear hX HKS HGW HRW HKW HG6 HR6 KX6 HQ6 gc gf
  have HN := Lib.hid (kept_block KX7.out HX1.out (by omega))
  have g0 : X7.cell? ⟨g, 0, none⟩ = some (.string nm) := cell_at HG7.out rfl
  have n0 : X7.cell? ⟨w.heap.size + 1, 0, none⟩ = some (.string ⟨#[]⟩) := cell_at HN.out rfl
  have o0 : X7.frozen? ⟨w.heap.size + 1, 0, none⟩ = false := frozen_at HN.out
  have g1 : X7.cell? ⟨g, 1, none⟩ = some (.slice p2 ls.length c2) := cell_at HG7.out rfl
  have n1 : X7.cell? ⟨w.heap.size + 1, 1, none⟩ = some (.slice none 0 0) := cell_at HN.out rfl
  have o1 : X7.frozen? ⟨w.heap.size + 1, 1, none⟩ = false := frozen_at HN.out
  have g2 : X7.cell? ⟨g, 2, none⟩ = some (.slice p3 is.length c3) := cell_at HG7.out rfl
  have n2 : X7.cell? ⟨w.heap.size + 1, 2, none⟩ = some (.slice none 0 0) := cell_at HN.out rfl
  have o2 : X7.frozen? ⟨w.heap.size + 1, 2, none⟩ = false := frozen_at HN.out
  have g3 : X7.cell? ⟨g, 3, none⟩ = some (.slice p4 ms.length c4) := cell_at HG7.out rfl
  have n3 : X7.cell? ⟨w.heap.size + 1, 3, none⟩ = some (.slice none 0 0) := cell_at HN.out rfl
  have o3 : X7.frozen? ⟨w.heap.size + 1, 3, none⟩ = false := frozen_at HN.out
  have g4 : X7.cell? ⟨g, 4, none⟩ = some (.int .i64 rs) := cell_at HG7.out rfl
  have n4 : X7.cell? ⟨w.heap.size + 1, 4, none⟩ = some (.int .i64 0) := cell_at HN.out rfl
  have o4 : X7.frozen? ⟨w.heap.size + 1, 4, none⟩ = false := frozen_at HN.out
  have g5 : X7.cell? ⟨g, 5, none⟩ = some (.int .i64 gr) := cell_at HG7.out rfl
  have n5 : X7.cell? ⟨w.heap.size + 1, 5, none⟩ = some (.int .i64 0) := cell_at HN.out rfl
  have o5 : X7.frozen? ⟨w.heap.size + 1, 5, none⟩ = false := frozen_at HN.out
  have g6 : X7.cell? ⟨g, 6, none⟩ = some (.int .i64 pr) := cell_at HG7.out rfl
  have n6 : X7.cell? ⟨w.heap.size + 1, 6, none⟩ = some (.int .i64 0) := cell_at HN.out rfl
  have o6 : X7.frozen? ⟨w.heap.size + 1, 6, none⟩ = false := frozen_at HN.out
  have HR := Lib.hid (put11 (vs := [.string nm, .slice p2 ls.length c2, .slice p3 is.length c3, .slice p4 ms.length c4, .int .i64 rs, .int .i64 gr, .int .i64 pr]) (cur := [.string ⟨#[]⟩, .slice none 0 0, .slice none 0 0, .slice none 0 0, .int .i64 0, .int .i64 0, .int .i64 0]) HN.out rfl)
  have HRK := Lib.hid (putCells_kept (w.heap.size + 1) [.string nm, .slice p2 ls.length c2, .slice p3 is.length c3, .slice p4 ms.length c4, .int .i64 rs, .int .i64 gr, .int .i64 pr] X7 0)
  go_wp2
  refine bodyPost_ret (results_cell_row rfl _ _ (w.heap.size + 1) 25 _ (0, 0) _ rfl HR.out Tryz.underlying25 rfl (by kernel_rfl)) rfl ?_
  have hsz := HRK.out.size
  have hK : ∀ i, g + 1 ≤ i → ¬ i = w.heap.size + 1 := fun i hi => by omega
  have hI : ∀ {i n : Nat}, Ran (g + 1) n i → Ran w.heap.size n i := fun hi => ⟨by have h2 := hi.1; omega, hi.2⟩
  exact ⟨_, _, _, rfl, ⟨ORow.mono (OLabs_step Ols.out HRK.out hK) fun _ hi => hI hi, (OCtrs_step Ois.out HRK.out hK).mono fun _ hi => hI hi, (OCtrs_step Oms.out HRK.out hK).mono fun _ hi => hI hi⟩, HR7.out.keptSet HRK.out (by omega), keptN (keptB HB0.out KX7.out) HRK.out (by omega)⟩

end Go.Proofs.YtgelbkgkjkeccaaGreatDoor
