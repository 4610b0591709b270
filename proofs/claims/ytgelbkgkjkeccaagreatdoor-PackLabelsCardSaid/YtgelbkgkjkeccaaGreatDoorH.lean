/- A container, and containers: the walks of package spec's container and containers. -/
import Derived.Test.YtgelbkgkjkeccaaGreatDoorG
namespace Go.Proofs.YtgelbkgkjkeccaaGreatDoor
open Go.RowKit

def imageS : ByteArray := ⟨#[105, 109, 97, 103, 101]⟩
def imageE (c : CtrD) : Err := if imgB c.image.data.toList then none else some (33, [imageS])
def contE (c : CtrD) (ns : List ByteArray) (ps : List Int) (most every : Int) : Err × List Int :=
  (firstE [nameE c ns, imageE c, reqE c.req, limE c.lim c.req, (portE c.ports most ps).1, probeE c.every c.fails every], (portE c.ports most ps).2)
structure ContSt (B : Nat) (w w' : World) (g : Nat) (nv pv nv' pv' : Value) (ns : List ByteArray) (ps : List Int) (v : Value) (er : Err) : Prop where
  err : RErrO w.heap.size w' v er
  seen : IsSeen B w' g nv' pv' ns ps
  kept : Kept (Mut g nv pv) w w'
  nrow : NewRow w nv nv'
  prow : NewRow w pv pv'
def ContPost (B : Nat) (w : World) (g : Nat) (nv pv : Value) (ns : List ByteArray) (r : Err × List Int) (e : Ending) (w' : World) : Prop :=
  ∃ v nv' pv', e = .returned v ∧ ContSt B w w' g nv pv nv' pv' ns r.2 v r.1

theorem run_errs6 (w : World) (a b c d e f : Value) (ha : IsErrV a) (hb : IsErrV b) (hc : IsErrV c) (hd : IsErrV d) (he : IsErrV e) (hf : IsErrV f) :
    (bsE 6 #[(0, a), (1, b), (2, c), (3, d), (4, e), (5, f)]).run Tryz.prog w = .ok (.slice (some ⟨w.heap.size, 0, none⟩) 6 6) (w.alloc (.cells #[a, b, c, d, e, f] 36)) := by
  rcases ha with rfl | ⟨t1, x1, rfl⟩ <;> rcases hb with rfl | ⟨t2, x2, rfl⟩ <;> rcases hc with rfl | ⟨t3, x3, rfl⟩ <;> rcases hd with rfl | ⟨t4, x4, rfl⟩ <;> rcases he with rfl | ⟨t5, x5, rfl⟩ <;> rcases hf with rfl | ⟨t6, x6, rfl⟩ <;> kernel_rfl
attribute [go_sem] run_errs6
theorem First_six (a b c d e f : Value) (g cap : Nat) (w : World) (ha : IsErrV a) (hb : IsErrV b) (hc : IsErrV c) (hd : IsErrV d) (he : IsErrV e) (hf : IsErrV f)
    (h : ∀ j x, [a, b, c, d, e, f][j]? = some x → w.cell? ⟨g, j, none⟩ = some x) :
    Calls Tryz.prog 121 #[.slice (some ⟨g, 0, none⟩) 6 cap] w fun r w' => r = .returned (firstV [a, b, c, d, e, f]) ∧ w = w' :=
  First_any [a, b, c, d, e, f] g 0 cap w (by simp [ha, hb, hc, hd, he, hf]) (by simp) fun j x hj => by rw [Nat.zero_add]; exact h j x hj
theorem new_cells (w : World) (C : List Value) (t : TypeId) (j : Nat) (x : Value) (hx : C[j]? = some x) : (w.alloc (.cells C.toArray t)).cell? ⟨w.heap.size, j, none⟩ = some x :=
  new_cell _ _ _ _ _ _ rfl (by simpa using hx)

/-- From block B on all stays. -/
theorem Kept.stay {M : Nat → Prop} {B : Nat} {w w' : World} {v : Value} {e : Err} (h : Kept M w w') (hM : ∀ k, M k → k < B) (he : RErrO B w v e) : RErrO B w' v e :=
  h.err (fun k hk hm => by have := hM k hm; omega) he
theorem kbelow {M : Nat → Prop} {w w1 w2 : World} (h : Kept M w w1) (k : Below w1.heap.size w1 w2) : Kept M w w2 := h.trans (Kept.of_below (M := M) k) fun _ _ h => h
theorem belowk {M : Nat → Prop} {w w1 w2 : World} (h : Below w.heap.size w w1) (k : Kept M w1 w2) : Kept M w w2 := (Kept.of_below (M := M) h).trans k fun _ _ h => h

theorem mut_old {B : Nat} {w : World} {g : Nat} {nv pv : Value} {ns : List ByteArray} {ps : List Int} (hs : IsSeen B w g nv pv ns ps) {b : Nat} (hb : w.heap.size ≤ b) : ¬ Mut g nv pv b := fun h => by
  have := (hs.mut_lt b h).2
  omega

theorem Kept.weaken {M M' : Nat → Prop} {w w' : World} (h : Kept M w w') (hM : ∀ k, M k → M' k) : Kept M' w w' := ⟨h.os, h.tape, h.output, h.size, fun k hk hn => h.block k hk fun hm => hn (hM k hm)⟩
theorem NewRow.of_le {w W : World} {v v' : Value} (h : NewRow W v v') (hw : w.heap.size ≤ W.heap.size) : NewRow w v v' := h.elim .inl fun ⟨k, h1, h2⟩ => .inr ⟨k, h1, Nat.le_trans hw h2⟩
theorem cont_end {B : Nat} {c : CtrD} {g : Nat} {nv nv' pv pv' v1 v3 v4 v5 v6 v7 : Value} {ns : List ByteArray} {ps : List Int} {most every : Int} {w w5 w6 w7 w8 : World}
    (hs : IsSeen B w g nv pv ns ps) (hn1 : NewRow w nv nv') (K5 : Kept (Mut1 g nv) w w5) (hk6 : Kept (Mut1 g pv) w5 w6)
    (hs6 : IsSeen B w6 g nv' pv' (ns ++ [c.name]) (portE c.ports most ps).2) (hrow : NewRow w5 pv pv') (hb7 : Below w6.heap.size w6 w7) (hb8 : Below w7.heap.size w7 w8)
    (h1 : RErrO w.heap.size w5 v1 (nameE c ns)) (h3 : RErrO w.heap.size w5 v3 (imageE c)) (h4 : RErrO w.heap.size w5 v4 (reqE c.req)) (h5 : RErrO w.heap.size w5 v5 (limE c.lim c.req))
    (h6 : RErrO w.heap.size w6 v6 (portE c.ports most ps).1) (h7 : RErrO w.heap.size w7 v7 (probeE c.every c.fails every)) :
    ContPost B w g nv pv (ns ++ [c.name]) (contE c ns ps most every) (.returned (firstV [v1, v3, v4, v5, v6, v7])) w8 := by
  have hM : ∀ k, Mut1 g pv k → k < w.heap.size := fun k hk => (hs.mut_lt k hk.p).2
  have st : ∀ {v : Value} {e : Err}, RErrO w.heap.size w5 v e → RErrO w.heap.size w8 v e := fun h => ((hk6.stay hM h).below hb7).below hb8
  refine ⟨_, nv', pv', rfl, RErrs.first (vs := [v1, v3, v4, v5, v6, v7]) (es := [_, _, _, _, _, _]) ⟨st h1, st h3, st h4, st h5, (h6.below hb7).below hb8, h7.below hb8, trivial⟩, (hs6.below hb7).below hb8, ?_, hn1, hrow.of_le K5.size⟩
  have K6 : Kept (Mut g nv pv) w w6 := (K5.weaken fun _ h => h.n).trans (hk6.weaken fun _ h => h.p) fun _ _ h => h
  exact kbelow (kbelow K6 hb7) hb8

set_option maxHeartbeats 8000000 in
set_option maxRecDepth 100000 in
theorem container_any (B : Nat) (c : CtrD) (q : Value) (most every : Int) (g : Nat) (nv pv : Value) (ns : List ByteArray) (ps : List Int) (w : World) (hs : IsSeen B w g nv pv ns ps) (hm : LaidMarks w) (hB : 3 < B) (hq : RInts B w q c.ports)
    (hn : c.name.size ≤ 1000000) (hi : c.image.size ≤ 1000000) (hl : ns.length ≤ 1000000) (hlp : c.ports.length ≤ 1000000) (hps : ps.length ≤ 1000000) :
    Calls Tryz.prog 220 #[.pointer (some ⟨g, 0, none⟩), .agg (ctrCells c q), .int .i64 most, .int .i64 every] w (ContPost B w g nv pv (ns ++ [c.name]) (contE c ns ps most every)) := by
  have hM3 : ¬ Mut g nv pv 3 := fun h => by have := (hs.mut_lt 3 h).1; omega
  have hM0 : ¬ Mut g nv pv w.heap.size := mut_old hs (Nat.le_refl _)
  have KEEP : Hid (∀ W W' : World, Below W.heap.size W W' → (W.cell? ⟨w.heap.size, 0, none⟩ = some (.string c.name) ∧ W.cell? ⟨w.heap.size, 1, none⟩ = some (.string c.image) ∧ W.cell? ⟨w.heap.size, 2, none⟩ = some (.int .i64 c.req.cpu) ∧ W.cell? ⟨w.heap.size, 3, none⟩ = some (.int .i64 c.req.mem) ∧ W.cell? ⟨w.heap.size, 4, none⟩ = some (.int .i64 c.req.pids) ∧ W.cell? ⟨w.heap.size, 5, none⟩ = some (.int .i64 c.lim.cpu) ∧ W.cell? ⟨w.heap.size, 6, none⟩ = some (.int .i64 c.lim.mem) ∧ W.cell? ⟨w.heap.size, 7, none⟩ = some (.int .i64 c.lim.pids) ∧ W.cell? ⟨w.heap.size, 8, none⟩ = some (q) ∧ W.cell? ⟨w.heap.size, 9, none⟩ = some (.int .i64 c.every) ∧ W.cell? ⟨w.heap.size, 10, none⟩ = some (.int .i64 c.fails)) → (W'.cell? ⟨w.heap.size, 0, none⟩ = some (.string c.name) ∧ W'.cell? ⟨w.heap.size, 1, none⟩ = some (.string c.image) ∧ W'.cell? ⟨w.heap.size, 2, none⟩ = some (.int .i64 c.req.cpu) ∧ W'.cell? ⟨w.heap.size, 3, none⟩ = some (.int .i64 c.req.mem) ∧ W'.cell? ⟨w.heap.size, 4, none⟩ = some (.int .i64 c.req.pids) ∧ W'.cell? ⟨w.heap.size, 5, none⟩ = some (.int .i64 c.lim.cpu) ∧ W'.cell? ⟨w.heap.size, 6, none⟩ = some (.int .i64 c.lim.mem) ∧ W'.cell? ⟨w.heap.size, 7, none⟩ = some (.int .i64 c.lim.pids) ∧ W'.cell? ⟨w.heap.size, 8, none⟩ = some (q) ∧ W'.cell? ⟨w.heap.size, 9, none⟩ = some (.int .i64 c.every) ∧ W'.cell? ⟨w.heap.size, 10, none⟩ = some (.int .i64 c.fails))) := fun W W' hb h => ⟨keepc hb h.1, keepc hb h.2.1, keepc hb h.2.2.1, keepc hb h.2.2.2.1, keepc hb h.2.2.2.2.1, keepc hb h.2.2.2.2.2.1, keepc hb h.2.2.2.2.2.2.1, keepc hb h.2.2.2.2.2.2.2.1, keepc hb h.2.2.2.2.2.2.2.2.1, keepc hb h.2.2.2.2.2.2.2.2.2.1, keepc hb h.2.2.2.2.2.2.2.2.2.2⟩
  have KEEPK : Hid (∀ (M : Nat → Prop) (W W' : World), Kept M W W' → ¬ M w.heap.size → (W.cell? ⟨w.heap.size, 0, none⟩ = some (.string c.name) ∧ W.cell? ⟨w.heap.size, 1, none⟩ = some (.string c.image) ∧ W.cell? ⟨w.heap.size, 2, none⟩ = some (.int .i64 c.req.cpu) ∧ W.cell? ⟨w.heap.size, 3, none⟩ = some (.int .i64 c.req.mem) ∧ W.cell? ⟨w.heap.size, 4, none⟩ = some (.int .i64 c.req.pids) ∧ W.cell? ⟨w.heap.size, 5, none⟩ = some (.int .i64 c.lim.cpu) ∧ W.cell? ⟨w.heap.size, 6, none⟩ = some (.int .i64 c.lim.mem) ∧ W.cell? ⟨w.heap.size, 7, none⟩ = some (.int .i64 c.lim.pids) ∧ W.cell? ⟨w.heap.size, 8, none⟩ = some (q) ∧ W.cell? ⟨w.heap.size, 9, none⟩ = some (.int .i64 c.every) ∧ W.cell? ⟨w.heap.size, 10, none⟩ = some (.int .i64 c.fails)) → (W'.cell? ⟨w.heap.size, 0, none⟩ = some (.string c.name) ∧ W'.cell? ⟨w.heap.size, 1, none⟩ = some (.string c.image) ∧ W'.cell? ⟨w.heap.size, 2, none⟩ = some (.int .i64 c.req.cpu) ∧ W'.cell? ⟨w.heap.size, 3, none⟩ = some (.int .i64 c.req.mem) ∧ W'.cell? ⟨w.heap.size, 4, none⟩ = some (.int .i64 c.req.pids) ∧ W'.cell? ⟨w.heap.size, 5, none⟩ = some (.int .i64 c.lim.cpu) ∧ W'.cell? ⟨w.heap.size, 6, none⟩ = some (.int .i64 c.lim.mem) ∧ W'.cell? ⟨w.heap.size, 7, none⟩ = some (.int .i64 c.lim.pids) ∧ W'.cell? ⟨w.heap.size, 8, none⟩ = some (q) ∧ W'.cell? ⟨w.heap.size, 9, none⟩ = some (.int .i64 c.every) ∧ W'.cell? ⟨w.heap.size, 10, none⟩ = some (.int .i64 c.fails))) := fun M W W' hb hm h => ⟨hb.cell hm (h.1), hb.cell hm (h.2.1), hb.cell hm (h.2.2.1), hb.cell hm (h.2.2.2.1), hb.cell hm (h.2.2.2.2.1), hb.cell hm (h.2.2.2.2.2.1), hb.cell hm (h.2.2.2.2.2.2.1), hb.cell hm (h.2.2.2.2.2.2.2.1), hb.cell hm (h.2.2.2.2.2.2.2.2.1), hb.cell hm (h.2.2.2.2.2.2.2.2.2.1), hb.cell hm (h.2.2.2.2.2.2.2.2.2.2)⟩
  go_enter Tryz.func220, Tryz.ntmps220
  go_wp2_with fail
  go_region_held3 (fun w' => w'.cell? ⟨w.heap.size, 0, none⟩ = some (.string c.name) ∧ w'.cell? ⟨w.heap.size, 1, none⟩ = some (.string c.image) ∧ w'.cell? ⟨w.heap.size, 2, none⟩ = some (.int .i64 c.req.cpu) ∧ w'.cell? ⟨w.heap.size, 3, none⟩ = some (.int .i64 c.req.mem) ∧ w'.cell? ⟨w.heap.size, 4, none⟩ = some (.int .i64 c.req.pids) ∧ w'.cell? ⟨w.heap.size, 5, none⟩ = some (.int .i64 c.lim.cpu) ∧ w'.cell? ⟨w.heap.size, 6, none⟩ = some (.int .i64 c.lim.mem) ∧ w'.cell? ⟨w.heap.size, 7, none⟩ = some (.int .i64 c.lim.pids) ∧ w'.cell? ⟨w.heap.size, 8, none⟩ = some (q) ∧ w'.cell? ⟨w.heap.size, 9, none⟩ = some (.int .i64 c.every) ∧ w'.cell? ⟨w.heap.size, 10, none⟩ = some (.int .i64 c.fails))
    (first | assumption | exact KEEP.out _ _ hb7 (by assumption) | exact KEEP.out _ _ hb5 (by assumption) | exact KEEP.out _ _ hb4 (by assumption) | exact KEEP.out _ _ hb3 (by assumption) | exact KEEPK.out _ _ _ hk6 hM1 (by assumption) | exact KEEPK.out _ _ _ hk1 (fun h => hM0 h.n) (by assumption) | exact KEEP.out _ _ (bdrew _ _) (by assumption) | exact KEEP.out _ _ (bnew _ _) (by assumption) | simp)
    (first
      | (go_at_call 271; refine (nameseen_any B c q g nv pv ns ps _ (hs.below (by first | exact (bnew _ _).drew | exact (bto (bnew _ _) (bnew _ _)).drew | exact bto (bnew _ _).drew (bnew _ _))) (hm.below (by first | exact (bnew _ _).drew | exact (bto (bnew _ _) (bnew _ _)).drew | exact bto (bnew _ _).drew (bnew _ _))) hn hl).mono ?_; rintro e w1 ⟨v1, nv', rfl, hr1, hs1, hk1, hn1⟩; have hv1 := hr1.isV; have K1 : Kept (Mut1 g nv) w w1 := belowk (by first | exact (bnew _ _).drew | exact (bto (bnew _ _) (bnew _ _)).drew | exact bto (bnew _ _).drew (bnew _ _)) hk1; have hm1 := hm.kept K1 (fun h => hM3 h.n); have hM1 : ¬ Mut1 g pv w.heap.size := fun h => hM0 h.p)
      | (go_at_call 272; refine (Image_any _ _ (by omega) (by first | exact hm1 | exact hm1.below (bnew _ _))).mono ?_; rintro e w2 ⟨rfl, n2, rfl⟩)
      | (go_at_call 122; refine (New_one _ imageS _ _ _ (by first | exact new_cell _ _ _ _ _ _ (by simp) rfl | exact (show (World.alloc _ _).cell? _ = _ from new_cell _ _ _ _ _ _ (by simp) rfl) | exact (show w1.cell? _ = _ from hk1.cell (fun h => mut_old hs (by simp <;> omega) h.n) (new_cell _ _ _ _ _ _ (by simp) rfl)))).mono ?_; rintro e w3 ⟨v3, rfl, hr3, hb3⟩; have hv3 := hr3.isV; have B13 : Below w1.heap.size w1 w3 := (by first | exact bto (bto (bdrew _ _) (bnew _ _)) hb3 | exact bto (bto (bnew _ _) (bdrew _ _)) hb3 | exact bto (bdrew _ _) hb3); have hR3 := RErrO.mono hr3 (show w.heap.size ≤ _ by have := K1.size; simp <;> omega))
      | (go_at_call 273; refine (req_any c.req _).mono ?_; rintro e w4 ⟨v4, rfl, hr4, hb4⟩; have hv4 := hr4.isV)
      | (go_at_call 274; refine (lim_any c.lim c.req _).mono ?_; rintro e w5 ⟨v5, rfl, hr5, hb5⟩; have hv5 := hr5.isV; have K5 := kbelow K1 (bto (bto B13 hb4) hb5))
      | (go_at_call 275; refine (port_any B c.ports most q g nv' pv (ns ++ [c.name]) ps _ (hs1.below (bto (bto B13 hb4) hb5)) (hq.kept K5 (fun k hk => (hs.mut_lt k hk.n).1)) hlp hps).mono ?_; rintro e w6 ⟨v6, pv', rfl, hP⟩; have hv6 := hP.err.isV; have hk6 := hP.kept)
      | (go_at_call 276; refine (probe_any c.every c.fails every _).mono ?_; rintro e w7 ⟨v7, rfl, hr7, hb7⟩; have hv7 := hr7.isV)
      | (go_at_call 121; refine (First_six v1 v3 v4 v5 v6 v7 _ _ _ hv1 hv3 hv4 hv5 hv6 hv7 (fun j x hj => new_cells _ [v1, v3, v4, v5, v6, v7] 36 j x hj)).mono ?_; rintro e w' ⟨rfl, rfl⟩))
  all_goals
    go_wp2
    go_ret
    have hE1 : RErrO w.heap.size w5 v1 (nameE c ns) := RErrO.below (RErrO.mono hr1 (by simp <;> omega)) (bto (bto B13 hb4) hb5)
    have hE3 : RErrO w.heap.size w5 v3 (imageE c) := by have := RErrO.below hR3 (bto hb4 hb5); rw [new_say _ _ _ (by decide)] at this; exact this
    have hsz3 : w.heap.size ≤ w3.heap.size := Nat.le_trans K1.size B13.size
    have hE4 : RErrO w.heap.size w5 v4 (reqE c.req) := RErrO.below (RErrO.mono hr4 hsz3) hb5
    have hE5 : RErrO w.heap.size w5 v5 (limE c.lim c.req) := RErrO.mono hr5 (Nat.le_trans hsz3 hb4.size)
    have hE6 : RErrO w.heap.size w6 v6 (portE c.ports most ps).1 := RErrO.mono hP.err K5.size
    have hE7 : RErrO w.heap.size w7 v7 (probeE c.every c.fails every) := RErrO.mono hr7 (Nat.le_trans K5.size hk6.size)
    exact cont_end hs (NewRow.of_le hn1 (by simp <;> omega)) K5 hk6 hP.seen hP.row hb7 (bnew _ _) hE1 hE3 hE4 hE5 hE6 hE7

end Go.Proofs.YtgelbkgkjkeccaaGreatDoor
