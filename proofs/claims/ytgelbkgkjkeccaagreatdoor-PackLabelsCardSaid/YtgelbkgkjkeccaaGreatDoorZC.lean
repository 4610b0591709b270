/- Package spec's Frozen: what an update may not change. -/
import Derived.Test.YtgelbkgkjkeccaaGreatDoorZB
import Derived.StillTailTactics
namespace Go.Proofs.YtgelbkgkjkeccaaGreatDoor
open Go.RowKit

def frozenFrom : Nat → List CtrD → List CtrD → Err
  | i, x :: xs, y :: ys => if alikeB x y then (if (x.image.toList == y.image.toList) then frozenFrom (i + 1) xs ys else if sameB x.image.data.toList y.image.data.toList then frozenFrom (i + 1) xs ys else some (33, [atB mainS i, imageS])) else some (4, [atB mainS i])
  | _, _, _ => none
def frozenE (a b : SpecD) : Err := if (a.name.toList == b.name.toList) then (if decide (a.inits = b.inits) then (if a.mains.length = b.mains.length then frozenFrom 0 a.mains b.mains else some (4, [mainS])) else some (4, [initS])) else some (4, [nameS])
theorem frozenFrom_drop (xs ys : List CtrD) (k : Nat) (h1 : k < xs.length) (h2 : k < ys.length) :
    frozenFrom k (xs.drop k) (ys.drop k) = if alikeB xs[k] ys[k] then (if (xs[k].image.toList == ys[k].image.toList) then frozenFrom (k + 1) (xs.drop (k + 1)) (ys.drop (k + 1)) else if sameB xs[k].image.data.toList ys[k].image.data.toList then frozenFrom (k + 1) (xs.drop (k + 1)) (ys.drop (k + 1)) else some (33, [atB mainS k, imageS])) else some (4, [atB mainS k]) := by
  rw [List.drop_eq_getElem_cons h1, List.drop_eq_getElem_cons h2]
  rfl
theorem frozenFrom_end (xs ys : List CtrD) (k : Nat) (h1 : xs.length ≤ k) : frozenFrom k (xs.drop k) (ys.drop k) = none := by
  rw [List.drop_of_length_le h1]
  rfl
/-- A region that draws its order, whose operations read, or call what makes memory at most, and yield what does not hang on the order: one walk in the order of the text. -/
theorem wp_region_below {P : Program} {id : Nat} {Q : Exit → Act → World → Prop} {a : Act} {w : World} {l : List Oper} (hm : P.follows .mixedOrders = true) (hB : Region.lexB .any l.toArray = true)
    (h : wpQuiet P l.toArray (fun x => Below w.heap.size w x) (fun a' => ∀ x, Below w.heap.size w x → Q .normal a' x) l a) : (Code.region id l.toArray true).wp P Q a w :=
  wp_region_quiet (C := fun x => Below w.heap.size w x) hm hB (bdrew1 w) (by simpa using h)
theorem quiet_calls {P : Program} {f : FuncId} {args : Array Value} {W x : World} {v : Value} (hx : Below W.heap.size W x) (h : Calls P f args x fun e y => e = .returned v ∧ Below x.heap.size x y) : Calls P f args x fun e y => e = .returned v ∧ Below W.heap.size W y :=
  h.mono fun _ _ ⟨he, hb⟩ => ⟨he, bto hx hb⟩
theorem newE4 (c : Int) (ps : List ByteArray) (h : c ≠ 0) : newE c ps = some (c, ps) := by unfold newE; rw [if_neg h]

set_option maxHeartbeats 2000000 in
set_option maxRecDepth 100000 in
theorem Frozen_any (I J : Nat → Prop) (a b : SpecD) (la ia ma lb ib mb : Option Addr) (lc ic mc kc jc nc : Nat) (w : World) (ha : ISpec I w a (.slice la a.labels.length lc) (.slice ia a.inits.length ic) (.slice ma a.mains.length mc)) (hb : ISpec J w b (.slice lb b.labels.length kc) (.slice ib b.inits.length jc) (.slice mb b.mains.length nc)) (oa : SpecOk a) (ob : SpecOk b) (hm : LaidMarks w) :
    Calls Tryz.prog 37 #[specV a (.slice la a.labels.length lc) (.slice ia a.inits.length ic) (.slice ma a.mains.length mc), specV b (.slice lb b.labels.length kc) (.slice ib b.inits.length jc) (.slice mb b.mains.length nc)] w (RetErr w (frozenE a b)) := by
  have HW := Lib.hid (bto (bnew w (.cells #[.string a.name, .slice la a.labels.length lc, .slice ia a.inits.length ic, .slice ma a.mains.length mc, .int .i64 a.restart, .int .i64 a.grace, .int .i64 a.prio] 25)) (bnew _ (.cells #[.string b.name, .slice lb b.labels.length kc, .slice ib b.inits.length jc, .slice mb b.mains.length nc, .int .i64 b.restart, .int .i64 b.grace, .int .i64 b.prio] 25)))
  have HS0 : Hid (((w.alloc (.cells #[.string a.name, .slice la a.labels.length lc, .slice ia a.inits.length ic, .slice ma a.mains.length mc, .int .i64 a.restart, .int .i64 a.grace, .int .i64 a.prio] 25)).alloc (.cells #[.string b.name, .slice lb b.labels.length kc, .slice ib b.inits.length jc, .slice mb b.mains.length nc, .int .i64 b.restart, .int .i64 b.grace, .int .i64 b.prio] 25)).heap.size = w.heap.size + 2) := Lib.hid (by simp)
  have HA := Lib.hid (ha.below HW.out)
  have HB := Lib.hid (hb.below HW.out)
  have HM := Lib.hid (hm.below HW.out)
  have OA := oa
  have OB := ob
  clear ha hb hm
  cases h1 : (a.name.toList == b.name.toList) with
  | false =>
    have HE : Hid (frozenE a b = some (4, [nameS])) := Lib.hid (by unfold frozenE; rw [h1]; rfl)
    go_enter Tryz.func37, Tryz.ntmps37
    go_wp2_with (go_at_call 122; refine (New_one _ nameS _ _ _ (new_cell _ _ _ _ _ _ (by simp) rfl)).mono ?_; rintro e w2 ⟨v2, rfl, hr2, hb2⟩; have HR2 := Lib.hid hr2; have HB2 := Lib.hid hb2; clear hr2 hb2)
    go_ret
    rw [HE.out]
    exact ⟨_, rfl, RErrO.mono (by have := HR2.out; rw [newE4 _ _ (by decide)] at this; exact this) (by simp; omega), bto (bto HW.out (bnew _ _)) HB2.out⟩
  | true =>
    cases h2 : decide (a.inits = b.inits) with
    | false =>
      have HE : Hid (frozenE a b = some (4, [initS])) := Lib.hid (by unfold frozenE; rw [h1, h2]; rfl)
      have H2 := Lib.hid h2
      clear h2
      go_enter Tryz.func37, Tryz.ntmps37
      go_wp2_with (first | (go_at_call 118; refine (each_any I J _ _ _ _ _ _ _ HA.out.inits HB.out.inits OA.inits OB.inits).mono ?_; rw [H2.out]; rintro e w2 ⟨rfl, hb2⟩; have HB2 := Lib.hid hb2; clear hb2) | (go_at_call 122; refine (New_one _ initS _ _ _ (new_cell _ _ _ _ _ _ (by simp) rfl)).mono ?_; rintro e w3 ⟨v3, rfl, hr3, hb3⟩; have HR3 := Lib.hid hr3; have HB3 := Lib.hid hb3; clear hr3 hb3))
      go_ret
      rw [HE.out]
      exact ⟨_, rfl, RErrO.mono (by have := HR3.out; rw [newE4 _ _ (by decide)] at this; exact this) (by have := HB2.out.size; simp at this ⊢; omega), bto (bto (bto HW.out HB2.out) (bnew _ _)) HB3.out⟩
    | true =>
      have H2 := Lib.hid h2
      by_cases h3 : a.mains.length = b.mains.length
      case neg =>
        have HE : Hid (frozenE a b = some (4, [mainS])) := Lib.hid (by unfold frozenE; rw [h1, h2, if_neg h3]; rfl)
        have h4 : ((a.mains.length : Int) != (b.mains.length : Int)) = true := by simp; omega
        clear h2
        go_enter Tryz.func37, Tryz.ntmps37
        go_wp2_with (first | (go_at_call 118; refine (each_any I J _ _ _ _ _ _ _ HA.out.inits HB.out.inits OA.inits OB.inits).mono ?_; rw [H2.out]; rintro e w2 ⟨rfl, hb2⟩; have HB2 := Lib.hid hb2; obtain ⟨hc2, hf2⟩ := bcell hb2; clear hb2) | (go_at_call 122; refine (New_one _ mainS _ _ _ (new_cell _ _ _ _ _ _ (by simp) rfl)).mono ?_; rintro e w3 ⟨v3, rfl, hr3, hb3⟩; have HR3 := Lib.hid hr3; have HB3 := Lib.hid hb3; clear hr3 hb3))
        go_ret
        rw [HE.out]
        exact ⟨_, rfl, RErrO.mono (by have := HR3.out; rw [newE4 _ _ (by decide)] at this; exact this) (by have := HB2.out.size; simp at this ⊢; omega), bto (bto (bto HW.out HB2.out) (bnew _ _)) HB3.out⟩
      case pos =>
        have HE : Hid (frozenE a b = frozenFrom 0 a.mains b.mains) := Lib.hid (by unfold frozenE; rw [h1, h2, if_pos h3]; rfl)
        have h4 : ((a.mains.length : Int) != (b.mains.length : Int)) = false := by simp; omega
        have H3 := Lib.hid h3
        clear h2 h3
        have hm100 := OA.mains.1
        go_enter Tryz.func37, Tryz.ntmps37
        go_wp2_with (go_at_call 118; refine (each_any I J _ _ _ _ _ _ _ HA.out.inits HB.out.inits OA.inits OB.inits).mono ?_; rw [H2.out]; rintro e w2 ⟨rfl, hb2⟩; have HB2 := Lib.hid hb2; obtain ⟨hc2, hf2⟩ := bcell hb2; clear hb2)
        clear hc2 hf2
        go_loopw [37] (fun i wr => ∃ k : Nat, k ≤ a.mains.length ∧ i = .int .i64 k ∧ Below ((w.alloc (.cells #[.string a.name, .slice la a.labels.length lc, .slice ia a.inits.length ic, .slice ma a.mains.length mc, .int .i64 a.restart, .int .i64 a.grace, .int .i64 a.prio] 25)).alloc (.cells #[.string b.name, .slice lb b.labels.length kc, .slice ib b.inits.length jc, .slice mb b.mains.length nc, .int .i64 b.restart, .int .i64 b.grace, .int .i64 b.prio] 25)).heap.size ((w.alloc (.cells #[.string a.name, .slice la a.labels.length lc, .slice ia a.inits.length ic, .slice ma a.mains.length mc, .int .i64 a.restart, .int .i64 a.grace, .int .i64 a.prio] 25)).alloc (.cells #[.string b.name, .slice lb b.labels.length kc, .slice ib b.inits.length jc, .slice mb b.mains.length nc, .int .i64 b.restart, .int .i64 b.grace, .int .i64 b.prio] 25)) wr ∧ frozenFrom k (a.mains.drop k) (b.mains.drop k) = frozenFrom 0 a.mains b.mains) (fun i _ => a.mains.length - (intOf i).toNat)
        case atStart => exact ⟨0, Nat.zero_le _, rfl, HB2.out, rfl⟩
        case round =>
          obtain ⟨k, hk, rfl, hb, hd⟩ := hrel
          have HBr := Lib.hid hb
          have HD := Lib.hid hd
          clear hd
          by_cases hlt : k < a.mains.length
          · have hlt2 : k < b.mains.length := by have := H3.out; omega
            have HF := Lib.hid (frozenFrom_drop a.mains b.mains k hlt hlt2)
            obtain ⟨b1, o1, rfl, hc1, hI1, r1⟩ := HA.out.mains.at (by omega)
            obtain ⟨b2, o2, rfl, hc2, hI2, r2⟩ := HB.out.mains.at (by omega)
            obtain ⟨qa, qc, hq, hx⟩ := r1 k hlt
            obtain ⟨ra, rc, hr, hy⟩ := r2 k hlt2
            have hp1 := OA.mains.2 _ (List.getElem_mem hlt)
            have hp2 := OB.mains.2 _ (List.getElem_mem hlt2)
            obtain ⟨hn1, hi1, hpo1⟩ := hp1
            obtain ⟨hn2, hi2, hpo2⟩ := hp2
            have u0 := keepc hb (hx 0 _ rfl)
            have u1 := keepc hb (hx 1 _ rfl)
            have u2 := keepc hb (hx 2 _ rfl)
            have u3 := keepc hb (hx 3 _ rfl)
            have u4 := keepc hb (hx 4 _ rfl)
            have u5 := keepc hb (hx 5 _ rfl)
            have u6 := keepc hb (hx 6 _ rfl)
            have u7 := keepc hb (hx 7 _ rfl)
            have u8 := keepc hb (hx 8 _ rfl)
            have u9 := keepc hb (hx 9 _ rfl)
            have u10 := keepc hb (hx 10 _ rfl)
            simp only [Nat.add_zero] at u0
            have v0 := keepc (bnew wr (.cells (ctrCells a.mains[k] (.slice qa a.mains[k].ports.length qc)) 44)) (keepc hb (hy 0 _ rfl))
            have v1 := keepc (bnew wr (.cells (ctrCells a.mains[k] (.slice qa a.mains[k].ports.length qc)) 44)) (keepc hb (hy 1 _ rfl))
            have v2 := keepc (bnew wr (.cells (ctrCells a.mains[k] (.slice qa a.mains[k].ports.length qc)) 44)) (keepc hb (hy 2 _ rfl))
            have v3 := keepc (bnew wr (.cells (ctrCells a.mains[k] (.slice qa a.mains[k].ports.length qc)) 44)) (keepc hb (hy 3 _ rfl))
            have v4 := keepc (bnew wr (.cells (ctrCells a.mains[k] (.slice qa a.mains[k].ports.length qc)) 44)) (keepc hb (hy 4 _ rfl))
            have v5 := keepc (bnew wr (.cells (ctrCells a.mains[k] (.slice qa a.mains[k].ports.length qc)) 44)) (keepc hb (hy 5 _ rfl))
            have v6 := keepc (bnew wr (.cells (ctrCells a.mains[k] (.slice qa a.mains[k].ports.length qc)) 44)) (keepc hb (hy 6 _ rfl))
            have v7 := keepc (bnew wr (.cells (ctrCells a.mains[k] (.slice qa a.mains[k].ports.length qc)) 44)) (keepc hb (hy 7 _ rfl))
            have v8 := keepc (bnew wr (.cells (ctrCells a.mains[k] (.slice qa a.mains[k].ports.length qc)) 44)) (keepc hb (hy 8 _ rfl))
            have v9 := keepc (bnew wr (.cells (ctrCells a.mains[k] (.slice qa a.mains[k].ports.length qc)) 44)) (keepc hb (hy 9 _ rfl))
            have v10 := keepc (bnew wr (.cells (ctrCells a.mains[k] (.slice qa a.mains[k].ports.length qc)) 44)) (keepc hb (hy 10 _ rfl))
            simp only [Nat.add_zero] at v0
            have x3 : (wr.alloc (.cells (ctrCells a.mains[k] (.slice qa a.mains[k].ports.length qc)) 44)).cell? ⟨w.heap.size + 1, 3, none⟩ = some (.slice (some ⟨b2, o2, none⟩) b.mains.length nc) := keepc (bnew wr _) (keepc hb (by go_simp))
            have hsr : w.heap.size + 2 ≤ wr.heap.size := by have := hb.size; have := HS0.out; omega
            have HQ := Lib.hid ((hq.below hb).below (bnew wr (.cells (ctrCells a.mains[k] (.slice qa a.mains[k].ports.length qc)) 44)))
            have HR := Lib.hid ((hr.below hb).below (bnew wr (.cells (ctrCells a.mains[k] (.slice qa a.mains[k].ports.length qc)) 44)))
            have HMr := Lib.hid ((HM.out.below hb).below (bnew wr (.cells (ctrCells a.mains[k] (.slice qa a.mains[k].ports.length qc)) 44)))
            generalize a.mains[k] = p at *
            generalize b.mains[k] = q at *
            have HBW := Lib.hid (bto HW.out (bto hb (bnew wr (.cells (ctrCells p (.slice qa p.ports.length qc)) 44))))
            clear hb hq hr hx hy r1 r2

            cases g1 : alikeB p q with
            | false =>
              have G1 := Lib.hid g1
              clear g1
              go_wp2_with fail
              obtain ⟨W, hW⟩ : ∃ W, W = wr.alloc (.cells #[.string p.name, .string p.image, .int .i64 p.req.cpu, .int .i64 p.req.mem, .int .i64 p.req.pids, .int .i64 p.lim.cpu, .int .i64 p.lim.mem, .int .i64 p.lim.pids, .slice qa p.ports.length qc, .int .i64 p.every, .int .i64 p.fails] 44) := ⟨_, rfl⟩
              have t0 : W.cell? ⟨wr.heap.size, 0, none⟩ = some (.string p.name) := by rw [hW]; exact new_cell _ _ _ _ _ _ rfl rfl
              have t1 : W.cell? ⟨wr.heap.size, 1, none⟩ = some (.string p.image) := by rw [hW]; exact new_cell _ _ _ _ _ _ rfl rfl
              have t2 : W.cell? ⟨wr.heap.size, 2, none⟩ = some (.int .i64 p.req.cpu) := by rw [hW]; exact new_cell _ _ _ _ _ _ rfl rfl
              have t3 : W.cell? ⟨wr.heap.size, 3, none⟩ = some (.int .i64 p.req.mem) := by rw [hW]; exact new_cell _ _ _ _ _ _ rfl rfl
              have t4 : W.cell? ⟨wr.heap.size, 4, none⟩ = some (.int .i64 p.req.pids) := by rw [hW]; exact new_cell _ _ _ _ _ _ rfl rfl
              have t5 : W.cell? ⟨wr.heap.size, 5, none⟩ = some (.int .i64 p.lim.cpu) := by rw [hW]; exact new_cell _ _ _ _ _ _ rfl rfl
              have t6 : W.cell? ⟨wr.heap.size, 6, none⟩ = some (.int .i64 p.lim.mem) := by rw [hW]; exact new_cell _ _ _ _ _ _ rfl rfl
              have t7 : W.cell? ⟨wr.heap.size, 7, none⟩ = some (.int .i64 p.lim.pids) := by rw [hW]; exact new_cell _ _ _ _ _ _ rfl rfl
              have t8 : W.cell? ⟨wr.heap.size, 8, none⟩ = some (.slice qa p.ports.length qc) := by rw [hW]; exact new_cell _ _ _ _ _ _ rfl rfl
              have t9 : W.cell? ⟨wr.heap.size, 9, none⟩ = some (.int .i64 p.every) := by rw [hW]; exact new_cell _ _ _ _ _ _ rfl rfl
              have t10 : W.cell? ⟨wr.heap.size, 10, none⟩ = some (.int .i64 p.fails) := by rw [hW]; exact new_cell _ _ _ _ _ _ rfl rfl
              have hsW : W.heap.size = wr.heap.size + 1 := by rw [hW]; simp
              have HSW := Lib.hid hsW
              clear hsW
              have HWr := Lib.hid (bnew wr (.cells #[.string p.name, .string p.image, .int .i64 p.req.cpu, .int .i64 p.req.mem, .int .i64 p.req.pids, .int .i64 p.lim.cpu, .int .i64 p.lim.mem, .int .i64 p.lim.pids, .slice qa p.ports.length qc, .int .i64 p.every, .int .i64 p.fails] 44))
              rw [← hW] at HQ HR HMr HBW HWr x3 v0 v1 v2 v3 v4 v5 v6 v7 v8 v9 v10 ⊢
              clear hW
              have HC := Lib.hid (fun (x : World) (hx : Below W.heap.size W x) => quiet_calls hx (alike_any I J p q qa ra qc rc x (HQ.out.below hx) (HR.out.below hx) (by omega) (by omega)))
              rw [G1.out] at HC
              refine wp_region_below (by kernel_rfl) (by kernel_rfl) ?_
              repeat (first | (go_big_quiet_want; apply Exists.intro; refine ⟨fun x hx => ?_, ?_⟩; (focus (have z0 := keepc hx x3; have z1 := keepc hx v0; have z2 := keepc hx v1; have z3 := keepc hx v2; have z4 := keepc hx v3; have z5 := keepc hx v4; have z6 := keepc hx v5; have z7 := keepc hx v6; have z8 := keepc hx v7; have z9 := keepc hx v8; have z10 := keepc hx v9; have z11 := keepc hx v10; have z12 := keepc hx t0; have z13 := keepc hx t1; have z14 := keepc hx t2; have z15 := keepc hx t3; have z16 := keepc hx t4; have z17 := keepc hx t5; have z18 := keepc hx t6; have z19 := keepc hx t7; have z20 := keepc hx t8; have z21 := keepc hx t9; have z22 := keepc hx t10; go_simp; first | done | with_reducible rfl | (with_reducible exact ⟨rfl, rfl⟩) | exact HC.out _ hx)); (try simp only [Act.put, List.setIfInBounds_toArray, List.set_cons_zero, List.set_cons_succ]); go_big_quiet_on) | go_big_quiet_skip)
              refine wpQuiet_nil ?_
              intro x hx
              have Hxb := Lib.hid hx
              have hsx : w.heap.size + 2 < x.heap.size := by have := hx.size; have := HSW.out; omega
              clear hx
              go_wp2_with (first | (go_at_call 129; refine (at_any mainS k _ (by decide) (by omega) (by omega)).mono ?_; rintro e w3 ⟨rfl, hb3⟩; have HB3 := Lib.hid hb3; clear hb3) | (go_at_call 122; refine (New_one _ (atB mainS k) _ _ _ (new_cell _ _ _ _ _ _ (by simp) rfl)).mono ?_; rintro e w4 ⟨v4, rfl, hr4, hb4⟩; have HR4 := Lib.hid hr4; have HB4 := Lib.hid hb4; clear hr4 hb4))
              go_ret
              have hfe : frozenE a b = some (4, [atB mainS k]) := by rw [HE.out, ← HD.out, HF.out, G1.out]; rfl
              rw [hfe]
              exact ⟨_, rfl, RErrO.mono (by have := HR4.out; rw [newE4 _ _ (by decide)] at this; exact this) (by have := HB3.out.size; simp; omega), bto (bto (bto (bto HBW.out Hxb.out) HB3.out) (bnew _ _)) HB4.out⟩
            | true =>
              have G1 := Lib.hid g1
              clear g1
              cases g2 : (p.image.toList == q.image.toList) with
              | true =>
                have G2 := Lib.hid g2
                have g2n : (p.image.toList != q.image.toList) = false := by unfold bne; rw [g2]; rfl
                go_wp2_with fail
                obtain ⟨W, hW⟩ : ∃ W, W = wr.alloc (.cells #[.string p.name, .string p.image, .int .i64 p.req.cpu, .int .i64 p.req.mem, .int .i64 p.req.pids, .int .i64 p.lim.cpu, .int .i64 p.lim.mem, .int .i64 p.lim.pids, .slice qa p.ports.length qc, .int .i64 p.every, .int .i64 p.fails] 44) := ⟨_, rfl⟩
                have t0 : W.cell? ⟨wr.heap.size, 0, none⟩ = some (.string p.name) := by rw [hW]; exact new_cell _ _ _ _ _ _ rfl rfl
                have t1 : W.cell? ⟨wr.heap.size, 1, none⟩ = some (.string p.image) := by rw [hW]; exact new_cell _ _ _ _ _ _ rfl rfl
                have t2 : W.cell? ⟨wr.heap.size, 2, none⟩ = some (.int .i64 p.req.cpu) := by rw [hW]; exact new_cell _ _ _ _ _ _ rfl rfl
                have t3 : W.cell? ⟨wr.heap.size, 3, none⟩ = some (.int .i64 p.req.mem) := by rw [hW]; exact new_cell _ _ _ _ _ _ rfl rfl
                have t4 : W.cell? ⟨wr.heap.size, 4, none⟩ = some (.int .i64 p.req.pids) := by rw [hW]; exact new_cell _ _ _ _ _ _ rfl rfl
                have t5 : W.cell? ⟨wr.heap.size, 5, none⟩ = some (.int .i64 p.lim.cpu) := by rw [hW]; exact new_cell _ _ _ _ _ _ rfl rfl
                have t6 : W.cell? ⟨wr.heap.size, 6, none⟩ = some (.int .i64 p.lim.mem) := by rw [hW]; exact new_cell _ _ _ _ _ _ rfl rfl
                have t7 : W.cell? ⟨wr.heap.size, 7, none⟩ = some (.int .i64 p.lim.pids) := by rw [hW]; exact new_cell _ _ _ _ _ _ rfl rfl
                have t8 : W.cell? ⟨wr.heap.size, 8, none⟩ = some (.slice qa p.ports.length qc) := by rw [hW]; exact new_cell _ _ _ _ _ _ rfl rfl
                have t9 : W.cell? ⟨wr.heap.size, 9, none⟩ = some (.int .i64 p.every) := by rw [hW]; exact new_cell _ _ _ _ _ _ rfl rfl
                have t10 : W.cell? ⟨wr.heap.size, 10, none⟩ = some (.int .i64 p.fails) := by rw [hW]; exact new_cell _ _ _ _ _ _ rfl rfl
                have hsW : W.heap.size = wr.heap.size + 1 := by rw [hW]; simp
                have HSW := Lib.hid hsW
                clear hsW
                have HWr := Lib.hid (bnew wr (.cells #[.string p.name, .string p.image, .int .i64 p.req.cpu, .int .i64 p.req.mem, .int .i64 p.req.pids, .int .i64 p.lim.cpu, .int .i64 p.lim.mem, .int .i64 p.lim.pids, .slice qa p.ports.length qc, .int .i64 p.every, .int .i64 p.fails] 44))
                rw [← hW] at HQ HR HMr HBW HWr x3 v0 v1 v2 v3 v4 v5 v6 v7 v8 v9 v10 ⊢
                clear hW
                have HC := Lib.hid (fun (x : World) (hx : Below W.heap.size W x) => quiet_calls hx (alike_any I J p q qa ra qc rc x (HQ.out.below hx) (HR.out.below hx) (by omega) (by omega)))
                rw [G1.out] at HC
                refine wp_region_below (by kernel_rfl) (by kernel_rfl) ?_
                repeat (first | (go_big_quiet_want; apply Exists.intro; refine ⟨fun x hx => ?_, ?_⟩; (focus (have z0 := keepc hx x3; have z1 := keepc hx v0; have z2 := keepc hx v1; have z3 := keepc hx v2; have z4 := keepc hx v3; have z5 := keepc hx v4; have z6 := keepc hx v5; have z7 := keepc hx v6; have z8 := keepc hx v7; have z9 := keepc hx v8; have z10 := keepc hx v9; have z11 := keepc hx v10; have z12 := keepc hx t0; have z13 := keepc hx t1; have z14 := keepc hx t2; have z15 := keepc hx t3; have z16 := keepc hx t4; have z17 := keepc hx t5; have z18 := keepc hx t6; have z19 := keepc hx t7; have z20 := keepc hx t8; have z21 := keepc hx t9; have z22 := keepc hx t10; go_simp; first | done | with_reducible rfl | (with_reducible exact ⟨rfl, rfl⟩) | exact HC.out _ hx)); (try simp only [Act.put, List.setIfInBounds_toArray, List.set_cons_zero, List.set_cons_succ]); go_big_quiet_on) | go_big_quiet_skip)
                refine wpQuiet_nil ?_
                intro x hx
                have Hxb := Lib.hid hx
                have hsx : w.heap.size + 2 < x.heap.size := by have := hx.size; have := HSW.out; omega
                have e0 := keepc hx x3
                have e1 := keepc hx v1
                have e2 := keepc hx t1
                have HMx := Lib.hid (HMr.out.below hx)
                clear hx v0 v1 v2 v3 v4 v5 v6 v7 v8 v9 v10 x3 t0 t1 t2 t3 t4 t5 t6 t7 t8 t9 t10
                go_wp2_with fail
                refine wp_region_below (by kernel_rfl) (by kernel_rfl) ?_
                repeat (first | (go_big_quiet_want; apply Exists.intro; refine ⟨fun x hx => ?_, ?_⟩; (focus (have z0 := keepc hx e0; have z1 := keepc hx e1; have z2 := keepc hx e2; go_simp; first | done | with_reducible rfl | (with_reducible exact ⟨rfl, rfl⟩))); (try simp only [Act.put, List.setIfInBounds_toArray, List.set_cons_zero, List.set_cons_succ]); go_big_quiet_on) | go_big_quiet_skip)
                refine wpQuiet_nil ?_
                intro y hy
                have Hyb := Lib.hid hy
                have hsy : w.heap.size + 2 < y.heap.size := by have := hy.size; omega
                clear hy
                go_wp2
                refine ⟨⟨k + 1, hlt, by go_num, bto (bto (bto HBr.out HWr.out) Hxb.out) Hyb.out, by rw [← HD.out, HF.out, G1.out, G2.out]; rfl⟩, by simp [intOf]; omega⟩
              | false =>
                have G2 := Lib.hid g2
                have g2n : (p.image.toList != q.image.toList) = true := by unfold bne; rw [g2]; rfl
                cases g3 : sameB p.image.data.toList q.image.data.toList with
                | true =>
                  have G3 := Lib.hid g3
                  clear g3
                  go_wp2_with fail
                  obtain ⟨W, hW⟩ : ∃ W, W = wr.alloc (.cells #[.string p.name, .string p.image, .int .i64 p.req.cpu, .int .i64 p.req.mem, .int .i64 p.req.pids, .int .i64 p.lim.cpu, .int .i64 p.lim.mem, .int .i64 p.lim.pids, .slice qa p.ports.length qc, .int .i64 p.every, .int .i64 p.fails] 44) := ⟨_, rfl⟩
                  have t0 : W.cell? ⟨wr.heap.size, 0, none⟩ = some (.string p.name) := by rw [hW]; exact new_cell _ _ _ _ _ _ rfl rfl
                  have t1 : W.cell? ⟨wr.heap.size, 1, none⟩ = some (.string p.image) := by rw [hW]; exact new_cell _ _ _ _ _ _ rfl rfl
                  have t2 : W.cell? ⟨wr.heap.size, 2, none⟩ = some (.int .i64 p.req.cpu) := by rw [hW]; exact new_cell _ _ _ _ _ _ rfl rfl
                  have t3 : W.cell? ⟨wr.heap.size, 3, none⟩ = some (.int .i64 p.req.mem) := by rw [hW]; exact new_cell _ _ _ _ _ _ rfl rfl
                  have t4 : W.cell? ⟨wr.heap.size, 4, none⟩ = some (.int .i64 p.req.pids) := by rw [hW]; exact new_cell _ _ _ _ _ _ rfl rfl
                  have t5 : W.cell? ⟨wr.heap.size, 5, none⟩ = some (.int .i64 p.lim.cpu) := by rw [hW]; exact new_cell _ _ _ _ _ _ rfl rfl
                  have t6 : W.cell? ⟨wr.heap.size, 6, none⟩ = some (.int .i64 p.lim.mem) := by rw [hW]; exact new_cell _ _ _ _ _ _ rfl rfl
                  have t7 : W.cell? ⟨wr.heap.size, 7, none⟩ = some (.int .i64 p.lim.pids) := by rw [hW]; exact new_cell _ _ _ _ _ _ rfl rfl
                  have t8 : W.cell? ⟨wr.heap.size, 8, none⟩ = some (.slice qa p.ports.length qc) := by rw [hW]; exact new_cell _ _ _ _ _ _ rfl rfl
                  have t9 : W.cell? ⟨wr.heap.size, 9, none⟩ = some (.int .i64 p.every) := by rw [hW]; exact new_cell _ _ _ _ _ _ rfl rfl
                  have t10 : W.cell? ⟨wr.heap.size, 10, none⟩ = some (.int .i64 p.fails) := by rw [hW]; exact new_cell _ _ _ _ _ _ rfl rfl
                  have hsW : W.heap.size = wr.heap.size + 1 := by rw [hW]; simp
                  have HSW := Lib.hid hsW
                  clear hsW
                  have HWr := Lib.hid (bnew wr (.cells #[.string p.name, .string p.image, .int .i64 p.req.cpu, .int .i64 p.req.mem, .int .i64 p.req.pids, .int .i64 p.lim.cpu, .int .i64 p.lim.mem, .int .i64 p.lim.pids, .slice qa p.ports.length qc, .int .i64 p.every, .int .i64 p.fails] 44))
                  rw [← hW] at HQ HR HMr HBW HWr x3 v0 v1 v2 v3 v4 v5 v6 v7 v8 v9 v10 ⊢
                  clear hW
                  have HC := Lib.hid (fun (x : World) (hx : Below W.heap.size W x) => quiet_calls hx (alike_any I J p q qa ra qc rc x (HQ.out.below hx) (HR.out.below hx) (by omega) (by omega)))
                  rw [G1.out] at HC
                  refine wp_region_below (by kernel_rfl) (by kernel_rfl) ?_
                  repeat (first | (go_big_quiet_want; apply Exists.intro; refine ⟨fun x hx => ?_, ?_⟩; (focus (have z0 := keepc hx x3; have z1 := keepc hx v0; have z2 := keepc hx v1; have z3 := keepc hx v2; have z4 := keepc hx v3; have z5 := keepc hx v4; have z6 := keepc hx v5; have z7 := keepc hx v6; have z8 := keepc hx v7; have z9 := keepc hx v8; have z10 := keepc hx v9; have z11 := keepc hx v10; have z12 := keepc hx t0; have z13 := keepc hx t1; have z14 := keepc hx t2; have z15 := keepc hx t3; have z16 := keepc hx t4; have z17 := keepc hx t5; have z18 := keepc hx t6; have z19 := keepc hx t7; have z20 := keepc hx t8; have z21 := keepc hx t9; have z22 := keepc hx t10; go_simp; first | done | with_reducible rfl | (with_reducible exact ⟨rfl, rfl⟩) | exact HC.out _ hx)); (try simp only [Act.put, List.setIfInBounds_toArray, List.set_cons_zero, List.set_cons_succ]); go_big_quiet_on) | go_big_quiet_skip)
                  refine wpQuiet_nil ?_
                  intro x hx
                  have Hxb := Lib.hid hx
                  have hsx : w.heap.size + 2 < x.heap.size := by have := hx.size; have := HSW.out; omega
                  have e0 := keepc hx x3
                  have e1 := keepc hx v1
                  have e2 := keepc hx t1
                  have HMx := Lib.hid (HMr.out.below hx)
                  clear hx v0 v1 v2 v3 v4 v5 v6 v7 v8 v9 v10 x3 t0 t1 t2 t3 t4 t5 t6 t7 t8 t9 t10
                  go_wp2_with fail
                  have HCs := Lib.hid (fun (y : World) (hy : Below x.heap.size x y) => quiet_calls hy ((Same_any p.image q.image y (by omega) (by omega) (HMx.out.below hy)).mono fun e y' ⟨h1, n, h2⟩ => (⟨h1, h2 ▸ bdrew y n⟩ : e = _ ∧ Below y.heap.size y y')))
                  rw [G3.out] at HCs
                  refine wp_region_below (by kernel_rfl) (by kernel_rfl) ?_
                  repeat (first | (go_big_quiet_want; apply Exists.intro; refine ⟨fun x hx => ?_, ?_⟩; (focus (have z0 := keepc hx e0; have z1 := keepc hx e1; have z2 := keepc hx e2; go_simp; first | done | with_reducible rfl | (with_reducible exact ⟨rfl, rfl⟩) | exact HCs.out _ hx)); (try simp only [Act.put, List.setIfInBounds_toArray, List.set_cons_zero, List.set_cons_succ]); go_big_quiet_on) | go_big_quiet_skip)
                  refine wpQuiet_nil ?_
                  intro y hy
                  have Hyb := Lib.hid hy
                  have hsy : w.heap.size + 2 < y.heap.size := by have := hy.size; omega
                  clear hy
                  go_wp2
                  refine ⟨⟨k + 1, hlt, by go_num, bto (bto (bto HBr.out HWr.out) Hxb.out) Hyb.out, by rw [← HD.out, HF.out, G1.out, G2.out, G3.out]; rfl⟩, by simp [intOf]; omega⟩
                | false =>
                  have G3 := Lib.hid g3
                  clear g3
                  go_wp2_with fail
                  obtain ⟨W, hW⟩ : ∃ W, W = wr.alloc (.cells #[.string p.name, .string p.image, .int .i64 p.req.cpu, .int .i64 p.req.mem, .int .i64 p.req.pids, .int .i64 p.lim.cpu, .int .i64 p.lim.mem, .int .i64 p.lim.pids, .slice qa p.ports.length qc, .int .i64 p.every, .int .i64 p.fails] 44) := ⟨_, rfl⟩
                  have t0 : W.cell? ⟨wr.heap.size, 0, none⟩ = some (.string p.name) := by rw [hW]; exact new_cell _ _ _ _ _ _ rfl rfl
                  have t1 : W.cell? ⟨wr.heap.size, 1, none⟩ = some (.string p.image) := by rw [hW]; exact new_cell _ _ _ _ _ _ rfl rfl
                  have t2 : W.cell? ⟨wr.heap.size, 2, none⟩ = some (.int .i64 p.req.cpu) := by rw [hW]; exact new_cell _ _ _ _ _ _ rfl rfl
                  have t3 : W.cell? ⟨wr.heap.size, 3, none⟩ = some (.int .i64 p.req.mem) := by rw [hW]; exact new_cell _ _ _ _ _ _ rfl rfl
                  have t4 : W.cell? ⟨wr.heap.size, 4, none⟩ = some (.int .i64 p.req.pids) := by rw [hW]; exact new_cell _ _ _ _ _ _ rfl rfl
                  have t5 : W.cell? ⟨wr.heap.size, 5, none⟩ = some (.int .i64 p.lim.cpu) := by rw [hW]; exact new_cell _ _ _ _ _ _ rfl rfl
                  have t6 : W.cell? ⟨wr.heap.size, 6, none⟩ = some (.int .i64 p.lim.mem) := by rw [hW]; exact new_cell _ _ _ _ _ _ rfl rfl
                  have t7 : W.cell? ⟨wr.heap.size, 7, none⟩ = some (.int .i64 p.lim.pids) := by rw [hW]; exact new_cell _ _ _ _ _ _ rfl rfl
                  have t8 : W.cell? ⟨wr.heap.size, 8, none⟩ = some (.slice qa p.ports.length qc) := by rw [hW]; exact new_cell _ _ _ _ _ _ rfl rfl
                  have t9 : W.cell? ⟨wr.heap.size, 9, none⟩ = some (.int .i64 p.every) := by rw [hW]; exact new_cell _ _ _ _ _ _ rfl rfl
                  have t10 : W.cell? ⟨wr.heap.size, 10, none⟩ = some (.int .i64 p.fails) := by rw [hW]; exact new_cell _ _ _ _ _ _ rfl rfl
                  have hsW : W.heap.size = wr.heap.size + 1 := by rw [hW]; simp
                  have HSW := Lib.hid hsW
                  clear hsW
                  have HWr := Lib.hid (bnew wr (.cells #[.string p.name, .string p.image, .int .i64 p.req.cpu, .int .i64 p.req.mem, .int .i64 p.req.pids, .int .i64 p.lim.cpu, .int .i64 p.lim.mem, .int .i64 p.lim.pids, .slice qa p.ports.length qc, .int .i64 p.every, .int .i64 p.fails] 44))
                  rw [← hW] at HQ HR HMr HBW HWr x3 v0 v1 v2 v3 v4 v5 v6 v7 v8 v9 v10 ⊢
                  clear hW
                  have HC := Lib.hid (fun (x : World) (hx : Below W.heap.size W x) => quiet_calls hx (alike_any I J p q qa ra qc rc x (HQ.out.below hx) (HR.out.below hx) (by omega) (by omega)))
                  rw [G1.out] at HC
                  refine wp_region_below (by kernel_rfl) (by kernel_rfl) ?_
                  repeat (first | (go_big_quiet_want; apply Exists.intro; refine ⟨fun x hx => ?_, ?_⟩; (focus (have z0 := keepc hx x3; have z1 := keepc hx v0; have z2 := keepc hx v1; have z3 := keepc hx v2; have z4 := keepc hx v3; have z5 := keepc hx v4; have z6 := keepc hx v5; have z7 := keepc hx v6; have z8 := keepc hx v7; have z9 := keepc hx v8; have z10 := keepc hx v9; have z11 := keepc hx v10; have z12 := keepc hx t0; have z13 := keepc hx t1; have z14 := keepc hx t2; have z15 := keepc hx t3; have z16 := keepc hx t4; have z17 := keepc hx t5; have z18 := keepc hx t6; have z19 := keepc hx t7; have z20 := keepc hx t8; have z21 := keepc hx t9; have z22 := keepc hx t10; go_simp; first | done | with_reducible rfl | (with_reducible exact ⟨rfl, rfl⟩) | exact HC.out _ hx)); (try simp only [Act.put, List.setIfInBounds_toArray, List.set_cons_zero, List.set_cons_succ]); go_big_quiet_on) | go_big_quiet_skip)
                  refine wpQuiet_nil ?_
                  intro x hx
                  have Hxb := Lib.hid hx
                  have hsx : w.heap.size + 2 < x.heap.size := by have := hx.size; have := HSW.out; omega
                  have e0 := keepc hx x3
                  have e1 := keepc hx v1
                  have e2 := keepc hx t1
                  have HMx := Lib.hid (HMr.out.below hx)
                  clear hx v0 v1 v2 v3 v4 v5 v6 v7 v8 v9 v10 x3 t0 t1 t2 t3 t4 t5 t6 t7 t8 t9 t10
                  go_wp2_with fail
                  have HCs := Lib.hid (fun (y : World) (hy : Below x.heap.size x y) => quiet_calls hy ((Same_any p.image q.image y (by omega) (by omega) (HMx.out.below hy)).mono fun e y' ⟨h1, n, h2⟩ => (⟨h1, h2 ▸ bdrew y n⟩ : e = _ ∧ Below y.heap.size y y')))
                  rw [G3.out] at HCs
                  refine wp_region_below (by kernel_rfl) (by kernel_rfl) ?_
                  repeat (first | (go_big_quiet_want; apply Exists.intro; refine ⟨fun x hx => ?_, ?_⟩; (focus (have z0 := keepc hx e0; have z1 := keepc hx e1; have z2 := keepc hx e2; go_simp; first | done | with_reducible rfl | (with_reducible exact ⟨rfl, rfl⟩) | exact HCs.out _ hx)); (try simp only [Act.put, List.setIfInBounds_toArray, List.set_cons_zero, List.set_cons_succ]); go_big_quiet_on) | go_big_quiet_skip)
                  refine wpQuiet_nil ?_
                  intro y hy
                  have Hyb := Lib.hid hy
                  have hsy : w.heap.size + 2 < y.heap.size := by have := hy.size; omega
                  clear hy
                  go_wp2_with (first | (go_at_call 129; refine (at_any mainS k _ (by decide) (by omega) (by omega)).mono ?_; rintro e w3 ⟨rfl, hb3⟩; have HB3 := Lib.hid hb3; clear hb3) | (go_at_call 122; refine (New_two _ (atB mainS k) imageS _ _ _ (new_cell _ _ _ _ _ _ (by simp) rfl) (new_cell _ _ _ _ _ _ (by simp) rfl)).mono ?_; rintro e w4 ⟨v4, rfl, hr4, hb4⟩; have HR4 := Lib.hid hr4; have HB4 := Lib.hid hb4; clear hr4 hb4))
                  go_ret
                  have hfe : frozenE a b = some (33, [atB mainS k, imageS]) := by rw [HE.out, ← HD.out, HF.out, G1.out, G2.out, G3.out]; rfl
                  rw [hfe]
                  exact ⟨_, rfl, RErrO.mono (by have := HR4.out; rw [newE4 _ _ (by decide)] at this; exact this) (by have := HB3.out.size; simp; omega), bto (bto (bto (bto (bto HBW.out Hxb.out) Hyb.out) HB3.out) (bnew _ _)) HB4.out⟩
          · have hkk : k = a.mains.length := by omega
            have HN : Hid (frozenE a b = none) := Lib.hid (by rw [HE.out, ← HD.out]; exact frozenFrom_end _ _ _ (by omega))
            clear hb
            go_wp2
            go_ret
            rw [HN.out]
            exact ⟨_, rfl, rfl, bto HW.out HBr.out⟩

end Go.Proofs.YtgelbkgkjkeccaaGreatDoor
