/- The statement SpecClones: the walk. -/
import Derived.Test.YtgelbkgkjkeccaaGreatDoorZD
namespace Go.Proofs.YtgelbkgkjkeccaaGreatDoor
open Go.RowKit

theorem OSpec.forms {I : Nat → Prop} {w : World} {s : SpecD} {lv iv mv : Value} (h : OSpec I w s lv iv mv) : ∃ l i m c1 c2 c3, lv = .slice l s.labels.length c1 ∧ iv = .slice i s.inits.length c2 ∧ mv = .slice m s.mains.length c3 := by
  obtain ⟨l, c1, h1⟩ := h.labs.form
  obtain ⟨i, c2, h2⟩ := h.inits.form
  obtain ⟨m, c3, h3⟩ := h.mains.form
  exact ⟨l, i, m, c1, c2, c3, h1, h2, h3⟩
theorem specSame_self (I J : Nat → Prop) (a : SpecD) (la ia ma lb ib mb : Option Addr) (lc ic mc kc jc nc : Nat) (w : World) (ha : ISpec I w a (.slice la a.labels.length lc) (.slice ia a.inits.length ic) (.slice ma a.mains.length mc)) (hb : ISpec J w a (.slice lb a.labels.length kc) (.slice ib a.inits.length jc) (.slice mb a.mains.length nc)) (oa : SpecOk a) :
    Calls Tryz.prog 32 #[specV a (.slice la a.labels.length lc) (.slice ia a.inits.length ic) (.slice ma a.mains.length mc), specV a (.slice lb a.labels.length kc) (.slice ib a.inits.length jc) (.slice mb a.mains.length nc)] w fun e w' => e = .returned (.bool true) ∧ Below w.heap.size w w' :=
  (specSame_any I J a a la ia ma lb ib mb lc ic mc kc jc nc w ha hb oa oa).mono fun _ _ ⟨h1, h2⟩ => ⟨h1.trans (congrArg (fun x => Ending.returned (.bool x)) (decide_eq_true rfl)), h2⟩
theorem specSameSpec_self (I J : Nat → Prop) (a : SpecD) (la ia ma lb ib mb : Option Addr) (lc ic mc kc jc nc : Nat) (w : World) (ha : ISpec I w a (.slice la a.labels.length lc) (.slice ia a.inits.length ic) (.slice ma a.mains.length mc)) (hb : ISpec J w a (.slice lb a.labels.length kc) (.slice ib a.inits.length jc) (.slice mb a.mains.length nc)) (oa : SpecOk a) :
    Calls Tryz.prog 28 #[specV a (.slice la a.labels.length lc) (.slice ia a.inits.length ic) (.slice ma a.mains.length mc), specV a (.slice lb a.labels.length kc) (.slice ib a.inits.length jc) (.slice mb a.mains.length nc)] w fun e w' => e = .returned (.bool true) ∧ Below w.heap.size w w' :=
  (specSameSpec_any I J a a la ia ma lb ib mb lc ic mc kc jc nc w ha hb oa oa).mono fun _ _ ⟨h1, h2⟩ => ⟨h1.trans (congrArg (fun x => Ending.returned (.bool x)) (decide_eq_true rfl)), h2⟩
theorem SpecOk.portsLen {s : SpecD} (h : SpecOk s) : (portsE s.mains).length ≤ 100000 := by
  have := portsE_len s.mains fun c hc => (h.mains.2 c hc).2.2
  have := h.mains.1
  omega
theorem ports_rows {w : World} {B : Nat} {v : Value} {l : List Int} (h : w.ownsRow B 3 1 v l.length (l.map (.int .i64))) : OInts (Ran B w.heap.size) w v l := ORow.of_own h

set_option maxHeartbeats 12000000 in
set_option maxRecDepth 100000 in
theorem SpecClones_any (a b : SpecD) (la ia ma lb ib mb : Option Addr) (lc ic mc kc jc nc : Nat) (w : World) (ha : ISpec (· < w.heap.size) w a (.slice la a.labels.length lc) (.slice ia a.inits.length ic) (.slice ma a.mains.length mc)) (hb : ISpec (· < w.heap.size) w b (.slice lb b.labels.length kc) (.slice ib b.inits.length jc) (.slice mb b.mains.length nc)) (hm : LaidMarks w) (hg : ErrTyped w) :
    Calls Tryz.prog 3 #[specV a (.slice la a.labels.length lc) (.slice ia a.inits.length ic) (.slice ma a.mains.length mc), specV b (.slice lb b.labels.length kc) (.slice ib b.inits.length jc) (.slice mb b.mains.length nc)] w fun e w' => e = .returned (.bool true) ∧ Below w.heap.size w w' := by
  have hgl := hg.lt
  go_enter Tryz.func3, Tryz.ntmps3
  go_wp2_with fail
  obtain ⟨W, hW⟩ : ∃ W, W = ((w.alloc (.cells #[.string a.name, .slice la a.labels.length lc, .slice ia a.inits.length ic, .slice ma a.mains.length mc, .int .i64 a.restart, .int .i64 a.grace, .int .i64 a.prio] 25)).alloc (.cells #[.string b.name, .slice lb b.labels.length kc, .slice ib b.inits.length jc, .slice mb b.mains.length nc, .int .i64 b.restart, .int .i64 b.grace, .int .i64 b.prio] 25)) := ⟨_, rfl⟩
  have B0 : Below w.heap.size w W := by rw [hW]; exact bto (bnew _ _) (bnew _ _)
  have s0 : W.heap.size = w.heap.size + 2 := by rw [hW]; simp
  have gA : W.heap[w.heap.size]? = some (.cells #[.string a.name, .slice la a.labels.length lc, .slice ia a.inits.length ic, .slice ma a.mains.length mc, .int .i64 a.restart, .int .i64 a.grace, .int .i64 a.prio] 25 (0, 0)) := by rw [hW, Below.heap_alloc _ _ _ (by simp)]; exact heap_alloc_new _ _
  have gB : W.heap[w.heap.size + 1]? = some (.cells #[.string b.name, .slice lb b.labels.length kc, .slice ib b.inits.length jc, .slice mb b.mains.length nc, .int .i64 b.restart, .int .i64 b.grace, .int .i64 b.prio] 25 (0, 0)) := by
    rw [hW]
    have := heap_alloc_new (w.alloc (.cells #[.string a.name, .slice la a.labels.length lc, .slice ia a.inits.length ic, .slice ma a.mains.length mc, .int .i64 a.restart, .int .i64 a.grace, .int .i64 a.prio] 25)) (.cells #[.string b.name, .slice lb b.labels.length kc, .slice ib b.inits.length jc, .slice mb b.mains.length nc, .int .i64 b.restart, .int .i64 b.grace, .int .i64 b.prio] 25)
    simpa using this
  rw [← hW]
  clear hW
  have HA := Lib.hid (ha.below B0)
  have HB := Lib.hid (hb.below B0)
  have HM := Lib.hid hm
  have HG := Lib.hid hg
  have HB0 := Lib.hid B0
  have HS0 := Lib.hid s0
  have a0 : W.cell? ⟨w.heap.size, 0, none⟩ = some (.string a.name) := by simp [World.cell?, gA]
  have a1 : W.cell? ⟨w.heap.size, 1, none⟩ = some (.slice la a.labels.length lc) := by simp [World.cell?, gA]
  have a2 : W.cell? ⟨w.heap.size, 2, none⟩ = some (.slice ia a.inits.length ic) := by simp [World.cell?, gA]
  have a3 : W.cell? ⟨w.heap.size, 3, none⟩ = some (.slice ma a.mains.length mc) := by simp [World.cell?, gA]
  have a4 : W.cell? ⟨w.heap.size, 4, none⟩ = some (.int .i64 a.restart) := by simp [World.cell?, gA]
  have a5 : W.cell? ⟨w.heap.size, 5, none⟩ = some (.int .i64 a.grace) := by simp [World.cell?, gA]
  have a6 : W.cell? ⟨w.heap.size, 6, none⟩ = some (.int .i64 a.prio) := by simp [World.cell?, gA]
  have b0 : W.cell? ⟨w.heap.size + 1, 0, none⟩ = some (.string b.name) := by simp [World.cell?, gB]
  have b1 : W.cell? ⟨w.heap.size + 1, 1, none⟩ = some (.slice lb b.labels.length kc) := by simp [World.cell?, gB]
  have b2 : W.cell? ⟨w.heap.size + 1, 2, none⟩ = some (.slice ib b.inits.length jc) := by simp [World.cell?, gB]
  have b3 : W.cell? ⟨w.heap.size + 1, 3, none⟩ = some (.slice mb b.mains.length nc) := by simp [World.cell?, gB]
  have b4 : W.cell? ⟨w.heap.size + 1, 4, none⟩ = some (.int .i64 b.restart) := by simp [World.cell?, gB]
  have b5 : W.cell? ⟨w.heap.size + 1, 5, none⟩ = some (.int .i64 b.grace) := by simp [World.cell?, gB]
  have b6 : W.cell? ⟨w.heap.size + 1, 6, none⟩ = some (.int .i64 b.prio) := by simp [World.cell?, gB]
  have GA := Lib.hid gA
  have GB := Lib.hid gB
  clear gA gB ha hb hm hg B0 s0
  refine (Light_any _ a la ia ma lc ic mc W HA.out).mono ?_
  rintro e w1 ⟨rfl, hb1⟩
  have HB1 := Lib.hid hb1
  cases hla : lightS a with
  | false =>
    have HW := Lib.hid (works06_any w1 (HM.out.below (bto HB0.out hb1)) (HG.out.below (bto HB0.out hb1) hgl))
    clear hb1
    go_wp2_with (go_at_call 26; refine HW.out.mono ?_; rintro e w2 ⟨rfl, hb2⟩; have HB2 := Lib.hid hb2; clear hb2)
    go_ret
    exact ⟨rfl, bto (bto HB0.out HB1.out) HB2.out⟩
  | true =>
    have a0' := keepc hb1 a0
    have b0' := keepc hb1 b0
    have a1' := keepc hb1 a1
    have b1' := keepc hb1 b1
    have a2' := keepc hb1 a2
    have b2' := keepc hb1 b2
    have a3' := keepc hb1 a3
    have b3' := keepc hb1 b3
    have a4' := keepc hb1 a4
    have b4' := keepc hb1 b4
    have a5' := keepc hb1 a5
    have b5' := keepc hb1 b5
    have a6' := keepc hb1 a6
    have b6' := keepc hb1 b6
    clear a0 b0 a1 b1 a2 b2 a3 b3 a4 b4 a5 b5 a6 b6 hb1
    have hoa := lightS_ok hla
    go_wp2_with fail
    refine (Light_any _ b lb ib mb kc jc nc w1 (HB.out.below HB1.out)).mono ?_
    rintro e w2 ⟨rfl, hb2⟩
    have HB2 := Lib.hid (bto HB1.out hb2)
    cases hlb : lightS b with
    | false =>
      have HW := Lib.hid (works06_any w2 (HM.out.below (bto HB0.out HB2.out)) (HG.out.below (bto HB0.out HB2.out) hgl))
      clear hb2
      go_wp2_with (go_at_call 26; refine HW.out.mono ?_; rintro e w3 ⟨rfl, hb3⟩; have HB3 := Lib.hid hb3; clear hb3)
      go_ret
      exact ⟨rfl, bto (bto HB0.out HB2.out) HB3.out⟩
    | true =>
      have hob := lightS_ok hlb
      have a0 := keepc hb2 a0'
      have b0 := keepc hb2 b0'
      have a1 := keepc hb2 a1'
      have b1 := keepc hb2 b1'
      have a2 := keepc hb2 a2'
      have b2 := keepc hb2 b2'
      have a3 := keepc hb2 a3'
      have b3 := keepc hb2 b3'
      have a4 := keepc hb2 a4'
      have b4 := keepc hb2 b4'
      have a5 := keepc hb2 a5'
      have b5 := keepc hb2 b5'
      have a6 := keepc hb2 a6'
      have b6 := keepc hb2 b6'
      clear a0' b0' a1' b1' a2' b2' a3' b3' a4' b4' a5' b5' a6' b6' hb2
      go_wp2_with fail
      refine (Clone_any _ a la ia ma lc ic mc w2 hoa (HA.out.below HB2.out)).mono ?_
      rintro e w3 ⟨lv, iv, mv, rfl, hO3, hb3⟩
      obtain ⟨l1, i1, m1, dc1, dc2, dc3, rfl, rfl, rfl⟩ := hO3.forms
      have p0 := keepc hb3 a0
      have p1 := keepc hb3 a1
      have p2 := keepc hb3 a2
      have p3 := keepc hb3 a3
      have p4 := keepc hb3 a4
      have p5 := keepc hb3 a5
      have p6 := keepc hb3 a6
      have q0 := keepc hb3 b0
      have q1 := keepc hb3 b1
      have q2 := keepc hb3 b2
      have q3 := keepc hb3 b3
      have q4 := keepc hb3 b4
      have q5 := keepc hb3 b5
      have q6 := keepc hb3 b6
      clear a0 b0 a1 b1 a2 b2 a3 b3 a4 b4 a5 b5 a6 b6
      go_wp2_with fail
      obtain ⟨W4, hW4⟩ : ∃ W4, W4 = w3.alloc (.cells #[.string a.name, .slice l1 a.labels.length dc1, .slice i1 a.inits.length dc2, .slice m1 a.mains.length dc3, .int .i64 a.restart, .int .i64 a.grace, .int .i64 a.prio] 25) := ⟨_, rfl⟩
      have b34 : Below w3.heap.size w3 W4 := by rw [hW4]; exact bnew _ _
      have s4 : W4.heap.size = w3.heap.size + 1 := by rw [hW4]; simp
      have gC : W4.heap[w3.heap.size]? = some (.cells #[.string a.name, .slice l1 a.labels.length dc1, .slice i1 a.inits.length dc2, .slice m1 a.mains.length dc3, .int .i64 a.restart, .int .i64 a.grace, .int .i64 a.prio] 25 (0, 0)) := by rw [hW4]; exact heap_alloc_new _ _
      rw [← hW4]
      clear hW4
      have a0 := keepc b34 p0
      have a1 := keepc b34 p1
      have a2 := keepc b34 p2
      have a3 := keepc b34 p3
      have a4 := keepc b34 p4
      have a5 := keepc b34 p5
      have a6 := keepc b34 p6
      have b0 := keepc b34 q0
      have b1 := keepc b34 q1
      have b2 := keepc b34 q2
      have b3 := keepc b34 q3
      have b4 := keepc b34 q4
      have b5 := keepc b34 q5
      have b6 := keepc b34 q6
      have c0 : W4.cell? ⟨w3.heap.size, 0, none⟩ = some (.string a.name) := by simp [World.cell?, gC]
      have c1 : W4.cell? ⟨w3.heap.size, 1, none⟩ = some (.slice l1 a.labels.length dc1) := by simp [World.cell?, gC]
      have c2 : W4.cell? ⟨w3.heap.size, 2, none⟩ = some (.slice i1 a.inits.length dc2) := by simp [World.cell?, gC]
      have c3 : W4.cell? ⟨w3.heap.size, 3, none⟩ = some (.slice m1 a.mains.length dc3) := by simp [World.cell?, gC]
      have c4 : W4.cell? ⟨w3.heap.size, 4, none⟩ = some (.int .i64 a.restart) := by simp [World.cell?, gC]
      have c5 : W4.cell? ⟨w3.heap.size, 5, none⟩ = some (.int .i64 a.grace) := by simp [World.cell?, gC]
      have c6 : W4.cell? ⟨w3.heap.size, 6, none⟩ = some (.int .i64 a.prio) := by simp [World.cell?, gC]
      clear p0 q0 p1 q1 p2 q2 p3 q3 p4 q4 p5 q5 p6 q6
      have hO4 := hO3.below b34
      refine (Clone_any _ a l1 i1 m1 dc1 dc2 dc3 W4 hoa hO4.I).mono ?_
      rintro e w5 ⟨lv, iv, mv, rfl, hO5, hb5⟩
      obtain ⟨l2, i2, m2, fc1, fc2, fc3, rfl, rfl, rfl⟩ := hO5.forms
      have p0 := keepc hb5 a0
      have p1 := keepc hb5 a1
      have p2 := keepc hb5 a2
      have p3 := keepc hb5 a3
      have p4 := keepc hb5 a4
      have p5 := keepc hb5 a5
      have p6 := keepc hb5 a6
      have q0 := keepc hb5 b0
      have q1 := keepc hb5 b1
      have q2 := keepc hb5 b2
      have q3 := keepc hb5 b3
      have q4 := keepc hb5 b4
      have q5 := keepc hb5 b5
      have q6 := keepc hb5 b6
      have r0 := keepc hb5 c0
      have r1 := keepc hb5 c1
      have r2 := keepc hb5 c2
      have r3 := keepc hb5 c3
      have r4 := keepc hb5 c4
      have r5 := keepc hb5 c5
      have r6 := keepc hb5 c6
      clear a0 b0 c0 a1 b1 c1 a2 b2 c2 a3 b3 c3 a4 b4 c4 a5 b5 c5 a6 b6 c6
      go_wp2_with fail
      obtain ⟨W6, hW6⟩ : ∃ W6, W6 = w5.alloc (.cells #[.string a.name, .slice l2 a.labels.length fc1, .slice i2 a.inits.length fc2, .slice m2 a.mains.length fc3, .int .i64 a.restart, .int .i64 a.grace, .int .i64 a.prio] 25) := ⟨_, rfl⟩
      have b56 : Below w5.heap.size w5 W6 := by rw [hW6]; exact bnew _ _
      have s6 : W6.heap.size = w5.heap.size + 1 := by rw [hW6]; simp
      have gD : W6.heap[w5.heap.size]? = some (.cells #[.string a.name, .slice l2 a.labels.length fc1, .slice i2 a.inits.length fc2, .slice m2 a.mains.length fc3, .int .i64 a.restart, .int .i64 a.grace, .int .i64 a.prio] 25 (0, 0)) := by rw [hW6]; exact heap_alloc_new _ _
      rw [← hW6]
      clear hW6
      have a0 := keepc b56 p0
      have a1 := keepc b56 p1
      have a2 := keepc b56 p2
      have a3 := keepc b56 p3
      have a4 := keepc b56 p4
      have a5 := keepc b56 p5
      have a6 := keepc b56 p6
      have b0 := keepc b56 q0
      have b1 := keepc b56 q1
      have b2 := keepc b56 q2
      have b3 := keepc b56 q3
      have b4 := keepc b56 q4
      have b5 := keepc b56 q5
      have b6 := keepc b56 q6
      have c0 := keepc b56 r0
      have c1 := keepc b56 r1
      have c2 := keepc b56 r2
      have c3 := keepc b56 r3
      have c4 := keepc b56 r4
      have c5 := keepc b56 r5
      have c6 := keepc b56 r6
      have d0 : W6.cell? ⟨w5.heap.size, 0, none⟩ = some (.string a.name) := by simp [World.cell?, gD]
      have d1 : W6.cell? ⟨w5.heap.size, 1, none⟩ = some (.slice l2 a.labels.length fc1) := by simp [World.cell?, gD]
      have d2 : W6.cell? ⟨w5.heap.size, 2, none⟩ = some (.slice i2 a.inits.length fc2) := by simp [World.cell?, gD]
      have d3 : W6.cell? ⟨w5.heap.size, 3, none⟩ = some (.slice m2 a.mains.length fc3) := by simp [World.cell?, gD]
      have d4 : W6.cell? ⟨w5.heap.size, 4, none⟩ = some (.int .i64 a.restart) := by simp [World.cell?, gD]
      have d5 : W6.cell? ⟨w5.heap.size, 5, none⟩ = some (.int .i64 a.grace) := by simp [World.cell?, gD]
      have d6 : W6.cell? ⟨w5.heap.size, 6, none⟩ = some (.int .i64 a.prio) := by simp [World.cell?, gD]
      clear p0 q0 r0 p1 q1 r1 p2 q2 r2 p3 q3 r3 p4 q4 r4 p5 q5 r5 p6 q6 r6
      have HBW2 : Hid (Below w.heap.size w w2) := bto HB0.out HB2.out
      have h12 : w.heap.size + 2 ≤ w2.heap.size := by have := HB2.out.size; have := HS0.out; omega
      have h23 := hb3.size
      have h45 := hb5.size
      have HBW6 : Hid (Below w.heap.size w W6) := bto (bto (bto (bto HBW2.out hb3) b34) hb5) b56
      have HAW := Lib.hid (((HA.out.below HB2.out).below hb3).below (bto (bto b34 hb5) b56))
      have HBW := Lib.hid (((HB.out.below HB2.out).below hb3).below (bto (bto b34 hb5) b56))
      have HCW := Lib.hid (hO4.below (bto hb5 b56))
      have HDW := Lib.hid (hO5.below b56)
      have HGC : Hid (W6.heap[w3.heap.size]? = some (.cells #[.string a.name, .slice l1 a.labels.length dc1, .slice i1 a.inits.length dc2, .slice m1 a.mains.length dc3, .int .i64 a.restart, .int .i64 a.grace, .int .i64 a.prio] 25 (0, 0))) := ((bto hb5 b56).block _ (by omega)).trans gC
      have HGD := Lib.hid gD
      have HGA : Hid (W6.heap[w.heap.size]? = some (.cells #[.string a.name, .slice la a.labels.length lc, .slice ia a.inits.length ic, .slice ma a.mains.length mc, .int .i64 a.restart, .int .i64 a.grace, .int .i64 a.prio] 25 (0, 0))) := ((bto (bto (bto (bto HB2.out hb3) b34) hb5) b56).block _ (by have := HS0.out; omega)).trans GA.out
      clear gC gD hO3 hO4 hO5 hb3 b34 hb5 b56
      go_wp2_with fail
      have KEEP : Hid (∀ X X' : World, Below X.heap.size X X' → (X.cell? ⟨w.heap.size, 0, none⟩ = some (.string a.name) ∧ X.cell? ⟨w.heap.size, 1, none⟩ = some (.slice la a.labels.length lc) ∧ X.cell? ⟨w.heap.size, 2, none⟩ = some (.slice ia a.inits.length ic) ∧ X.cell? ⟨w.heap.size, 3, none⟩ = some (.slice ma a.mains.length mc) ∧ X.cell? ⟨w.heap.size, 4, none⟩ = some (.int .i64 a.restart) ∧ X.cell? ⟨w.heap.size, 5, none⟩ = some (.int .i64 a.grace) ∧ X.cell? ⟨w.heap.size, 6, none⟩ = some (.int .i64 a.prio) ∧ X.cell? ⟨w.heap.size + 1, 0, none⟩ = some (.string b.name) ∧ X.cell? ⟨w.heap.size + 1, 1, none⟩ = some (.slice lb b.labels.length kc) ∧ X.cell? ⟨w.heap.size + 1, 2, none⟩ = some (.slice ib b.inits.length jc) ∧ X.cell? ⟨w.heap.size + 1, 3, none⟩ = some (.slice mb b.mains.length nc) ∧ X.cell? ⟨w.heap.size + 1, 4, none⟩ = some (.int .i64 b.restart) ∧ X.cell? ⟨w.heap.size + 1, 5, none⟩ = some (.int .i64 b.grace) ∧ X.cell? ⟨w.heap.size + 1, 6, none⟩ = some (.int .i64 b.prio) ∧ X.cell? ⟨w3.heap.size, 0, none⟩ = some (.string a.name) ∧ X.cell? ⟨w3.heap.size, 1, none⟩ = some (.slice l1 a.labels.length dc1) ∧ X.cell? ⟨w3.heap.size, 2, none⟩ = some (.slice i1 a.inits.length dc2) ∧ X.cell? ⟨w3.heap.size, 3, none⟩ = some (.slice m1 a.mains.length dc3) ∧ X.cell? ⟨w3.heap.size, 4, none⟩ = some (.int .i64 a.restart) ∧ X.cell? ⟨w3.heap.size, 5, none⟩ = some (.int .i64 a.grace) ∧ X.cell? ⟨w3.heap.size, 6, none⟩ = some (.int .i64 a.prio)) → (X'.cell? ⟨w.heap.size, 0, none⟩ = some (.string a.name) ∧ X'.cell? ⟨w.heap.size, 1, none⟩ = some (.slice la a.labels.length lc) ∧ X'.cell? ⟨w.heap.size, 2, none⟩ = some (.slice ia a.inits.length ic) ∧ X'.cell? ⟨w.heap.size, 3, none⟩ = some (.slice ma a.mains.length mc) ∧ X'.cell? ⟨w.heap.size, 4, none⟩ = some (.int .i64 a.restart) ∧ X'.cell? ⟨w.heap.size, 5, none⟩ = some (.int .i64 a.grace) ∧ X'.cell? ⟨w.heap.size, 6, none⟩ = some (.int .i64 a.prio) ∧ X'.cell? ⟨w.heap.size + 1, 0, none⟩ = some (.string b.name) ∧ X'.cell? ⟨w.heap.size + 1, 1, none⟩ = some (.slice lb b.labels.length kc) ∧ X'.cell? ⟨w.heap.size + 1, 2, none⟩ = some (.slice ib b.inits.length jc) ∧ X'.cell? ⟨w.heap.size + 1, 3, none⟩ = some (.slice mb b.mains.length nc) ∧ X'.cell? ⟨w.heap.size + 1, 4, none⟩ = some (.int .i64 b.restart) ∧ X'.cell? ⟨w.heap.size + 1, 5, none⟩ = some (.int .i64 b.grace) ∧ X'.cell? ⟨w.heap.size + 1, 6, none⟩ = some (.int .i64 b.prio) ∧ X'.cell? ⟨w3.heap.size, 0, none⟩ = some (.string a.name) ∧ X'.cell? ⟨w3.heap.size, 1, none⟩ = some (.slice l1 a.labels.length dc1) ∧ X'.cell? ⟨w3.heap.size, 2, none⟩ = some (.slice i1 a.inits.length dc2) ∧ X'.cell? ⟨w3.heap.size, 3, none⟩ = some (.slice m1 a.mains.length dc3) ∧ X'.cell? ⟨w3.heap.size, 4, none⟩ = some (.int .i64 a.restart) ∧ X'.cell? ⟨w3.heap.size, 5, none⟩ = some (.int .i64 a.grace) ∧ X'.cell? ⟨w3.heap.size, 6, none⟩ = some (.int .i64 a.prio))) := fun X X' hb h => ⟨keepc hb (h.1), keepc hb (h.2.1), keepc hb (h.2.2.1), keepc hb (h.2.2.2.1), keepc hb (h.2.2.2.2.1), keepc hb (h.2.2.2.2.2.1), keepc hb (h.2.2.2.2.2.2.1), keepc hb (h.2.2.2.2.2.2.2.1), keepc hb (h.2.2.2.2.2.2.2.2.1), keepc hb (h.2.2.2.2.2.2.2.2.2.1), keepc hb (h.2.2.2.2.2.2.2.2.2.2.1), keepc hb (h.2.2.2.2.2.2.2.2.2.2.2.1), keepc hb (h.2.2.2.2.2.2.2.2.2.2.2.2.1), keepc hb (h.2.2.2.2.2.2.2.2.2.2.2.2.2.1), keepc hb (h.2.2.2.2.2.2.2.2.2.2.2.2.2.2.1), keepc hb (h.2.2.2.2.2.2.2.2.2.2.2.2.2.2.2.1), keepc hb (h.2.2.2.2.2.2.2.2.2.2.2.2.2.2.2.2.1), keepc hb (h.2.2.2.2.2.2.2.2.2.2.2.2.2.2.2.2.2.1), keepc hb (h.2.2.2.2.2.2.2.2.2.2.2.2.2.2.2.2.2.2.1), keepc hb (h.2.2.2.2.2.2.2.2.2.2.2.2.2.2.2.2.2.2.2.1), keepc hb (h.2.2.2.2.2.2.2.2.2.2.2.2.2.2.2.2.2.2.2.2)⟩
      have HSW : (W6.cell? ⟨w.heap.size, 0, none⟩ = some (.string a.name) ∧ W6.cell? ⟨w.heap.size, 1, none⟩ = some (.slice la a.labels.length lc) ∧ W6.cell? ⟨w.heap.size, 2, none⟩ = some (.slice ia a.inits.length ic) ∧ W6.cell? ⟨w.heap.size, 3, none⟩ = some (.slice ma a.mains.length mc) ∧ W6.cell? ⟨w.heap.size, 4, none⟩ = some (.int .i64 a.restart) ∧ W6.cell? ⟨w.heap.size, 5, none⟩ = some (.int .i64 a.grace) ∧ W6.cell? ⟨w.heap.size, 6, none⟩ = some (.int .i64 a.prio) ∧ W6.cell? ⟨w.heap.size + 1, 0, none⟩ = some (.string b.name) ∧ W6.cell? ⟨w.heap.size + 1, 1, none⟩ = some (.slice lb b.labels.length kc) ∧ W6.cell? ⟨w.heap.size + 1, 2, none⟩ = some (.slice ib b.inits.length jc) ∧ W6.cell? ⟨w.heap.size + 1, 3, none⟩ = some (.slice mb b.mains.length nc) ∧ W6.cell? ⟨w.heap.size + 1, 4, none⟩ = some (.int .i64 b.restart) ∧ W6.cell? ⟨w.heap.size + 1, 5, none⟩ = some (.int .i64 b.grace) ∧ W6.cell? ⟨w.heap.size + 1, 6, none⟩ = some (.int .i64 b.prio) ∧ W6.cell? ⟨w3.heap.size, 0, none⟩ = some (.string a.name) ∧ W6.cell? ⟨w3.heap.size, 1, none⟩ = some (.slice l1 a.labels.length dc1) ∧ W6.cell? ⟨w3.heap.size, 2, none⟩ = some (.slice i1 a.inits.length dc2) ∧ W6.cell? ⟨w3.heap.size, 3, none⟩ = some (.slice m1 a.mains.length dc3) ∧ W6.cell? ⟨w3.heap.size, 4, none⟩ = some (.int .i64 a.restart) ∧ W6.cell? ⟨w3.heap.size, 5, none⟩ = some (.int .i64 a.grace) ∧ W6.cell? ⟨w3.heap.size, 6, none⟩ = some (.int .i64 a.prio)) := ⟨a0, a1, a2, a3, a4, a5, a6, b0, b1, b2, b3, b4, b5, b6, c0, c1, c2, c3, c4, c5, c6⟩
      clear a0 b0 c0 a1 b1 c1 a2 b2 c2 a3 b3 c3 a4 b4 c4 a5 b5 c5 a6 b6 c6
      have e1 : decide (a = a) = true := by simp
      have e2 : (portsE a.mains == portsE a.mains) = true := by simp
      have E1 := Lib.hid e1
      have E2 := Lib.hid e2
      clear e1 e2
      have hpl := hoa.portsLen
      obtain ⟨ab, hab⟩ : ∃ ab, ab = decide (a = b) := ⟨_, rfl⟩
      have HAB := Lib.hid hab
      clear hab
      cases ab <;>
      go_region_held3 (fun w' => w'.cell? ⟨w.heap.size, 0, none⟩ = some (.string a.name) ∧ w'.cell? ⟨w.heap.size, 1, none⟩ = some (.slice la a.labels.length lc) ∧ w'.cell? ⟨w.heap.size, 2, none⟩ = some (.slice ia a.inits.length ic) ∧ w'.cell? ⟨w.heap.size, 3, none⟩ = some (.slice ma a.mains.length mc) ∧ w'.cell? ⟨w.heap.size, 4, none⟩ = some (.int .i64 a.restart) ∧ w'.cell? ⟨w.heap.size, 5, none⟩ = some (.int .i64 a.grace) ∧ w'.cell? ⟨w.heap.size, 6, none⟩ = some (.int .i64 a.prio) ∧ w'.cell? ⟨w.heap.size + 1, 0, none⟩ = some (.string b.name) ∧ w'.cell? ⟨w.heap.size + 1, 1, none⟩ = some (.slice lb b.labels.length kc) ∧ w'.cell? ⟨w.heap.size + 1, 2, none⟩ = some (.slice ib b.inits.length jc) ∧ w'.cell? ⟨w.heap.size + 1, 3, none⟩ = some (.slice mb b.mains.length nc) ∧ w'.cell? ⟨w.heap.size + 1, 4, none⟩ = some (.int .i64 b.restart) ∧ w'.cell? ⟨w.heap.size + 1, 5, none⟩ = some (.int .i64 b.grace) ∧ w'.cell? ⟨w.heap.size + 1, 6, none⟩ = some (.int .i64 b.prio) ∧ w'.cell? ⟨w3.heap.size, 0, none⟩ = some (.string a.name) ∧ w'.cell? ⟨w3.heap.size, 1, none⟩ = some (.slice l1 a.labels.length dc1) ∧ w'.cell? ⟨w3.heap.size, 2, none⟩ = some (.slice i1 a.inits.length dc2) ∧ w'.cell? ⟨w3.heap.size, 3, none⟩ = some (.slice m1 a.mains.length dc3) ∧ w'.cell? ⟨w3.heap.size, 4, none⟩ = some (.int .i64 a.restart) ∧ w'.cell? ⟨w3.heap.size, 5, none⟩ = some (.int .i64 a.grace) ∧ w'.cell? ⟨w3.heap.size, 6, none⟩ = some (.int .i64 a.prio))
        (first | with_reducible assumption | exact KEEP.out _ _ hb13 (by with_reducible assumption) | exact KEEP.out _ _ hb12 (by with_reducible assumption) | exact KEEP.out _ _ hb11 (by with_reducible assumption) | exact KEEP.out _ _ hb10 (by with_reducible assumption) | exact KEEP.out _ _ hb9 (by with_reducible assumption) | exact KEEP.out _ _ hb8 (by with_reducible assumption) | exact KEEP.out _ _ hb7 (by with_reducible assumption) | exact KEEP.out _ _ (bdrew1 _) (by with_reducible assumption))
        (first
          | (go_at_call 32; have g := tok6; refine (specSame_self _ _ a _ _ _ _ _ _ _ _ _ _ _ _ _ (HAW.out.below HX12.out) (HCW.out.I.below HX12.out) hoa).mono ?_; rintro e w13 ⟨rfl, hb13⟩; have HX13 := Lib.hid (bto HX12.out hb13))
          | (go_at_call 28; have g := tok5; refine (specSameSpec_any _ _ a b _ _ _ _ _ _ _ _ _ _ _ _ _ (HAW.out.below HX11.out) (HBW.out.below HX11.out) hoa hob).mono ?_; rw [← HAB.out]; rintro e w12 ⟨rfl, hb12⟩; have HX12 := Lib.hid (bto HX11.out hb12); have tok6 := True.intro)
          | (go_at_call 32; have g := tok4; refine (specSame_any _ _ a b _ _ _ _ _ _ _ _ _ _ _ _ _ (HAW.out.below HX10.out) (HBW.out.below HX10.out) hoa hob).mono ?_; rw [← HAB.out]; rintro e w11 ⟨rfl, hb11⟩; have HX11 := Lib.hid (bto HX10.out hb11); have tok5 := True.intro)
          | (go_at_call 29; refine (sameInts_any _ _ _ _ _ _ _ _ _ ((OInts.I HP8.out).below hb9) (OInts.I HP9.out) (by omega)).mono ?_; rw [E2.out]; rintro e w10 ⟨rfl, hb10⟩; have HX10 := Lib.hid (bto HX9.out hb10); have tok4 := True.intro)
          | (go_at_call 31; refine (refPorts_any _ a _ _ _ _ _ hoa.mains (HAW.out.mains.below HX8.out)).mono ?_; rintro e w9 ⟨v9, rfl, ho9, hb9⟩; obtain ⟨a9, c9, hv9⟩ := own_slice ho9; subst hv9; have HP9 := Lib.hid (ports_rows ho9); have HX9 := Lib.hid (bto HX8.out hb9); clear ho9)
          | (go_at_call 30; refine (Ports_any _ a _ _ _ _ _ hoa.mains (HAW.out.mains.below HX7.out)).mono ?_; rintro e w8 ⟨v8, rfl, ho8, hb8⟩; obtain ⟨a8, c8, hv8⟩ := own_slice ho8; subst hv8; have HP8 := Lib.hid (ports_rows ho8); have HX8 := Lib.hid (bto HX7.out hb8); clear ho8)
          | (go_at_call 28; refine (specSameSpec_self _ _ a _ _ _ _ _ _ _ _ _ _ _ _ _ (HCW.out.I.below (bdrew1 _)) (HAW.out.below (bdrew1 _)) hoa).mono ?_; rintro e w7 ⟨rfl, hb7⟩; have HX7 := Lib.hid (bto (bdrew1 W6) hb7)))
      all_goals
        clear HSW hb7 hb8 hb9 hb10 hb11 hb12 hb13

        have c0 : w13.cell? ⟨w3.heap.size, 0, none⟩ = some (.string a.name) := keepc HX13.out (by simp [World.cell?, HGC.out])
        have c1 : w13.cell? ⟨w3.heap.size, 1, none⟩ = some (.slice l1 a.labels.length dc1) := keepc HX13.out (by simp [World.cell?, HGC.out])
        have c2 : w13.cell? ⟨w3.heap.size, 2, none⟩ = some (.slice i1 a.inits.length dc2) := keepc HX13.out (by simp [World.cell?, HGC.out])
        have c3 : w13.cell? ⟨w3.heap.size, 3, none⟩ = some (.slice m1 a.mains.length dc3) := keepc HX13.out (by simp [World.cell?, HGC.out])
        have c4 : w13.cell? ⟨w3.heap.size, 4, none⟩ = some (.int .i64 a.restart) := keepc HX13.out (by simp [World.cell?, HGC.out])
        have c5 : w13.cell? ⟨w3.heap.size, 5, none⟩ = some (.int .i64 a.grace) := keepc HX13.out (by simp [World.cell?, HGC.out])
        have c6 : w13.cell? ⟨w3.heap.size, 6, none⟩ = some (.int .i64 a.prio) := keepc HX13.out (by simp [World.cell?, HGC.out])
        go_wp2_with fail
        refine (Ports_any _ a _ _ _ _ w13 hoa.mains (HCW.out.I.mains.below HX13.out)).mono ?_
        rintro e w14 ⟨v14, rfl, ho14, hb14⟩
        obtain ⟨a14, c14, hv14⟩ := own_slice ho14
        subst hv14
        have HO14 := Lib.hid ho14
        have HB14 := Lib.hid hb14
        clear c0 c1 c2 c3 c4 c5 c6 ho14 hb14
        go_wp2_with fail
        refine (spoilInts_own _ _ _ _ w14 (ports_rows HO14.out) (by omega)).mono ?_
        rintro e w15 ⟨rfl, hs15⟩
        have HX15 : Hid (Below W6.heap.size W6 w15) := bto HX13.out (belowk0 HB14.out hs15.kept (fun k hk => own_ge HO14.out hk) HB14.out.size)
        clear hs15

        have c0 : w15.cell? ⟨w3.heap.size, 0, none⟩ = some (.string a.name) := keepc HX15.out (by simp [World.cell?, HGC.out])
        have c1 : w15.cell? ⟨w3.heap.size, 1, none⟩ = some (.slice l1 a.labels.length dc1) := keepc HX15.out (by simp [World.cell?, HGC.out])
        have c2 : w15.cell? ⟨w3.heap.size, 2, none⟩ = some (.slice i1 a.inits.length dc2) := keepc HX15.out (by simp [World.cell?, HGC.out])
        have c3 : w15.cell? ⟨w3.heap.size, 3, none⟩ = some (.slice m1 a.mains.length dc3) := keepc HX15.out (by simp [World.cell?, HGC.out])
        have c4 : w15.cell? ⟨w3.heap.size, 4, none⟩ = some (.int .i64 a.restart) := keepc HX15.out (by simp [World.cell?, HGC.out])
        have c5 : w15.cell? ⟨w3.heap.size, 5, none⟩ = some (.int .i64 a.grace) := keepc HX15.out (by simp [World.cell?, HGC.out])
        have c6 : w15.cell? ⟨w3.heap.size, 6, none⟩ = some (.int .i64 a.prio) := keepc HX15.out (by simp [World.cell?, HGC.out])
        have d0 : w15.cell? ⟨w5.heap.size, 0, none⟩ = some (.string a.name) := keepc HX15.out (by simp [World.cell?, HGD.out])
        have d1 : w15.cell? ⟨w5.heap.size, 1, none⟩ = some (.slice l2 a.labels.length fc1) := keepc HX15.out (by simp [World.cell?, HGD.out])
        have d2 : w15.cell? ⟨w5.heap.size, 2, none⟩ = some (.slice i2 a.inits.length fc2) := keepc HX15.out (by simp [World.cell?, HGD.out])
        have d3 : w15.cell? ⟨w5.heap.size, 3, none⟩ = some (.slice m2 a.mains.length fc3) := keepc HX15.out (by simp [World.cell?, HGD.out])
        have d4 : w15.cell? ⟨w5.heap.size, 4, none⟩ = some (.int .i64 a.restart) := keepc HX15.out (by simp [World.cell?, HGD.out])
        have d5 : w15.cell? ⟨w5.heap.size, 5, none⟩ = some (.int .i64 a.grace) := keepc HX15.out (by simp [World.cell?, HGD.out])
        have d6 : w15.cell? ⟨w5.heap.size, 6, none⟩ = some (.int .i64 a.prio) := keepc HX15.out (by simp [World.cell?, HGD.out])
        go_wp2_with fail
        refine (specSameSpec_self _ _ a _ _ _ _ _ _ _ _ _ _ _ _ _ (HCW.out.I.below HX15.out) (HDW.out.I.below HX15.out) hoa).mono ?_
        rintro e w16 ⟨rfl, hb16⟩
        have HX16 := Lib.hid (bto HX15.out hb16)
        clear hb16 c0 c1 c2 c3 c4 c5 c6 d0 d1 d2 d3 d4 d5 d6

        have c0 : w16.cell? ⟨w3.heap.size, 0, none⟩ = some (.string a.name) := keepc HX16.out (by simp [World.cell?, HGC.out])
        have c1 : w16.cell? ⟨w3.heap.size, 1, none⟩ = some (.slice l1 a.labels.length dc1) := keepc HX16.out (by simp [World.cell?, HGC.out])
        have c2 : w16.cell? ⟨w3.heap.size, 2, none⟩ = some (.slice i1 a.inits.length dc2) := keepc HX16.out (by simp [World.cell?, HGC.out])
        have c3 : w16.cell? ⟨w3.heap.size, 3, none⟩ = some (.slice m1 a.mains.length dc3) := keepc HX16.out (by simp [World.cell?, HGC.out])
        have c4 : w16.cell? ⟨w3.heap.size, 4, none⟩ = some (.int .i64 a.restart) := keepc HX16.out (by simp [World.cell?, HGC.out])
        have c5 : w16.cell? ⟨w3.heap.size, 5, none⟩ = some (.int .i64 a.grace) := keepc HX16.out (by simp [World.cell?, HGC.out])
        have c6 : w16.cell? ⟨w3.heap.size, 6, none⟩ = some (.int .i64 a.prio) := keepc HX16.out (by simp [World.cell?, HGC.out])
        have h316 : w3.heap.size ≤ w16.heap.size := by have := HX16.out.size; omega
        go_wp2_with fail
        refine (SpoilSpec_any (Ran w2.heap.size w3.heap.size) a l1 i1 m1 dc1 dc2 dc3 w16 hoa (fun k hk => by have := hk.2; omega) (HCW.out.below HX16.out)).mono ?_
        rintro e w17 ⟨rfl, hk17⟩
        have HK17 := Lib.hid hk17
        have HX17 : Hid (Below w.heap.size w w17) := belowk0 (bto HBW6.out HX16.out) hk17 (fun k hk => by have := hk.1; omega) (by omega)
        clear hk17 c0 c1 c2 c3 c4 c5 c6

        have d0 : w17.cell? ⟨w5.heap.size, 0, none⟩ = some (.string a.name) := HK17.out.cell (fun hk => by have := hk.2; omega) (keepc HX16.out (by simp [World.cell?, HGD.out]))
        have d1 : w17.cell? ⟨w5.heap.size, 1, none⟩ = some (.slice l2 a.labels.length fc1) := HK17.out.cell (fun hk => by have := hk.2; omega) (keepc HX16.out (by simp [World.cell?, HGD.out]))
        have d2 : w17.cell? ⟨w5.heap.size, 2, none⟩ = some (.slice i2 a.inits.length fc2) := HK17.out.cell (fun hk => by have := hk.2; omega) (keepc HX16.out (by simp [World.cell?, HGD.out]))
        have d3 : w17.cell? ⟨w5.heap.size, 3, none⟩ = some (.slice m2 a.mains.length fc3) := HK17.out.cell (fun hk => by have := hk.2; omega) (keepc HX16.out (by simp [World.cell?, HGD.out]))
        have d4 : w17.cell? ⟨w5.heap.size, 4, none⟩ = some (.int .i64 a.restart) := HK17.out.cell (fun hk => by have := hk.2; omega) (keepc HX16.out (by simp [World.cell?, HGD.out]))
        have d5 : w17.cell? ⟨w5.heap.size, 5, none⟩ = some (.int .i64 a.grace) := HK17.out.cell (fun hk => by have := hk.2; omega) (keepc HX16.out (by simp [World.cell?, HGD.out]))
        have d6 : w17.cell? ⟨w5.heap.size, 6, none⟩ = some (.int .i64 a.prio) := HK17.out.cell (fun hk => by have := hk.2; omega) (keepc HX16.out (by simp [World.cell?, HGD.out]))
        have a0 : w17.cell? ⟨w.heap.size, 0, none⟩ = some (.string a.name) := HK17.out.cell (fun hk => by have := hk.1; omega) (keepc HX16.out (by simp [World.cell?, HGA.out]))
        have a1 : w17.cell? ⟨w.heap.size, 1, none⟩ = some (.slice la a.labels.length lc) := HK17.out.cell (fun hk => by have := hk.1; omega) (keepc HX16.out (by simp [World.cell?, HGA.out]))
        have a2 : w17.cell? ⟨w.heap.size, 2, none⟩ = some (.slice ia a.inits.length ic) := HK17.out.cell (fun hk => by have := hk.1; omega) (keepc HX16.out (by simp [World.cell?, HGA.out]))
        have a3 : w17.cell? ⟨w.heap.size, 3, none⟩ = some (.slice ma a.mains.length mc) := HK17.out.cell (fun hk => by have := hk.1; omega) (keepc HX16.out (by simp [World.cell?, HGA.out]))
        have a4 : w17.cell? ⟨w.heap.size, 4, none⟩ = some (.int .i64 a.restart) := HK17.out.cell (fun hk => by have := hk.1; omega) (keepc HX16.out (by simp [World.cell?, HGA.out]))
        have a5 : w17.cell? ⟨w.heap.size, 5, none⟩ = some (.int .i64 a.grace) := HK17.out.cell (fun hk => by have := hk.1; omega) (keepc HX16.out (by simp [World.cell?, HGA.out]))
        have a6 : w17.cell? ⟨w.heap.size, 6, none⟩ = some (.int .i64 a.prio) := HK17.out.cell (fun hk => by have := hk.1; omega) (keepc HX16.out (by simp [World.cell?, HGA.out]))
        go_wp2_with fail
        refine (specSameSpec_self _ _ a _ _ _ _ _ _ _ _ _ _ _ _ _ ((HDW.out.below HX16.out).kept HK17.out (fun k hk hm => by have h1 : W4.heap.size ≤ k := hk.1; have h2 : k < w3.heap.size := hm.2; omega)).I ((HAW.out.below HX16.out).kept HK17.out (fun k hk hm => by have h1 : w2.heap.size ≤ k := hm.1; have h2 : k < w.heap.size := hk; omega)) hoa).mono ?_
        rintro e w18 ⟨rfl, hb18⟩
        have HX18 := Lib.hid (bto HX17.out hb18)
        clear hb18 d0 d1 d2 d3 d4 d5 d6 a0 a1 a2 a3 a4 a5 a6
        go_wp2_with fail
        refine (works06_any w18 (HM.out.below HX18.out) (HG.out.below HX18.out hgl)).mono ?_
        rintro e w19 ⟨rfl, hb19⟩
        have HX19 := Lib.hid (bto HX18.out hb19)
        clear hb19
        go_wp2
        go_ret
        exact ⟨rfl, HX19.out⟩
end Go.Proofs.YtgelbkgkjkeccaaGreatDoor

