/- The chapter's example of specs: works of the statements on specs. -/
import Derived.Test.YtgelbkgkjkeccaaGreatDoorZC
namespace Go.Proofs.YtgelbkgkjkeccaaGreatDoor
open Go.RowKit

def plainCs (nm : ByteArray) : List CtrD := [⟨⟨#[97]⟩, ⟨#[119, 101, 98, 58, 49]⟩, ⟨0, 0, 0⟩, ⟨0, 0, 0⟩, [], 0, 0⟩, ⟨nm, ⟨#[119, 101, 98, 58, 50]⟩, ⟨0, 0, 0⟩, ⟨0, 0, 0⟩, [80], 0, 0⟩]
def plainS (nm : ByteArray) : SpecD := ⟨⟨#[119, 101, 98]⟩, [], [], plainCs nm, 3, 0, 0⟩
def plainQs (g : Nat) : List Value := [.slice none 0 0, .slice (some ⟨g, 0, none⟩) 1 1]
theorem plain_ctrs (w : World) (g h : Nat) (nm : ByteArray) (hg : w.heap[g]? = some (.cells #[.int .i64 80] 3 (0, 0))) (hh : w.heap[h]? = some (.cells (ctrsCells (plainCs nm) (plainQs g)).toArray 44 (0, 0))) :
    OCtrs (fun k => k = g ∨ k = h) w (.slice (some ⟨h, 0, none⟩) 2 2) (plainCs nm) := by
  refine ⟨plainQs g, rfl, ⟨rfl, .inr ⟨h, 2, _, rfl, .inr rfl, hh, Nat.le_refl _, rfl, rfl⟩⟩, fun j q c hq hc => ?_⟩
  match j with
  | 0 =>
    have e1 : Value.slice none 0 0 = q := Option.some.inj hq
    have e2 : (plainCs nm)[0]'(by show 0 < 2; omega) = c := Option.some.inj hc
    subst e1 e2
    exact ⟨rfl, .inl ⟨rfl, rfl⟩⟩
  | 1 =>
    have e1 : Value.slice (some ⟨g, 0, none⟩) 1 1 = q := Option.some.inj hq
    have e2 : (plainCs nm)[1]'(by show 1 < 2; omega) = c := Option.some.inj hc
    subst e1 e2
    exact ⟨rfl, .inr ⟨g, 1, _, rfl, .inl rfl, hg, Nat.le_refl _, rfl, rfl⟩⟩
  | j + 2 => simp [plainQs] at hq
theorem plain_ok (nm : ByteArray) (h : nm.size ≤ 1000) : SpecOk (plainS nm) := by
  have hc : ∀ c ∈ plainCs nm, CtrOk c := by
    intro c hc
    unfold plainCs at hc
    rcases List.mem_cons.1 hc with e | hc
    · subst e
      exact (show (1 : Nat) ≤ 1000 ∧ (5 : Nat) ≤ 1000 ∧ (0 : Nat) ≤ 1000 by omega)
    · rcases List.mem_cons.1 hc with e | hc
      · subst e
        exact (show nm.size ≤ 1000 ∧ (5 : Nat) ≤ 1000 ∧ (1 : Nat) ≤ 1000 by omega)
      · cases hc
  exact { name := (show (3 : Nat) ≤ 1000 by omega), labs := (fun x hx => by cases hx), nlabs := (show (0 : Nat) ≤ 1000 by omega), inits := ⟨(show (0 : Nat) ≤ 100 by omega), (fun c hc => by cases hc)⟩, mains := ⟨(show (2 : Nat) ≤ 100 by omega), hc⟩ }
theorem plain_spec {w : World} {g h : Nat} {nm : ByteArray} (hO : OCtrs (fun k => k = g ∨ k = h) w (.slice (some ⟨h, 0, none⟩) 2 2) (plainCs nm)) : ISpec (fun k => k = g ∨ k = h) w (plainS nm) (.slice none 0 0) (.slice none 0 0) (.slice (some ⟨h, 0, none⟩) 2 2) :=
  ⟨.inl ⟨rfl, _, _, rfl⟩, .inl ⟨rfl, _, _, rfl⟩, hO.I⟩
def plainB : ByteArray := ⟨#[98]⟩
def plainA : ByteArray := ⟨#[65]⟩
theorem plain_ok1 : checkE (plainS plainB) = none := by kernel_rfl
theorem plain_bad : checkE (plainS plainA) = some (30, [atB mainS 1, nameS]) := by kernel_rfl
theorem plain_text : textE (some (30, [atB mainS 1, nameS])) = ⟨#[109, 97, 105, 110, 91, 49, 93, 46, 110, 97, 109, 101]⟩ := by kernel_rfl
theorem plain_frozen : frozenE (plainS plainA) (plainS plainA) = none := by kernel_rfl
theorem plain_ports : portsE (plainCs plainA) = [80] := by kernel_rfl
/-- What plain leaves. -/
def plainW (w : World) : World := ((w.alloc (.cells #[.string ⟨#[119, 101, 98]⟩, .slice none 0 0, .slice none 0 0, .slice (some ⟨w.heap.size + 1 + 1, 0, none⟩) 2 2, .int .i64 3, .int .i64 0, .int .i64 0] 25)).alloc (.cells #[.int .i64 80] 3)).alloc (.cells (ctrsCells (plainCs plainB) (plainQs (w.heap.size + 1))).toArray 44)
set_option maxHeartbeats 1000000 in
theorem plain_any (w : World) : Calls Tryz.prog 113 #[] w fun e w' => e = .returned (specV (plainS plainB) (.slice none 0 0) (.slice none 0 0) (.slice (some ⟨w.heap.size + 1 + 1, 0, none⟩) 2 2)) ∧ w' = plainW w := by
  go_enter Tryz.func113, Tryz.ntmps113
  go_wp2
  refine bodyPost_ret (results_cell_row rfl _ _ w.heap.size 25 _ (0, 0) _ rfl ?_ Tryz.underlying25 rfl (by kernel_rfl)) rfl ⟨rfl, rfl⟩
  rw [Below.heap_alloc _ _ _ (by simp; omega), Below.heap_alloc _ _ _ (by simp)]
  exact heap_alloc_new _ _
theorem plainW_at (w : World) : Below w.heap.size w (plainW w) ∧ (plainW w).heap.size = w.heap.size + 3 ∧ (plainW w).heap[w.heap.size + 1]? = some (.cells #[.int .i64 80] 3 (0, 0)) ∧ (plainW w).heap[w.heap.size + 1 + 1]? = some (.cells (ctrsCells (plainCs plainB) (plainQs (w.heap.size + 1))).toArray 44 (0, 0)) := by
  unfold plainW
  refine ⟨bto (bto (bnew _ _) (bnew _ _)) (bnew _ _), by simp, ?_, ?_⟩
  · rw [Below.heap_alloc _ _ _ (by simp)]
    have := heap_alloc_new (w.alloc (.cells #[.string ⟨#[119, 101, 98]⟩, .slice none 0 0, .slice none 0 0, .slice (some ⟨w.heap.size + 1 + 1, 0, none⟩) 2 2, .int .i64 3, .int .i64 0, .int .i64 0] 25)) (.cells #[.int .i64 80] 3)
    simpa using this
  · have := heap_alloc_new ((w.alloc (.cells #[.string ⟨#[119, 101, 98]⟩, .slice none 0 0, .slice none 0 0, .slice (some ⟨w.heap.size + 1 + 1, 0, none⟩) 2 2, .int .i64 3, .int .i64 0, .int .i64 0] 25)).alloc (.cells #[.int .i64 80] 3)) (.cells (ctrsCells (plainCs plainB) (plainQs (w.heap.size + 1))).toArray 44)
    rw [show ((w.alloc (.cells #[.string ⟨#[119, 101, 98]⟩, .slice none 0 0, .slice none 0 0, .slice (some ⟨w.heap.size + 1 + 1, 0, none⟩) 2 2, .int .i64 3, .int .i64 0, .int .i64 0] 25)).alloc (.cells #[.int .i64 80] 3)).heap.size = w.heap.size + 1 + 1 by simp] at this
    exact this
theorem own_slice {w : World} {B : Nat} {e : TypeId} {size n : Nat} {v : Value} {xs : List Value} (h : w.ownsRow B e size v n xs) : ∃ a c, v = .slice a n c := by
  rcases h.2 with ⟨rfl, rfl⟩ | ⟨g, cap, cur, rfl, _⟩
  · exact ⟨_, _, rfl⟩
  · exact ⟨_, _, rfl⟩
theorem laid_lt {w : World} (h : LaidMarks w) : 3 < w.heap.size := World.block_lt_of_cell? w _ (h 0 (by omega))

set_option maxHeartbeats 4000000 in
set_option maxRecDepth 100000 in
theorem works06_any (w : World) (hm : LaidMarks w) (hg : ErrTyped w) : Calls Tryz.prog 26 #[] w fun e w' => e = .returned (.bool true) ∧ Below w.heap.size w w' := by
  have h3 := laid_lt hm
  go_enter Tryz.func26, Tryz.ntmps26
  go_wp2_with fail
  refine (plain_any w).mono ?_
  rintro e wp ⟨rfl, rfl⟩
  obtain ⟨p1, p2, p3, p4⟩ := plainW_at w
  generalize plainW w = wp at *
  go_wp2_with fail
  obtain ⟨W, hW⟩ : ∃ W, W = wp.alloc (.cells #[.string (plainS plainB).name, .slice none 0 0, .slice none 0 0, .slice (some ⟨w.heap.size + 1 + 1, 0, none⟩) 2 2, .int .i64 (plainS plainB).restart, .int .i64 (plainS plainB).grace, .int .i64 (plainS plainB).prio] 25) := ⟨_, rfl⟩
  have bW : Below w.heap.size w W := by rw [hW]; exact bto p1 (bnew _ _)
  have sW : W.heap.size = w.heap.size + 4 := by rw [hW]; simp [p2]
  have g1 : W.heap[w.heap.size + 1]? = some (.cells #[.int .i64 80] 3 (0, 0)) := by rw [hW, Below.heap_alloc _ _ _ (by omega)]; exact p3
  have g2 : W.heap[w.heap.size + 1 + 1]? = some (.cells (ctrsCells (plainCs plainB) (plainQs (w.heap.size + 1))).toArray 44 (0, 0)) := by rw [hW, Below.heap_alloc _ _ _ (by omega)]; exact p4
  have g3 : W.heap[w.heap.size + 3]? = some (.cells #[.string (plainS plainB).name, .slice none 0 0, .slice none 0 0, .slice (some ⟨w.heap.size + 1 + 1, 0, none⟩) 2 2, .int .i64 (plainS plainB).restart, .int .i64 (plainS plainB).grace, .int .i64 (plainS plainB).prio] 25 (0, 0)) := by rw [hW, ← p2]; exact heap_alloc_new _ _
  rw [p2] at *
  rw [← hW]
  clear hW p1 p2 p3 p4
  have O1 := plain_ctrs W _ _ plainB g1 g2
  have S1 := plain_spec O1
  have mW := hm.below bW
  have gW := hg.below bW (by have := hg.lt; omega)
  have RL : RLabs W (.slice none 0 0) [] := .inl ⟨rfl, _, _, rfl⟩
  have HO1 := Lib.hid O1
  have HG1 := Lib.hid g1
  have HG2 := Lib.hid g2
  have HG3 := Lib.hid g3
  have HMw := Lib.hid mW
  have HGw := Lib.hid gW
  have HBW := Lib.hid bW
  have HSW := Lib.hid sW
  refine (Check_any (plainS plainB) (.slice none 0 0) none (some ⟨w.heap.size + 1 + 1, 0, none⟩) 0 2 W (plain_ok _ (by decide)) mW (by omega) RL (.inl ⟨rfl, _, _, rfl⟩) S1.mains.R).mono ?_
  rintro e w1 ⟨v1, rfl, hr1, hb1⟩
  rw [plain_ok1] at hr1
  have hv1 : v1 = .nilIface := hr1
  subst hv1
  have HB1 := Lib.hid hb1
  have k1 := (hb1.block (w.heap.size + 1) (by omega)).trans g1
  have k2 := (hb1.block (w.heap.size + 1 + 1) (by omega)).trans g2
  have k3 := (hb1.block (w.heap.size + 3) (by omega)).trans g3
  clear g1 g2 g3 mW gW bW sW hr1 hb1 O1 S1 RL

  have x0 : w1.cell? ⟨w.heap.size + 3, 0, none⟩ = some (.string (plainS plainB).name) := by simp [World.cell?, k3]
  have x1 : w1.cell? ⟨w.heap.size + 3, 1, none⟩ = some (.slice none 0 0) := by simp [World.cell?, k3]
  have x2 : w1.cell? ⟨w.heap.size + 3, 2, none⟩ = some (.slice none 0 0) := by simp [World.cell?, k3]
  have x3 : w1.cell? ⟨w.heap.size + 3, 3, none⟩ = some (.slice (some ⟨w.heap.size + 1 + 1, 0, none⟩) 2 2) := by simp [World.cell?, k3]
  have x4 : w1.cell? ⟨w.heap.size + 3, 4, none⟩ = some (.int .i64 (plainS plainB).restart) := by simp [World.cell?, k3]
  have x5 : w1.cell? ⟨w.heap.size + 3, 5, none⟩ = some (.int .i64 (plainS plainB).grace) := by simp [World.cell?, k3]
  have x6 : w1.cell? ⟨w.heap.size + 3, 6, none⟩ = some (.int .i64 (plainS plainB).prio) := by simp [World.cell?, k3]
  have y0 : w1.cell? ⟨w.heap.size + 1 + 1, 11, none⟩ = some (.string plainB) := by simp only [World.cell?, k2]; rfl
  have f0 : w1.frozen? ⟨w.heap.size + 1 + 1, 11, none⟩ = false := by simp [World.frozen?, k2]
  obtain ⟨W2, hW2⟩ : ∃ W2, W2 = w1.setCell ⟨w.heap.size + 1 + 1, 11, none⟩ (.string plainA) := ⟨_, rfl⟩
  have n2 : W2.heap[w.heap.size + 1 + 1]? = some (.cells (ctrsCells (plainCs plainA) (plainQs (w.heap.size + 1))).toArray 44 (0, 0)) := by rw [hW2, setCell_atn _ _ _ _ _ _ k2]; rfl
  have n1 : W2.heap[w.heap.size + 1]? = some (.cells #[.int .i64 80] 3 (0, 0)) := by rw [hW2, Below.heap_setCell _ _ _ _ (by simp)]; exact k1
  have n3 : W2.heap[w.heap.size + 3]? = some (.cells #[.string (plainS plainB).name, .slice none 0 0, .slice none 0 0, .slice (some ⟨w.heap.size + 1 + 1, 0, none⟩) 2 2, .int .i64 (plainS plainB).restart, .int .i64 (plainS plainB).grace, .int .i64 (plainS plainB).prio] 25 (0, 0)) := by rw [hW2, Below.heap_setCell _ _ _ _ (by simp)]; exact k3
  have K2 : Kept (· = w.heap.size + 1 + 1) w1 W2 := by rw [hW2]; exact kept_set _ _ _ _
  have bW2 : Below w.heap.size w W2 := belowk0 (bto HBW.out HB1.out) K2 (fun i hi => by omega) (by have := HB1.out.size; have := HSW.out; omega)
  have HW2 := Lib.hid hW2
  clear hW2 K2 k1 k2
  go_wp2_with fail
  rw [show w1.setCell ⟨w.heap.size + 1 + 1, 11, none⟩ (.string ⟨#[65]⟩) = W2 from HW2.out.symm]
  have O2 := plain_ctrs W2 _ _ plainA n1 n2
  have S2 := plain_spec O2
  have m2 := hm.below bW2
  have e2 := hg.below bW2 hg.lt
  have z2 : w.heap.size + 4 ≤ W2.heap.size := by rw [HW2.out, setCell_size]; have := HB1.out.size; have := HSW.out; omega
  have HS2 := Lib.hid S2
  have HM2 := Lib.hid m2
  have HE2 := Lib.hid e2
  have HBW2 := Lib.hid bW2
  have HN3 := Lib.hid n3
  refine (Check_any (plainS plainA) (.slice none 0 0) none (some ⟨w.heap.size + 1 + 1, 0, none⟩) 0 2 W2 (plain_ok _ (by decide)) m2 (by omega) (.inl ⟨rfl, _, _, rfl⟩) (.inl ⟨rfl, _, _, rfl⟩) S2.mains.R).mono ?_
  rintro e w3 ⟨v3, rfl, hr3, hb3⟩
  rw [plain_bad] at hr3
  obtain ⟨t3, xx, rfl⟩ := RErr.held (show RErr _ _ v3 30 _ from hr3)
  have HR3 := Lib.hid hr3
  have HB3 := Lib.hid hb3
  have n4 := (hb3.block (w.heap.size + 3) (by omega)).trans n3
  have c0 : w3.cell? ⟨w.heap.size + 3, 0, none⟩ = some (.string (plainS plainB).name) := by simp [World.cell?, n4]
  have c1 : w3.cell? ⟨w.heap.size + 3, 1, none⟩ = some (.slice none 0 0) := by simp [World.cell?, n4]
  have c2 : w3.cell? ⟨w.heap.size + 3, 2, none⟩ = some (.slice none 0 0) := by simp [World.cell?, n4]
  have c3 : w3.cell? ⟨w.heap.size + 3, 3, none⟩ = some (.slice (some ⟨w.heap.size + 1 + 1, 0, none⟩) 2 2) := by simp [World.cell?, n4]
  have c4 : w3.cell? ⟨w.heap.size + 3, 4, none⟩ = some (.int .i64 (plainS plainB).restart) := by simp [World.cell?, n4]
  have c5 : w3.cell? ⟨w.heap.size + 3, 5, none⟩ = some (.int .i64 (plainS plainB).grace) := by simp [World.cell?, n4]
  have c6 : w3.cell? ⟨w.heap.size + 3, 6, none⟩ = some (.int .i64 (plainS plainB).prio) := by simp [World.cell?, n4]
  have HN4 := Lib.hid n4
  clear hr3 hb3 n1 n2 n3 n4 O2 S2 m2 e2 bW2 y0 f0 k3 x0 x1 x2 x3 x4 x5 x6
  go_wp2_with fail
  refine (Text_err _ _ _ _ (HE2.out.below HB3.out (by have := HE2.out.lt; omega)) HR3.out (by decide) (by decide +kernel)).mono ?_
  rw [plain_text]
  rintro e w4 ⟨rfl, hb4⟩
  have HB4 := Lib.hid hb4
  clear hb4
  have d0 := keepc HB4.out c0
  have d1 := keepc HB4.out c1
  have d2 := keepc HB4.out c2
  have d3 := keepc HB4.out c3
  have d4 := keepc HB4.out c4
  have d5 := keepc HB4.out c5
  have d6 := keepc HB4.out c6
  clear c0 c1 c2 c3 c4 c5 c6
  go_wp2_with fail
  refine (Code_any _ _ _ _ ((HE2.out.below HB3.out (by have := HE2.out.lt; omega)).below HB4.out (by have := HE2.out.lt; have := HB3.out.size; omega)) (RErrO.below HR3.out HB4.out)).mono ?_
  rw [show codeE (some (30, [atB mainS 1, nameS])) = 30 from rfl]
  rintro e w5 ⟨rfl, hb5⟩
  have HB5 := Lib.hid hb5
  have c0 := keepc HB5.out d0
  have c1 := keepc HB5.out d1
  have c2 := keepc HB5.out d2
  have c3 := keepc HB5.out d3
  have c4 := keepc HB5.out d4
  have c5 := keepc HB5.out d5
  have c6 := keepc HB5.out d6
  clear d0 d1 d2 d3 d4 d5 d6 hb5
  have HB25 := Lib.hid (bto (bto HB3.out HB4.out) HB5.out)
  go_wp2_with fail
  refine (Ports_any _ (plainS plainA) (.slice none 0 0) (.slice none 0 0) (some ⟨w.heap.size + 1 + 1, 0, none⟩) 2 w5 (plain_ok _ (by decide)).mains (HS2.out.mains.below HB25.out)).mono ?_
  rintro e w6 ⟨v6, rfl, ho6, hb6⟩
  rw [show (plainS plainA).mains = plainCs plainA from rfl, plain_ports] at ho6
  obtain ⟨a6, c6', hv6⟩ := own_slice ho6
  subst hv6
  have HB6 := Lib.hid hb6
  have d0 := keepc HB6.out c0
  have d1 := keepc HB6.out c1
  have d2 := keepc HB6.out c2
  have d3 := keepc HB6.out c3
  have d4 := keepc HB6.out c4
  have d5 := keepc HB6.out c5
  have d6 := keepc HB6.out c6
  clear c0 c1 c2 c3 c4 c5 c6 hb6 ho6
  have HB26 := Lib.hid (bto HB25.out HB6.out)
  go_wp2_with fail
  refine (Frozen_any _ _ (plainS plainA) (plainS plainA) none none (some ⟨w.heap.size + 1 + 1, 0, none⟩) none none (some ⟨w.heap.size + 1 + 1, 0, none⟩) 0 0 2 0 0 2 w6 (HS2.out.below HB26.out) (HS2.out.below HB26.out) (plain_ok _ (by decide)) (plain_ok _ (by decide)) (HM2.out.below HB26.out)).mono ?_
  rw [plain_frozen]
  rintro e w7 ⟨v7, rfl, hr7, hb7⟩
  have hv7 : v7 = .nilIface := hr7
  subst hv7
  have HB7 := Lib.hid hb7
  clear hb7 hr7 d0 d1 d2 d3 d4 d5 d6
  go_wp2
  go_ret
  exact ⟨rfl, bto (bto HBW2.out HB26.out) HB7.out⟩
end Go.Proofs.YtgelbkgkjkeccaaGreatDoor
