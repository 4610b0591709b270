/- Structs that are alike; the likeness of labels. -/
import Derived.Test.YtgelbkgkjkeccaaGreatDoorR
import Derived.Laws.StructEq
namespace Go.Proofs.YtgelbkgkjkeccaaGreatDoor
open Go.RowKit

theorem fo159 : Tryz.prog.underlying 159 = some (.struct (Tryz.prog.fieldsOf 159)) := by kernel_rfl
theorem sh159 : Tryz.prog.stoodInHeld 159 = false := by kernel_rfl
theorem fo40 : Tryz.prog.underlying 40 = some (.struct (Tryz.prog.fieldsOf 40)) := by kernel_rfl
theorem sh40 : Tryz.prog.stoodInHeld 40 = false := by kernel_rfl
theorem fo42 : Tryz.prog.underlying 42 = some (.struct (Tryz.prog.fieldsOf 42)) := by kernel_rfl
theorem sh42 : Tryz.prog.stoodInHeld 42 = false := by kernel_rfl
@[go_sem] theorem eg159 : Tryz.prog.eqGuardType Tryz.prog.depth 159 = false := by kernel_rfl
@[go_sem] theorem eg40 : Tryz.prog.eqGuardType Tryz.prog.depth 40 = false := by kernel_rfl
@[go_sem] theorem eg42 : Tryz.prog.eqGuardType Tryz.prog.depth 42 = false := by kernel_rfl
theorem toList_beq (a b : ByteArray) : (a.toList == b.toList) = decide (a = b) := by
  rw [← beq_toListBytes]
  by_cases h : a = b
  · subst h; simp [beq_toListBytes]
  · rw [decide_eq_false h]
    rw [beq_toListBytes]
    simp only [beq_eq_false_iff_ne, ne_eq]
    intro e
    apply h
    rw [ByteArray.toList_eq, ByteArray.toList_eq] at e
    cases a; cases b
    simpa [Array.toList_inj] using e
@[go_sem] theorem eq159 (a b c d : ByteArray) (w : World) : (Op.equalIn 10000 159 (.agg #[.string a, .string b]) (.agg #[.string c, .string d])).run Tryz.prog w = .ok (decide (a = c) && decide (b = d)) w := by
  rw [run_equalIn_agg w 9999 159 _ _ fo159 sh159, ← toList_beq, ← toList_beq]
  by_cases h1 : a.toList == c.toList <;> by_cases h2 : b.toList == d.toList <;> simp [Op.eqFields, go_sem, Program.fieldsOf, Tryz.underlying159, Tryz.underlying9, h1, h2]
@[go_sem] theorem eql159 (a b c d : ByteArray) (w : World) : (binOp .eql 159 (.agg #[.string a, .string b]) (.agg #[.string c, .string d])).run Tryz.prog w = .ok (.bool (decide (a = c) && decide (b = d))) w := by
  rw [run_eql_struct, eq159]; rfl
@[go_sem] theorem neq159 (a b c d : ByteArray) (w : World) : (binOp .neq 159 (.agg #[.string a, .string b]) (.agg #[.string c, .string d])).run Tryz.prog w = .ok (.bool (!(decide (a = c) && decide (b = d)))) w := by
  rw [run_neq_struct, eq159]; rfl
def eq3B (a b c d e f : Int) : Bool := decide (a = d) && (decide (b = e) && decide (c = f))
def eq2B (a b c d : Int) : Bool := decide (a = c) && decide (b = d)
@[go_sem] theorem eq40 (a b c d e f : Int) (w : World) : (Op.equalIn 10000 40 (.agg #[.int .i64 a, .int .i64 b, .int .i64 c]) (.agg #[.int .i64 d, .int .i64 e, .int .i64 f])).run Tryz.prog w = .ok (eq3B a b c d e f) w := by
  rw [run_equalIn_agg w 9999 40 _ _ fo40 sh40]
  unfold eq3B
  by_cases h1 : a = d <;> by_cases h2 : b = e <;> by_cases h3 : c = f <;> simp [Op.eqFields, go_sem, Program.fieldsOf, Tryz.underlying40, Tryz.underlying3, h1, h2, h3]
@[go_sem] theorem eq42 (a b c d : Int) (w : World) : (Op.equalIn 10000 42 (.agg #[.int .i64 a, .int .i64 b]) (.agg #[.int .i64 c, .int .i64 d])).run Tryz.prog w = .ok (eq2B a b c d) w := by
  rw [run_equalIn_agg w 9999 42 _ _ fo42 sh42]
  unfold eq2B
  by_cases h1 : a = c <;> by_cases h2 : b = d <;> simp [Op.eqFields, go_sem, Program.fieldsOf, Tryz.underlying42, Tryz.underlying3, h1, h2]

deriving instance DecidableEq for LabelD
deriving instance DecidableEq for ResD
deriving instance DecidableEq for CtrD
deriving instance DecidableEq for SpecD
set_option maxHeartbeats 2000000 in
set_option maxRecDepth 100000 in
theorem sameLabs_row (b1 o1 c1 b2 o2 c2 n : Nat) (xs ys : List LabelD) (w : World) (hx : xs.length = n) (hy : ys.length = n) (hn : n ≤ 1000000)
    (h1 : ∀ j (h : j < n), w.cell? ⟨b1, o1 + j * 2, none⟩ = some (.string (xs[j]'(by omega)).key) ∧ w.cell? ⟨b1, o1 + j * 2 + 1, none⟩ = some (.string (xs[j]'(by omega)).val))
    (h2 : ∀ j (h : j < n), w.cell? ⟨b2, o2 + j * 2, none⟩ = some (.string (ys[j]'(by omega)).key) ∧ w.cell? ⟨b2, o2 + j * 2 + 1, none⟩ = some (.string (ys[j]'(by omega)).val)) :
    Calls Tryz.prog 54 #[.slice (some ⟨b1, o1, none⟩) n c1, .slice (some ⟨b2, o2, none⟩) n c2] w fun e w' => e = .returned (.bool (decide (xs = ys))) ∧ Below w.heap.size w w' := by
  have HX := Lib.hid hx
  have HY := Lib.hid hy
  have H1 := Lib.hid h1
  have H2 := Lib.hid h2
  clear h1 h2
  go_enter Tryz.func54, Tryz.ntmps54
  go_wp2
  go_loopw [5, 6] (fun s i wr => ∃ k : Nat, k ≤ n ∧ i = .int .i64 k ∧ Below w.heap.size w wr ∧ ((s = .bool true ∧ xs.take k = ys.take k) ∨ (s = .bool false ∧ xs ≠ ys))) (fun _ i _ => n - (intOf i).toNat)
  case atStart => exact ⟨0, Nat.zero_le _, rfl, Below.refl _ _, .inl ⟨by simp, rfl⟩⟩
  case round =>
    obtain ⟨k, hk, rfl, hb, hs⟩ := hrel
    have HB := Lib.hid hb
    rcases hs with ⟨rfl, ht⟩ | ⟨rfl, hne⟩
    · by_cases hlt : k < n
      · have HN := Lib.hid (take_next (by have := HX.out; omega) (by have := HY.out; omega) ht)
        have d1 := keepc hb (H1.out k hlt).1
        have d2 := keepc hb (H2.out k hlt).1
        have d3 := keepc hb (H1.out k hlt).2
        have d4 := keepc hb (H2.out k hlt).2
        generalize xs[k]'(by have := HX.out; omega) = p at *
        generalize ys[k]'(by have := HY.out; omega) = q at *
        clear ht hb
        obtain ⟨pk, pv⟩ := p
        obtain ⟨qk, qv⟩ := q
        by_cases e1 : pk = qk
        · subst e1
          by_cases e2 : pv = qv
          · subst e2
            go_wp2_with fail
            go_quiet (fail)
            go_wp2
            exact ⟨⟨k + 1, hlt, by go_num, bto HB.out (bdrew _ _), .inl ⟨by simp, HN.out.1 (by trivial)⟩⟩, by simp [intOf]; omega⟩
          · have f2 : (pv.toList == qv.toList) = false := by rw [toList_beq]; simp [e2]
            go_wp2_with fail
            go_quiet (fail)
            go_wp2
            exact ⟨⟨k + 1, hlt, by go_num, bto HB.out (bdrew _ _), .inr ⟨by simp, HN.out.2 (by simp [e2])⟩⟩, by simp [intOf]; omega⟩
        · have f1 : (pk.toList == qk.toList) = false := by rw [toList_beq]; simp [e1]
          go_wp2_with fail
          go_quiet (fail)
          go_wp2
          exact ⟨⟨k + 1, hlt, by go_num, bto HB.out (bdrew _ _), .inr ⟨by simp, HN.out.2 (by simp [e1])⟩⟩, by simp [intOf]; omega⟩
      · have HE : Hid (xs = ys) := by
          have e1 : k = n := by omega
          rw [e1] at ht
          rw [List.take_of_length_le (by have := HX.out; omega), List.take_of_length_le (by have := HY.out; omega)] at ht
          exact ht
        clear ht hb
        go_wp2
        go_ret
        exact ⟨by rw [HE.out]; simp, HB.out⟩
    · have HE : Hid (xs ≠ ys) := hne
      clear hne hb
      go_wp2
      go_ret
      exact ⟨by simp [HE.out], HB.out⟩
end Go.Proofs.YtgelbkgkjkeccaaGreatDoor
