/- Numbers as text: num.digits and num.Text of the program, as plain functions on whole numbers. -/
import Derived.Test.YtgelbkgkjkeccaaGreatDoorA
namespace Go.Proofs.YtgelbkgkjkeccaaGreatDoor
open Go.RowKit

def IsU64 (m : Nat) : Prop := m < 18446744073709551616
theorem IsU64.div {m : Nat} (h : IsU64 m) (k : Nat) : IsU64 (m / k) := Nat.lt_of_le_of_lt (Nat.div_le_self _ _) h
def digI : Nat → Nat → List Int → List Int
  | 0, _, acc => acc
  | f + 1, n, acc => if n / 10 = 0 then (48 + (n % 10 : Nat) : Int) :: acc else digI f (n / 10) ((48 + (n % 10 : Nat) : Int) :: acc)
def digCells (k : Nat) (ds : List Int) : Array Value := (List.replicate k (Value.int .u8 0) ++ ds.map (Value.int .u8)).toArray
theorem digCells_get (m : Nat) (ds : List Int) : (digCells (m + 1) ds)[m]? = some (.int .u8 0) := by
  simp [digCells, List.getElem?_append]
theorem digCells_set (m : Nat) (ds : List Int) (x : Int) : (digCells (m + 1) ds).setIfInBounds m (.int .u8 x) = digCells m (x :: ds) := by
  simp only [digCells, List.setIfInBounds_toArray]
  congr 1
  rw [List.replicate_succ', List.append_assoc, List.set_append_right _ _ (by simp)]
  simp

theorem arr350 : Tryz.prog.underlying 350 = some (.array (Tryz.prog.arrayLen 350) (Tryz.prog.elem 350)) := by kernel_rfl
theorem len350 : Tryz.prog.arrayLen 350 = 20 := by kernel_rfl
theorem elem350 : Tryz.prog.elem 350 = 5 := by kernel_rfl
theorem slice350 (w : World) (b j : Nat) (h : j < 20) :
    (Instr.sliceAt 350 (.pointer (some ⟨b, 0, none⟩)) (some (.int .i64 j)) none none).run Tryz.prog w = .ok (.slice (some ⟨b, j, none⟩) (20 - j) (20 - j)) w := by
  rw [run_sliceAt_array_l w 350 _ arr350 .i64 j (by omega) (by rw [len350]; omega), elem350, len350, Tryz.sizeOf5]
  simp only [Result.andThen, slicedAt]
  rw [if_neg (by omega)]
  simp [Addr.add]
  omega

theorem digI_len : ∀ (f n : Nat) (acc : List Int), (digI f n acc).length ≤ f + acc.length
  | 0, _, _ => by simp [digI]
  | f + 1, n, acc => by
    unfold digI
    split
    · simp; omega
    · have := digI_len f (n / 10) ((48 + (n % 10 : Nat) : Int) :: acc)
      rw [List.length_cons] at this
      omega

set_option maxHeartbeats 400000 in
set_option maxRecDepth 100000 in
theorem digits_any (n : Nat) (w : World) (hn : IsU64 n) :
    Calls Tryz.prog 249 #[.int .u64 n] w fun e w' => e = .returned (.string (strOfNums (digI 20 n []))) ∧ Below w.heap.size w w' := by
  go_enter Tryz.func249, Tryz.ntmps249
  go_wp2
  go_loopw [0, 4] (fun t i wr => ∃ (k : Nat) (m : Nat) (ds : List Int), k ≤ 20 ∧ ds.length + k = 20 ∧ m < 10 ^ k ∧ (ds = [] ∨ 0 < m) ∧ i = .int .i64 k ∧ t = .int .u64 m ∧ IsU64 m ∧ digI k m ds = digI 20 n [] ∧ wr = w.alloc (.cells (digCells k ds) 350)) (fun _ i _ => (intOf i).toNat)
  case atStart => exact ⟨20, n, [], by omega, rfl, by unfold IsU64 at hn; omega, .inl rfl, rfl, rfl, hn, rfl, rfl⟩
  case round =>
    obtain ⟨k, m, ds, hk, hl, hm, hd, rfl, rfl, hm2, he, rfl⟩ := hrel
    have hk0 : k ≠ 0 := by
      rintro rfl
      rcases hd with rfl | hd
      · simp at hl
      · simp at hm; omega
    obtain ⟨j, rfl⟩ : ∃ j, k = j + 1 := ⟨k - 1, by omega⟩
    have HE := Lib.hid he
    have HM := Lib.hid hm
    have HL := Lib.hid hl
    clear he hm hd hl hk0
    have hj : (j : Int) < 20 := by omega
    have hg := digCells_get j ds
    have hc : (w.alloc (.cells (digCells (j + 1) ds) 350)).cell? ⟨w.heap.size, j, none⟩ = some (.int .u8 0) := by
      rw [World.cell?_alloc_at _ _ _ _ rfl]; exact hg
    have hf : (w.alloc (.cells (digCells (j + 1) ds) 350)).frozen? ⟨w.heap.size, j, none⟩ = false := by
      rw [World.frozen?_alloc_at _ _ _ _ rfl]
    clear hg
    have hw : IntKind.u64.wrap ((m : Int) / 10) = (m : Int) / 10 := by
      have h := hm2.div 10
      unfold IsU64 at h
      exact IntWalk.u64_in _ (by omega)
    by_cases hz : m / 10 = 0
    · have hz2 : ((m : Int) / 10 == 0) = true := by simp; omega
      have hsl := slice350 (w.alloc (Obj.cells ((digCells (j + 1) ds).setIfInBounds j (Value.int IntKind.u8 (48 + ↑m % 10))) 350)) w.heap.size j (by omega)
      have hcv := run_convert_bytes_arg (P := Tryz.prog) (w.alloc (Obj.cells ((digCells (j + 1) ds).setIfInBounds j (Value.int IntKind.u8 (48 + ↑m % 10))) 350)) 181 5 Tryz.underlying181 Tryz.underlying5 w.heap.size j (20 - j) (20 - j) ((48 + (m : Int) % 10) :: ds) (by have := HL.out; simp; omega)
        (fun i hi => by
          rw [World.cell?_alloc_at _ _ _ _ rfl, digCells_set]
          have h2 := HL.out
          simp only [digCells, List.getElem?_toArray]
          rw [List.getElem?_append_right (by simp)]
          simp only [List.length_replicate, Nat.add_sub_cancel_left, List.getElem?_map]
          rw [List.getElem?_eq_getElem (by simp; omega), List.getD_eq_getElem?_getD, List.getElem?_eq_getElem (by simp; omega)]
          rfl) 9 Tryz.underlying9
      go_wp2
      go_ret
      refine ⟨?_, (Below.refl _ _).alloc (Nat.le_refl _) _⟩
      have h : digI (j + 1) m ds = (48 + (m : Int) % 10) :: ds := by unfold digI; rw [if_pos hz]; rfl
      rw [← HE.out, h]
      rfl
    have hz2 : ((m : Int) / 10 == 0) = false := by simp; omega
    go_wp2
    refine ⟨⟨j, m / 10, ((48 + (m : Int) % 10) :: ds), by omega, by have := HL.out; simp; omega, ?_, .inr (by omega), rfl, ?_, hm2.div 10, ?_, ?_⟩, ?_⟩
    · have := HM.out
      rw [Nat.pow_succ] at this
      exact Nat.div_lt_of_lt_mul (by omega)
    · rfl
    · rw [← HE.out]
      conv => rhs; unfold digI
      rw [if_neg hz]; rfl
    · rw [digCells_set]
    · simp [intOf]

def decI (n : Nat) : Bytes := (digI 20 n []).map fun n => UInt8.ofNat n.toNat
def textI (n : Int) : Bytes := if n < 0 then 45 :: decI (-n).toNat else decI n.toNat
theorem decI_data (n : Nat) : (strOfNums (digI 20 n [])) = ⟨(decI n).toArray⟩ := rfl
theorem decI_le (n : Nat) : (decI n).length ≤ 20 := by unfold decI; have := digI_len 20 n []; simpa using this
theorem textI_le (n : Int) : (textI n).length ≤ 21 := by
  unfold textI; split
  · have := decI_le (-n).toNat; simp; omega
  · have := decI_le n.toNat; omega

set_option maxHeartbeats 400000 in
set_option maxRecDepth 100000 in
theorem Text_any (n : Int) (w : World) (h0 : -9223372036854775808 ≤ n) (h1 : n ≤ 9223372036854775807) :
    Calls Tryz.prog 181 #[.int .i64 n] w fun e w' => e = .returned (.string ⟨(textI n).toArray⟩) ∧ Below w.heap.size w w' := by
  by_cases hn : n < 0
  · obtain ⟨m, rfl, hm⟩ : ∃ m : Nat, n = -(m : Int) ∧ 0 < m := ⟨(-n).toNat, by omega, by omega⟩
    have hw : IntKind.u64.wrap (-IntKind.u64.wrap (-(m : Int))) = (m : Int) := by
      have e : IntKind.u64.wrap (-(m : Int)) = -(m : Int) + 18446744073709551616 := by
        simp [IntKind.wrap, IntKind.bits, IntKind.signed]; omega
      rw [e]
      simp [IntKind.wrap, IntKind.bits, IntKind.signed]; omega
    have hu : IsU64 m := by unfold IsU64; omega
    have he : textI (-(m : Int)) = 45 :: decI m := by unfold textI; rw [if_pos hn]; simp
    rw [he]
    have hl := decI_le m
    have hs : (strOfNums (digI 20 m [])).size ≤ 20 := by rw [decI_data, mk_size]; exact hl
    have hn2 : -(m : Int) < 0 := hn
    clear he h0 h1
    go_enter Tryz.func181, Tryz.ntmps181
    go_wp2_with fail
    refine (digits_any m _ hu).mono ?_; rintro e w1 ⟨rfl, hb⟩
    go_wp2
    go_ret
    refine ⟨?_, hb⟩
    rfl
  · obtain ⟨m, rfl⟩ : ∃ m : Nat, n = m := ⟨n.toNat, by omega⟩
    have hw : IntKind.u64.wrap (m : Int) = (m : Int) := IntWalk.u64_in _ (by omega)
    have hu : IsU64 m := by unfold IsU64; omega
    have he : textI m = decI m := by unfold textI; rw [if_neg hn]; simp
    rw [he]
    clear he h0 h1
    go_enter Tryz.func181, Tryz.ntmps181
    go_wp2_with (go_at_call 249; refine (digits_any m _ hu).mono ?_; rintro e w' ⟨rfl, hb⟩)
    go_ret
    exact ⟨rfl, hb⟩
end Go.Proofs.YtgelbkgkjkeccaaGreatDoor
