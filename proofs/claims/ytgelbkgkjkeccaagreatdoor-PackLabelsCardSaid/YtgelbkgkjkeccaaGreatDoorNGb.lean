/- The number that bytes begin with: num.Take is the plain function takeN. The reader of package wire: what lies at a reader's block; the walks of its calls: each is a plain function on the bytes left and the first error. The reader's Big, Num and Text: the plain functions bigP, numP and textP. -/
import Derived.Test.YtgelbkgkjkeccaaGreatDoorNGa
import Derived.Laws.BitsAllLaws
import Derived.Test.YtgelbkgkjkeccaaGreatDoorP
namespace Go.Proofs.YtgelbkgkjkeccaaGreatDoor
open Go.RowKit

theorem or_sum (m c k : Nat) (hm : m < 128 ^ k) (hc : c * 128 ^ k < 18446744073709551616) (hm2 : m < 18446744073709551616) :
    Go.bits .or .u64 (m : Int) (IntKind.u64.wrap ((c : Int) * 2 ^ (7 * k))) = ((m + c * 128 ^ k : Nat) : Int) := by
  have e : (2 : Nat) ^ (7 * k) = 128 ^ k := by rw [Nat.pow_mul]
  have e2 : (c : Int) * 2 ^ (7 * k) = ((c * 2 ^ (7 * k) : Nat) : Int) := by push_cast; rfl
  rw [e2, IntWalk.u64_in _ (by rw [e]; omega), u64_or_nat m _ hm2 (by rw [e]; exact hc)]
  congr 1
  have h := Nat.shiftLeft_add_eq_or_of_lt (a := c) (i := 7 * k) (b := m) (by rw [e]; exact hm)
  rw [Nat.shiftLeft_eq] at h
  rw [Nat.or_comm, ← h, e, Nat.add_comm]
theorem takeG_end (l : List UInt8) (k m : Nat) (h : l = [] ∨ 10 ≤ k) : takeG l k m = (0, 0) := by
  cases l with
  | nil => rfl
  | cons b r =>
    rcases h with h | h
    · cases h
    · unfold takeG; rw [if_pos h]
theorem takeG_big (b : UInt8) (r : List UInt8) (m : Nat) (h : 1 < b.toNat) : takeG (b :: r) 9 m = (0, 0) := by
  unfold takeG; rw [if_neg (by omega), if_pos ⟨rfl, h⟩]
theorem takeG_more (b : UInt8) (r : List UInt8) (k m : Nat) (h : k < 10) (h9 : ¬ (k = 9 ∧ 1 < b.toNat)) (h128 : ¬ b.toNat < 128) : takeG (b :: r) k m = takeG r (k + 1) (m + b.toNat % 128 * 128 ^ k) := by
  rw [takeG, if_neg (by omega), if_neg h9, if_neg h128]
theorem takeG_zero (b : UInt8) (r : List UInt8) (k m : Nat) (h : k < 10) (h9 : ¬ (k = 9 ∧ 1 < b.toNat)) (h128 : b.toNat < 128) (h0 : b.toNat = 0 ∧ 0 < k) : takeG (b :: r) k m = (0, 0) := by
  rw [takeG, if_neg (by omega), if_neg h9, if_pos h128, if_pos h0]
theorem takeG_last (b : UInt8) (r : List UInt8) (k m : Nat) (h : k < 10) (h9 : ¬ (k = 9 ∧ 1 < b.toNat)) (h128 : b.toNat < 128) (h0 : ¬ (b.toNat = 0 ∧ 0 < k)) : takeG (b :: r) k m = (m + b.toNat % 128 * 128 ^ k, k + 1) := by
  rw [takeG, if_neg (by omega), if_neg h9, if_pos h128, if_neg h0]
theorem pow128 (k : Nat) (h : k ≤ 9) : 128 ^ k ≤ 9223372036854775808 := by
  have h1 : 128 ^ k ≤ 128 ^ 9 := Nat.pow_le_pow_right (by omega) h
  have h2 : 128 ^ 9 = 9223372036854775808 := by decide
  omega
theorem pow128s (k : Nat) (h : k ≤ 8) : 128 ^ k ≤ 72057594037927936 := by
  have h1 : 128 ^ k ≤ 128 ^ 8 := Nat.pow_le_pow_right (by omega) h
  have h2 : 128 ^ 8 = 72057594037927936 := by decide
  omega
theorem group_fits (b k : Nat) (hk : k < 10) (hb : b < 256) (h9 : ¬ (k = 9 ∧ 1 < b)) : b % 128 * 128 ^ k < 18446744073709551616 := by
  by_cases h : k = 9
  · subst h
    have : b ≤ 1 := by omega
    have h2 : 128 ^ 9 = 9223372036854775808 := by decide
    rw [h2]
    have : b % 128 ≤ 1 := by omega
    omega
  · have := pow128s k (by omega)
    have h3 : b % 128 * 128 ^ k ≤ 127 * 128 ^ k := Nat.mul_le_mul_right _ (by omega)
    omega
set_option maxHeartbeats 2000000 in
set_option maxRecDepth 100000 in
theorem Take_any (s : ByteArray) (w : World) :
    Calls Tryz.prog 253 #[.string s] w fun e w' => e = .returned (.tuple #[.int .u64 ((takeN s.data.toList).1 : Nat), .int .i64 ((takeN s.data.toList).2 : Nat)]) ∧ w = w' := by
  go_enter Tryz.func253, Tryz.ntmps253
  go_wp2
  go_loop [2, 4] (fun n i => ∃ k m : Nat, k ≤ s.size ∧ k ≤ 10 ∧ i = .int .i64 k ∧ n = .int .u64 m ∧ m < 128 ^ k ∧ m < 18446744073709551616 ∧ takeG (s.data.toList.drop k) k m = takeN s.data.toList) (fun _ i => 10 - (intOf i).toNat)
  case atStart => exact ⟨0, 0, Nat.zero_le _, Nat.zero_le _, rfl, rfl, by decide, by decide, rfl⟩
  case round =>
    obtain ⟨k, m, hk, hk10, rfl, rfl, hm, hm2, he⟩ := hrel
    have HE := Lib.hid he
    have HM := Lib.hid hm
    clear he hm
    by_cases hlt : k < s.size ∧ k < 10
    · obtain ⟨h1, h2⟩ := hlt
      have h1b : decide (k < s.size) = true := by simpa using h1
      have h2b : decide ((k : Int) < 10) = true := by simp; omega
      have hb := (s[k]).toNat_lt
      have HD : Hid (s.data.toList.drop k = s[k] :: s.data.toList.drop (k + 1)) := List.drop_eq_getElem_cons (by rw [← size_len]; exact h1)
      by_cases hA : k = 9 ∧ 1 < (s[k]).toNat
      · have h9 : ((k : Int) == 9) = true := by simp; omega
        have hg : decide ((s[k].toNat : Int) > 1) = true := by simp; omega
        have HV : Hid (takeN s.data.toList = (0, 0)) := Lib.hid (by rw [← HE.out, HD.out]; obtain ⟨rfl, hA⟩ := hA; exact takeG_big _ _ _ hA)
        clear hA
        go_wp2
        go_ret2
        rw [HV.out]
        exact ⟨rfl, rfl⟩
      · have HOR := Lib.hid (or_sum m (s[k].toNat % 128) k HM.out (group_fits _ k h2 hb hA) hm2)
        have hor2 : Go.bits .or .u64 (m : Int) (IntKind.u64.wrap ((s[k].toNat : Int) % 128 * 2 ^ (7 * k))) = ((m + s[k].toNat % 128 * 128 ^ k : Nat) : Int) := HOR.out
        have HOR2 := Lib.hid hor2
        have hbound : m + s[k].toNat % 128 * 128 ^ k < 128 ^ (k + 1) := by
          have h1 := HM.out
          have h3 : s[k].toNat % 128 * 128 ^ k ≤ 127 * 128 ^ k := Nat.mul_le_mul_right _ (by omega)
          rw [Nat.pow_succ]
          omega
        have hb64 : m + s[k].toNat % 128 * 128 ^ k < 18446744073709551616 := by
          by_cases h9 : k = 9
          · have h4 : s[k].toNat ≤ 1 := by omega
            have h5 := HM.out
            subst h9
            have h2 : 128 ^ 9 = 9223372036854775808 := by decide
            rw [h2] at h5 ⊢
            have : s[9].toNat % 128 ≤ 1 := by omega
            omega
          · have h5 := pow128 (k + 1) (by omega)
            omega
        have HBD := Lib.hid hbound
        have HB64 := Lib.hid hb64
        clear hbound hb64 hor2 HOR
        by_cases h9 : k = 9
        · have h9b : ((k : Int) == 9) = true := by simp; omega
          have hb1 : s[k].toNat ≤ 1 := by omega
          have hg : decide ((s[k].toNat : Int) > 1) = false := by simp; omega
          have hl : decide ((s[k].toNat : Int) < 128) = true := by simp; omega
          have hk0 : 0 < k := by omega
          by_cases h0 : s[k].toNat = 0
          · have h0b : ((s[k].toNat : Int) == 0) = true := by simp; omega
            have HV : Hid (takeN s.data.toList = (0, 0)) := Lib.hid (by rw [← HE.out, HD.out]; exact takeG_zero _ _ _ _ h2 hA (by omega) ⟨h0, by omega⟩)
            clear hA h0 h9
            go_wp2
            go_ret2
            rw [HV.out]
            exact ⟨rfl, rfl⟩
          · have h0b : ((s[k].toNat : Int) == 0) = false := by simp; omega
            have HV : Hid (takeN s.data.toList = (m + s[k].toNat % 128 * 128 ^ k, k + 1)) := Lib.hid (by rw [← HE.out, HD.out]; exact takeG_last _ _ _ _ h2 hA (by omega) (by omega))
            clear hA h0 h9
            go_wp2
            go_ret2
            rw [HV.out, ← HOR2.out]
            exact ⟨rfl, rfl⟩
        · have h9b : ((k : Int) == 9) = false := by simp; omega
          by_cases hl : s[k].toNat < 128
          · have hlb : decide ((s[k].toNat : Int) < 128) = true := by simp; omega
            by_cases h0 : s[k].toNat = 0
            · have h0b : ((s[k].toNat : Int) == 0) = true := by simp; omega
              by_cases hk0 : 0 < k
              · have hk0b : 0 < k := hk0
                have HV : Hid (takeN s.data.toList = (0, 0)) := Lib.hid (by rw [← HE.out, HD.out]; exact takeG_zero _ _ _ _ h2 hA hl ⟨h0, hk0⟩)
                clear hA h0 h9 hl hk0
                go_wp2
                go_ret2
                rw [HV.out]
                exact ⟨rfl, rfl⟩
              · have hk0b : k ≤ 0 := by omega
                have HV : Hid (takeN s.data.toList = (m + s[k].toNat % 128 * 128 ^ k, k + 1)) := Lib.hid (by rw [← HE.out, HD.out]; exact takeG_last _ _ _ _ h2 hA hl (by omega))
                clear hA h0 h9 hl hk0
                go_wp2
                go_ret2
                rw [HV.out, ← HOR2.out]
                exact ⟨rfl, rfl⟩
            · have h0b : ((s[k].toNat : Int) == 0) = false := by simp; omega
              have HV : Hid (takeN s.data.toList = (m + s[k].toNat % 128 * 128 ^ k, k + 1)) := Lib.hid (by rw [← HE.out, HD.out]; exact takeG_last _ _ _ _ h2 hA hl (by omega))
              clear hA h0 h9 hl
              go_wp2
              go_ret2
              rw [HV.out, ← HOR2.out]
              exact ⟨rfl, rfl⟩
          · have hlb : decide ((s[k].toNat : Int) < 128) = false := by simp; omega
            have HV : Hid (takeG (s.data.toList.drop (k + 1)) (k + 1) (m + s[k].toNat % 128 * 128 ^ k) = takeN s.data.toList) := Lib.hid (by rw [← HE.out, HD.out]; exact (takeG_more _ _ _ _ h2 hA hl).symm)
            clear hA h9 hl
            go_wp2
            refine ⟨⟨k + 1, _, h1, by omega, by go_num, by rw [HOR2.out], HBD.out, HB64.out, HV.out⟩, by simp [intOf]; omega⟩
    · have HV : Hid (takeN s.data.toList = (0, 0)) := Lib.hid (by
        rw [← HE.out]
        exact takeG_end _ _ _ (by
          by_cases h : k < 10
          · exact .inl (List.drop_of_length_le (by rw [← size_len]; omega))
          · exact .inr (by omega)))
      by_cases h1 : k < s.size
      · have h1b : decide (k < s.size) = true := by simpa using h1
        have h2b : decide ((k : Int) < 10) = false := by simp; omega
        clear hlt
        go_wp2
        go_ret2
        rw [HV.out]
        exact ⟨rfl, rfl⟩
      · have h1b : decide (k < s.size) = false := by simpa using h1
        clear hlt
        go_wp2
        go_ret2
        rw [HV.out]
        exact ⟨rfl, rfl⟩
end Go.Proofs.YtgelbkgkjkeccaaGreatDoor
namespace Go.Proofs.YtgelbkgkjkeccaaGreatDoor
open Go.RowKit

theorem ba_size_of (l : List UInt8) : (baOf l).size = l.length := by show l.toArray.size = _; simp
theorem ba_toList (l : List UInt8) : (baOf l).data.toList = l := rfl
theorem ba_drop (l : List UInt8) (n : Nat) : (baOf l).extract n (baOf l).size = baOf (l.drop n) := by
  apply ByteArray.ext
  apply Array.ext'
  rw [ByteArray.data_extract, Array.toList_extract, ba_toList, ba_toList, ba_size_of]
  simp
  exact List.take_of_length_le (by simp)
theorem ba_take (l : List UInt8) (n : Nat) : (baOf l).extract 0 n = baOf (l.take n) := by
  apply ByteArray.ext
  apply Array.ext'
  rw [ByteArray.data_extract, Array.toList_extract, ba_toList, ba_toList]
  simp
theorem ba_get (l : List UInt8) (k : Nat) (h : k < (baOf l).size) : (baOf l)[k] = l[k]'(by rw [← ba_size_of]; exact h) := rfl

/-- The reader at block p. -/
def RdAt (p : Nat) (w : World) (r : RS) : Prop := w.heap[p]? = some (.cells #[.string (baOf r.l), .int .i64 r.c] 202 (0, 0))
theorem RdAt.lt {p : Nat} {w : World} {r : RS} (h : RdAt p w r) : p < w.heap.size := (Array.getElem?_eq_some_iff.1 h).1
theorem RdAt.keptBelow {p : Nat} {w w' : World} {r : RS} (h : RdAt p w r) (hb : Below w.heap.size w w') : RdAt p w' r := (hb.block p h.lt).trans h
theorem RdAt.c0 {p : Nat} {w : World} {r : RS} (h : RdAt p w r) : w.cell? ⟨p, 0, none⟩ = some (.string (baOf r.l)) := by
  unfold RdAt at h
  simp [World.cell?, h]
theorem RdAt.c1 {p : Nat} {w : World} {r : RS} (h : RdAt p w r) : w.cell? ⟨p, 1, none⟩ = some (.int .i64 r.c) := by
  unfold RdAt at h
  simp [World.cell?, h]
theorem RdAt.f {p : Nat} {w : World} {r : RS} (h : RdAt p w r) (o : Nat) : w.frozen? ⟨p, o, none⟩ = false := by
  unfold RdAt at h
  simp [World.frozen?, h]
theorem RdAt.set0 {p : Nat} {w : World} {r : RS} (h : RdAt p w r) (l : List UInt8) : RdAt p (w.setCell ⟨p, 0, none⟩ (.string (baOf l))) ⟨l, r.c⟩ := setCell_atn _ _ _ _ _ _ h
theorem RdAt.set1 {p : Nat} {w : World} {r : RS} (h : RdAt p w r) (c : Int) : RdAt p (w.setCell ⟨p, 1, none⟩ (.int .i64 c)) ⟨r.l, c⟩ := setCell_atn _ _ _ _ _ _ h
/-- The reader's block alone is written, and no new one made. -/
def KeptS (p : Nat) (w w' : World) : Prop := Kept (· = p) w w' ∧ w'.heap.size = w.heap.size
theorem KeptS.refl (p : Nat) (w : World) : KeptS p w w := ⟨Kept.refl _ w, rfl⟩
theorem keptS_set (w : World) (p o : Nat) (x : Value) : KeptS p w (w.setCell ⟨p, o, none⟩ x) := ⟨kept_set w p o x, setCell_size _ _ _⟩
theorem keptS_thru {p : Nat} {w w1 w2 : World} (h : KeptS p w w1) (k : KeptS p w1 w2) : KeptS p w w2 := ⟨kept_thru h.1 k.1, k.2.trans h.2⟩
/-- What a reader's call leaves. -/
def RdPost (p : Nat) (w : World) (r : RS) (v : Value) (e : Ending) (w' : World) : Prop := e = .returned v ∧ RdAt p w' r ∧ KeptS p w w'
/-- Beside a block that was just made. -/
theorem RdPost.alloc {P : Program} {f : FuncId} {args : Array Value} {p : Nat} {r r' : RS} {v : Value} (h : ∀ w, RdAt p w r → Calls P f args w (RdPost p w r' v)) (X : World) (Z : Obj) (hX : RdAt p X r) :
    Calls P f args (X.alloc Z) fun e w' => e = .returned v ∧ ∃ X', w' = X'.alloc Z ∧ RdAt p X' r' ∧ KeptS p X X' := by
  have hp := hX.lt
  refine (h (X.alloc Z) (hX.keptBelow ((Below.refl _ _).alloc (Nat.le_refl _) _))).mono ?_
  rintro e w' ⟨rfl, h1, k1, hz⟩
  have hz' : w'.heap.size = X.heap.size + 1 := by rw [hz]; simp
  have hl : w'.heap[X.heap.size]? = some Z := (k1.block X.heap.size (by simp) (by omega)).trans (heap_alloc_new X Z)
  have hpop : w' = ({ w' with heap := w'.heap.pop } : World).alloc Z := by
    have e1 : w'.heap.pop.push Z = w'.heap := by
      apply Array.ext_getElem?
      intro i
      rw [Array.getElem?_push]
      simp only [Array.size_pop, hz', Nat.add_sub_cancel]
      by_cases hi : i = X.heap.size
      · subst hi; rw [if_pos rfl, hl]
      · rw [if_neg hi]
        by_cases hi2 : i < X.heap.size
        · simp [hz', hi2]
        · rw [Array.getElem?_eq_none (by simp [hz']; omega), Array.getElem?_eq_none (by omega)]
    show w' = { w' with heap := w'.heap.pop.push Z }
    rw [e1]
  have hblk : ∀ i, i < X.heap.size → w'.heap.pop[i]? = w'.heap[i]? := fun i hi => by simp [hz', hi]
  refine ⟨rfl, _, hpop, (hblk p hp).trans h1, ⟨k1.os, k1.tape, k1.output, by simp [hz'], fun i hi hne => ?_⟩, by simp [hz']⟩
  show w'.heap.pop[i]? = _
  rw [hblk i hi, k1.block i (by simp; omega) hne]
  exact Below.heap_alloc _ _ _ (by omega)
def failR (c : Int) (r : RS) : RS := if r.c = 0 then ⟨r.l, c⟩ else r

set_option maxHeartbeats 1000000 in
theorem rfail_any (p : Nat) (w : World) (r : RS) (c : Int) (h : RdAt p w r) : Calls Tryz.prog 135 #[.pointer (some ⟨p, 1, none⟩), .int .i64 c] w (RdPost p w (failR c r) (.tuple #[])) := by
  have c1 := h.c1
  have f1 := h.f 1
  have HH := Lib.hid h
  clear h
  by_cases hc : r.c = 0
  · have hc1 : (r.c == 0) = true := by simp [hc]
    have HE : Hid (failR c r = ⟨r.l, c⟩) := Lib.hid (by unfold failR; rw [if_pos hc])
    clear hc
    go_enter Tryz.func135, Tryz.ntmps135
    go_wp2
    go_end0
    rw [HE.out]
    exact ⟨rfl, HH.out.set1 c, keptS_set _ _ _ _⟩
  · have hc1 : (r.c == 0) = false := by simp [hc]
    have HE : Hid (failR c r = r) := Lib.hid (by unfold failR; rw [if_neg hc])
    clear hc
    go_enter Tryz.func135, Tryz.ntmps135
    go_wp2
    go_end0
    rw [HE.out]
    exact ⟨rfl, HH.out, KeptS.refl _ _⟩
set_option maxHeartbeats 1000000 in
theorem Read_any (s : ByteArray) (w : World) : Calls Tryz.prog 49 #[.string s] w fun e w' => e = .returned (.pointer (some ⟨w.heap.size, 0, none⟩)) ∧ w' = w.alloc (.cells #[.string s, .int .i64 0] 202) := by
  go_enter Tryz.func49, Tryz.ntmps49
  go_wp2
  go_ret
  exact ⟨rfl, rfl⟩
theorem RdAt.new (w : World) (s : ByteArray) : RdAt w.heap.size (w.alloc (.cells #[.string s, .int .i64 0] 202)) ⟨s.data.toList, 0⟩ := heap_alloc_new _ _
set_option maxHeartbeats 1000000 in
theorem rcode_any (p : Nat) (w : World) (r : RS) (h : RdAt p w r) : Calls Tryz.prog 55 #[.pointer (some ⟨p, 0, none⟩)] w fun e w' => e = .returned (.int .i64 r.c) ∧ w = w' := by
  have c1 := h.c1
  clear h
  go_enter Tryz.func55, Tryz.ntmps55
  go_wp2
  go_ret
  exact ⟨rfl, rfl⟩
set_option maxHeartbeats 1000000 in
theorem rleft_any (p : Nat) (w : World) (r : RS) (h : RdAt p w r) : Calls Tryz.prog 56 #[.pointer (some ⟨p, 0, none⟩)] w fun e w' => e = .returned (.int .i64 (r.l.length : Nat)) ∧ w = w' := by
  have c0 := h.c0
  have HZ := Lib.hid (ba_size_of r.l)
  clear h
  go_enter Tryz.func56, Tryz.ntmps56
  go_wp2
  go_ret
  rw [← HZ.out]
  exact ⟨rfl, rfl⟩
/-- At the end. -/
def endR (r : RS) : RS := if 0 < r.l.length then failR 3 r else r
set_option maxHeartbeats 1000000 in
theorem rend_any (p : Nat) (w : World) (r : RS) (h : RdAt p w r) : Calls Tryz.prog 146 #[.pointer (some ⟨p, 0, none⟩)] w (RdPost p w (endR r) (.int .i64 (endR r).c)) := by
  have c0 := h.c0
  have HZ := Lib.hid (ba_size_of r.l)
  have HH := Lib.hid h
  clear h
  by_cases hc : 0 < r.l.length
  · have hc1 : 0 < (baOf r.l).size := by rw [HZ.out]; exact hc
    have HE : Hid (endR r = failR 3 r) := Lib.hid (by unfold endR; rw [if_pos hc])
    clear hc
    go_enter Tryz.func146, Tryz.ntmps146
    go_wp2_with (go_at_call 135; refine (rfail_any p w r 3 HH.out).mono ?_; rintro e w1 ⟨rfl, h1, k1⟩; have g1 := h1.c1)
    go_ret
    rw [HE.out]
    exact ⟨rfl, h1, k1⟩
  · have hc1 : (baOf r.l).size ≤ 0 := by rw [HZ.out]; omega
    have HE : Hid (endR r = r) := Lib.hid (by unfold endR; rw [if_neg hc])
    have c1 := HH.out.c1
    clear hc
    go_enter Tryz.func146, Tryz.ntmps146
    go_wp2
    go_ret
    rw [HE.out]
    exact ⟨rfl, HH.out, KeptS.refl _ _⟩
theorem lacks_some {l : List UInt8} {k : Nat} (hk : k < l.length) (h10 : k < 10) (h : l[k].toNat < 128) : lacksB l = false := by
  unfold lacksB
  have : ((l.take 10).all fun b => decide (128 ≤ b.toNat)) = false := by
    rw [List.all_eq_false]
    refine ⟨l[k], ?_, by simp; omega⟩
    rw [List.mem_take_iff_getElem]
    exact ⟨k, by omega, rfl⟩
  rw [this, Bool.and_false]
theorem lacks_none {l : List UInt8} (h : ∀ k (hk : k < l.length), k < 10 → 128 ≤ l[k].toNat) : lacksB l = decide (l.length < 10) := by
  unfold lacksB
  have : ((l.take 10).all fun b => decide (128 ≤ b.toNat)) = true := by
    rw [List.all_eq_true]
    intro b hb
    rw [List.mem_take_iff_getElem] at hb
    obtain ⟨k, hk, rfl⟩ := hb
    simpa using h k (by omega) (by omega)
  rw [this, Bool.and_true]
set_option maxHeartbeats 1000000 in
set_option maxRecDepth 100000 in
theorem rlacks_any (p : Nat) (w : World) (r : RS) (h : RdAt p w r) (hl : r.l.length ≤ 1000000) : Calls Tryz.prog 252 #[.pointer (some ⟨p, 0, none⟩)] w fun e w' => e = .returned (.bool (lacksB r.l)) ∧ w = w' := by
  obtain ⟨l, c⟩ := r
  have c0 : w.cell? ⟨p, 0, none⟩ = some (.string (baOf l)) := h.c0
  have hl : l.length ≤ 1000000 := hl
  have HZ := Lib.hid (ba_size_of l)
  show Calls Tryz.prog 252 _ w fun e w' => e = .returned (.bool (lacksB l)) ∧ w = w'
  clear h
  obtain ⟨n, hn⟩ : ∃ n : Nat, n = min l.length 10 := ⟨_, rfl⟩
  have hsz : (baOf l).size ≤ 1000000 := by rw [HZ.out]; exact hl
  have hmin : min ((baOf l).size : Int) 10 = n := by rw [HZ.out, hn]; omega
  have hn1 : n ≤ 10 := by omega
  have hn2 : n ≤ l.length := by omega
  have HN0 : Hid (∀ j, j < l.length → j < 10 → j < n) := Lib.hid (fun j h1 h2 => by omega)
  clear hn
  go_enter Tryz.func252, Tryz.ntmps252
  go_wp2
  go_loop [10] (fun i => ∃ k : Nat, k ≤ n ∧ i = .int .i64 k ∧ ∀ j (hj : j < l.length), j < k → 128 ≤ l[j].toNat) (fun i => n - (intOf i).toNat)
  case atStart => exact ⟨0, Nat.zero_le _, rfl, fun j _ h => by omega⟩
  case round =>
    obtain ⟨k, hk, rfl, hr⟩ := hrel
    have HR := Lib.hid hr
    clear hr
    by_cases hlt : k < n
    · have hkl : k < l.length := by omega
      have hks : k < (baOf l).size := by rw [HZ.out]; exact hkl
      have HG := Lib.hid (ba_get l k hks)
      by_cases h128 : l[k].toNat < 128
      · have hb : decide (((baOf l)[k].toNat : Int) < 128) = true := by rw [HG.out]; simp; omega
        have HV := Lib.hid (lacks_some hkl (by omega) h128)
        clear h128
        go_wp2
        go_ret
        rw [HV.out]
        exact ⟨rfl, rfl⟩
      · have hb : decide (((baOf l)[k].toNat : Int) < 128) = false := by rw [HG.out]; simp; omega
        have HN : Hid (∀ j (hj : j < l.length), j < k + 1 → 128 ≤ l[j].toNat) := Lib.hid (fun j hj h => by
          rcases Nat.lt_or_ge j k with h1 | h1
          · exact HR.out j hj h1
          · have : j = k := by omega
            subst this
            omega)
        clear h128
        go_wp2
        go_round
        case rel => exact ⟨k + 1, hlt, by go_num, HN.out⟩
        case measure => simp [intOf]; omega
    · have hkn : k = n := by omega
      have hle : n ≤ k := by omega
      by_cases h10 : l.length < 10
      · have hd : decide (((baOf l).size : Int) < 10) = true := by rw [HZ.out]; simp; omega
        have HV : Hid (lacksB l = true) := Lib.hid (by rw [lacks_none fun j hj h => HR.out j hj (by have := HN0.out j hj h; omega)]; simpa using h10)
        clear hkn h10 hlt
        go_wp2
        go_ret
        rw [HV.out]
        exact ⟨rfl, rfl⟩
      · have hd : decide (((baOf l).size : Int) < 10) = false := by rw [HZ.out]; simp; omega
        have HV : Hid (lacksB l = false) := Lib.hid (by rw [lacks_none fun j hj h => HR.out j hj (by have := HN0.out j hj h; omega)]; simpa using h10)
        clear hkn h10 hlt
        go_wp2
        go_ret
        rw [HV.out]
        exact ⟨rfl, rfl⟩
end Go.Proofs.YtgelbkgkjkeccaaGreatDoor
namespace Go.Proofs.YtgelbkgkjkeccaaGreatDoor
open Go.RowKit

theorem takeN_le (l : List UInt8) : (takeN l).2 ≤ l.length ∧ (0 < (takeN l).2 → (takeN l).1 < 18446744073709551616) := by
  rcases Nat.eq_zero_or_pos (takeN l).2 with h | h
  · exact ⟨by omega, fun h2 => by omega⟩
  · obtain ⟨r, h1, h2, h3⟩ := putN_take (l := l) (n := (takeN l).1) (j := (takeN l).2) rfl h
    refine ⟨?_, fun _ => h3⟩
    rw [h2]
    conv => rhs; rw [h1]
    simp
theorem RdPost.kept {p : Nat} {w w1 : World} {r : RS} {v : Value} {e : Ending} {w' : World} (h : RdPost p w1 r v e w') (hk : KeptS p w w1) : RdPost p w r v e w' := ⟨h.1, h.2.1, keptS_thru hk h.2.2⟩
set_option maxHeartbeats 2000000 in
set_option maxRecDepth 100000 in
theorem rbig_any (p : Nat) (w : World) (r : RS) (h : RdAt p w r) (hl : r.l.length ≤ 1000000) : Calls Tryz.prog 191 #[.pointer (some ⟨p, 0, none⟩)] w (RdPost p w (bigP r).1 (.int .u64 ((bigP r).2 : Nat))) := by
  obtain ⟨l, c⟩ := r
  have hl : l.length ≤ 1000000 := hl
  have c0 : w.cell? ⟨p, 0, none⟩ = some (.string (baOf l)) := h.c0
  have c1 : w.cell? ⟨p, 1, none⟩ = some (.int .i64 c) := h.c1
  have f0 := h.f 0
  have HZ := Lib.hid (ba_size_of l)
  have HH := Lib.hid h
  clear h
  by_cases hc : c = 0
  · subst hc
    cases hlk : lacksB l with
    | true =>
      have HE : Hid (bigP ⟨l, 0⟩ = (⟨l, 40⟩, 0)) := Lib.hid (by unfold bigP; rw [if_neg (by simp), if_pos hlk])
      have HL : Hid (Calls Tryz.prog 252 #[.pointer (some ⟨p, 0, none⟩)] w fun e w' => e = .returned (.bool true) ∧ w = w') := Lib.hid (by have := rlacks_any p w ⟨l, 0⟩ HH.out hl; rw [hlk] at this; exact this)
      have HF : Hid (Calls Tryz.prog 135 #[.pointer (some ⟨p, 1, none⟩), .int .i64 40] w (RdPost p w ⟨l, 40⟩ (.tuple #[]))) := Lib.hid (rfail_any p w ⟨l, 0⟩ 40 HH.out)
      clear hlk
      go_enter Tryz.func191, Tryz.ntmps191
      go_wp2_with (first | (go_at_call 252; refine HL.out.mono ?_; rintro e w1 ⟨rfl, rfl⟩) | (go_at_call 135; refine HF.out.mono ?_; rintro e w2 ⟨rfl, h2, k2⟩))
      go_ret
      rw [HE.out]
      exact ⟨rfl, h2, k2⟩
    | false =>
      have HL : Hid (Calls Tryz.prog 252 #[.pointer (some ⟨p, 0, none⟩)] w fun e w' => e = .returned (.bool false) ∧ w = w') := Lib.hid (by have := rlacks_any p w ⟨l, 0⟩ HH.out hl; rw [hlk] at this; exact this)
      have hle := takeN_le l
      have HT : Hid (Calls Tryz.prog 253 #[.string (baOf l)] w fun e w' => e = .returned (.tuple #[.int .u64 ((takeN l).1 : Nat), .int .i64 ((takeN l).2 : Nat)]) ∧ w = w') := Lib.hid (Take_any (baOf l) w)
      obtain ⟨n, hn⟩ : ∃ n, n = (takeN l).1 := ⟨_, rfl⟩
      obtain ⟨j, hj⟩ : ∃ j, j = (takeN l).2 := ⟨_, rfl⟩
      rw [← hn, ← hj] at HT hle
      obtain ⟨hle, _⟩ := hle
      by_cases hj0 : j = 0
      · have HE : Hid (bigP ⟨l, 0⟩ = (⟨l, 3⟩, 0)) := Lib.hid (by unfold bigP; rw [if_neg (by simp), if_neg (by rw [hlk]; simp), if_pos (by rw [← hj]; exact hj0)])
        have HF : Hid (Calls Tryz.prog 135 #[.pointer (some ⟨p, 1, none⟩), .int .i64 3] w (RdPost p w ⟨l, 3⟩ (.tuple #[]))) := Lib.hid (rfail_any p w ⟨l, 0⟩ 3 HH.out)
        have hjb : ((j : Int) == 0) = true := by simp; omega
        clear hlk hj hn hj0
        go_enter Tryz.func191, Tryz.ntmps191
        go_wp2_with (first | (go_at_call 252; refine HL.out.mono ?_; rintro e w1 ⟨rfl, rfl⟩) | (go_at_call 253; refine HT.out.mono ?_; rintro e w1 ⟨rfl, rfl⟩) | (go_at_call 135; refine HF.out.mono ?_; rintro e w2 ⟨rfl, h2, k2⟩))
        go_ret
        rw [HE.out]
        exact ⟨rfl, h2, k2⟩
      · have HE : Hid (bigP ⟨l, 0⟩ = (⟨l.drop j, 0⟩, n)) := Lib.hid (by unfold bigP; rw [if_neg (by simp), if_neg (by rw [hlk]; simp), if_neg (by rw [← hj]; exact hj0), ← hj, ← hn])
        have hjb : ((j : Int) == 0) = false := by simp; omega
        have hjs : j ≤ (baOf l).size := by rw [HZ.out]; exact hle
        have hbs : (baOf l).size ≤ 1000000 := by rw [HZ.out]; exact hl
        have HD := Lib.hid (ba_drop l j)
        clear hlk hj hn hj0
        go_enter Tryz.func191, Tryz.ntmps191
        go_wp2_with (first | (go_at_call 252; refine HL.out.mono ?_; rintro e w1 ⟨rfl, rfl⟩) | (go_at_call 253; refine HT.out.mono ?_; rintro e w1 ⟨rfl, rfl⟩))
        go_ret
        rw [HE.out, HD.out]
        exact ⟨rfl, HH.out.set0 (l.drop j), keptS_set _ _ _ _⟩
  · have hcb : (c == 0) = false := by simp [hc]
    have HE : Hid (bigP ⟨l, c⟩ = (⟨l, c⟩, 0)) := Lib.hid (by unfold bigP; rw [if_pos hc])
    clear hc
    go_enter Tryz.func191, Tryz.ntmps191
    go_wp2
    go_ret
    rw [HE.out]
    exact ⟨rfl, HH.out, KeptS.refl _ _⟩
theorem bigP_len (r : RS) : (bigP r).1.l.length ≤ r.l.length := by
  unfold bigP
  split
  · exact Nat.le_refl _
  · split
    · exact Nat.le_refl _
    · split
      · exact Nat.le_refl _
      · simp
theorem bigP_u64 (r : RS) : (bigP r).2 < 18446744073709551616 := by
  unfold bigP
  split
  · exact (show (0 : Nat) < 18446744073709551616 by decide)
  · split
    · exact (show (0 : Nat) < 18446744073709551616 by decide)
    · split
      · exact (show (0 : Nat) < 18446744073709551616 by decide)
      · exact (takeN_le r.l).2 (by omega)
set_option maxHeartbeats 2000000 in
set_option maxRecDepth 100000 in
theorem rnum_any (p : Nat) (w : World) (r : RS) (m : Nat) (hm : m ≤ 4611686018427387904) (h : RdAt p w r) (hl : r.l.length ≤ 1000000) : Calls Tryz.prog 159 #[.pointer (some ⟨p, 0, none⟩), .int .i64 m] w (RdPost p w (numP m r).1 (.int .i64 (numP m r).2)) := by
  obtain ⟨l, c⟩ := r
  have c0 : w.cell? ⟨p, 0, none⟩ = some (.string (baOf l)) := h.c0
  have HB := Lib.hid (rbig_any p w ⟨l, c⟩ h hl)
  have HU := bigP_u64 ⟨l, c⟩
  obtain ⟨q, hq⟩ : ∃ q, q = (bigP ⟨l, c⟩).1 := ⟨_, rfl⟩
  obtain ⟨n, hn⟩ : ∃ n, n = (bigP ⟨l, c⟩).2 := ⟨_, rfl⟩
  have hP : numP m ⟨l, c⟩ = if q.c ≠ 0 then (q, 0) else if m < n then (⟨l, 2⟩, 0) else (q, (n : Int)) := by unfold numP; rw [← hq, ← hn]
  rw [← hq, ← hn] at HB
  rw [← hn] at HU
  clear hq hn h
  by_cases hc : q.c = 0
  · have hcb : (q.c == 0) = true := by simp [hc]
    have hcn : (q.c != 0) = false := by simp [hc]
    have hmx : max (m : Int) 0 = (m : Int) := by omega
    have hw : IntKind.u64.wrap (m : Int) = (m : Int) := IntWalk.u64_in _ (by omega)
    by_cases hmn : m < n
    · have HE : Hid (numP m ⟨l, c⟩ = (⟨l, 2⟩, 0)) := Lib.hid (by rw [hP, if_neg (by simp [hc]), if_pos hmn])
      have hgt : decide ((n : Int) > (m : Int)) = true := by simp; omega
      have HC := Lib.hid hc
      clear hc hP
      go_enter Tryz.func159, Tryz.ntmps159
      go_wp2_with fail
      refine HB.out.mono ?_
      rintro e w1 ⟨rfl, h1, k1⟩
      have g1 : w1.cell? ⟨p, 1, none⟩ = some (.int .i64 q.c) := h1.c1
      have g0 : w1.cell? ⟨p, 0, none⟩ = some (.string (baOf q.l)) := h1.c0
      have f0 := h1.f 0
      have HS := Lib.hid (RdAt.set0 h1 l)
      have HF := Lib.hid (rfail_any p _ _ 2 (RdAt.set0 h1 l))
      have HFE : Hid (failR 2 ⟨l, q.c⟩ = ⟨l, 2⟩) := Lib.hid (by unfold failR; rw [if_pos HC.out])
      rw [HFE.out] at HF
      have K1 := Lib.hid k1
      clear h1 k1
      go_wp2_with (go_at_call 135; refine HF.out.mono ?_; rintro e w2 ⟨rfl, h2, k2⟩; have g2 : w2.cell? ⟨p, 1, none⟩ = some (.int .i64 2) := h2.c1)
      go_ret
      rw [HE.out]
      exact ⟨rfl, h2, keptS_thru (keptS_thru K1.out (keptS_set _ _ _ _)) k2⟩
    · have HE : Hid (numP m ⟨l, c⟩ = (q, (n : Int))) := Lib.hid (by rw [hP, if_neg (by simp [hc]), if_neg hmn])
      have hgt : decide ((n : Int) > (m : Int)) = false := by simp; omega
      have hnm : n ≤ m := by omega
      have hwn : IntKind.i64.wrap (n : Int) = (n : Int) := IntWalk.i64_in _ (by omega)
      clear hc hP
      go_enter Tryz.func159, Tryz.ntmps159
      go_wp2_with fail
      refine HB.out.mono ?_
      rintro e w1 ⟨rfl, h1, k1⟩
      have g1 : w1.cell? ⟨p, 1, none⟩ = some (.int .i64 q.c) := h1.c1
      have H1 := Lib.hid h1
      have K1 := Lib.hid k1
      clear h1 k1
      go_wp2
      go_ret
      rw [HE.out]
      exact ⟨rfl, H1.out, K1.out⟩
  · have hcb : (q.c == 0) = false := by simp [hc]
    have hcn : (q.c != 0) = true := by simp [hc]
    have HE : Hid (numP m ⟨l, c⟩ = (q, 0)) := Lib.hid (by rw [hP, if_pos hc])
    clear hc hP
    go_enter Tryz.func159, Tryz.ntmps159
    go_wp2_with fail
    refine HB.out.mono ?_
    rintro e w1 ⟨rfl, h1, k1⟩
    have g1 : w1.cell? ⟨p, 1, none⟩ = some (.int .i64 q.c) := h1.c1
    have H1 := Lib.hid h1
    have K1 := Lib.hid k1
    clear h1 k1
    go_wp2
    go_ret
    rw [HE.out]
    exact ⟨rfl, H1.out, K1.out⟩
theorem numP_len (m : Nat) (r : RS) : (numP m r).1.l.length ≤ r.l.length := by
  have h := bigP_len r
  unfold numP
  split
  · exact h
  · split
    · exact Nat.le_refl _
    · exact h
theorem numP_in (m : Nat) (r : RS) : 0 ≤ (numP m r).2 ∧ (numP m r).2 ≤ m := by
  unfold numP
  split
  · exact ⟨Int.le_refl _, by omega⟩
  · split
    · exact ⟨Int.le_refl _, by omega⟩
    · exact ⟨by omega, by omega⟩
set_option maxHeartbeats 2000000 in
set_option maxRecDepth 100000 in
theorem rtext_any (p : Nat) (w : World) (r : RS) (m : Nat) (hm : m ≤ 4611686018427387904) (h : RdAt p w r) (hl : r.l.length ≤ 1000000) : Calls Tryz.prog 153 #[.pointer (some ⟨p, 0, none⟩), .int .i64 m] w (RdPost p w (textP m r).1 (.string (textP m r).2)) := by
  have HB := Lib.hid (rnum_any p w r m hm h hl)
  have hlen := numP_len m r
  have hin := numP_in m r
  have herr := numP_err (m := m) (s := r)
  obtain ⟨q, hq⟩ : ∃ q, q = (numP m r).1 := ⟨_, rfl⟩
  obtain ⟨n, hn⟩ : ∃ n : Nat, (n : Int) = (numP m r).2 := ⟨(numP m r).2.toNat, by omega⟩
  have hP : textP m r = if q.c ≠ 0 then (q, ⟨#[]⟩) else if q.l.length < n then (⟨q.l, 40⟩, ⟨#[]⟩) else (⟨q.l.drop n, 0⟩, ⟨(q.l.take n).toArray⟩) := by
    unfold textP; rw [← hq, ← hn]; rfl
  rw [← hq, ← hn] at HB
  rw [← hq] at hlen
  rw [← hn] at hin
  rw [← hq, ← hn] at herr
  clear hq hn h
  have HZ := Lib.hid (ba_size_of q.l)
  have hbs : (baOf q.l).size ≤ 1000000 := by rw [HZ.out]; omega
  by_cases hc : q.c = 0
  · have hcb : (q.c == 0) = true := by simp [hc]
    have hcn : (q.c != 0) = false := by simp [hc]
    have HC := Lib.hid hc
    by_cases hn : q.l.length < n
    · have HE : Hid (textP m r = (⟨q.l, 40⟩, ⟨#[]⟩)) := Lib.hid (by rw [hP, if_neg (by simp [hc]), if_pos hn])
      have hgt : (baOf q.l).size < n := by rw [HZ.out]; exact hn
      clear hc hP hn herr
      go_enter Tryz.func153, Tryz.ntmps153
      go_wp2_with fail
      refine HB.out.mono ?_
      rintro e w1 ⟨rfl, h1, k1⟩
      have g0 : w1.cell? ⟨p, 0, none⟩ = some (.string (baOf q.l)) := h1.c0
      have HF := Lib.hid (rfail_any p _ _ 40 h1)
      have HFE : Hid (failR 40 q = ⟨q.l, 40⟩) := Lib.hid (by unfold failR; rw [if_pos HC.out])
      rw [HFE.out] at HF
      have K1 := Lib.hid k1
      clear h1 k1
      go_wp2_with (go_at_call 135; refine HF.out.mono ?_; rintro e w2 ⟨rfl, h2, k2⟩; have g2 : w2.cell? ⟨p, 1, none⟩ = some (.int .i64 40) := h2.c1)
      go_ret
      rw [HE.out]
      exact ⟨rfl, h2, keptS_thru K1.out k2⟩
    · have HE : Hid (textP m r = (⟨q.l.drop n, 0⟩, baOf (q.l.take n))) := Lib.hid (by rw [hP, if_neg (by simp [hc]), if_neg hn]; rfl)
      have hgt : n ≤ (baOf q.l).size := by rw [HZ.out]; omega
      have HD := Lib.hid (ba_drop q.l n)
      have HT := Lib.hid (ba_take q.l n)
      clear hc hP hn herr
      go_enter Tryz.func153, Tryz.ntmps153
      go_wp2_with fail
      refine HB.out.mono ?_
      rintro e w1 ⟨rfl, h1, k1⟩
      have g0 : w1.cell? ⟨p, 0, none⟩ = some (.string (baOf q.l)) := h1.c0
      have g1 : w1.cell? ⟨p, 1, none⟩ = some (.int .i64 q.c) := h1.c1
      have f0 := h1.f 0
      have HS := Lib.hid (RdAt.set0 h1 (q.l.drop n))
      have K1 := Lib.hid k1
      clear h1 k1
      go_wp2
      go_ret
      rw [HE.out, HD.out]
      refine ⟨?_, by have := HS.out; rw [HC.out] at this; exact this, keptS_thru K1.out (keptS_set _ _ _ _)⟩
      rw [← HT.out]
      rfl
  · have hcb : (q.c == 0) = false := by simp [hc]
    have hcn : (q.c != 0) = true := by simp [hc]
    have hn0 : n = 0 := by have := herr hc; omega
    subst hn0
    have HE : Hid (textP m r = (q, ⟨#[]⟩)) := Lib.hid (by rw [hP, if_pos hc])
    clear hc hP herr
    go_enter Tryz.func153, Tryz.ntmps153
    go_wp2_with fail
    refine HB.out.mono ?_
    rintro e w1 ⟨rfl, h1, k1⟩
    have g0 : w1.cell? ⟨p, 0, none⟩ = some (.string (baOf q.l)) := h1.c0
    have g1 : w1.cell? ⟨p, 1, none⟩ = some (.int .i64 q.c) := h1.c1
    have H1 := Lib.hid h1
    have K1 := Lib.hid k1
    clear h1 k1
    go_wp2
    go_ret
    rw [HE.out]
    exact ⟨rfl, H1.out, K1.out⟩
end Go.Proofs.YtgelbkgkjkeccaaGreatDoor
