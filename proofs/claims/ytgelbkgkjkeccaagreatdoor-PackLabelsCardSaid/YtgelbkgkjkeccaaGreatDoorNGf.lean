/- The number that bytes begin with, as the reference finds it: the same as takeN. The walk of the reference's Take. The reference's reader: Fail, Big, Num, Text; Bytes and number: plain functions failR, bigP, numP, textP, encT, encI. The reference's Big: the plain function bigP. The reference's Num and Text: the plain functions numP, textP; its Bytes and number: encT, encI. The reference's Text: the plain function textP; its Bytes and number: encT, encI. The reference's Labels: encL encLab. The reference's TakeLabels: the plain function labsR. Law 07: PackLabels. -/
import Derived.Test.YtgelbkgkjkeccaaGreatDoorNGb
import Derived.Test.YtgelbkgkjkeccaaGreatDoorNGe
namespace Go.Proofs.YtgelbkgkjkeccaaGreatDoor
open Go.RowKit

/-- Sevens of bits, the last byte's first, in 64 bits. -/
def digs : List UInt8 → Nat
  | [] => 0
  | b :: r => (digs r * 128 + b.toNat % 128) % 18446744073709551616
theorem digs_lt (l : List UInt8) : digs l < 18446744073709551616 := by
  cases l with
  | nil => decide
  | cons b r => exact Nat.mod_lt _ (by decide)
theorem digs_put (f : Nat) : ∀ m, m < 2 * 128 ^ f → m < 18446744073709551616 → digs (putF f m) = m := by
  induction f with
  | zero =>
    intro m hm _
    have hm2 : m < 2 := by simpa using hm
    simp only [putF, digs]
    rw [u8_of m (by omega)]
    omega
  | succ f ih =>
    intro m hm h64
    simp only [putF]
    by_cases h : m < 128
    · rw [if_pos h]
      simp only [digs]
      rw [u8_of m (by omega)]
      omega
    · rw [if_neg h]
      have hm' : m / 128 < 2 * 128 ^ f := by
        rw [Nat.pow_succ] at hm
        exact Nat.div_lt_of_lt_mul (by rw [Nat.mul_comm]; rw [Nat.mul_assoc]; exact hm)
      simp only [digs]
      rw [ih _ hm' (by omega), u8_of _ (by omega)]
      omega
theorem digs_putN {m : Nat} (h : m < 18446744073709551616) : digs (putN m) = m := by
  have h2 : (2 * 128 ^ 9 : Nat) = 18446744073709551616 := by decide
  exact digs_put 9 m (by rw [h2]; exact h) h
theorem takeG_none : ∀ (l : List UInt8) (i n m j : Nat), takeG l i n = (m, j) → j = 0 → m = 0
  | [], i, n, m, j, h, _ => by cases h; rfl
  | b :: r, i, n, m, j, h, hj => by
    unfold takeG at h
    split at h
    · cases h; rfl
    · split at h
      · cases h; rfl
      · split at h
        · split at h
          · cases h; rfl
          · cases h; omega
        · exact takeG_none r _ _ _ _ h hj
theorem takeN_zero {l : List UInt8} (h : ¬ 0 < (takeN l).2) : takeN l = (0, 0) := by
  obtain ⟨m, j⟩ : ∃ x, x = takeN l := ⟨_, rfl⟩
  cases hx : takeN l with
  | mk m j =>
    rw [hx] at h
    have hj : j = 0 := by simp at h; exact h
    rw [takeG_none l 0 0 m j hx hj, hj]
/-- The first byte below 128 parts the bytes. -/
theorem first_low {h1 h2 : List UInt8} {z1 z2 : UInt8} {r1 r2 : List UInt8} (e : h1 ++ z1 :: r1 = h2 ++ z2 :: r2) (a1 : ∀ b ∈ h1, 128 ≤ b.toNat) (a2 : ∀ b ∈ h2, 128 ≤ b.toNat) (b1 : z1.toNat < 128) (b2 : z2.toNat < 128) : h1 = h2 ∧ z1 = z2 ∧ r1 = r2 := by
  induction h1 generalizing h2 with
  | nil =>
    cases h2 with
    | nil => simpa using e
    | cons x h2 =>
      injection e with e1 e2
      subst e1
      have := a2 z1 (by simp)
      omega
  | cons x h1 ih =>
    cases h2 with
    | nil =>
      injection e with e1 e2
      subst e1
      have := a1 x (by simp)
      omega
    | cons y h2 =>
      injection e with e1 e2
      subst e1
      obtain ⟨p, q, r⟩ := ih e2 (fun b hb => a1 b (by simp [hb])) (fun b hb => a2 b (by simp [hb]))
      exact ⟨by rw [p], q, r⟩
theorem takeN_parts {l : List UInt8} (h : 0 < (takeN l).2) : ∃ hd z r, l = hd ++ z :: r ∧ (∀ b ∈ hd, 128 ≤ b.toNat) ∧ z.toNat < 128 ∧ hd ++ [z] = putN (takeN l).1 ∧ hd.length < 10 ∧ (takeN l).2 = hd.length + 1 ∧ digs (hd ++ [z]) = (takeN l).1 := by
  obtain ⟨r, e, ej, h64⟩ := putN_take (l := l) (n := (takeN l).1) (j := (takeN l).2) rfl h
  obtain ⟨hd, z, ep, hz, hb⟩ := putN_parts (takeN l).1 h64
  have hl := putN_le (takeN l).1
  refine ⟨hd, z, r, ?_, hb, hz, ep.symm, ?_, ?_, ?_⟩
  · rw [ep, List.append_assoc] at e
    exact e
  · rw [ep] at hl
    simp at hl
    omega
  · rw [ej, ep]
    simp
  · rw [← ep]
    exact digs_putN h64
/-- No byte below 128 among the first ten: no number. -/
theorem takeN_none {l : List UInt8} {k : Nat} (hk : ∀ j (hj : j < l.length), j < k → 128 ≤ l[j].toNat) (h : l.length ≤ k ∨ 10 ≤ k) : takeN l = (0, 0) := by
  apply takeN_zero
  intro h0
  obtain ⟨hd, z, r, e, _, hz, _, h10, _, _⟩ := takeN_parts h0
  have hl : hd.length < l.length := by rw [e]; simp
  have h1 := hk hd.length hl (by omega)
  have h2 : l[hd.length] = z := by
    have : l[hd.length]? = some z := by rw [e]; simp
    rw [List.getElem?_eq_getElem hl] at this
    injection this
  rw [h2] at h1
  omega
/-- The first byte below 128 lies at k. -/
theorem takeN_at {l : List UInt8} {k : Nat} (hk : ∀ j (hj : j < l.length), j < k → 128 ≤ l[j].toNat) (hl : k < l.length) (hz : l[k].toNat < 128) :
    takeN l = if putN (digs (l.take (k + 1))) = l.take (k + 1) then (digs (l.take (k + 1)), k + 1) else (0, 0) := by
  have el : l = l.take k ++ l[k] :: l.drop (k + 1) := by
    rw [← List.drop_eq_getElem_cons hl, List.take_append_drop]
  have et : l.take (k + 1) = l.take k ++ [l[k]] := List.take_succ_eq_append_getElem hl
  have hb : ∀ b ∈ l.take k, 128 ≤ b.toNat := by
    intro b hb
    obtain ⟨j, hj, e⟩ := List.getElem_of_mem hb
    have hj2 : j < k := by simp at hj; omega
    rw [← e, List.getElem_take]
    exact hk j (by omega) hj2
  by_cases hc : putN (digs (l.take (k + 1))) = l.take (k + 1)
  · rw [if_pos hc]
    have h1 := takeN_put (digs (l.take (k + 1))) (l.drop (k + 1)) (digs_lt _)
    rw [hc, List.take_append_drop] at h1
    rw [h1]
    congr 1
    rw [List.length_take]
    omega
  · rw [if_neg hc]
    apply takeN_zero
    intro h0
    obtain ⟨hd, z, r, e, hb2, hz2, ep, _, _, ed⟩ := takeN_parts h0
    obtain ⟨p1, p2, p3⟩ := first_low (el.symm.trans e) hb hb2 hz hz2
    apply hc
    rw [et, p1, p2, ed, ep]
theorem wrap_dig (N b : Nat) : IntKind.u64.wrap (IntKind.u64.wrap ((N : Int) * 128) + (b : Int) % 128) = ((N * 128 + b % 128 : Nat) % 18446744073709551616 : Nat) := by
  unfold IntKind.wrap
  simp [IntKind.signed, IntKind.bits]
theorem wrap_dig2 (N b : Nat) (hb : b < 256) : IntKind.u64.wrap (IntKind.u64.wrap ((N : Int) * 128) + (IntKind.u64.wrap (b : Int)).tmod 128) = ((N * 128 + b % 128 : Nat) % 18446744073709551616 : Nat) := by
  rw [IntWalk.u64_in (b : Int) (by omega), Int.tmod_eq_emod_of_nonneg (by omega)]
  exact wrap_dig N b
theorem ba_cut (s : ByteArray) (k : Nat) : s.extract 0 k = baOf (s.data.toList.take k) := by
  obtain ⟨l, rfl⟩ : ∃ l, s = baOf l := by cases s with | mk d => cases d with | mk l => exact ⟨l, rfl⟩
  exact ba_take l k
theorem ba_inj {a b : List UInt8} (h : baOf a = baOf b) : a = b := congrArg (fun x : ByteArray => x.data.toList) h
set_option maxHeartbeats 2000000 in
set_option maxRecDepth 100000 in
theorem refTake_any (s : ByteArray) (w : World) (hs : s.size ≤ 1000000) :
    Calls Tryz.prog 254 #[.string s] w fun e w' => e = .returned (.tuple #[.int .u64 ((takeN s.data.toList).1 : Nat), .int .i64 ((takeN s.data.toList).2 : Nat)]) ∧ Below w.heap.size w w' := by
  go_enter Tryz.func254, Tryz.ntmps254
  go_wp2
  go_loop [4] (fun i => ∃ k : Nat, k ≤ s.size ∧ k ≤ 10 ∧ i = .int .i64 k ∧ ∀ j (hj : j < s.size), j < k → 128 ≤ s[j].toNat) (fun i => 10 - (intOf i).toNat)
  case atStart => exact ⟨0, Nat.zero_le _, Nat.zero_le _, rfl, fun j hj h => by omega⟩
  case round =>
    obtain ⟨k, hk, hk10, rfl, hlow⟩ := hrel
    have HLOW := Lib.hid hlow
    clear hlow
    by_cases h1 : k < s.size
    · have h1b : decide (k < s.size) = true := by simpa using h1
      have h1c : decide (s.size ≤ k) = false := by simpa using h1
      by_cases h2 : k < 10
      · have h2b : decide ((k : Int) < 10) = true := by simp; omega
        have h2c : decide ((10 : Int) ≤ k) = false := by simp; omega
        by_cases hg : 128 ≤ s[k].toNat
        · have hgb : decide ((s[k].toNat : Int) > 127) = true := by simp; omega
          go_wp2
          refine ⟨⟨k + 1, h1, by omega, by go_num, fun j hj h => ?_⟩, by simp [intOf]; omega⟩
          by_cases hjk : j = k
          · subst hjk; exact hg
          · exact HLOW.out j hj (by omega)
        · have hgb : decide ((s[k].toNat : Int) > 127) = false := by simp; omega
          have HT := Lib.hid (takeN_at (l := s.data.toList) (k := k) (fun j hj h => HLOW.out j (by rw [size_len]; exact hj) h) (by rw [← size_len]; exact h1) (by have h9 : s.data.toList[k]'(by rw [← size_len]; exact h1) = s[k] := rfl; rw [h9]; omega))
          obtain ⟨D, hD⟩ : ∃ D, D = s.data.toList.take (k + 1) := ⟨_, rfl⟩
          rw [← hD] at HT
          have hDl : D.length = k + 1 := by rw [hD, List.length_take, ← size_len]; omega
          have HDG : Hid (∀ q (hq : q < k + 1) (hq2 : q < s.size), D.drop q = s[q] :: D.drop (q + 1)) := Lib.hid fun q hq hq2 => by
            rw [List.drop_eq_getElem_cons (by omega)]
            congr 1
            simp only [hD, List.getElem_take]
            rfl
          have HDE : Hid (D.drop (k + 1) = []) := Lib.hid (List.drop_of_length_le (by omega))
          have HD := Lib.hid hD
          have HDL := Lib.hid hDl
          clear hD hDl
          go_wp2_with fail
          go_loop [5, 6] (fun n i => ∃ (j : Nat) (z : Int), j ≤ k + 1 ∧ z = (j : Int) - 1 ∧ i = .int .i64 z ∧ n = .int .u64 (digs (D.drop j) : Nat)) (fun _ i => (intOf i + 1).toNat)
          case atStart => exact ⟨k + 1, k, Nat.le_refl _, by omega, rfl, by rw [HDE.out]; rfl⟩
          case round =>
            obtain ⟨j, z, hj, hz, rfl, rfl⟩ := hrel
            cases j with
            | succ q =>
              have hzq : z = (q : Int) := by omega
              subst hzq
              have hq2 : q < s.size := by omega
              have hW := wrap_dig2 (digs (D.drop (q + 1))) (s[q].toNat) (s[q]).toNat_lt
              have HW : Hid (IntKind.u64.wrap (IntKind.u64.wrap ((digs (D.drop (q + 1)) : Int) * 128) + (IntKind.u64.wrap (s[q].toNat : Int)).tmod 128) = ((digs (D.drop q) : Nat) : Int)) := Lib.hid (by rw [hW, HDG.out q (by omega) hq2]; rfl)
              have hge : decide ((q : Int) ≥ 0) = true := by simp
              clear hW hz
              go_wp2
              exact ⟨⟨q, (q : Int) - 1, by omega, rfl, rfl, by rw [HW.out]⟩, by simp [intOf]⟩
            | zero =>
              have hzq : z = -1 := by omega
              subst hzq
              have HX : Hid (s.extract 0 (k + 1) = baOf D) := Lib.hid (by rw [ba_cut, HD.out])
              have HP := Lib.hid fun W => refPut_any (digs D) W (digs_lt D)
              have hk1 : (k : Int) + 1 ≤ s.size := by omega
              have hk2 : (0 : Int) ≤ (k : Int) + 1 := by omega
              have hk3 : k + 1 ≤ s.size := h1
              have hk8 : IntKind.i64.wrap ((k : Int) + 1) = (k : Int) + 1 := IntWalk.i64_in _ (by omega)
              by_cases hc : putN (digs D) = D
              · have HT2 : Hid (takeN s.data.toList = (digs D, k + 1)) := Lib.hid (by rw [HT.out, if_pos hc])
                have hq1 : ((baOf (putN (digs D))).toList == (s.extract 0 (k + 1)).toList) = true := (Lib.bytes_beq_iff _ _).2 (by rw [HX.out, hc])
                have hq2 : ((baOf (putN (digs D))).toList != (s.extract 0 (k + 1)).toList) = false := by unfold bne; rw [hq1]; rfl
                clear hz hc
                go_wp2_with fail
                go_region_with (go_at_call 165; refine (HP.out _).mono ?_; rintro e w1 ⟨rfl, hb1⟩)
                all_goals
                  go_wp2
                  go_ret2
                  rw [HT2.out]
                  refine ⟨by first | rfl | (push_cast; rfl), ?_⟩
                  first | exact bto0 (bdrew0 _) hb1 | exact hb1
              · have HT2 : Hid (takeN s.data.toList = (0, 0)) := Lib.hid (by rw [HT.out, if_neg hc])
                have hq1 : ((baOf (putN (digs D))).toList == (s.extract 0 (k + 1)).toList) = false := (Lib.bytes_beq_false_iff _ _).2 fun e => hc (ba_inj (e.trans HX.out))
                have hq2 : ((baOf (putN (digs D))).toList != (s.extract 0 (k + 1)).toList) = true := by unfold bne; rw [hq1]; rfl
                clear hz hc
                go_wp2_with fail
                go_region_with (go_at_call 165; refine (HP.out _).mono ?_; rintro e w1 ⟨rfl, hb1⟩)
                all_goals
                  go_wp2
                  go_ret2
                  rw [HT2.out]
                  refine ⟨by first | rfl | (push_cast; rfl), ?_⟩
                  first | exact bto0 (bdrew0 _) hb1 | exact hb1
      · have h2b : decide ((k : Int) < 10) = false := by simp; omega
        have h2c : decide ((10 : Int) ≤ k) = true := by simp; omega
        have HV := Lib.hid (takeN_none (l := s.data.toList) (k := k) (fun j hj h => HLOW.out j (by rw [size_len]; exact hj) h) (.inr (by omega)))
        go_wp2
        go_ret2
        rw [HV.out]
        exact ⟨rfl, Below.refl _ _⟩
    · have h1b : decide (k < s.size) = false := by simpa using h1
      have h1c : decide (s.size ≤ k) = true := by simp; omega
      have HV := Lib.hid (takeN_none (l := s.data.toList) (k := k) (fun j hj h => HLOW.out j (by rw [size_len]; exact hj) h) (.inl (by rw [← size_len]; omega)))
      go_wp2
      go_ret2
      rw [HV.out]
      exact ⟨rfl, Below.refl _ _⟩
end Go.Proofs.YtgelbkgkjkeccaaGreatDoor
namespace Go.Proofs.YtgelbkgkjkeccaaGreatDoor
open Go.RowKit

/-- The reader's value: the whole text, where it stands, its code. -/
def posR (l0 : List UInt8) (r : RS) : Nat := l0.length - r.l.length
abbrev V70 (l0 : List UInt8) (a : Nat) (c : Int) : Value := .agg #[.string (baOf l0), .int .i64 (a : Int), .int .i64 c]
structure Suf (l0 : List UInt8) (r : RS) : Prop where
  le : r.l.length ≤ l0.length
  eq : r.l = l0.drop (posR l0 r)
theorem Suf.pos {l0 : List UInt8} {r : RS} (_ : Suf l0 r) : posR l0 r ≤ l0.length := by unfold posR; omega
theorem Suf.len {l0 : List UInt8} {r : RS} (h : Suf l0 r) : r.l.length = l0.length - posR l0 r := by have := h.le; unfold posR; omega
theorem Suf.drop {l0 : List UInt8} {r : RS} (h : Suf l0 r) (n : Nat) (hn : n ≤ r.l.length) (c : Int) : Suf l0 ⟨r.l.drop n, c⟩ ∧ posR l0 ⟨r.l.drop n, c⟩ = posR l0 r + n := by
  have h1 : (r.l.drop n).length = r.l.length - n := by simp
  have h2 : posR l0 ⟨r.l.drop n, c⟩ = posR l0 r + n := by
    show l0.length - (r.l.drop n).length = _
    have := h.le
    unfold posR
    omega
  refine ⟨⟨?_, ?_⟩, h2⟩
  · show (r.l.drop n).length ≤ _
    have := h.le
    omega
  · rw [h2, ← List.drop_drop, ← h.eq]
theorem Suf.code {l0 : List UInt8} {r : RS} (h : Suf l0 r) (c : Int) : Suf l0 ⟨r.l, c⟩ := ⟨h.le, h.eq⟩
theorem Suf.start (l0 : List UInt8) (c : Int) : Suf l0 ⟨l0, c⟩ ∧ posR l0 ⟨l0, c⟩ = 0 := by
  have h : posR l0 ⟨l0, c⟩ = 0 := Nat.sub_self _
  exact ⟨⟨Nat.le_refl _, by rw [h]; rfl⟩, h⟩
theorem failR_l (c : Int) (r : RS) : (failR c r).l = r.l := by unfold failR; split <;> rfl
theorem Suf.fail {l0 : List UInt8} {r : RS} (h : Suf l0 r) (c : Int) : Suf l0 (failR c r) ∧ posR l0 (failR c r) = posR l0 r := by
  have e : posR l0 (failR c r) = posR l0 r := by unfold posR; rw [failR_l]
  exact ⟨⟨by rw [failR_l]; exact h.le, by rw [failR_l, e]; exact h.eq⟩, e⟩
theorem Suf.big {l0 : List UInt8} {r : RS} (h : Suf l0 r) : Suf l0 (bigP r).1 := by
  unfold bigP
  split
  · exact h
  · split
    · exact h.code _
    · split
      · exact h.code _
      · exact (h.drop _ (takeN_le r.l).1 _).1
theorem Suf.num {l0 : List UInt8} {r : RS} (h : Suf l0 r) (m : Nat) : Suf l0 (numP m r).1 := by
  unfold numP
  split
  · exact h.big
  · split
    · exact h.code _
    · exact h.big
theorem Suf.text {l0 : List UInt8} {r : RS} (h : Suf l0 r) (m : Nat) : Suf l0 (textP m r).1 := by
  have h1 := h.num m
  unfold textP
  split
  · exact h1
  · split
    · exact h1.code _
    · refine (h1.drop _ (by omega) _).1
/-- The contract of the reference's reading functions. -/
def RefPost (l0 : List UInt8) (w : World) (r : RS) (v : Value) (e : Ending) (w' : World) : Prop := e = .returned (.tuple #[V70 l0 (posR l0 r) r.c, v]) ∧ Below w.heap.size w w'
theorem below_set {B : Nat} {w W W' : World} {g : Nat} (h : Below B w W) (k : Kept (· = g) W W') (hg : B ≤ g) (hB : B ≤ W.heap.size) : Below B w W' := belowk0 h k (fun i hi => by have h2 : i = g := hi; omega) hB

set_option maxHeartbeats 2000000 in
set_option maxRecDepth 100000 in
theorem refFail_at (l0 : List UInt8) (a : Nat) (rc c : Int) (w : World) : Calls Tryz.prog 240 #[V70 l0 a rc, .int .i64 c] w fun e w' => e = .returned (V70 l0 a (if rc = 0 then c else rc)) ∧ Below w.heap.size w w' := by
  by_cases h : rc = 0
  · subst h
    rw [if_pos rfl]
    go_enter Tryz.func240, Tryz.ntmps240
    go_wp2
    refine bodyPost_ret (results_cell_row rfl _ _ (w.heap.size + 1) 70 #[.string (baOf l0), .int .i64 (a : Int), .int .i64 c] (0, 0) _ rfl (heap_alloc_is _ _ _ (by simp)) Tryz.underlying70 rfl (by kernel_rfl)) rfl ?_
    exact ⟨rfl, bto (bnew _ _) (bnew _ _)⟩
  · rw [if_neg h]
    have h2 : (rc == 0) = false := by simpa using h
    go_enter Tryz.func240, Tryz.ntmps240
    go_wp2
    refine bodyPost_ret (results_cell_row rfl _ _ (w.heap.size + 1) 70 #[.string (baOf l0), .int .i64 (a : Int), .int .i64 rc] (0, 0) _ rfl (heap_alloc_is _ _ _ (by simp)) Tryz.underlying70 rfl (by kernel_rfl)) rfl ?_
    exact ⟨rfl, bto (bnew _ _) (bnew _ _)⟩
theorem refFail_zero (l0 : List UInt8) (a : Nat) (c : Int) (w : World) : Calls Tryz.prog 240 #[V70 l0 a 0, .int .i64 c] w fun e w' => e = .returned (V70 l0 a c) ∧ Below w.heap.size w w' := refFail_at l0 a 0 c w
theorem RefPost.mk {l0 : List UInt8} {w w' : World} {r : RS} {v : Value} {a : Nat} {c : Int} (h1 : a = posR l0 r) (h2 : c = r.c) (hb : Below w.heap.size w w') : RefPost l0 w r v (.returned (.tuple #[V70 l0 a c, v])) w' := by
  subst h1 h2
  exact ⟨rfl, hb⟩
end Go.Proofs.YtgelbkgkjkeccaaGreatDoor
namespace Go.Proofs.YtgelbkgkjkeccaaGreatDoor
open Go.RowKit

set_option maxHeartbeats 8000000 in
set_option maxRecDepth 100000 in
theorem refBig_any (l0 : List UInt8) (r : RS) (w : World) (hs : Suf l0 r) (hl : l0.length ≤ 1000000) : Calls Tryz.prog 194 #[V70 l0 (posR l0 r) r.c] w (RefPost l0 w (bigP r).1 (.int .u64 ((bigP r).2 : Nat))) := by
  have hpos := hs.pos
  have heq := hs.eq
  have hlen := hs.len
  have HSUF := Lib.hid hs
  obtain ⟨a, ha⟩ : ∃ a, a = posR l0 r := ⟨_, rfl⟩
  obtain ⟨rl, rc⟩ := r
  have HA := Lib.hid ha
  rw [← ha] at hpos heq hlen ⊢
  have HSB := ba_size_of l0
  obtain ⟨D, hD⟩ : ∃ D, D = rl := ⟨_, rfl⟩
  have HSD := ba_size_of D
  simp only at heq hlen
  have hDl : D.length = l0.length - a := by rw [hD]; exact hlen
  have HCUT : Hid ((baOf l0).extract a (baOf l0).size = baOf D) := Lib.hid (by rw [ba_drop, hD, heq])
  subst hD
  have HSBH := Lib.hid HSB
  have HSDH := Lib.hid HSD
  clear ha heq hlen hs HSB HSD
  by_cases hc : rc = 0
  · subst hc
    go_enter Tryz.func194, Tryz.ntmps194
    go_upto_region 1 with fail
    obtain ⟨W, hW⟩ : ∃ W, W = (w.alloc (.cells #[.string (baOf l0), .int .i64 (a : Int), .int .i64 0] 70)).alloc (.cells #[.string ⟨#[]⟩, .int .i64 0, .int .i64 0] 70) := ⟨_, rfl⟩
    have HB0 := Lib.hid (show Below w.heap.size w W from by rw [hW]; exact bto (bnew _ _) (bnew _ _))
    have HS0 := Lib.hid (show W.heap.size = w.heap.size + 2 from by rw [hW]; simp)
    have HX0 := Lib.hid (show W.heap[w.heap.size]? = some (.cells #[.string (baOf l0), .int .i64 (a : Int), .int .i64 0] 70 (0, 0)) from by rw [hW, Below.heap_alloc _ _ _ (by simp)]; exact heap_alloc_new _ _)
    have HX1 := Lib.hid (show W.heap[w.heap.size + 1]? = some (.cells #[.string ⟨#[]⟩, .int .i64 0, .int .i64 0] 70 (0, 0)) from by rw [hW]; exact heap_alloc_is _ _ _ (by simp))
    rw [← hW]
    clear hW
    have hWs : w.heap.size + 2 ≤ W.heap.size := by have := HS0.out; omega
    have hab : a ≤ (baOf l0).size := by rw [HSBH.out]; exact hpos
    have a0 : W.cell? ⟨w.heap.size, 0, none⟩ = some (.string (baOf l0)) := cell_at HX0.out rfl
    have af0 : W.frozen? ⟨w.heap.size, 0, none⟩ = false := frozen_at HX0.out
    have a1 : W.cell? ⟨w.heap.size, 1, none⟩ = some (.int .i64 (a : Int)) := cell_at HX0.out rfl
    have af1 : W.frozen? ⟨w.heap.size, 1, none⟩ = false := frozen_at HX0.out
    have a2 : W.cell? ⟨w.heap.size, 2, none⟩ = some (.int .i64 0) := cell_at HX0.out rfl
    have af2 : W.frozen? ⟨w.heap.size, 2, none⟩ = false := frozen_at HX0.out
    go_upto_region 4 with fail
    rw [HCUT.out]
    go_wp2_with fail
    go_loop [5, 6] (fun v i => ∃ (k : Nat) (b : Bool), k ≤ D.length ∧ k ≤ 10 ∧ i = .int .i64 k ∧ v = .bool b ∧ (b = true → lacksB D = false) ∧ (b = false → ∀ j (hj : j < D.length), j < k → 128 ≤ D[j].toNat)) (fun _ i => 10 - (intOf i).toNat)
    case atStart => exact ⟨0, false, Nat.zero_le _, Nat.zero_le _, rfl, rfl, (fun h => by cases h), fun _ j hj h => by omega⟩
    case round =>
      obtain ⟨k, b, hk, hk10, rfl, rfl, hb1, hb2⟩ := hrel
      have HK1 := Lib.hid hb1
      have HK2 := Lib.hid hb2
      clear hb1 hb2
      have hds := HSDH.out
      by_cases hlt : k < D.length ∧ k < 10
      · obtain ⟨h1, h2⟩ := hlt
        have h1s : k < (baOf D).size := by omega
        have h1b : decide (k < (baOf D).size) = true := by simpa using h1s
        have h2b : decide ((k : Int) < 10) = true := by simp; omega
        have hget : (baOf D)[k] = D[k] := rfl
        clear hds
        cases b with
        | true =>
          go_wp2
          exact ⟨⟨k + 1, true, h1, by omega, by go_num, rfl, HK1.out, fun h => by cases h⟩, by simp [intOf]; omega⟩
        | false =>
          by_cases hg : D[k].toNat < 128
          · have hgb : decide ((D[k].toNat : Int) < 128) = true := by simp; omega
            have HG := Lib.hid hg
            clear hg
            go_wp2
            exact ⟨⟨k + 1, true, h1, by omega, by go_num, rfl, fun _ => lacks_some h1 h2 HG.out, fun h => by cases h⟩, by simp [intOf]; omega⟩
          · have hgb : decide ((D[k].toNat : Int) < 128) = false := by simp; omega
            have HG := Lib.hid hg
            clear hg
            go_wp2
            refine ⟨⟨k + 1, false, h1, by omega, by go_num, rfl, (fun h => by cases h), fun _ j hj h => ?_⟩, by simp [intOf]; omega⟩
            by_cases hjk : j = k
            · subst hjk
              have := HG.out
              omega
            · exact HK2.out rfl j hj (by omega)
      · have hlk : (!b && decide ((D.length : Int) < 10)) = lacksB D := by
          cases b with
          | true => rw [HK1.out rfl]; rfl
          | false =>
            rw [lacks_none (fun j hj h10 => HK2.out rfl j hj (by omega))]
            simp
            constructor <;> intro h <;> omega
        have hbr : (k < (baOf D).size ∧ ¬ k < 10) ∨ ¬ k < (baOf D).size := by omega
        have hcl : (b = false ∧ lacksB D = true ∧ D.length < 10) ∨ (lacksB D = false ∧ (b = true ∨ (b = false ∧ ¬ D.length < 10))) := by
          cases b with
          | true => exact .inr ⟨HK1.out rfl, .inl rfl⟩
          | false =>
            simp at hlk
            by_cases h10 : D.length < 10
            · exact .inl ⟨rfl, by rw [← hlk]; simp; omega, h10⟩
            · exact .inr ⟨by rw [← hlk]; simp; omega, .inr ⟨rfl, h10⟩⟩
        clear hlk hlt
        have hex : ∃ b1 b2 : Bool, decide (k < (baOf D).size) = b1 ∧ decide ((k : Int) < 10) = b2 ∧ (b1 = false ∨ (b1 = true ∧ b2 = false)) := by
          refine ⟨_, _, rfl, rfl, ?_⟩
          rcases hbr with ⟨h1, h2⟩ | h1
          · exact .inr ⟨decide_eq_true h1, decide_eq_false (by omega)⟩
          · exact .inl (decide_eq_false h1)
        obtain ⟨b1, b2, hd1, hd2, hbb⟩ := hex
        rcases hcl with ⟨rfl, hlb, hl10⟩ | ⟨hlb, hbo⟩
        · have HBP : Hid (bigP ⟨D, 0⟩ = (⟨D, 40⟩, 0)) := Lib.hid (by unfold bigP; rw [if_neg (by simp), if_pos hlb])
          have hs10 : decide (((baOf D).size : Int) < 10) = true := by simp; omega
          clear hlb hl10 hds hbr
          rcases hbb with rfl | ⟨rfl, rfl⟩
          all_goals
            go_wp2_with (go_at_call 240; refine (refFail_zero l0 a 40 W).mono ?_; rintro e w1 ⟨rfl, hb1⟩; have HZ := Lib.hid (boxB hb1 HX1.out); have HB1 := Lib.hid (bto HB0.out hb1); have n0 : w1.cell? ⟨w.heap.size + 1, 0, none⟩ = some (.string ⟨#[]⟩) := cell_at HZ.out rfl; have nf0 : w1.frozen? ⟨w.heap.size + 1, 0, none⟩ = false := frozen_at HZ.out; have n1 : w1.cell? ⟨w.heap.size + 1, 1, none⟩ = some (.int .i64 0) := cell_at HZ.out rfl; have nf1 : w1.frozen? ⟨w.heap.size + 1, 1, none⟩ = false := frozen_at HZ.out; have n2 : w1.cell? ⟨w.heap.size + 1, 2, none⟩ = some (.int .i64 0) := cell_at HZ.out rfl; have nf2 : w1.frozen? ⟨w.heap.size + 1, 2, none⟩ = false := frozen_at HZ.out)
            have HR := Lib.hid (put11 (vs := [.string (baOf l0), .int .i64 (a : Int), .int .i64 40]) (cur := [.string ⟨#[]⟩, .int .i64 0, .int .i64 0]) HZ.out rfl)
            have HRK := Lib.hid (putCells_kept (w.heap.size + 1) [.string (baOf l0), .int .i64 (a : Int), .int .i64 40] w1 0)
            refine bodyPost_ret (results_cell_tmp rfl _ _ (w.heap.size + 1) 70 _ (0, 0) _ rfl HR.out Tryz.underlying70 rfl (by kernel_rfl)) rfl ?_
            rw [HBP.out]
            exact RefPost.mk HA.out rfl (belowk0 HB1.out HRK.out (fun i hi => by have h2 : i = w.heap.size + 1 := hi; omega) HB1.out.size)
        · obtain ⟨n, hn⟩ : ∃ n, n = (takeN D).1 := ⟨_, rfl⟩
          obtain ⟨q, hq⟩ : ∃ q, q = (takeN D).2 := ⟨_, rfl⟩
          have CT : Hid (∀ w, Calls Tryz.prog 254 #[.string (baOf D)] w fun e w' => e = .returned (.tuple #[.int .u64 (n : Int), .int .i64 (q : Int)]) ∧ Below w.heap.size w w') := Lib.hid fun w => by
            have h := refTake_any (baOf D) w (by omega)
            rw [ba_toList, ← hn, ← hq] at h
            exact h
          have hqD : q ≤ D.length := by rw [hq]; exact (takeN_le D).1
          have hbo2 : b = true ∨ (b = false ∧ decide (((baOf D).size : Int) < 10) = false) := by
            rcases hbo with h | ⟨h, h2⟩
            · exact .inl h
            · exact .inr ⟨h, decide_eq_false (by omega)⟩
          by_cases hq0 : q = 0
          · have HBP : Hid (bigP ⟨D, 0⟩ = (⟨D, 3⟩, 0)) := Lib.hid (by unfold bigP; rw [if_neg (by simp), if_neg (by rw [hlb]; simp), if_pos (by rw [← hq, hq0])])
            have hq0b : ((q : Int) == 0) = true := by simp; omega
            clear hlb hds hbr hbo hn hq hq0 hqD
            rcases hbo2 with rfl | ⟨rfl, hs10⟩ <;> rcases hbb with rfl | ⟨rfl, rfl⟩
            all_goals
              go_wp2_with fail
              refine (CT.out W).mono ?_
              rintro e w1 ⟨rfl, hb1⟩
              have HY0 := Lib.hid (boxB hb1 HX0.out)
              have HY1 := Lib.hid (boxB hb1 HX1.out)
              have HB1 := Lib.hid (bto HB0.out hb1)
              clear hb1 a0 a1 a2
              have a0 : w1.cell? ⟨w.heap.size, 0, none⟩ = some (.string (baOf l0)) := cell_at HY0.out rfl
              have a1 : w1.cell? ⟨w.heap.size, 1, none⟩ = some (.int .i64 (a : Int)) := cell_at HY0.out rfl
              have a2 : w1.cell? ⟨w.heap.size, 2, none⟩ = some (.int .i64 0) := cell_at HY0.out rfl
              go_wp2_with (go_at_call 240; refine (refFail_zero l0 a 3 w1).mono ?_; rintro e w2 ⟨rfl, hb2⟩; have HZ := Lib.hid (boxB hb2 HY1.out); have HB2 := Lib.hid (bto HB1.out hb2); have n0 : w2.cell? ⟨w.heap.size + 1, 0, none⟩ = some (.string ⟨#[]⟩) := cell_at HZ.out rfl; have nf0 : w2.frozen? ⟨w.heap.size + 1, 0, none⟩ = false := frozen_at HZ.out; have n1 : w2.cell? ⟨w.heap.size + 1, 1, none⟩ = some (.int .i64 0) := cell_at HZ.out rfl; have nf1 : w2.frozen? ⟨w.heap.size + 1, 1, none⟩ = false := frozen_at HZ.out; have n2 : w2.cell? ⟨w.heap.size + 1, 2, none⟩ = some (.int .i64 0) := cell_at HZ.out rfl; have nf2 : w2.frozen? ⟨w.heap.size + 1, 2, none⟩ = false := frozen_at HZ.out)
              have HR := Lib.hid (put11 (vs := [.string (baOf l0), .int .i64 (a : Int), .int .i64 3]) (cur := [.string ⟨#[]⟩, .int .i64 0, .int .i64 0]) HZ.out rfl)
              have HRK := Lib.hid (putCells_kept (w.heap.size + 1) [.string (baOf l0), .int .i64 (a : Int), .int .i64 3] w2 0)
              refine bodyPost_ret (results_cell_tmp rfl _ _ (w.heap.size + 1) 70 _ (0, 0) _ rfl HR.out Tryz.underlying70 rfl (by kernel_rfl)) rfl ?_
              rw [HBP.out]
              exact RefPost.mk HA.out rfl (belowk0 HB2.out HRK.out (fun i hi => by have h2 : i = w.heap.size + 1 := hi; omega) HB2.out.size)
          · have HBP : Hid (bigP ⟨D, 0⟩ = (⟨D.drop q, 0⟩, n)) := Lib.hid (by unfold bigP; rw [if_neg (by simp), if_neg (by rw [hlb]; simp), if_neg (by rw [← hq]; exact hq0), ← hq, ← hn])
            have hq0b : ((q : Int) == 0) = false := by simp; omega
            have HPS : Hid (a + q = posR l0 ⟨D.drop q, 0⟩) := Lib.hid (by rw [(HSUF.out.drop q hqD 0).2, HA.out])
            have haq : a + q ≤ 1000000 := by omega
            clear hlb hds hbr hbo hn hq hq0
            rcases hbo2 with rfl | ⟨rfl, hs10⟩ <;> rcases hbb with rfl | ⟨rfl, rfl⟩
            all_goals
              go_wp2_with fail
              refine (CT.out W).mono ?_
              rintro e w1 ⟨rfl, hb1⟩
              have HY0 := Lib.hid (boxB hb1 HX0.out)
              have HY1 := Lib.hid (boxB hb1 HX1.out)
              have HB1 := Lib.hid (bto HB0.out hb1)
              clear hb1 a0 a1 a2
              have a0 : w1.cell? ⟨w.heap.size, 0, none⟩ = some (.string (baOf l0)) := cell_at HY0.out rfl
              have af0 : w1.frozen? ⟨w.heap.size, 0, none⟩ = false := frozen_at HY0.out
              have a1 : w1.cell? ⟨w.heap.size, 1, none⟩ = some (.int .i64 (a : Int)) := cell_at HY0.out rfl
              have af1 : w1.frozen? ⟨w.heap.size, 1, none⟩ = false := frozen_at HY0.out
              have a2 : w1.cell? ⟨w.heap.size, 2, none⟩ = some (.int .i64 0) := cell_at HY0.out rfl
              have af2 : w1.frozen? ⟨w.heap.size, 2, none⟩ = false := frozen_at HY0.out
              go_upto_region 15 with fail
              obtain ⟨w2, hw2⟩ : ∃ w2, w2 = w1.setCell ⟨w.heap.size, 1, none⟩ (.int .i64 ((a : Int) + q)) := ⟨_, rfl⟩
              have HK2 := Lib.hid (show Kept (· = w.heap.size) w1 w2 from by rw [hw2]; exact kept_set _ _ _ _)
              have HU0 := Lib.hid (show w2.heap[w.heap.size]? = some (.cells #[.string (baOf l0), .int .i64 ((a : Int) + q), .int .i64 0] 70 (0, 0)) from by rw [hw2]; exact setCell_atn _ _ _ _ _ _ HY0.out)
              have HU1 := Lib.hid (kept_block HK2.out HY1.out (by omega))
              have HB2 := Lib.hid (belowk0 HB1.out HK2.out (fun i hi => by have h2 : i = w.heap.size := hi; omega) HB1.out.size)
              rw [← hw2]
              clear hw2 HY0 HY1 HK2 a0 a1 a2 af0 af1 af2
              have a0 : w2.cell? ⟨w.heap.size, 0, none⟩ = some (.string (baOf l0)) := cell_at HU0.out rfl
              have a1 : w2.cell? ⟨w.heap.size, 1, none⟩ = some (.int .i64 ((a : Int) + q)) := cell_at HU0.out rfl
              have a2 : w2.cell? ⟨w.heap.size, 2, none⟩ = some (.int .i64 0) := cell_at HU0.out rfl
              have n0 : w2.cell? ⟨w.heap.size + 1, 0, none⟩ = some (.string ⟨#[]⟩) := cell_at HU1.out rfl
              have nf0 : w2.frozen? ⟨w.heap.size + 1, 0, none⟩ = false := frozen_at HU1.out
              have n1 : w2.cell? ⟨w.heap.size + 1, 1, none⟩ = some (.int .i64 0) := cell_at HU1.out rfl
              have nf1 : w2.frozen? ⟨w.heap.size + 1, 1, none⟩ = false := frozen_at HU1.out
              have n2 : w2.cell? ⟨w.heap.size + 1, 2, none⟩ = some (.int .i64 0) := cell_at HU1.out rfl
              have nf2 : w2.frozen? ⟨w.heap.size + 1, 2, none⟩ = false := frozen_at HU1.out
              have HR := Lib.hid (put11 (vs := [.string (baOf l0), .int .i64 ((a : Int) + q), .int .i64 0]) (cur := [.string ⟨#[]⟩, .int .i64 0, .int .i64 0]) HU1.out rfl)
              have HRK := Lib.hid (putCells_kept (w.heap.size + 1) [.string (baOf l0), .int .i64 ((a : Int) + q), .int .i64 0] w2 0)
              go_wp2
              refine bodyPost_ret (results_cell_tmp rfl _ _ (w.heap.size + 1) 70 _ (0, 0) _ rfl HR.out Tryz.underlying70 rfl (by kernel_rfl)) rfl ?_
              rw [HBP.out]
              exact RefPost.mk (a := a + q) HPS.out rfl (belowk0 HB2.out HRK.out (fun i hi => by have h2 : i = w.heap.size + 1 := hi; omega) HB2.out.size)
  · have h2 : (rc == 0) = false := by simpa using hc
    have h2b : (rc != 0) = true := by simpa using hc
    have HBP : Hid (bigP ⟨D, rc⟩ = (⟨D, rc⟩, 0)) := Lib.hid (by unfold bigP; rw [if_pos hc])
    go_enter Tryz.func194, Tryz.ntmps194
    go_upto_region 1 with fail
    obtain ⟨W, hW⟩ : ∃ W, W = (w.alloc (.cells #[.string (baOf l0), .int .i64 (a : Int), .int .i64 rc] 70)).alloc (.cells #[.string ⟨#[]⟩, .int .i64 0, .int .i64 0] 70) := ⟨_, rfl⟩
    have HB0 := Lib.hid (show Below w.heap.size w W from by rw [hW]; exact bto (bnew _ _) (bnew _ _))
    have HS0 := Lib.hid (show W.heap.size = w.heap.size + 2 from by rw [hW]; simp)
    have HX0 := Lib.hid (show W.heap[w.heap.size]? = some (.cells #[.string (baOf l0), .int .i64 (a : Int), .int .i64 rc] 70 (0, 0)) from by rw [hW, Below.heap_alloc _ _ _ (by simp)]; exact heap_alloc_new _ _)
    have HX1 := Lib.hid (show W.heap[w.heap.size + 1]? = some (.cells #[.string ⟨#[]⟩, .int .i64 0, .int .i64 0] 70 (0, 0)) from by rw [hW]; exact heap_alloc_is _ _ _ (by simp))
    rw [← hW]
    clear hW
    have hWs : w.heap.size + 2 ≤ W.heap.size := by have := HS0.out; omega
    have a0 : W.cell? ⟨w.heap.size, 0, none⟩ = some (.string (baOf l0)) := cell_at HX0.out rfl
    have af0 : W.frozen? ⟨w.heap.size, 0, none⟩ = false := frozen_at HX0.out
    have a1 : W.cell? ⟨w.heap.size, 1, none⟩ = some (.int .i64 (a : Int)) := cell_at HX0.out rfl
    have af1 : W.frozen? ⟨w.heap.size, 1, none⟩ = false := frozen_at HX0.out
    have a2 : W.cell? ⟨w.heap.size, 2, none⟩ = some (.int .i64 rc) := cell_at HX0.out rfl
    have af2 : W.frozen? ⟨w.heap.size, 2, none⟩ = false := frozen_at HX0.out
    have n0 : W.cell? ⟨w.heap.size + 1, 0, none⟩ = some (.string ⟨#[]⟩) := cell_at HX1.out rfl
    have nf0 : W.frozen? ⟨w.heap.size + 1, 0, none⟩ = false := frozen_at HX1.out
    have n1 : W.cell? ⟨w.heap.size + 1, 1, none⟩ = some (.int .i64 0) := cell_at HX1.out rfl
    have nf1 : W.frozen? ⟨w.heap.size + 1, 1, none⟩ = false := frozen_at HX1.out
    have n2 : W.cell? ⟨w.heap.size + 1, 2, none⟩ = some (.int .i64 0) := cell_at HX1.out rfl
    have nf2 : W.frozen? ⟨w.heap.size + 1, 2, none⟩ = false := frozen_at HX1.out
    have HR := Lib.hid (put11 (vs := [.string (baOf l0), .int .i64 (a : Int), .int .i64 rc]) (cur := [.string ⟨#[]⟩, .int .i64 0, .int .i64 0]) HX1.out rfl)
    have HRK := Lib.hid (putCells_kept (w.heap.size + 1) [.string (baOf l0), .int .i64 (a : Int), .int .i64 rc] W 0)
    go_wp2
    refine bodyPost_ret (results_cell_tmp rfl _ _ (w.heap.size + 1) 70 _ (0, 0) _ rfl HR.out Tryz.underlying70 rfl (by kernel_rfl)) rfl ?_
    rw [HBP.out]
    exact RefPost.mk HA.out rfl (belowk0 HB0.out HRK.out (fun i hi => by have h2 : i = w.heap.size + 1 := hi; omega) HB0.out.size)
end Go.Proofs.YtgelbkgkjkeccaaGreatDoor
namespace Go.Proofs.YtgelbkgkjkeccaaGreatDoor
open Go.RowKit

theorem bigP_zero {r : RS} (h : (bigP r).1.c = 0) : r.c = 0 := by
  unfold bigP at h
  split at h
  · exact h
  · rename_i h2
    exact Decidable.byContradiction h2
set_option maxHeartbeats 8000000 in
set_option maxRecDepth 100000 in
theorem refNum_any (l0 : List UInt8) (r : RS) (m : Nat) (w : World) (hm : m ≤ 1099511627776) (hs : Suf l0 r) (hl : l0.length ≤ 1000000) : Calls Tryz.prog 154 #[V70 l0 (posR l0 r) r.c, .int .i64 (m : Int)] w (RefPost l0 w (numP m r).1 (.int .i64 (numP m r).2)) := by
  have HCB := Lib.hid fun w => refBig_any l0 r w hs hl
  have hu := bigP_u64 r
  have HBZ := Lib.hid (bigP_zero (r := r))
  have HSUF := Lib.hid hs
  obtain ⟨a, ha⟩ : ∃ a, a = posR l0 r := ⟨_, rfl⟩
  obtain ⟨rc, hrc⟩ : ∃ a, a = r.c := ⟨_, rfl⟩
  obtain ⟨rb, hrb⟩ : ∃ x, x = (bigP r).1 := ⟨_, rfl⟩
  obtain ⟨n, hn⟩ : ∃ x, x = (bigP r).2 := ⟨_, rfl⟩
  obtain ⟨b, hb⟩ : ∃ a, a = posR l0 rb := ⟨_, rfl⟩
  obtain ⟨bc, hbc⟩ : ∃ a, a = rb.c := ⟨_, rfl⟩
  have HNP : Hid (numP m r = if bc ≠ 0 then (rb, 0) else if m < n then (⟨r.l, 2⟩, 0) else (rb, (n : Int))) := Lib.hid (by unfold numP; rw [← hrb, ← hn, ← hbc])
  have HA := Lib.hid ha
  have HRC := Lib.hid hrc
  have HBB := Lib.hid hb
  have HBC := Lib.hid hbc
  rw [← hrb] at HBZ
  rw [← ha, ← hrc, ← hrb, ← hn] at HCB
  rw [← ha, ← hrc]
  rw [← hn] at hu
  clear ha hrc hrb hn hb hbc hs
  go_enter Tryz.func154, Tryz.ntmps154
  go_upto_region 1 with fail
  obtain ⟨W, hW⟩ : ∃ W, W = (w.alloc (.cells #[.string (baOf l0), .int .i64 (a : Int), .int .i64 rc] 70)).alloc (.cells #[.string ⟨#[]⟩, .int .i64 0, .int .i64 0] 70) := ⟨_, rfl⟩
  have HB0 := Lib.hid (show Below w.heap.size w W from by rw [hW]; exact bto (bnew _ _) (bnew _ _))
  have HS0 := Lib.hid (show W.heap.size = w.heap.size + 2 from by rw [hW]; simp)
  have HX0 := Lib.hid (show W.heap[w.heap.size]? = some (.cells #[.string (baOf l0), .int .i64 (a : Int), .int .i64 rc] 70 (0, 0)) from by rw [hW, Below.heap_alloc _ _ _ (by simp)]; exact heap_alloc_new _ _)
  have HX1 := Lib.hid (show W.heap[w.heap.size + 1]? = some (.cells #[.string ⟨#[]⟩, .int .i64 0, .int .i64 0] 70 (0, 0)) from by rw [hW]; exact heap_alloc_is _ _ _ (by simp))
  rw [← hW]
  clear hW
  have hWs : w.heap.size + 2 ≤ W.heap.size := by have := HS0.out; omega
  have a0 : W.cell? ⟨w.heap.size, 0, none⟩ = some (.string (baOf l0)) := cell_at HX0.out rfl
  have a1 : W.cell? ⟨w.heap.size, 1, none⟩ = some (.int .i64 (a : Int)) := cell_at HX0.out rfl
  have a2 : W.cell? ⟨w.heap.size, 2, none⟩ = some (.int .i64 rc) := cell_at HX0.out rfl
  go_wp2_with fail
  refine (HCB.out W).mono ?_
  rintro e w1 ⟨rfl, hb1⟩
  rw [← HBB.out, ← HBC.out]
  have HY0 := Lib.hid (boxB hb1 HX0.out)
  have HY1 := Lib.hid (boxB hb1 HX1.out)
  have HB1 := Lib.hid (bto HB0.out hb1)
  have hw1s := hb1.size
  clear hb1 a0 a1 a2 HX0 HX1
  go_upto_region 2 with fail
  obtain ⟨g, hg⟩ : ∃ g, g = w1.heap.size := ⟨_, rfl⟩
  obtain ⟨X, hX⟩ : ∃ X, X = w1.alloc (.cells #[.string (baOf l0), .int .i64 (b : Int), .int .i64 bc] 70) := ⟨_, rfl⟩
  have HBX := Lib.hid (show Below w.heap.size w X from by rw [hX]; exact bto HB1.out (bnew _ _))
  have HG := Lib.hid (show X.heap[g]? = some (.cells #[.string (baOf l0), .int .i64 (b : Int), .int .i64 bc] 70 (0, 0)) from by rw [hX, hg]; exact heap_alloc_new _ _)
  have HZ0 := Lib.hid (show X.heap[w.heap.size]? = some (.cells #[.string (baOf l0), .int .i64 (a : Int), .int .i64 rc] 70 (0, 0)) from by rw [hX]; exact boxB (bnew _ _) HY0.out)
  have HZ1 := Lib.hid (show X.heap[w.heap.size + 1]? = some (.cells #[.string ⟨#[]⟩, .int .i64 0, .int .i64 0] 70 (0, 0)) from by rw [hX]; exact boxB (bnew _ _) HY1.out)
  have hgs : w.heap.size + 2 ≤ g := by rw [hg]; omega
  rw [← hX, ← hg]
  clear hX hg
  clear HY0 HY1 HB1
  have g0 : X.cell? ⟨g, 0, none⟩ = some (.string (baOf l0)) := cell_at HG.out rfl
  have g1 : X.cell? ⟨g, 1, none⟩ = some (.int .i64 (b : Int)) := cell_at HG.out rfl
  have g2 : X.cell? ⟨g, 2, none⟩ = some (.int .i64 bc) := cell_at HG.out rfl
  by_cases hc : bc = 0
  · have HR0 : Hid (rc = 0) := Lib.hid (by rw [HRC.out]; exact HBZ.out (HBC.out.symm.trans hc))
    subst hc
    have hm0 : decide ((m : Int) < 0) = false := by simp
    have hm1 : decide ((m : Int) ≥ 0) = true := by simp
    have hwm : IntKind.u64.wrap (m : Int) = (m : Int) := IntWalk.u64_in _ (by omega)
    by_cases hmn : m < n
    · have hgt : decide ((n : Int) > (m : Int)) = true := by simp; omega
      have hgt2 : decide (m < n) = true := decide_eq_true hmn
      have HN : Hid (numP m r = (⟨r.l, 2⟩, 0)) := Lib.hid (by rw [HNP.out, if_neg (by simp), if_pos hmn])
      have HPS : Hid (a = posR l0 ⟨r.l, 2⟩) := Lib.hid (HA.out.trans rfl)
      have hrc0 := HR0.out
      subst hrc0
      clear hmn
      have a0 : X.cell? ⟨w.heap.size, 0, none⟩ = some (.string (baOf l0)) := cell_at HZ0.out rfl
      have a1 : X.cell? ⟨w.heap.size, 1, none⟩ = some (.int .i64 (a : Int)) := cell_at HZ0.out rfl
      have a2 : X.cell? ⟨w.heap.size, 2, none⟩ = some (.int .i64 0) := cell_at HZ0.out rfl
      go_wp2_with (go_at_call 240; refine (refFail_zero l0 a 2 X).mono ?_; rintro e w2 ⟨rfl, hb2⟩; have HZ := Lib.hid (boxB hb2 HZ1.out); have HB2 := Lib.hid (bto HBX.out hb2); have n0 : w2.cell? ⟨w.heap.size + 1, 0, none⟩ = some (.string ⟨#[]⟩) := cell_at HZ.out rfl; have nf0 : w2.frozen? ⟨w.heap.size + 1, 0, none⟩ = false := frozen_at HZ.out; have n1 : w2.cell? ⟨w.heap.size + 1, 1, none⟩ = some (.int .i64 0) := cell_at HZ.out rfl; have nf1 : w2.frozen? ⟨w.heap.size + 1, 1, none⟩ = false := frozen_at HZ.out; have n2 : w2.cell? ⟨w.heap.size + 1, 2, none⟩ = some (.int .i64 0) := cell_at HZ.out rfl; have nf2 : w2.frozen? ⟨w.heap.size + 1, 2, none⟩ = false := frozen_at HZ.out)
      have HR := Lib.hid (put11 (vs := [.string (baOf l0), .int .i64 (a : Int), .int .i64 2]) (cur := [.string ⟨#[]⟩, .int .i64 0, .int .i64 0]) HZ.out rfl)
      have HRK := Lib.hid (putCells_kept (w.heap.size + 1) [.string (baOf l0), .int .i64 (a : Int), .int .i64 2] w2 0)
      refine bodyPost_ret (results_cell_tmp rfl _ _ (w.heap.size + 1) 70 _ (0, 0) _ rfl HR.out Tryz.underlying70 rfl (by kernel_rfl)) rfl ?_
      rw [HN.out]
      exact RefPost.mk HPS.out rfl (belowk0 HB2.out HRK.out (fun i hi => by have h2 : i = w.heap.size + 1 := hi; omega) HB2.out.size)
    · have hgt : decide ((n : Int) > (m : Int)) = false := by simp; omega
      have hgt2 : decide (m < n) = false := decide_eq_false hmn
      have HN : Hid (numP m r = (rb, (n : Int))) := Lib.hid (by rw [HNP.out, if_neg (by simp), if_neg hmn])
      have hwn : IntKind.i64.wrap (n : Int) = (n : Int) := IntWalk.i64_in _ (by omega)
      clear hmn
      have n0 : X.cell? ⟨w.heap.size + 1, 0, none⟩ = some (.string ⟨#[]⟩) := cell_at HZ1.out rfl
      have nf0 : X.frozen? ⟨w.heap.size + 1, 0, none⟩ = false := frozen_at HZ1.out
      have n1 : X.cell? ⟨w.heap.size + 1, 1, none⟩ = some (.int .i64 0) := cell_at HZ1.out rfl
      have nf1 : X.frozen? ⟨w.heap.size + 1, 1, none⟩ = false := frozen_at HZ1.out
      have n2 : X.cell? ⟨w.heap.size + 1, 2, none⟩ = some (.int .i64 0) := cell_at HZ1.out rfl
      have nf2 : X.frozen? ⟨w.heap.size + 1, 2, none⟩ = false := frozen_at HZ1.out
      have HR := Lib.hid (put11 (vs := [.string (baOf l0), .int .i64 (b : Int), .int .i64 0]) (cur := [.string ⟨#[]⟩, .int .i64 0, .int .i64 0]) HZ1.out rfl)
      have HRK := Lib.hid (putCells_kept (w.heap.size + 1) [.string (baOf l0), .int .i64 (b : Int), .int .i64 0] X 0)
      go_wp2
      refine bodyPost_ret (results_cell_tmp rfl _ _ (w.heap.size + 1) 70 _ (0, 0) _ rfl HR.out Tryz.underlying70 rfl (by kernel_rfl)) rfl ?_
      rw [HN.out]
      exact RefPost.mk HBB.out HBC.out (belowk0 HBX.out HRK.out (fun i hi => by have h2 : i = w.heap.size + 1 := hi; omega) HBX.out.size)
  · have hcb : (bc != 0) = true := by simpa using hc
    have hcb2 : (bc == 0) = false := by simpa using hc
    have HN : Hid (numP m r = (rb, 0)) := Lib.hid (by rw [HNP.out, if_pos hc])
    clear hc
    have n0 : X.cell? ⟨w.heap.size + 1, 0, none⟩ = some (.string ⟨#[]⟩) := cell_at HZ1.out rfl
    have nf0 : X.frozen? ⟨w.heap.size + 1, 0, none⟩ = false := frozen_at HZ1.out
    have n1 : X.cell? ⟨w.heap.size + 1, 1, none⟩ = some (.int .i64 0) := cell_at HZ1.out rfl
    have nf1 : X.frozen? ⟨w.heap.size + 1, 1, none⟩ = false := frozen_at HZ1.out
    have n2 : X.cell? ⟨w.heap.size + 1, 2, none⟩ = some (.int .i64 0) := cell_at HZ1.out rfl
    have nf2 : X.frozen? ⟨w.heap.size + 1, 2, none⟩ = false := frozen_at HZ1.out
    have HR := Lib.hid (put11 (vs := [.string (baOf l0), .int .i64 (b : Int), .int .i64 bc]) (cur := [.string ⟨#[]⟩, .int .i64 0, .int .i64 0]) HZ1.out rfl)
    have HRK := Lib.hid (putCells_kept (w.heap.size + 1) [.string (baOf l0), .int .i64 (b : Int), .int .i64 bc] X 0)
    go_wp2
    refine bodyPost_ret (results_cell_tmp rfl _ _ (w.heap.size + 1) 70 _ (0, 0) _ rfl HR.out Tryz.underlying70 rfl (by kernel_rfl)) rfl ?_
    rw [HN.out]
    exact RefPost.mk HBB.out HBC.out (belowk0 HBX.out HRK.out (fun i hi => by have h2 : i = w.heap.size + 1 := hi; omega) HBX.out.size)
end Go.Proofs.YtgelbkgkjkeccaaGreatDoor
namespace Go.Proofs.YtgelbkgkjkeccaaGreatDoor
open Go.RowKit

theorem ba_slice (l : List UInt8) (a n : Nat) : (baOf l).extract a (a + n) = baOf ((l.drop a).take n) := by
  apply ByteArray.ext
  show (ByteArray.extract _ _ _).data = _
  rw [ByteArray.data_extract]
  apply Array.ext'
  simp [baOf]
set_option maxHeartbeats 8000000 in
set_option maxRecDepth 100000 in
theorem refText_any (l0 : List UInt8) (r : RS) (m : Nat) (w : World) (hm : m ≤ 1000000) (hs : Suf l0 r) (hl : l0.length ≤ 1000000) : Calls Tryz.prog 155 #[V70 l0 (posR l0 r) r.c, .int .i64 (m : Int)] w (RefPost l0 w (textP m r).1 (.string (textP m r).2)) := by
  have HCB := Lib.hid fun w => refNum_any l0 r m w (by omega) hs hl
  have hsn := hs.num m
  have hin := numP_in m r
  have hsz := ba_size_of l0
  obtain ⟨a, ha⟩ : ∃ a, a = posR l0 r := ⟨_, rfl⟩
  obtain ⟨rc, hrc⟩ : ∃ a, a = r.c := ⟨_, rfl⟩
  obtain ⟨rb, hrb⟩ : ∃ x, x = (numP m r).1 := ⟨_, rfl⟩
  obtain ⟨n, hn⟩ : ∃ x : Nat, (x : Int) = (numP m r).2 := ⟨(numP m r).2.toNat, by omega⟩
  rw [← hrb] at hsn
  have hpos := hsn.pos
  have hlen := hsn.len
  have heq := hsn.eq
  obtain ⟨b, hb⟩ : ∃ a, a = posR l0 rb := ⟨_, rfl⟩
  obtain ⟨bc, hbc⟩ : ∃ a, a = rb.c := ⟨_, rfl⟩
  have HTP : Hid (textP m r = if bc ≠ 0 then (rb, ⟨#[]⟩) else if rb.l.length < n then (⟨rb.l, 40⟩, ⟨#[]⟩) else (⟨rb.l.drop n, 0⟩, baOf (rb.l.take n))) := Lib.hid (by
    unfold textP
    rw [← hrb, ← hn, ← hbc, show ((n : Nat) : Int).toNat = n from rfl]
    rfl)
  have HBB := Lib.hid hb
  have HBC := Lib.hid hbc
  have HSN := Lib.hid hsn
  rw [← ha, ← hrc, ← hrb, ← hn] at HCB
  rw [← ha, ← hrc]
  rw [← hn] at hin
  rw [← hb] at hpos hlen heq
  have HEQ := Lib.hid heq
  have HLEN := Lib.hid hlen
  have HSZ := Lib.hid hsz
  have hnm : n ≤ 1000000 := by omega
  have hbs : b ≤ (baOf l0).size := by omega
  have hs6 : (baOf l0).size ≤ 1000000 := by omega
  clear ha hrc hrb hn hb hbc hs hsn hlen heq hsz hin hpos
  go_enter Tryz.func155, Tryz.ntmps155
  go_upto_region 1 with fail
  obtain ⟨W, hW⟩ : ∃ W, W = (w.alloc (.cells #[.string (baOf l0), .int .i64 (a : Int), .int .i64 rc] 70)).alloc (.cells #[.string ⟨#[]⟩, .int .i64 0, .int .i64 0] 70) := ⟨_, rfl⟩
  have HB0 := Lib.hid (show Below w.heap.size w W from by rw [hW]; exact bto (bnew _ _) (bnew _ _))
  have HS0 := Lib.hid (show W.heap.size = w.heap.size + 2 from by rw [hW]; simp)
  have HX0 := Lib.hid (show W.heap[w.heap.size]? = some (.cells #[.string (baOf l0), .int .i64 (a : Int), .int .i64 rc] 70 (0, 0)) from by rw [hW, Below.heap_alloc _ _ _ (by simp)]; exact heap_alloc_new _ _)
  have HX1 := Lib.hid (show W.heap[w.heap.size + 1]? = some (.cells #[.string ⟨#[]⟩, .int .i64 0, .int .i64 0] 70 (0, 0)) from by rw [hW]; exact heap_alloc_is _ _ _ (by simp))
  rw [← hW]
  clear hW
  have hWs : w.heap.size + 2 ≤ W.heap.size := by have := HS0.out; omega
  have a0 : W.cell? ⟨w.heap.size, 0, none⟩ = some (.string (baOf l0)) := cell_at HX0.out rfl
  have a1 : W.cell? ⟨w.heap.size, 1, none⟩ = some (.int .i64 (a : Int)) := cell_at HX0.out rfl
  have a2 : W.cell? ⟨w.heap.size, 2, none⟩ = some (.int .i64 rc) := cell_at HX0.out rfl
  go_wp2_with fail
  refine (HCB.out W).mono ?_
  rintro e w1 ⟨rfl, hb1⟩
  rw [← HBB.out, ← HBC.out]
  have HY1 := Lib.hid (boxB hb1 HX1.out)
  have HB1 := Lib.hid (bto HB0.out hb1)
  have hw1s := hb1.size
  clear hb1 a0 a1 a2 HX0 HX1
  go_upto_region 2 with fail
  obtain ⟨g, hg⟩ : ∃ g, g = w1.heap.size := ⟨_, rfl⟩
  obtain ⟨X, hX⟩ : ∃ X, X = w1.alloc (.cells #[.string (baOf l0), .int .i64 (b : Int), .int .i64 bc] 70) := ⟨_, rfl⟩
  have HBX := Lib.hid (show Below w.heap.size w X from by rw [hX]; exact bto HB1.out (bnew _ _))
  have HG := Lib.hid (show X.heap[g]? = some (.cells #[.string (baOf l0), .int .i64 (b : Int), .int .i64 bc] 70 (0, 0)) from by rw [hX, hg]; exact heap_alloc_new _ _)
  have HZ1 := Lib.hid (show X.heap[w.heap.size + 1]? = some (.cells #[.string ⟨#[]⟩, .int .i64 0, .int .i64 0] 70 (0, 0)) from by rw [hX]; exact boxB (bnew _ _) HY1.out)
  have hgs : w.heap.size + 2 ≤ g := by rw [hg]; omega
  rw [← hX, ← hg]
  clear hX hg
  clear HY1 HB1
  have g0 : X.cell? ⟨g, 0, none⟩ = some (.string (baOf l0)) := cell_at HG.out rfl
  have gf0 : X.frozen? ⟨g, 0, none⟩ = false := frozen_at HG.out
  have g1 : X.cell? ⟨g, 1, none⟩ = some (.int .i64 (b : Int)) := cell_at HG.out rfl
  have gf1 : X.frozen? ⟨g, 1, none⟩ = false := frozen_at HG.out
  have g2 : X.cell? ⟨g, 2, none⟩ = some (.int .i64 bc) := cell_at HG.out rfl
  have gf2 : X.frozen? ⟨g, 2, none⟩ = false := frozen_at HG.out
  by_cases hc : bc = 0
  · subst hc
    by_cases hmn : rb.l.length < n
    · have hlt : (baOf l0).size < b + n := by have := HLEN.out; have := HSZ.out; omega
      have hgt : decide ((n : Int) > ((baOf l0).size : Int) - (b : Int)) = true := decide_eq_true (by omega)
      have HN : Hid (textP m r = (⟨rb.l, 40⟩, ⟨#[]⟩)) := Lib.hid (by rw [HTP.out, if_neg (by simp), if_pos hmn])
      have HPS : Hid (b = posR l0 ⟨rb.l, 40⟩) := Lib.hid (HBB.out.trans rfl)
      clear hmn
      go_wp2_with (go_at_call 240; refine (refFail_zero l0 b 40 X).mono ?_; rintro e w2 ⟨rfl, hb2⟩; have HZ := Lib.hid (boxB hb2 HZ1.out); have HB2 := Lib.hid (bto HBX.out hb2); have n0 : w2.cell? ⟨w.heap.size + 1, 0, none⟩ = some (.string ⟨#[]⟩) := cell_at HZ.out rfl; have nf0 : w2.frozen? ⟨w.heap.size + 1, 0, none⟩ = false := frozen_at HZ.out; have n1 : w2.cell? ⟨w.heap.size + 1, 1, none⟩ = some (.int .i64 0) := cell_at HZ.out rfl; have nf1 : w2.frozen? ⟨w.heap.size + 1, 1, none⟩ = false := frozen_at HZ.out; have n2 : w2.cell? ⟨w.heap.size + 1, 2, none⟩ = some (.int .i64 0) := cell_at HZ.out rfl; have nf2 : w2.frozen? ⟨w.heap.size + 1, 2, none⟩ = false := frozen_at HZ.out)
      have HR := Lib.hid (put11 (vs := [.string (baOf l0), .int .i64 (b : Int), .int .i64 40]) (cur := [.string ⟨#[]⟩, .int .i64 0, .int .i64 0]) HZ.out rfl)
      have HRK := Lib.hid (putCells_kept (w.heap.size + 1) [.string (baOf l0), .int .i64 (b : Int), .int .i64 40] w2 0)
      refine bodyPost_ret (results_cell_tmp rfl _ _ (w.heap.size + 1) 70 _ (0, 0) _ rfl HR.out Tryz.underlying70 rfl (by kernel_rfl)) rfl ?_
      rw [HN.out]
      exact RefPost.mk HPS.out rfl (belowk0 HB2.out HRK.out (fun i hi => by have h2 : i = w.heap.size + 1 := hi; omega) HB2.out.size)
    · have hlt : b + n ≤ (baOf l0).size := by have := HLEN.out; have := HSZ.out; omega
      have hgt : decide ((n : Int) > ((baOf l0).size : Int) - (b : Int)) = false := decide_eq_false (by omega)
      have HN : Hid (textP m r = (⟨rb.l.drop n, 0⟩, baOf (rb.l.take n))) := Lib.hid (by rw [HTP.out, if_neg (by simp), if_neg hmn])
      have HPS : Hid (b + n = posR l0 ⟨rb.l.drop n, 0⟩) := Lib.hid (by rw [(HSN.out.drop n (by omega) 0).2, HBB.out])
      have HSL : Hid ((baOf l0).extract b (b + n) = baOf (rb.l.take n)) := Lib.hid (by rw [ba_slice, HEQ.out])
      have hle : (b : Int) ≤ (b : Int) + n := by omega
      have hle2 : (b : Int) + n ≤ ((baOf l0).size : Int) := by omega
      clear hmn
      go_upto_region 8 with fail
      rw [HSL.out]
      obtain ⟨Y, hY⟩ : ∃ Y, Y = X.setCell ⟨g, 1, none⟩ (.int .i64 ((b : Int) + n)) := ⟨_, rfl⟩
      have HK2 := Lib.hid (show Kept (· = g) X Y from by rw [hY]; exact kept_set _ _ _ _)
      have HU0 := Lib.hid (show Y.heap[g]? = some (.cells #[.string (baOf l0), .int .i64 ((b : Int) + n), .int .i64 0] 70 (0, 0)) from by rw [hY]; exact setCell_atn _ _ _ _ _ _ HG.out)
      have HU1 := Lib.hid (kept_block HK2.out HZ1.out (by omega))
      have HB2 := Lib.hid (belowk0 HBX.out HK2.out (fun i hi => by have h2 : i = g := hi; omega) HBX.out.size)
      rw [← hY]
      clear hY HK2 g0 g1 g2 gf0 gf1 gf2
      have g0 : Y.cell? ⟨g, 0, none⟩ = some (.string (baOf l0)) := cell_at HU0.out rfl
      have g1 : Y.cell? ⟨g, 1, none⟩ = some (.int .i64 ((b : Int) + n)) := cell_at HU0.out rfl
      have g2 : Y.cell? ⟨g, 2, none⟩ = some (.int .i64 0) := cell_at HU0.out rfl
      have n0 : Y.cell? ⟨w.heap.size + 1, 0, none⟩ = some (.string ⟨#[]⟩) := cell_at HU1.out rfl
      have nf0 : Y.frozen? ⟨w.heap.size + 1, 0, none⟩ = false := frozen_at HU1.out
      have n1 : Y.cell? ⟨w.heap.size + 1, 1, none⟩ = some (.int .i64 0) := cell_at HU1.out rfl
      have nf1 : Y.frozen? ⟨w.heap.size + 1, 1, none⟩ = false := frozen_at HU1.out
      have n2 : Y.cell? ⟨w.heap.size + 1, 2, none⟩ = some (.int .i64 0) := cell_at HU1.out rfl
      have nf2 : Y.frozen? ⟨w.heap.size + 1, 2, none⟩ = false := frozen_at HU1.out
      have HR := Lib.hid (put11 (vs := [.string (baOf l0), .int .i64 ((b : Int) + n), .int .i64 0]) (cur := [.string ⟨#[]⟩, .int .i64 0, .int .i64 0]) HU1.out rfl)
      have HRK := Lib.hid (putCells_kept (w.heap.size + 1) [.string (baOf l0), .int .i64 ((b : Int) + n), .int .i64 0] Y 0)
      go_wp2
      refine bodyPost_ret (results_cell_tmp rfl _ _ (w.heap.size + 1) 70 _ (0, 0) _ rfl HR.out Tryz.underlying70 rfl (by kernel_rfl)) rfl ?_
      rw [HN.out]
      exact RefPost.mk (a := b + n) HPS.out rfl (belowk0 HB2.out HRK.out (fun i hi => by have h2 : i = w.heap.size + 1 := hi; omega) HB2.out.size)
  · have hcb : (bc != 0) = true := by simpa using hc
    have hcb2 : (bc == 0) = false := by simpa using hc
    have HN : Hid (textP m r = (rb, ⟨#[]⟩)) := Lib.hid (by rw [HTP.out, if_pos hc])
    clear hc
    have n0 : X.cell? ⟨w.heap.size + 1, 0, none⟩ = some (.string ⟨#[]⟩) := cell_at HZ1.out rfl
    have nf0 : X.frozen? ⟨w.heap.size + 1, 0, none⟩ = false := frozen_at HZ1.out
    have n1 : X.cell? ⟨w.heap.size + 1, 1, none⟩ = some (.int .i64 0) := cell_at HZ1.out rfl
    have nf1 : X.frozen? ⟨w.heap.size + 1, 1, none⟩ = false := frozen_at HZ1.out
    have n2 : X.cell? ⟨w.heap.size + 1, 2, none⟩ = some (.int .i64 0) := cell_at HZ1.out rfl
    have nf2 : X.frozen? ⟨w.heap.size + 1, 2, none⟩ = false := frozen_at HZ1.out
    have HR := Lib.hid (put11 (vs := [.string (baOf l0), .int .i64 (b : Int), .int .i64 bc]) (cur := [.string ⟨#[]⟩, .int .i64 0, .int .i64 0]) HZ1.out rfl)
    have HRK := Lib.hid (putCells_kept (w.heap.size + 1) [.string (baOf l0), .int .i64 (b : Int), .int .i64 bc] X 0)
    go_wp2
    refine bodyPost_ret (results_cell_tmp rfl _ _ (w.heap.size + 1) 70 _ (0, 0) _ rfl HR.out Tryz.underlying70 rfl (by kernel_rfl)) rfl ?_
    rw [HN.out]
    exact RefPost.mk HBB.out HBC.out (belowk0 HBX.out HRK.out (fun i hi => by have h2 : i = w.heap.size + 1 := hi; omega) HBX.out.size)
set_option maxHeartbeats 1000000 in
theorem refNumber_any (n : Nat) (w : World) (hn : n ≤ 9223372036854775807) : Calls Tryz.prog 145 #[.int .i64 (n : Int)] w fun e w' => e = .returned (.string (baOf (putN n))) ∧ Below w.heap.size w w' := by
  have hwm : IntKind.u64.wrap (n : Int) = (n : Int) := IntWalk.u64_in _ (by omega)
  go_enter Tryz.func145, Tryz.ntmps145
  go_wp2_with (go_at_call 165; refine (refPut_any n w (by unfold IsU64; omega)).mono ?_; rintro e w1 ⟨rfl, hb1⟩)
  go_ret
  exact ⟨rfl, hb1⟩
set_option maxHeartbeats 1000000 in
theorem refBytes_any (t : ByteArray) (w : World) (ht : t.size ≤ 1000000) : Calls Tryz.prog 143 #[.string t] w fun e w' => e = .returned (.string (baOf (encT t))) ∧ Below w.heap.size w w' := by
  have hwm : IntKind.u64.wrap (t.size : Int) = (t.size : Int) := IntWalk.u64_in _ (by omega)
  have hps : (baOf (putN t.size)).size ≤ 10 := by rw [ba_size_of]; exact putN_le _
  have hadd : ¬ (9223372036854775807 < (baOf (putN t.size)).size + t.size) := by omega
  have HE : Hid (baOf (encT t) = baOf (putN t.size) ++ t) := Lib.hid (by
    obtain ⟨l, rfl⟩ : ∃ l, t = baOf l := by cases t with | mk d => cases d with | mk l => exact ⟨l, rfl⟩
    rw [ba_append]; rfl)
  have HU : Hid (IsU64 t.size) := Lib.hid (by unfold IsU64; omega)
  go_enter Tryz.func143, Tryz.ntmps143
  go_wp2_with (go_at_call 165; refine (refPut_any t.size w HU.out).mono ?_; rintro e w1 ⟨rfl, hb1⟩)
  go_ret
  rw [HE.out]
  exact ⟨rfl, hb1⟩
end Go.Proofs.YtgelbkgkjkeccaaGreatDoor
namespace Go.Proofs.YtgelbkgkjkeccaaGreatDoor
open Go.RowKit

theorem encT_len (t : ByteArray) : (encT t).length ≤ 10 + t.size := by
  unfold encT
  rw [List.length_append, ← ba_size t]
  have := putN_le t.size
  omega
theorem flat_snoc {α : Type} (f : α → List UInt8) (l : List α) (k : Nat) (h : k < l.length) : (l.take (k + 1)).flatMap f = (l.take k).flatMap f ++ f l[k] := by
  rw [List.take_succ_eq_append_getElem h, List.flatMap_append, List.flatMap_cons, List.flatMap_nil, List.append_nil]
set_option maxHeartbeats 4000000 in
set_option maxRecDepth 100000 in
theorem refLabels_row (b off c : Nat) (l : List LabelD) (w : World) (h0 : 0 < l.length) (hn : l.length ≤ 1000) (ho : LabsOk l)
    (hr : ∀ j (h : j < l.length), w.cell? ⟨b, off + j * 2, none⟩ = some (.string l[j].key) ∧ w.cell? ⟨b, off + j * 2 + 1, none⟩ = some (.string l[j].val)) :
    Calls Tryz.prog 53 #[.slice (some ⟨b, off, none⟩) l.length c] w fun e w' => e = .returned (.string (baOf (encL encLab l))) ∧ Below w.heap.size w w' := by
  have HR := Lib.hid hr
  clear hr
  obtain ⟨n, hn0⟩ : ∃ n, n = l.length := ⟨_, rfl⟩
  have HN := Lib.hid hn0
  rw [← hn0] at h0 hn ⊢
  clear hn0
  go_enter Tryz.func53, Tryz.ntmps53
  go_wp2_with (go_at_call 145; refine (refNumber_any n w (by omega)).mono ?_; rintro e w1 ⟨rfl, hb1⟩)
  have HB1 := Lib.hid hb1
  clear hb1
  go_loopw [3, 4] (fun v i wr => ∃ (k : Nat) (A : List UInt8), k ≤ n ∧ i = .int .i64 k ∧ v = .string (baOf A) ∧ A = putN n ++ (l.take k).flatMap encLab ∧ A.length ≤ 10 + k * 2000020 ∧ Below w.heap.size w wr) (fun _ i _ => n - (intOf i).toNat)
  case atStart => exact ⟨0, putN n, Nat.zero_le _, rfl, rfl, by simp, by have := putN_le n; omega, HB1.out⟩
  case round =>
    obtain ⟨k, A, hk, rfl, rfl, hA, hAl, hb⟩ := hrel
    have HA := Lib.hid hA
    have HB := Lib.hid hb
    clear hA hb
    by_cases hlt : k < n
    · have hkl : k < l.length := by rw [← HN.out]; exact hlt
      obtain ⟨c0, c1⟩ := HR.out k hkl
      obtain ⟨hk1, hk2⟩ := ho l[k] (List.getElem_mem hkl)
      have c0r := keepc HB.out c0
      have c1r := keepc HB.out c1
      obtain ⟨ky, hky⟩ : ∃ x, x = l[k].key := ⟨_, rfl⟩
      obtain ⟨vl, hvl⟩ : ∃ x, x = l[k].val := ⟨_, rfl⟩
      rw [← hky] at c0r hk1
      rw [← hvl] at c1r hk2
      have HE : Hid (encLab l[k] = encT ky ++ encT vl) := Lib.hid (by rw [hky, hvl]; rfl)
      clear c0 c1 hky hvl
      have hs1 : (baOf (encT ky)).size ≤ 1000010 := by rw [ba_size_of]; have := encT_len ky; omega
      have hs2 : (baOf (encT vl)).size ≤ 1000010 := by rw [ba_size_of]; have := encT_len vl; omega
      have hs3 : (baOf A).size ≤ 10 + k * 2000020 := by rw [ba_size_of]; exact hAl
      have hadd1 : ¬ (9223372036854775807 < (baOf A).size + (baOf (encT ky)).size) := by omega
      have hadd2 : ¬ (9223372036854775807 < (baOf A).size + (baOf (encT ky)).size + (baOf (encT vl)).size) := by omega
      have HC1 := Lib.hid fun W => refBytes_any ky W hk1
      have HC2 := Lib.hid fun W => refBytes_any vl W hk2
      clear hs1 hs2 hs3
      go_wp2_with fail
      go_region_held3 (fun w' => w'.cell? ⟨b, off + k * 2, none⟩ = some (.string ky) ∧ w'.cell? ⟨b, off + k * 2 + 1, none⟩ = some (.string vl))
        (first | assumption | exact ⟨keepc hb3 (keepc hb2 (keepc (bdrew1 _) c0r)), keepc hb3 (keepc hb2 (keepc (bdrew1 _) c1r))⟩ | exact ⟨keepc hb2 (keepc (bdrew1 _) c0r), keepc hb2 (keepc (bdrew1 _) c1r)⟩ | exact ⟨keepc (bdrew1 _) c0r, keepc (bdrew1 _) c1r⟩)
        (first
          | (go_at_call_of 143 (Value.string vl); refine (HC2.out w2).mono ?_; rintro e w3 ⟨rfl, hb3⟩)
          | (go_at_call_of 143 (Value.string ky); refine (HC1.out wr.drew).mono ?_; rintro e w2 ⟨rfl, hb2⟩))
      all_goals
        go_wp2
        refine ⟨⟨k + 1, A ++ (encT ky ++ encT vl), hlt, by go_num, by rw [ba_append, ba_append, List.append_assoc], ?_, ?_, bto (bto (HB.out.trans (Below.mono (bdrew1 wr) HB.out.size)) hb2) hb3⟩, by simp [intOf]; omega⟩
        · rw [HA.out, List.append_assoc, flat_snoc encLab l k hkl, HE.out]
        · rw [List.length_append, List.length_append]
          have := encT_len ky
          have := encT_len vl
          omega
    · have hkn : k = n := by omega
      go_wp2
      go_ret
      refine ⟨?_, HB.out⟩
      rw [HA.out, hkn, HN.out, List.take_length]
      rfl
set_option maxHeartbeats 2000000 in
theorem refLabels_zero (a : Option Addr) (c : Nat) (w : World) : Calls Tryz.prog 53 #[.slice a 0 c] w fun e w' => e = .returned (.string (baOf (encL encLab []))) ∧ Below w.heap.size w w' := by
  go_enter Tryz.func53, Tryz.ntmps53
  go_wp2_with (go_at_call 145; refine (refNumber_any 0 w (by omega)).mono ?_; rintro e w1 ⟨rfl, hb1⟩)
  go_loop [3, 4] (fun v i => v = .string (baOf (putN 0)) ∧ i = .int .i64 0) (fun _ _ => 0)
  case atStart => exact ⟨rfl, rfl⟩
  case round =>
    obtain ⟨rfl, rfl⟩ := hrel
    go_wp2
    go_ret
    exact ⟨rfl, hb1⟩
theorem refLabels_any (I : Nat → Prop) (v : Value) (l : List LabelD) (w : World) (h : ILabs I w v l) (hn : l.length ≤ 1000) (ho : LabsOk l) :
    Calls Tryz.prog 53 #[v] w fun e w' => e = .returned (.string (baOf (encL encLab l))) ∧ Below w.heap.size w w' := by
  rcases h with ⟨rfl, a, c, rfl⟩ | ⟨h0, b, off, c, rfl, hc, hI, hr⟩
  · exact refLabels_zero a c w
  · exact refLabels_row b off c l w h0 hn ho hr
end Go.Proofs.YtgelbkgkjkeccaaGreatDoor
namespace Go.Proofs.YtgelbkgkjkeccaaGreatDoor
open Go.RowKit

def glueR {α : Type} (acc : List α) (q : RS × List α) : RS × List α := (q.1, acc ++ q.2)
theorem glueR_more {α : Type} {one : RS → RS × α} {acc : List α} {m : Nat} {s : RS} (h : s.c = 0) : glueR acc (listR one (m + 1) s) = glueR (acc ++ [(one s).2]) (listR one m (one s).1) := by
  unfold glueR
  rw [listR, if_neg (by simp [h])]
  simp
theorem glueR_bad {α : Type} {one : RS → RS × α} {acc : List α} {m : Nat} {s : RS} (h : s.c ≠ 0) : glueR acc (listR one m s) = (s, acc) := by
  unfold glueR
  cases m with
  | zero => rw [listR]; simp
  | succ m => rw [listR, if_pos h]; simp
theorem glueR_end {α : Type} {one : RS → RS × α} {acc : List α} {s : RS} : glueR acc (listR one 0 s) = (s, acc) := by
  unfold glueR
  rw [listR]; simp
theorem takeAllR_eq {α : Type} (m : Nat) (one : RS → RS × α) (r : RS) : takeAllR m one r = listR one (numP m r).2.toNat (numP m r).1 := rfl
theorem Suf.lab {l0 : List UInt8} {r : RS} (h : Suf l0 r) : Suf l0 (labP r).1 := (h.text 33).text 16
def TakeRPost (l0 : List UInt8) (w : World) {α : Type} (O : World → Value → List α → Prop) (q : RS × List α) (e : Ending) (w' : World) : Prop := ∃ v, e = .returned (.tuple #[V70 l0 (posR l0 q.1) q.1.c, v]) ∧ O w' v q.2 ∧ Below w.heap.size w w'
theorem TakeRPost.mk {l0 : List UInt8} {w w' : World} {α : Type} {O : World → Value → List α → Prop} {s : RS} {acc : List α} {v : Value} {a : Nat} {c : Int} (h1 : a = posR l0 s) (h2 : c = s.c) (ho : O w' v acc) (hb : Below w.heap.size w w') : TakeRPost l0 w O (s, acc) (.returned (.tuple #[V70 l0 a c, v])) w' := by
  subst h1 h2
  exact ⟨v, rfl, ho, hb⟩
theorem grown_lt {w w' : World} {v : Value} {B n e size q : Nat} {xs : List Value} {o : Obj} (hg : w.grownBy w' v.ownBlock) (ho : w.ownsRow B e size v n xs) (hq : w.heap[q]? = some o) (hB : q < B) : w'.heap[q]? = some o := by
  refine (hg.block q (Array.getElem?_eq_some_iff.1 hq).1 fun e1 => ?_).trans hq
  rcases ho.2 with ⟨rfl, _⟩ | ⟨g, cap, cur, rfl, hb, hh, _⟩
  · cases e1
  · have : q = g := by simpa [Value.ownBlock] using e1
    omega
theorem below_grown {B n size : Nat} {w X w' : World} {v : Value} {e : TypeId} {xs : List Value} (h : Below w.heap.size w X) (hg : X.grownBy w' v.ownBlock) (ho : X.ownsRow B e size v n xs) (hB : w.heap.size ≤ B) : Below w.heap.size w w' :=
  ⟨hg.os.trans h.os, hg.tape.trans h.tape, hg.output.trans h.output, Nat.le_trans h.size hg.size, fun k hk => (hg.block k (Nat.lt_of_lt_of_le hk h.size) (fun e1 => by
    rcases ho.2 with ⟨rfl, _⟩ | ⟨g, cap, cur, rfl, hb, _⟩
    · cases e1
    · have : k = g := by simpa [Value.ownBlock] using e1
      omega)).trans (h.block k hk)⟩
theorem owns_below {B : Nat} {w w' : World} {e : TypeId} {size n : Nat} {v : Value} {xs : List Value} (h : w.ownsRow B e size v n xs) (hb : Below w.heap.size w w') : w'.ownsRow B e size v n xs := by
  refine ⟨h.1, h.2.imp_right ?_⟩
  rintro ⟨g, cap, cur, hv, hB, hh, r⟩
  exact ⟨g, cap, cur, hv, hB, (hb.block g (Array.getElem?_eq_some_iff.1 hh).1).trans hh, r⟩
theorem owns_keptN {B g0 : Nat} {w w' : World} {e : TypeId} {size n : Nat} {v : Value} {xs : List Value} (h : w.ownsRow B e size v n xs) (hk : Kept (· = g0) w w') (hg : g0 < B ∨ ∃ cs T fr, w.heap[g0]? = some (.cells cs T fr) ∧ T ≠ e) : w'.ownsRow B e size v n xs := by
  refine ⟨h.1, h.2.imp_right ?_⟩
  rintro ⟨g, cap, cur, hv, hB, hh, r⟩
  refine ⟨g, cap, cur, hv, hB, (hk.block g (Array.getElem?_eq_some_iff.1 hh).1 fun e1 => ?_).trans hh, r⟩
  have e2 : g = g0 := e1
  rcases hg with h1 | ⟨cs, T, fr, h1, h2⟩
  · omega
  · subst e2
    rw [h1] at hh
    injection hh with hh
    injection hh with _ ht
    exact h2 ht
theorem owns_keptF {B g0 : Nat} {w w' : World} {e : TypeId} {size n : Nat} {v : Value} {xs : List Value} (h : w.ownsRow B e size v n xs) (hk : Kept (· = g0) w w') (hg : ∀ cap, v ≠ .slice (some ⟨g0, 0, none⟩) n cap) : w'.ownsRow B e size v n xs := by
  refine ⟨h.1, h.2.imp_right ?_⟩
  rintro ⟨g, cap, cur, hv, hB, hh, r⟩
  exact ⟨g, cap, cur, hv, hB, (hk.block g (Array.getElem?_eq_some_iff.1 hh).1 fun e1 => hg cap (by rw [hv, show g = g0 from e1])).trans hh, r⟩
theorem owns_lt {B : Nat} {w : World} {e : TypeId} {size n : Nat} {v : Value} {xs : List Value} (h : w.ownsRow B e size v n xs) {g0 : Nat} (hg : w.heap.size ≤ g0) : ∀ cap, v ≠ .slice (some ⟨g0, 0, none⟩) n cap := by
  intro cap hv
  rcases h.2 with ⟨h1, _⟩ | ⟨g, cap2, cur, h1, hB, hh, r⟩
  · rw [h1] at hv; cases hv
  · rw [h1] at hv
    injection hv with h2
    injection h2 with h2
    injection h2 with h2
    have := (Array.getElem?_eq_some_iff.1 hh).1
    omega
theorem grown_block {w w' : World} {v : Value} {B n e size q : Nat} {xs : List Value} {cs : Array Value} {T : TypeId} {fr : Nat × Nat} (hg : w.grownBy w' v.ownBlock) (ho : w.ownsRow B e size v n xs) (hq : w.heap[q]? = some (.cells cs T fr)) (hT : T ≠ e) : w'.heap[q]? = some (.cells cs T fr) := by
  refine (hg.block q (Array.getElem?_eq_some_iff.1 hq).1 fun e1 => ?_).trans hq
  rcases ho.2 with ⟨rfl, _⟩ | ⟨g, cap, cur, rfl, hb, hh, _⟩
  · cases e1
  · have : q = g := by simpa [Value.ownBlock] using e1
    subst this
    rw [hh] at hq
    injection hq with hq
    injection hq with _ ht
    exact hT ht.symm
set_option maxHeartbeats 12000000 in
set_option maxRecDepth 100000 in
theorem refTakeLabels_any (l0 : List UInt8) (r : RS) (w : World) (hs : Suf l0 r) (hl : l0.length ≤ 1000000) : Calls Tryz.prog 52 #[V70 l0 (posR l0 r) r.c] w (TakeRPost l0 w (fun w' v l => OLabs (Ran w.heap.size w'.heap.size) w' v l) (labsR r)) := by
  obtain ⟨i0, hi0, hz0, hz1, hz2⟩ := info_parts info159
  have HCN := Lib.hid fun w => refNum_any l0 r 4 w (by omega) hs hl
  have hin := numP_in 4 r
  have herr := numP_err (m := 4) (s := r)
  obtain ⟨a, ha⟩ : ∃ a, a = posR l0 r := ⟨_, rfl⟩
  obtain ⟨rc, hrc⟩ : ∃ a, a = r.c := ⟨_, rfl⟩
  obtain ⟨r1, hr1⟩ : ∃ x, x = (numP 4 r).1 := ⟨_, rfl⟩
  obtain ⟨n, hn⟩ : ∃ x : Nat, (x : Int) = (numP 4 r).2 := ⟨(numP 4 r).2.toNat, by omega⟩
  have HS1 : Hid (Suf l0 r1) := Lib.hid (by rw [hr1]; exact hs.num 4)
  have HE : Hid (labsR r = listR labP n r1) := Lib.hid (by
    unfold labsR
    rw [takeAllR_eq, ← hn, ← hr1]; rfl)
  rw [← ha, ← hrc, ← hr1, ← hn] at HCN
  rw [← ha, ← hrc]
  rw [← hn] at hin
  have hn4 : n ≤ 4 := by omega
  clear ha hrc hr1 hn hin herr hs
  go_enter Tryz.func52, Tryz.ntmps52
  go_upto_region 1 with fail
  obtain ⟨W, hW⟩ : ∃ W, W = (w.alloc (.cells #[.string (baOf l0), .int .i64 (a : Int), .int .i64 rc] 70)).alloc (.cells #[.string ⟨#[]⟩, .int .i64 0, .int .i64 0] 70) := ⟨_, rfl⟩
  have HB0 := Lib.hid (show Below w.heap.size w W from by rw [hW]; exact bto (bnew _ _) (bnew _ _))
  have HS0 := Lib.hid (show W.heap.size = w.heap.size + 2 from by rw [hW]; simp)
  have HX0 := Lib.hid (show W.heap[w.heap.size]? = some (.cells #[.string (baOf l0), .int .i64 (a : Int), .int .i64 rc] 70 (0, 0)) from by rw [hW, Below.heap_alloc _ _ _ (by simp)]; exact heap_alloc_new _ _)
  have HX1 := Lib.hid (show W.heap[w.heap.size + 1]? = some (.cells #[.string ⟨#[]⟩, .int .i64 0, .int .i64 0] 70 (0, 0)) from by rw [hW]; exact heap_alloc_is _ _ _ (by simp))
  rw [← hW]
  clear hW
  have hWs : w.heap.size + 2 ≤ W.heap.size := by have := HS0.out; omega
  have a0 : W.cell? ⟨w.heap.size, 0, none⟩ = some (.string (baOf l0)) := cell_at HX0.out rfl
  have a1 : W.cell? ⟨w.heap.size, 1, none⟩ = some (.int .i64 (a : Int)) := cell_at HX0.out rfl
  have a2 : W.cell? ⟨w.heap.size, 2, none⟩ = some (.int .i64 rc) := cell_at HX0.out rfl
  go_wp2_with fail
  refine (HCN.out W).mono ?_
  rintro e w1 ⟨rfl, hb1⟩
  obtain ⟨b1, hb1e⟩ : ∃ x, x = posR l0 r1 := ⟨_, rfl⟩
  obtain ⟨c1, hc1e⟩ : ∃ x, x = r1.c := ⟨_, rfl⟩
  rw [← hb1e, ← hc1e]
  have HP1 := Lib.hid hb1e
  have HC1 := Lib.hid hc1e
  have HY0 := Lib.hid (boxB hb1 HX0.out)
  have HY1 := Lib.hid (boxB hb1 HX1.out)
  have HB1 := Lib.hid (bto HB0.out hb1)
  have hw1s := hb1.size
  clear hb1 hb1e hc1e a0 a1 a2 HX0 HX1
  have a0 : w1.cell? ⟨w.heap.size, 0, none⟩ = some (.string (baOf l0)) := cell_at HY0.out rfl
  have af0 : w1.frozen? ⟨w.heap.size, 0, none⟩ = false := frozen_at HY0.out
  have a1 : w1.cell? ⟨w.heap.size, 1, none⟩ = some (.int .i64 (a : Int)) := cell_at HY0.out rfl
  have af1 : w1.frozen? ⟨w.heap.size, 1, none⟩ = false := frozen_at HY0.out
  have a2 : w1.cell? ⟨w.heap.size, 2, none⟩ = some (.int .i64 rc) := cell_at HY0.out rfl
  have af2 : w1.frozen? ⟨w.heap.size, 2, none⟩ = false := frozen_at HY0.out
  go_upto_region 3 with fail
  obtain ⟨X1, hX⟩ : ∃ X, X = (((w1.setCell ⟨w.heap.size, 0, none⟩ (.string (baOf l0))).setCell ⟨w.heap.size, 1, none⟩ (.int .i64 (b1 : Int))).setCell ⟨w.heap.size, 2, none⟩ (.int .i64 c1)) := ⟨_, rfl⟩
  have HKX := Lib.hid (show Kept (· = w.heap.size) w1 X1 from by rw [hX]; exact putCells_kept w.heap.size [.string (baOf l0), .int .i64 (b1 : Int), .int .i64 c1] w1 0)
  have HBX_X1 := Lib.hid (show X1.heap[w.heap.size]? = some (.cells #[.string (baOf l0), .int .i64 (b1 : Int), .int .i64 c1] 70 (0, 0)) from by rw [hX]; exact put11 (vs := [.string (baOf l0), .int .i64 (b1 : Int), .int .i64 c1]) (cur := [.string (baOf l0), .int .i64 (a : Int), .int .i64 rc]) HY0.out rfl)
  have HB_X1 := Lib.hid (belowk0 HB1.out HKX.out (fun i hi => by have h2 : i = w.heap.size := hi; omega) HB1.out.size)
  have HZ1 := Lib.hid (kept_block HKX.out HY1.out (by omega))
  rw [← hX]
  clear hX
  clear a0 a1 a2 af0 af1 af2 HY0 HY1 HB1 HKX
  go_wp2_with fail
  go_loopw [4, 6] (fun v i wr => ∃ (k : Nat) (acc : List LabelD) (s : RS), k ≤ n ∧ i = .int .i64 k ∧ acc.length = k ∧ wr.ownsRow (w.heap.size + 2) 159 2 v k (labsCells acc) ∧ wr.heap[w.heap.size]? = some (.cells #[.string (baOf l0), .int .i64 ((posR l0 s : Nat) : Int), .int .i64 s.c] 70 (0, 0)) ∧ wr.heap[w.heap.size + 1]? = some (.cells #[.string ⟨#[]⟩, .int .i64 0, .int .i64 0] 70 (0, 0)) ∧ Below w.heap.size w wr ∧ Suf l0 s ∧ listR labP n r1 = glueR acc (listR labP (n - k) s)) (fun _ i _ => n - (intOf i).toNat)
  case atStart => exact ⟨0, [], r1, Nat.zero_le _, rfl, rfl, ⟨rfl, .inl ⟨rfl, rfl⟩⟩, by rw [← HP1.out, ← HC1.out]; exact HBX_X1.out, HZ1.out, HB_X1.out, HS1.out, rfl⟩
  case round =>
    obtain ⟨k, acc, s, hk, rfl, hal, hown, hb0, hb1, hbel, hsuf, hgl⟩ := hrel
    have HAL := Lib.hid hal
    have HOWN := Lib.hid hown
    have HK0 := Lib.hid hb0
    have HK1 := Lib.hid hb1
    have HBEL := Lib.hid hbel
    have HGL := Lib.hid hgl
    have HSF := Lib.hid hsuf
    have HT1 := Lib.hid fun W => refText_any l0 s 33 W (by omega) hsuf hl
    obtain ⟨p, hp⟩ : ∃ p, p = posR l0 s := ⟨_, rfl⟩
    obtain ⟨sc, hsc⟩ : ∃ p, p = s.c := ⟨_, rfl⟩
    have HP := Lib.hid hp
    have HSC := Lib.hid hsc
    rw [← hp, ← hsc] at HK0 HT1
    clear hal hown hb0 hb1 hbel hgl hsuf hp hsc
    have hbz : w.heap.size + 2 ≤ wr.heap.size := by have := (Array.getElem?_eq_some_iff.1 HK1.out).1; omega
    have a0 : wr.cell? ⟨w.heap.size, 0, none⟩ = some (.string (baOf l0)) := cell_at HK0.out rfl
    have a1 : wr.cell? ⟨w.heap.size, 1, none⟩ = some (.int .i64 (p : Int)) := cell_at HK0.out rfl
    have a2 : wr.cell? ⟨w.heap.size, 2, none⟩ = some (.int .i64 sc) := cell_at HK0.out rfl
    by_cases hlt : k < n
    · by_cases hc : sc = 0
      · have hcb : (sc == 0) = true := by simpa using hc
        have hcb2 : (sc != 0) = false := by simp [hc]
        have HC0 := Lib.hid hc
        clear hc
        go_upto_region 7 with fail
        obtain ⟨gL, hgL⟩ : ∃ g, g = wr.heap.size := ⟨_, rfl⟩
        obtain ⟨Y0, hY⟩ : ∃ X, X = wr.alloc (.cells #[.string ⟨#[]⟩, .string ⟨#[]⟩] 159) := ⟨_, rfl⟩
        have hYB : Below wr.heap.size wr Y0 := by rw [hY]; exact bnew _ _
        have HL0 := Lib.hid (show Y0.heap[gL]? = some (.cells #[.string ⟨#[]⟩, .string ⟨#[]⟩] 159 (0, 0)) from by rw [hY, hgL]; exact heap_alloc_new _ _)
        have HQ0 := Lib.hid (boxB hYB HK0.out)
        have HQ1 := Lib.hid (boxB hYB HK1.out)
        have HBY := Lib.hid (bto HBEL.out hYB)
        have hgB : w.heap.size + 2 ≤ gL := by omega
        have hnv := owns_lt HOWN.out (Nat.le_of_eq hgL.symm)
        have HNV := Lib.hid hnv
        have HOY := Lib.hid (owns_below HOWN.out hYB)
        rw [← hY, ← hgL]
        clear hY hgL hYB HK0 HK1 HBEL HOWN hnv a0 a1 a2
        have a0 : Y0.cell? ⟨w.heap.size, 0, none⟩ = some (.string (baOf l0)) := cell_at HQ0.out rfl
        have a1 : Y0.cell? ⟨w.heap.size, 1, none⟩ = some (.int .i64 (p : Int)) := cell_at HQ0.out rfl
        have a2 : Y0.cell? ⟨w.heap.size, 2, none⟩ = some (.int .i64 sc) := cell_at HQ0.out rfl
        obtain ⟨s1, hs1⟩ : ∃ x, x = (textP 33 s).1 := ⟨_, rfl⟩
        obtain ⟨ky, hky⟩ : ∃ x, x = (textP 33 s).2 := ⟨_, rfl⟩
        have hsf1 : Suf l0 s1 := by rw [hs1]; exact HSF.out.text 33
        obtain ⟨p1, hp1⟩ : ∃ p, p = posR l0 s1 := ⟨_, rfl⟩
        obtain ⟨sc1, hsc1⟩ : ∃ p, p = s1.c := ⟨_, rfl⟩
        have HT2 := Lib.hid fun W => refText_any l0 s1 16 W (by omega) hsf1 hl
        obtain ⟨s2, hs2⟩ : ∃ x, x = (textP 16 s1).1 := ⟨_, rfl⟩
        obtain ⟨vl, hvl⟩ : ∃ x, x = (textP 16 s1).2 := ⟨_, rfl⟩
        obtain ⟨p2, hp2⟩ : ∃ p, p = posR l0 s2 := ⟨_, rfl⟩
        obtain ⟨sc2, hsc2⟩ : ∃ p, p = s2.c := ⟨_, rfl⟩
        have HSF2 : Hid (Suf l0 s2) := Lib.hid (by rw [hs2]; exact hsf1.text 16)
        have HLB : Hid (labP s = (s2, ⟨ky, vl⟩)) := Lib.hid (by rw [hs2, hvl, hky, hs1]; rfl)
        unfold RefPost at HT1 HT2
        rw [← hs1, ← hky, ← hp1, ← hsc1] at HT1
        rw [← hs2, ← hvl, ← hp2, ← hsc2, ← hp1, ← hsc1] at HT2
        have HPP2 := Lib.hid hp2
        have HSC2 := Lib.hid hsc2
        clear hs1 hky hsf1 hp1 hsc1 hs2 hvl hp2 hsc2
        go_wp2_with fail
        refine (HT1.out Y0).mono ?_
        rintro e w2 ⟨rfl, hb2⟩
        have h9 := hb2.size
        go_upto_region 8 with fail
        obtain ⟨g1, hg1⟩ : ∃ g, g = w2.heap.size := ⟨_, rfl⟩
        obtain ⟨YA1, hY⟩ : ∃ X, X = w2.alloc (.cells #[.string (baOf l0), .int .i64 (p1 : Int), .int .i64 sc1] 70) := ⟨_, rfl⟩
        have hYB : Below Y0.heap.size Y0 YA1 := by rw [hY]; exact bto hb2 (bnew _ _)
        have HGA1 := Lib.hid (show YA1.heap[g1]? = some (.cells #[.string (baOf l0), .int .i64 (p1 : Int), .int .i64 sc1] 70 (0, 0)) from by rw [hY, hg1]; exact heap_alloc_new _ _)
        have HLA1 := Lib.hid (boxB hYB HL0.out)
        have HQ0A1 := Lib.hid (boxB hYB HQ0.out)
        have HQ1A1 := Lib.hid (boxB hYB HQ1.out)
        have HBA1 := Lib.hid (bto HBY.out hYB)
        have HOA1 := Lib.hid (owns_below HOY.out hYB)
        have hgw1 : w.heap.size + 2 ≤ g1 := by have := (Array.getElem?_eq_some_iff.1 HL0.out).1; omega
        rw [← hY, ← hg1]
        clear hY hg1 hYB hb2 h9 a0 a1 a2 HL0 HQ0 HQ1 HBY HOY
        have q0 : YA1.cell? ⟨g1, 0, none⟩ = some (.string (baOf l0)) := cell_at HGA1.out rfl
        have q1 : YA1.cell? ⟨g1, 1, none⟩ = some (.int .i64 (p1 : Int)) := cell_at HGA1.out rfl
        have q2 : YA1.cell? ⟨g1, 2, none⟩ = some (.int .i64 sc1) := cell_at HGA1.out rfl
        have a0 : YA1.cell? ⟨w.heap.size, 0, none⟩ = some (.string (baOf l0)) := cell_at HQ0A1.out rfl
        have af0 : YA1.frozen? ⟨w.heap.size, 0, none⟩ = false := frozen_at HQ0A1.out
        have a1 : YA1.cell? ⟨w.heap.size, 1, none⟩ = some (.int .i64 (p : Int)) := cell_at HQ0A1.out rfl
        have af1 : YA1.frozen? ⟨w.heap.size, 1, none⟩ = false := frozen_at HQ0A1.out
        have a2 : YA1.cell? ⟨w.heap.size, 2, none⟩ = some (.int .i64 sc) := cell_at HQ0A1.out rfl
        have af2 : YA1.frozen? ⟨w.heap.size, 2, none⟩ = false := frozen_at HQ0A1.out
        go_upto_region 9 with fail
        obtain ⟨YB1, hX⟩ : ∃ X, X = (((YA1.setCell ⟨w.heap.size, 0, none⟩ (.string (baOf l0))).setCell ⟨w.heap.size, 1, none⟩ (.int .i64 (p1 : Int))).setCell ⟨w.heap.size, 2, none⟩ (.int .i64 sc1)) := ⟨_, rfl⟩
        have HKX := Lib.hid (show Kept (· = w.heap.size) YA1 YB1 from by rw [hX]; exact putCells_kept w.heap.size [.string (baOf l0), .int .i64 (p1 : Int), .int .i64 sc1] YA1 0)
        have HBX_YB1 := Lib.hid (show YB1.heap[w.heap.size]? = some (.cells #[.string (baOf l0), .int .i64 (p1 : Int), .int .i64 sc1] 70 (0, 0)) from by rw [hX]; exact put11 (vs := [.string (baOf l0), .int .i64 (p1 : Int), .int .i64 sc1]) (cur := [.string (baOf l0), .int .i64 (p : Int), .int .i64 sc]) HQ0A1.out rfl)
        have HB_YB1 := Lib.hid (belowk0 HBA1.out HKX.out (fun i hi => by have h2 : i = w.heap.size := hi; omega) HBA1.out.size)
        have HLB1 := Lib.hid (kept_block HKX.out HLA1.out (by omega))
        have HQ1B1 := Lib.hid (kept_block HKX.out HQ1A1.out (by omega))
        rw [← hX]
        clear hX
        have HOB1 := Lib.hid (owns_keptN HOA1.out HKX.out (.inl (by omega)))
        clear HLA1 HQ1A1 HQ0A1 HGA1 HOA1 HBA1 HKX q0 q1 q2 a0 a1 a2 af0 af1 af2
        have q0 : YB1.cell? ⟨gL, 0, none⟩ = some (.string ⟨#[]⟩) := cell_at HLB1.out rfl
        have qf0 : YB1.frozen? ⟨gL, 0, none⟩ = false := frozen_at HLB1.out
        have q1 : YB1.cell? ⟨gL, 1, none⟩ = some (.string ⟨#[]⟩) := cell_at HLB1.out rfl
        have qf1 : YB1.frozen? ⟨gL, 1, none⟩ = false := frozen_at HLB1.out
        go_upto_region 10 with fail
        obtain ⟨YC1, hY⟩ : ∃ X, X = YB1.setCell ⟨gL, 0, none⟩ (.string ky) := ⟨_, rfl⟩
        have HKX := Lib.hid (show Kept (· = gL) YB1 YC1 from by rw [hY]; exact kept_set _ _ _ _)
        have HLC1 := Lib.hid (show YC1.heap[gL]? = some (.cells #[.string ky, .string ⟨#[]⟩] 159 (0, 0)) from by rw [hY]; exact setCell_atn _ _ _ _ _ _ HLB1.out)
        have HQ0C1 := Lib.hid (kept_block HKX.out HBX_YB1.out (by omega))
        have HQ1C1 := Lib.hid (kept_block HKX.out HQ1B1.out (by omega))
        have HBC1 := Lib.hid (belowk0 HB_YB1.out HKX.out (fun i hi => by have h2 : i = gL := hi; omega) HB_YB1.out.size)
        have HOC1 := Lib.hid (owns_keptF HOB1.out HKX.out HNV.out)
        rw [← hY]
        clear hY HKX HLB1 HQ1B1 HOB1 HBX_YB1 HB_YB1 q0 q1 qf0 qf1
        have a0 : YC1.cell? ⟨w.heap.size, 0, none⟩ = some (.string (baOf l0)) := cell_at HQ0C1.out rfl
        have a1 : YC1.cell? ⟨w.heap.size, 1, none⟩ = some (.int .i64 (p1 : Int)) := cell_at HQ0C1.out rfl
        have a2 : YC1.cell? ⟨w.heap.size, 2, none⟩ = some (.int .i64 sc1) := cell_at HQ0C1.out rfl
        go_wp2_with fail
        refine (HT2.out YC1).mono ?_
        rintro e w3 ⟨rfl, hb2⟩
        have h9 := hb2.size
        go_upto_region 11 with fail
        obtain ⟨g2, hg2⟩ : ∃ g, g = w3.heap.size := ⟨_, rfl⟩
        obtain ⟨YA2, hY⟩ : ∃ X, X = w3.alloc (.cells #[.string (baOf l0), .int .i64 (p2 : Int), .int .i64 sc2] 70) := ⟨_, rfl⟩
        have hYB : Below YC1.heap.size YC1 YA2 := by rw [hY]; exact bto hb2 (bnew _ _)
        have HGA2 := Lib.hid (show YA2.heap[g2]? = some (.cells #[.string (baOf l0), .int .i64 (p2 : Int), .int .i64 sc2] 70 (0, 0)) from by rw [hY, hg2]; exact heap_alloc_new _ _)
        have HLA2 := Lib.hid (boxB hYB HLC1.out)
        have HQ0A2 := Lib.hid (boxB hYB HQ0C1.out)
        have HQ1A2 := Lib.hid (boxB hYB HQ1C1.out)
        have HBA2 := Lib.hid (bto HBC1.out hYB)
        have HOA2 := Lib.hid (owns_below HOC1.out hYB)
        have hgw2 : w.heap.size + 2 ≤ g2 := by have := (Array.getElem?_eq_some_iff.1 HLC1.out).1; omega
        rw [← hY, ← hg2]
        clear hY hg2 hYB hb2 h9 a0 a1 a2 HLC1 HQ0C1 HQ1C1 HBC1 HOC1
        have q0 : YA2.cell? ⟨g2, 0, none⟩ = some (.string (baOf l0)) := cell_at HGA2.out rfl
        have q1 : YA2.cell? ⟨g2, 1, none⟩ = some (.int .i64 (p2 : Int)) := cell_at HGA2.out rfl
        have q2 : YA2.cell? ⟨g2, 2, none⟩ = some (.int .i64 sc2) := cell_at HGA2.out rfl
        have a0 : YA2.cell? ⟨w.heap.size, 0, none⟩ = some (.string (baOf l0)) := cell_at HQ0A2.out rfl
        have af0 : YA2.frozen? ⟨w.heap.size, 0, none⟩ = false := frozen_at HQ0A2.out
        have a1 : YA2.cell? ⟨w.heap.size, 1, none⟩ = some (.int .i64 (p1 : Int)) := cell_at HQ0A2.out rfl
        have af1 : YA2.frozen? ⟨w.heap.size, 1, none⟩ = false := frozen_at HQ0A2.out
        have a2 : YA2.cell? ⟨w.heap.size, 2, none⟩ = some (.int .i64 sc1) := cell_at HQ0A2.out rfl
        have af2 : YA2.frozen? ⟨w.heap.size, 2, none⟩ = false := frozen_at HQ0A2.out
        go_upto_region 12 with fail
        obtain ⟨YB2, hX⟩ : ∃ X, X = (((YA2.setCell ⟨w.heap.size, 0, none⟩ (.string (baOf l0))).setCell ⟨w.heap.size, 1, none⟩ (.int .i64 (p2 : Int))).setCell ⟨w.heap.size, 2, none⟩ (.int .i64 sc2)) := ⟨_, rfl⟩
        have HKX := Lib.hid (show Kept (· = w.heap.size) YA2 YB2 from by rw [hX]; exact putCells_kept w.heap.size [.string (baOf l0), .int .i64 (p2 : Int), .int .i64 sc2] YA2 0)
        have HBX_YB2 := Lib.hid (show YB2.heap[w.heap.size]? = some (.cells #[.string (baOf l0), .int .i64 (p2 : Int), .int .i64 sc2] 70 (0, 0)) from by rw [hX]; exact put11 (vs := [.string (baOf l0), .int .i64 (p2 : Int), .int .i64 sc2]) (cur := [.string (baOf l0), .int .i64 (p1 : Int), .int .i64 sc1]) HQ0A2.out rfl)
        have HB_YB2 := Lib.hid (belowk0 HBA2.out HKX.out (fun i hi => by have h2 : i = w.heap.size := hi; omega) HBA2.out.size)
        have HLB2 := Lib.hid (kept_block HKX.out HLA2.out (by omega))
        have HQ1B2 := Lib.hid (kept_block HKX.out HQ1A2.out (by omega))
        rw [← hX]
        clear hX
        have HOB2 := Lib.hid (owns_keptN HOA2.out HKX.out (.inl (by omega)))
        clear HLA2 HQ1A2 HQ0A2 HGA2 HOA2 HBA2 HKX q0 q1 q2 a0 a1 a2 af0 af1 af2
        have q0 : YB2.cell? ⟨gL, 0, none⟩ = some (.string ky) := cell_at HLB2.out rfl
        have qf0 : YB2.frozen? ⟨gL, 0, none⟩ = false := frozen_at HLB2.out
        have q1 : YB2.cell? ⟨gL, 1, none⟩ = some (.string ⟨#[]⟩) := cell_at HLB2.out rfl
        have qf1 : YB2.frozen? ⟨gL, 1, none⟩ = false := frozen_at HLB2.out
        go_upto_region 13 with fail
        obtain ⟨YC2, hY⟩ : ∃ X, X = YB2.setCell ⟨gL, 1, none⟩ (.string vl) := ⟨_, rfl⟩
        have HKX := Lib.hid (show Kept (· = gL) YB2 YC2 from by rw [hY]; exact kept_set _ _ _ _)
        have HLC2 := Lib.hid (show YC2.heap[gL]? = some (.cells #[.string ky, .string vl] 159 (0, 0)) from by rw [hY]; exact setCell_atn _ _ _ _ _ _ HLB2.out)
        have HQ0C2 := Lib.hid (kept_block HKX.out HBX_YB2.out (by omega))
        have HQ1C2 := Lib.hid (kept_block HKX.out HQ1B2.out (by omega))
        have HBC2 := Lib.hid (belowk0 HB_YB2.out HKX.out (fun i hi => by have h2 : i = gL := hi; omega) HB_YB2.out.size)
        have HOC2 := Lib.hid (owns_keptF HOB2.out HKX.out HNV.out)
        rw [← hY]
        clear hY HKX HLB2 HQ1B2 HOB2 HBX_YB2 HB_YB2 q0 q1 qf0 qf1
        have a0 : YC2.cell? ⟨w.heap.size, 0, none⟩ = some (.string (baOf l0)) := cell_at HQ0C2.out rfl
        have a1 : YC2.cell? ⟨w.heap.size, 1, none⟩ = some (.int .i64 (p2 : Int)) := cell_at HQ0C2.out rfl
        have a2 : YC2.cell? ⟨w.heap.size, 2, none⟩ = some (.int .i64 sc2) := cell_at HQ0C2.out rfl
        have q0 : YC2.cell? ⟨gL, 0, none⟩ = some (.string ky) := cell_at HLC2.out rfl
        have q1 : YC2.cell? ⟨gL, 1, none⟩ = some (.string vl) := cell_at HLC2.out rfl
        have hyz : w.heap.size + 2 ≤ YC2.heap.size := by have := (Array.getElem?_eq_some_iff.1 HLC2.out).1; omega
        go_wp2_with (at_builtin; refine wpList_append_own _ rfl _ _ 22 rfl (w.heap.size + 2) 159 i0 _ 2 32 Tryz.underlying22 hi0 hz0 hz1 hz2 rfl (by decide) _ k (labsCells acc) rfl (HOC2.out.alloc _) ⟨YC2.heap.size, 0, none⟩ 1 1 [.string ky, .string vl] rfl rfl ?c1 ?c2 ?c3 ?c4 ?c5 ?_)
        case c1 => intro j u hj; rw [Addr.add_lit, Nat.zero_add]; exact new_cells _ [.string ky, .string vl] _ j u hj
        case c2 => simp [Value.oneCell']
        case c3 => unfold maxLen; omega
        case c4 => omega
        case c5 => simp; omega
        intro v' w4 hown4 hgrow _
        have HO4 := Lib.hid hown4
        have HF0 := Lib.hid (grown_lt hgrow (HOC2.out.alloc _) (boxB (bnew _ _) HQ0C2.out) (by omega))
        have HF1 := Lib.hid (grown_lt hgrow (HOC2.out.alloc _) (boxB (bnew _ _) HQ1C2.out) (by omega))
        have HF2 := Lib.hid (below_grown (bto HBC2.out (bnew _ _)) hgrow (HOC2.out.alloc _) (by omega))
        clear hown4 hgrow q0 q1
        go_wp2
        refine ⟨⟨k + 1, acc ++ [⟨ky, vl⟩], s2, hlt, by go_num, by rw [List.length_append, HAL.out]; rfl, by rw [labsCells_snoc]; exact HO4.out, by rw [← HPP2.out, ← HSC2.out]; exact HF0.out, HF1.out, HF2.out, HSF2.out, ?_⟩, by simp [intOf]; omega⟩
        obtain ⟨j, hj⟩ : ∃ j, n - k = j + 1 := ⟨n - k - 1, by omega⟩
        rw [HGL.out, hj, show n - (k + 1) = j by omega, glueR_more (by rw [← HSC.out, HC0.out]), HLB.out]
      · have hcb : (sc == 0) = false := by simpa using hc
        have hcb2 : (sc != 0) = true := by simpa using hc
        have HV : Hid (labsR r = (s, acc)) := Lib.hid (by rw [HE.out, HGL.out]; exact glueR_bad (by rw [← HSC.out]; exact hc))
        clear hc
        obtain ⟨va, vc, hf⟩ := own_slice HOWN.out
        have n0 : wr.cell? ⟨w.heap.size + 1, 0, none⟩ = some (.string ⟨#[]⟩) := cell_at HK1.out rfl
        have nf0 : wr.frozen? ⟨w.heap.size + 1, 0, none⟩ = false := frozen_at HK1.out
        have n1 : wr.cell? ⟨w.heap.size + 1, 1, none⟩ = some (.int .i64 0) := cell_at HK1.out rfl
        have nf1 : wr.frozen? ⟨w.heap.size + 1, 1, none⟩ = false := frozen_at HK1.out
        have n2 : wr.cell? ⟨w.heap.size + 1, 2, none⟩ = some (.int .i64 0) := cell_at HK1.out rfl
        have nf2 : wr.frozen? ⟨w.heap.size + 1, 2, none⟩ = false := frozen_at HK1.out
        have HR := Lib.hid (put11 (vs := [.string (baOf l0), .int .i64 (p : Int), .int .i64 sc]) (cur := [.string ⟨#[]⟩, .int .i64 0, .int .i64 0]) HK1.out rfl)
        have HRK := Lib.hid (putCells_kept (w.heap.size + 1) [.string (baOf l0), .int .i64 (p : Int), .int .i64 sc] wr 0)
        go_wp2
        refine bodyPost_ret (results_cell_tmp rfl _ _ (w.heap.size + 1) 70 _ (0, 0) _ rfl HR.out Tryz.underlying70 rfl (by kernel_rfl)) rfl ?_
        rw [HV.out]
        refine TakeRPost.mk HP.out HSC.out ?_ (belowk0 HBEL.out HRK.out (fun i hi => by have h2 : i = w.heap.size + 1 := hi; omega) HBEL.out.size)
        have h9 := ORow.mono (ORow.of_own (owns_keptN HOWN.out HRK.out (.inl (by omega)))) (J := Ran w.heap.size _) fun i hi => ⟨by have := hi.1; omega, hi.2⟩
        rw [← HAL.out] at h9
        exact h9
    · have HV : Hid (labsR r = (s, acc)) := Lib.hid (by rw [HE.out, HGL.out, show n - k = 0 by omega]; exact glueR_end)
      obtain ⟨va, vc, hf⟩ := own_slice HOWN.out
      have n0 : wr.cell? ⟨w.heap.size + 1, 0, none⟩ = some (.string ⟨#[]⟩) := cell_at HK1.out rfl
      have nf0 : wr.frozen? ⟨w.heap.size + 1, 0, none⟩ = false := frozen_at HK1.out
      have n1 : wr.cell? ⟨w.heap.size + 1, 1, none⟩ = some (.int .i64 0) := cell_at HK1.out rfl
      have nf1 : wr.frozen? ⟨w.heap.size + 1, 1, none⟩ = false := frozen_at HK1.out
      have n2 : wr.cell? ⟨w.heap.size + 1, 2, none⟩ = some (.int .i64 0) := cell_at HK1.out rfl
      have nf2 : wr.frozen? ⟨w.heap.size + 1, 2, none⟩ = false := frozen_at HK1.out
      have HR := Lib.hid (put11 (vs := [.string (baOf l0), .int .i64 (p : Int), .int .i64 sc]) (cur := [.string ⟨#[]⟩, .int .i64 0, .int .i64 0]) HK1.out rfl)
      have HRK := Lib.hid (putCells_kept (w.heap.size + 1) [.string (baOf l0), .int .i64 (p : Int), .int .i64 sc] wr 0)
      go_wp2
      refine bodyPost_ret (results_cell_tmp rfl _ _ (w.heap.size + 1) 70 _ (0, 0) _ rfl HR.out Tryz.underlying70 rfl (by kernel_rfl)) rfl ?_
      rw [HV.out]
      refine TakeRPost.mk HP.out HSC.out ?_ (belowk0 HBEL.out HRK.out (fun i hi => by have h2 : i = w.heap.size + 1 := hi; omega) HBEL.out.size)
      have h9 := ORow.mono (ORow.of_own (owns_keptN HOWN.out HRK.out (.inl (by omega)))) (J := Ran w.heap.size _) fun i hi => ⟨by have := hi.1; omega, hi.2⟩
      rw [← HAL.out] at h9
      exact h9
end Go.Proofs.YtgelbkgkjkeccaaGreatDoor
namespace Go.Proofs.YtgelbkgkjkeccaaGreatDoor
open Go.RowKit

theorem listP_bad {α : Type} {one : RS → RS × α} : ∀ (n : Nat) (s : RS), (listP one n s).1.c ≠ 0 → (listP one n s).2 = []
  | 0, s, _ => rfl
  | n + 1, s, h => by
    rw [listP] at h ⊢
    split
    · rfl
    · split
      · rfl
      · rename_i h1 h2
        rw [if_neg h1, if_neg h2] at h
        exact absurd h h2
theorem takeAllP_bad {α : Type} {one : RS → RS × α} (m : Nat) (s : RS) (h : (takeAllP m one s).1.c ≠ 0) : (takeAllP m one s).2 = [] := by
  rw [takeAllP_eq] at h ⊢
  exact listP_bad _ _ h
theorem labs_right (l : List LabelD) : endW (allLabsW l emptyW) = encL encLab l ∧ (allLabsW l emptyW).c = 0 := by
  have h := all_adds l (f := labW) (enc := encLab) fun x _ => labW_adds x
  have h2 : allLabsW l emptyW = ⟨[] ++ encL encLab l, 0⟩ := h emptyW rfl
  rw [h2]
  exact ⟨rfl, rfl⟩
theorem sameLabs_self (I J : Nat → Prop) (a1 a2 : Option Addr) (c1 c2 : Nat) (xs : List LabelD) (w : World) (h1 : ILabs I w (.slice a1 xs.length c1) xs) (h2 : ILabs J w (.slice a2 xs.length c2) xs) (hl : xs.length ≤ 1000000) :
    Calls Tryz.prog 54 #[.slice a1 xs.length c1, .slice a2 xs.length c2] w fun e w' => e = .returned (.bool true) ∧ Below w.heap.size w w' :=
  (sameLabs_any I J a1 a2 c1 c2 xs xs w h1 h2 hl).mono fun _ _ ⟨h1, h2⟩ => ⟨h1.trans (congrArg (fun x => Ending.returned (.bool x)) (decide_eq_true rfl)), h2⟩
theorem Suf.listR {l0 : List UInt8} : ∀ (n : Nat) (r : RS), Suf l0 r → Suf l0 (listR labP n r).1
  | 0, r, h => h
  | n + 1, r, h => by
    rw [Go.Proofs.YtgelbkgkjkeccaaGreatDoor.listR]
    split
    · exact h
    · exact Suf.listR n _ h.lab
theorem labsR_suf {l0 : List UInt8} {r : RS} (h : Suf l0 r) : Suf l0 (labsR r).1 := Suf.listR _ _ (h.num 4)
theorem lightL_fits {x : LabelD} (h : lightL x = true) : FitsL x := by
  simp only [lightL, Bool.and_eq_true, decide_eq_true_eq] at h
  exact h

set_option maxHeartbeats 12000000 in
set_option maxRecDepth 100000 in
theorem PackLabels_any (l : List LabelD) (a : Option Addr) (c : Nat) (b : ByteArray) (w : World) (hi : ILabs (· < w.heap.size) w (.slice a l.length c) l) (hm : LaidMarks w) (hg : ErrTyped w) :
    Calls Tryz.prog 8 #[.slice a l.length c, .string b] w fun e w' => e = .returned (.bool true) ∧ Below w.heap.size w w' := by
  have hgl := hg.lt
  obtain ⟨lb, rfl⟩ := ba_ex b
  have HBL := Lib.hid (ba_size_of lb)
  have HM := Lib.hid hm
  have HGT := Lib.hid hg
  have HI := Lib.hid hi
  clear hm hg hi
  by_cases h10 : 10 < l.length
  · go_enter Tryz.func8, Tryz.ntmps8
    go_wp2_with (go_at_call 39; refine (works07_any w HM.out HGT.out).mono ?_; rintro e w1 ⟨rfl, hb1⟩)
    go_ret
    exact ⟨rfl, hb1⟩
  by_cases h3 : 3000 < (baOf lb).size
  · go_enter Tryz.func8, Tryz.ntmps8
    go_wp2_with (go_at_call 39; refine (works07_any w HM.out HGT.out).mono ?_; rintro e w1 ⟨rfl, hb1⟩)
    go_ret
    exact ⟨rfl, hb1⟩
  have hlb : lb.length ≤ 3000 := by have := HBL.out; omega
  obtain ⟨S, hS⟩ : ∃ S : SpecD, S = ⟨⟨#[]⟩, l, [], [], 0, 0, 0⟩ := ⟨_, rfl⟩
  have HLT : Hid (Calls Tryz.prog 25 #[.agg #[.string ⟨#[]⟩, .slice a l.length c, .slice none 0 0, .slice none 0 0, .int .i64 0, .int .i64 0, .int .i64 0]] w fun e w' => e = .returned (.bool (lightS S)) ∧ Below w.heap.size w w') := Lib.hid (by
    have hz := (zero_own (· < w.heap.size) w).I
    rw [hS]
    exact Light_any (· < w.heap.size) ⟨⟨#[]⟩, l, [], [], 0, 0, 0⟩ a none none c 0 0 w ⟨HI.out, hz.inits, hz.mains⟩)
  have HSD := Lib.hid hS
  clear hS
  go_enter Tryz.func8, Tryz.ntmps8
  go_wp2_with fail
  refine HLT.out.mono ?_
  rintro e w1 ⟨rfl, hb1⟩
  have HB1 := Lib.hid hb1
  have hb1s := hb1.size
  clear hb1
  cases hls : lightS S with
  | false =>
    go_wp2_with (go_at_call 39; refine (works07_any w1 (HM.out.below HB1.out) (HGT.out.below HB1.out hgl)).mono ?_; rintro e w2 ⟨rfl, hb2⟩)
    go_ret
    exact ⟨rfl, bto HB1.out hb2⟩
  | true =>
    have hok : LabsOk l := by have h := (lightS_ok hls).labs; rw [HSD.out] at h; exact h
    have hft : ∀ x ∈ l, FitsL x := by
      have h := hls
      rw [HSD.out] at h
      simp only [lightS, Bool.and_eq_true, List.all_eq_true] at h
      exact fun x hx => lightL_fits (h.1.1.2 x hx)
    clear hls
    go_wp2_with fail
    refine (Write_any w1).mono ?_
    rintro e w2 ⟨rfl, hw2⟩
    have hwr := WrAt.new w1
    rw [← hw2] at hwr
    have hb12 : Below w1.heap.size w1 w2 := by rw [hw2]; exact bnew _ _
    have hs2 : w2.heap.size = w1.heap.size + 1 := by rw [hw2]; simp
    have HS2 := Lib.hid hs2
    clear hw2 hs2
    go_wp2_with fail
    refine (Read_any (baOf lb) w2).mono ?_
    rintro e W3 ⟨rfl, hw3⟩
    have hrd := RdAt.new w2 (baOf lb)
    rw [← hw3, HS2.out, ba_toList] at hrd
    rw [HS2.out]
    have hb23 : Below w2.heap.size w2 W3 := by rw [hw3]; exact bnew _ _
    have HW3 := Lib.hid (hwr.keptBelow hb23)
    have HR3 := Lib.hid hrd
    have HB3 := Lib.hid (bto (bto HB1.out hb12) hb23)
    have HB13 := Lib.hid (bto hb12 hb23)
    have hs3 : w1.heap.size ≤ W3.heap.size := Nat.le_trans hb12.size hb23.size
    have HI3 : Hid (ILabs (· < w1.heap.size) W3 (.slice a l.length c) l) := Lib.hid ((HI.out.below HB3.out).mono fun k hk => Nat.lt_of_lt_of_le hk hb1s)
    clear hwr hrd hb12 hb23 hw3
    go_wp2_with fail
    refine (PutLabels_any w1.heap.size w1.heap.size W3 emptyW l a c hft (by omega) HW3.out HI3.out hs3 (Nat.zero_le _)).mono ?_
    rintro e W4 ⟨rfl, h4, k4⟩
    have HW4 := Lib.hid h4
    have HK4 := Lib.hid k4
    have HR4 : Hid (RdAt (w1.heap.size + 1) W4 ⟨lb, 0⟩) := Lib.hid (k4.box HR3.out (by decide) (by omega))
    have hlw := allLabsW_len l emptyW hft
    have hlw0 : emptyW.out.length = 0 := rfl
    clear h4 k4
    go_wp2_with fail
    refine (wend_any w1.heap.size w1.heap.size W4 _ HW4.out (by omega)).mono ?_
    rintro e W5 ⟨rfl, h5, k5⟩
    rw [(labs_right l).1, (labs_right l).2]
    have HR5 : Hid (RdAt (w1.heap.size + 1) W5 ⟨lb, 0⟩) := Lib.hid (k5.box HR4.out (by decide) (by omega))
    have HB5 := Lib.hid (bto HB1.out (((Wrote.of_below (B := w1.heap.size) (p := w1.heap.size) HB13.out).trans (HK4.out.trans k5)).below (Nat.le_refl _) (Nat.le_refl _)))
    clear h5 k5 HW4 HK4 HR4 HW3 HR3 hlw hlw0
    go_wp2_with fail
    refine (TakeLabels_any (w1.heap.size + 1) W5 ⟨lb, 0⟩ HR5.out (show lb.length ≤ 1000000 by omega)).mono ?_
    rintro e W6 ⟨v9, rfl, ho9, h6, k6⟩
    obtain ⟨a9, c9, hf9⟩ := ho9.form
    subst hf9
    obtain ⟨r, hr⟩ : ∃ x, x = (labsP ⟨lb, 0⟩).1 := ⟨_, rfl⟩
    obtain ⟨LP, hLP0⟩ : ∃ x, x = (labsP ⟨lb, 0⟩).2 := ⟨_, rfl⟩
    have hsufr : Suf lb (labsR ⟨lb, 0⟩).1 := labsR_suf (Suf.start lb 0).1
    have hal := labsP_alike ⟨lb, 0⟩
    have hbad := takeAllP_bad (one := labP) 4 ⟨lb, 0⟩
    have hlen4 := (takeAllP_in (one := labP) labP_in 4 ⟨lb, 0⟩).1
    have hr2 : (labsR ⟨lb, 0⟩).1 = r := by rw [hr]; exact hal.1.symm
    rw [hr2] at hsufr
    have hLP : LP.length ≤ 1000000 := by rw [hLP0]; exact Nat.le_trans hlen4 (by omega)
    have HLR : Hid (r.c = 0 → (labsR ⟨lb, 0⟩).2 = LP) := Lib.hid fun h => by rw [hLP0]; exact (hal.2 (by rw [← hr]; exact h)).symm
    have HLBAD : Hid (r.c ≠ 0 → LP = []) := Lib.hid fun h => by rw [hLP0]; exact hbad (by show (labsP ⟨lb, 0⟩).1.c ≠ 0; rw [← hr]; exact h)
    rw [← hLP0] at ho9 ⊢
    rw [← hr] at h6
    have HO9 := Lib.hid ho9.I
    have HR6 := Lib.hid h6
    have HB6 := Lib.hid (belowk0 HB5.out k6 (fun i hi => by have h2 : i = w1.heap.size + 1 := hi; omega) HB5.out.size)
    have HRR := Lib.hid hr2
    obtain ⟨pos, hpos⟩ : ∃ p, p = posR lb r := ⟨_, rfl⟩
    obtain ⟨sc, hsc⟩ : ∃ p, p = r.c := ⟨_, rfl⟩
    have CT : Hid (∀ W, Calls Tryz.prog 52 #[V70 lb 0 0] W (TakeRPost lb W (fun w' v l => OLabs (Ran W.heap.size w'.heap.size) w' v l) (labsR ⟨lb, 0⟩))) := Lib.hid fun W => by
      have h := refTakeLabels_any lb ⟨lb, 0⟩ W (Suf.start lb 0).1 (by omega)
      rw [(Suf.start lb 0).2] at h
      exact h
    have hleft : ((r.l.length : Int) == IntKind.i64.wrap (((baOf lb).size : Int) - (pos : Int))) = true := by
      have h1 := hsufr.len
      have h2 := hsufr.pos
      have h3 := HBL.out
      rw [← hpos] at h1 h2
      rw [IntWalk.i64_in _ (by omega)]
      simp
      omega
    have HPOS := Lib.hid hpos
    have HSC := Lib.hid hsc
    clear ho9 h6 k6 hr hLP0 hsufr hal hbad hlen4 hr2 HR5 HB5 hpos hsc
    go_wp2_with fail
    refine (CT.out W6).mono ?_
    rintro e W7 ⟨v11, rfl, ho11, hb7⟩
    rw [HRR.out, ← HPOS.out, ← HSC.out]
    obtain ⟨a11, c11, hf11⟩ := ho11.form
    subst hf11
    have HO11L := Lib.hid ho11.I
    clear ho11
    go_upto_region 10 with fail
    obtain ⟨g7, hg7⟩ : ∃ g, g = W7.heap.size := ⟨_, rfl⟩
    obtain ⟨X7, hX⟩ : ∃ X, X = W7.alloc (.cells #[.string (baOf lb), .int .i64 (pos : Int), .int .i64 sc] 70) := ⟨_, rfl⟩
    have h6X : Below W6.heap.size W6 X7 := by rw [hX]; exact bto hb7 (bnew _ _)
    have HBX7 := Lib.hid (bto HB6.out h6X)
    have HG7 := Lib.hid (show X7.heap[g7]? = some (.cells #[.string (baOf lb), .int .i64 (pos : Int), .int .i64 sc] 70 (0, 0)) from by rw [hX, hg7]; exact heap_alloc_new _ _)
    have HRD := Lib.hid (HR6.out.keptBelow h6X)
    have HO9X := Lib.hid (HO9.out.below h6X)
    have HIX := Lib.hid (HI.out.below HBX7.out)
    have HO11X := Lib.hid (show ILabs (Ran W6.heap.size W7.heap.size) X7 (.slice a11 (labsR ⟨lb, 0⟩).2.length c11) (labsR ⟨lb, 0⟩).2 from by rw [hX]; exact HO11L.out.below (bnew _ _))
    rw [← hX, ← hg7]
    clear hX hg7 hb7 h6X HB6 HR6 HO9 HO11L
    have hraw : ((baOf (encL encLab l)).toList == (baOf (encL encLab l)).toList) = true := beq_self_eq_true _
    have g2 : X7.cell? ⟨g7, 2, none⟩ = some (.int .i64 sc) := cell_at HG7.out rfl
    by_cases hc : sc = 0
    · have hLL := HLR.out (by rw [← HSC.out]; exact hc)
      rw [hLL] at HO11X ⊢
      have hsc1 : (sc == 0) = true := by simpa using hc
      have hsc2 : (sc != 0) = false := by simp [hc]
      have hsc3 : (sc == sc) = true := by simp
      have hrc : r.c = sc := HSC.out.symm
      have HC := Lib.hid hc
      clear hLL hc
      subst hrc
      go_upto_region 12 with fail
      have t0 : X7.cell? ⟨g7, 1, none⟩ = some (.int .i64 (pos : Int)) := cell_at HG7.out rfl
      have t1 : X7.cell? ⟨g7, 2, none⟩ = some (.int .i64 r.c) := cell_at HG7.out rfl
      have C53 := Lib.hid (fun (x : World) (hx : Below X7.heap.size X7 x) => quiet_calls hx (refLabels_any (· < w.heap.size) _ l x (HIX.out.below hx) (by omega) hok))
      have C54 := Lib.hid (fun (x : World) (hx : Below X7.heap.size X7 x) => quiet_calls hx (sameLabs_self (Ran W5.heap.size W6.heap.size) (Ran W6.heap.size W7.heap.size) a9 a11 c9 c11 LP x (HO9X.out.below hx) (HO11X.out.below hx) hLP))
      have C55 := Lib.hid (fun (x : World) (hx : Below X7.heap.size X7 x) => quiet_calls hx ((rcode_any (w1.heap.size + 1) x r (HRD.out.keptBelow hx)).mono fun _ _ ⟨h1, h2⟩ => ⟨h1, h2 ▸ Below.refl _ _⟩))
      have C56 := Lib.hid (fun (x : World) (hx : Below X7.heap.size X7 x) => quiet_calls hx ((rleft_any (w1.heap.size + 1) x r (HRD.out.keptBelow hx)).mono fun _ _ ⟨h1, h2⟩ => ⟨h1, h2 ▸ Below.refl _ _⟩))
      have C39 := Lib.hid (fun (x : World) (hx : Below X7.heap.size X7 x) => quiet_calls hx (works07_any x (HM.out.below (bto HBX7.out hx)) (HGT.out.below (bto HBX7.out hx) hgl)))
      go_wp2_with fail
      refine wp_region_below (by kernel_rfl) (by kernel_rfl) ?_
      repeat (first | (go_big_quiet_want; apply Exists.intro; refine ⟨fun x hx => ?_, ?_⟩; (focus (have z0 := keepc hx t0; have z1 := keepc hx t1; go_simp; first | done | with_reducible rfl | (with_reducible exact ⟨rfl, rfl⟩) | exact C53.out _ hx | exact C54.out _ hx | exact C55.out _ hx | exact C56.out _ hx | exact C39.out _ hx)); (try simp only [Act.put, List.setIfInBounds_toArray, List.set_cons_zero, List.set_cons_succ]); go_big_quiet_on) | go_big_quiet_skip)
      refine wpQuiet_nil ?_
      intro x hx
      have Hxb := Lib.hid hx
      clear hx t0 t1
      go_wp2
      go_ret
      exact ⟨rfl, bto HBX7.out Hxb.out⟩
    · have hLL := HLBAD.out (by rw [← HSC.out]; exact hc)
      have hsc1 : (sc == 0) = false := by simpa using hc
      have hsc2 : (sc != 0) = true := by simpa using hc
      have hsc3 : (sc == sc) = true := by simp
      have hrc : r.c = sc := HSC.out.symm
      have HO11N := Lib.hid (show ILabs (· < w.heap.size) X7 (.slice none LP.length 0) LP from .inl ⟨hLL, none, 0, by rw [hLL]; rfl⟩)
      have hlp0 : LP.length = 0 := by rw [hLL]; rfl
      have HNL : Hid (∀ W, Calls Tryz.prog 54 #[.slice a9 LP.length c9, .slice none LP.length 0] W (fun e w' => e = .returned (.bool true) ∧ Below W.heap.size W w') → Calls Tryz.prog 54 #[.slice a9 LP.length c9, .slice none 0 0] W (fun e w' => e = .returned (.bool true) ∧ Below W.heap.size W w')) := Lib.hid fun W h => by rw [hlp0] at h ⊢; exact h
      clear hLL hc hlp0
      subst hrc
      go_upto_region 12 with fail
      have t0 : X7.cell? ⟨g7, 1, none⟩ = some (.int .i64 (pos : Int)) := cell_at HG7.out rfl
      have t1 : X7.cell? ⟨g7, 2, none⟩ = some (.int .i64 r.c) := cell_at HG7.out rfl
      have C53 := Lib.hid (fun (x : World) (hx : Below X7.heap.size X7 x) => quiet_calls hx (refLabels_any (· < w.heap.size) _ l x (HIX.out.below hx) (by omega) hok))
      have C54 := Lib.hid (fun (x : World) (hx : Below X7.heap.size X7 x) => quiet_calls hx (HNL.out x (sameLabs_self (Ran W5.heap.size W6.heap.size) (· < w.heap.size) a9 none c9 0 LP x (HO9X.out.below hx) (HO11N.out.below hx) hLP)))
      have C55 := Lib.hid (fun (x : World) (hx : Below X7.heap.size X7 x) => quiet_calls hx ((rcode_any (w1.heap.size + 1) x r (HRD.out.keptBelow hx)).mono fun _ _ ⟨h1, h2⟩ => ⟨h1, h2 ▸ Below.refl _ _⟩))
      have C56 := Lib.hid (fun (x : World) (hx : Below X7.heap.size X7 x) => quiet_calls hx ((rleft_any (w1.heap.size + 1) x r (HRD.out.keptBelow hx)).mono fun _ _ ⟨h1, h2⟩ => ⟨h1, h2 ▸ Below.refl _ _⟩))
      have C39 := Lib.hid (fun (x : World) (hx : Below X7.heap.size X7 x) => quiet_calls hx (works07_any x (HM.out.below (bto HBX7.out hx)) (HGT.out.below (bto HBX7.out hx) hgl)))
      go_wp2_with fail
      refine wp_region_below (by kernel_rfl) (by kernel_rfl) ?_
      repeat (first | (go_big_quiet_want; apply Exists.intro; refine ⟨fun x hx => ?_, ?_⟩; (focus (have z0 := keepc hx t0; have z1 := keepc hx t1; go_simp; first | done | with_reducible rfl | (with_reducible exact ⟨rfl, rfl⟩) | exact C53.out _ hx | exact C54.out _ hx | exact C55.out _ hx | exact C56.out _ hx | exact C39.out _ hx)); (try simp only [Act.put, List.setIfInBounds_toArray, List.set_cons_zero, List.set_cons_succ]); go_big_quiet_on) | go_big_quiet_skip)
      refine wpQuiet_nil ?_
      intro x hx
      have Hxb := Lib.hid hx
      clear hx t0 t1
      go_wp2
      go_ret
      exact ⟨rfl, bto HBX7.out Hxb.out⟩
end Go.Proofs.YtgelbkgkjkeccaaGreatDoor
