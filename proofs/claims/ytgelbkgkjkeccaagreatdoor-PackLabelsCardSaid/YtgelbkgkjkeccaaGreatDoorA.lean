/- The bytes of names: package text of the program (its functions of, all, name, names, says, Name, Key, Val, repo, tag, parts, Image, Same), and strings.Cut at one byte: each call's answer as a plain function on lists of bytes. -/
import Derived.Test.YtgelbkgkjkeccaaGreatDoorShelf
import Derived.WalkKit
import Derived.WalkSpells
import Derived.WalkLawsBesides
import Derived.Lib.Hide
import Derived.BigQuiet
import Derived.Deep.QuietTactic
namespace Go.Proofs.YtgelbkgkjkeccaaGreatDoor
open Go.RowKit

/-! ### Plain words -/
abbrev Bytes := List UInt8
def ofB (c : Int) : Int := if (97 ≤ c ∧ c ≤ 122) ∨ (48 ≤ c ∧ c ≤ 57) then 7 else if 65 ≤ c ∧ c ≤ 90 then 4 else if c = 45 then 7 else if c = 46 then 6 else if c = 95 then 4 else 0
def okB (what : Int) (c : UInt8) : Bool := !(Go.bits .and .i64 (ofB c.toNat) what == 0)
def allB (l : Bytes) (what : Int) : Bool := l.all (okB what)
def nameB (l : Bytes) : Bool := match l with
  | [] => false
  | a :: r => decide (r.length + 1 ≤ 16) && allB (a :: r) 1 && !(a == 45) && !((a :: r).getLast (by simp) == 45)
def namesB : Nat → Bytes → Bool
  | 0, _ => false
  | n + 1, l => if nameB (Lib.cut l [47]).1 then (if (Lib.cut l [47]).2.2 then namesB n (Lib.cut l [47]).2.1 else true) else false
def keyB (l : Bytes) : Bool := namesB 2 l
def valB (l : Bytes) : Bool := decide (l.length ≤ 16) && allB l 4
def repoB (l : Bytes) : Bool := decide (l.length ≤ 24) && namesB 24 l
def tagB (l : Bytes) : Bool := !l.isEmpty && decide (l.length ≤ 8) && allB l 2
def imgB (l : Bytes) : Bool := (Lib.cut l [58]).2.2 && repoB (Lib.cut l [58]).1 && tagB (Lib.cut l [58]).2.1
def partsB (l : Bytes) : Bytes × Bytes × Bool := if imgB l then ((Lib.cut l [58]).1, (Lib.cut l [58]).2.1, true) else ([], [], false)
def sayB (b : Bool) (c : Int) : Int := if b then 0 else c

def marks : List Int := (List.replicate 13 0) ++ [7, 6] ++ (List.replicate 48 0) ++ [4]
def LaidMarks (w : World) : Prop := ∀ j, j < 64 → w.cell? ⟨3, j, none⟩ = some (.int .i64 (marks.getD j 0))

theorem mk_toList (l : Bytes) : (⟨l.toArray⟩ : ByteArray).data.toList = l := rfl
theorem mk_size (l : Bytes) : (⟨l.toArray⟩ : ByteArray).size = l.length := by show l.toArray.size = _; simp
theorem size_len (s : ByteArray) : s.size = s.data.toList.length := by show s.data.size = _; simp
theorem bytes_eq (s : ByteArray) : (⟨s.data.toList.toArray⟩ : ByteArray) = s := rfl

set_option maxRecDepth 100000 in
theorem marks_of (c : Int) (h0 : 32 ≤ c) (h1 : c < 96) (h2 : ¬ (48 ≤ c ∧ c ≤ 57)) (h3 : ¬ (65 ≤ c ∧ c ≤ 90)) : marks.getD (c - 32).toNat 0 = ofB c := by
  have h : ∀ k : Fin 64, ¬ (16 ≤ k.val ∧ k.val ≤ 25) → ¬ (33 ≤ k.val ∧ k.val ≤ 58) → marks.getD k.val 0 = ofB (k.val + 32) := by decide +kernel
  have := h ⟨(c - 32).toNat, by omega⟩ (by show ¬ (16 ≤ (c - 32).toNat ∧ (c - 32).toNat ≤ 25); omega) (by show ¬ (33 ≤ (c - 32).toNat ∧ (c - 32).toNat ≤ 58); omega)
  simp only at this
  rw [this]
  congr 1
  omega

theorem LaidMarks.below {w w' : World} (h : LaidMarks w) (hb : Below w.heap.size w w') : LaidMarks w' := fun j hj =>
  (hb.cell (p := ⟨3, j, none⟩) (World.block_lt_of_cell? w _ (h j hj))).trans (h j hj)
theorem LaidMarks.drewN {w : World} (h : LaidMarks w) (n : Nat) : LaidMarks (w.drewN n) := fun j hj => h j hj

/-! ### The walks -/
set_option maxHeartbeats 400000 in
theorem of_any (c : Int) (w : World) (h0 : 0 ≤ c) (h1 : c ≤ 255) (hm : LaidMarks w) :
    Calls Tryz.prog 294 #[.int .u8 c] w fun e w' => e = .returned (.int .i64 (ofB c)) ∧ w = w' := by
  by_cases hl : 32 ≤ c ∧ c < 96
  · have hc := hm (c - 32).toNat (by omega)
    obtain ⟨hl1, hl2⟩ := hl
    by_cases h2 : 48 ≤ c ∧ c ≤ 57
    · have e : ofB c = 7 := by unfold ofB; rw [if_pos (by omega)]
      have E := Lib.hid e; clear e
      go_enter Tryz.func294, Tryz.ntmps294
      go_wp2
      all_goals (go_ret; exact ⟨by rw [E.out]; rfl, rfl⟩)
    by_cases h3 : 65 ≤ c ∧ c ≤ 90
    · have e : ofB c = 4 := by unfold ofB; rw [if_neg (by omega), if_pos (by omega)]
      have E := Lib.hid e; clear e
      go_enter Tryz.func294, Tryz.ntmps294
      go_wp2
      all_goals (go_ret; exact ⟨by rw [E.out]; rfl, rfl⟩)
    have e := marks_of c hl1 hl2 h2 h3
    rw [e] at hc
    clear e
    go_enter Tryz.func294, Tryz.ntmps294
    go_wp2
    all_goals (go_ret; exact ⟨rfl, rfl⟩)
  · by_cases h2 : 97 ≤ c ∧ c ≤ 122
    · have e : ofB c = 7 := by unfold ofB; rw [if_pos (by omega)]
      have E := Lib.hid e; clear e
      go_enter Tryz.func294, Tryz.ntmps294
      go_wp2
      all_goals (go_ret; exact ⟨by rw [E.out]; rfl, rfl⟩)
    · have e : ofB c = 0 := by unfold ofB; rw [if_neg (by omega), if_neg (by omega), if_neg (by omega), if_neg (by omega), if_neg (by omega)]
      have E := Lib.hid e; clear e
      go_enter Tryz.func294, Tryz.ntmps294
      go_wp2
      all_goals (go_ret; exact ⟨by rw [E.out]; rfl, rfl⟩)

theorem take_snoc (s : ByteArray) (k : Nat) (h : k < s.size) : s.data.toList.take (k + 1) = s.data.toList.take k ++ [s[k]] := by
  rw [List.take_succ_eq_append_getElem (by simpa using h)]; rfl
theorem take_all {α : Type} (l : List α) (k : Nat) (h : l.length ≤ k) : l.take k = l := List.take_of_length_le h
theorem all_snoc (l : Bytes) (c : UInt8) (what : Int) : allB (l ++ [c]) what = (allB l what && okB what c) := by simp [allB]

set_option maxHeartbeats 400000 in
theorem all_any (s : ByteArray) (what : Int) (w : World) (hs : s.size ≤ 9223372036854775807) (hm : LaidMarks w) :
    Calls Tryz.prog 268 #[.string s, .int .i64 what] w fun e w' => e = .returned (.bool (allB s.data.toList what)) ∧ w = w' := by
  go_enter Tryz.func268, Tryz.ntmps268
  go_wp2
  go_loop [8] (fun i => ∃ k : Nat, k ≤ s.size ∧ i = .int .i64 k ∧ allB (s.data.toList.take k) what = true) (fun i => s.size - (intOf i).toNat)
  case atStart => exact ⟨0, Nat.zero_le _, rfl, rfl⟩
  case round =>
    obtain ⟨k, hk, rfl, hr⟩ := hrel
    have HR := Lib.hid hr; clear hr
    by_cases hlt : k < s.size
    · have hb := (s[k]).toNat_lt
      have HT := Lib.hid (take_snoc s k hlt)
      cases hok : okB what s[k] with
      | true =>
        have hok2 : (Go.bits .and .i64 (ofB (s[k]).toNat) what == 0) = false := by simpa [okB] using hok
        have HO := Lib.hid hok; clear hok
        go_wp2_with (go_at_call 294; refine (of_any _ _ (by omega) (by omega) hm).mono ?_; rintro e w' ⟨rfl, rfl⟩)
        go_round
        case rel => exact ⟨k + 1, by omega, by go_num, by rw [HT.out, all_snoc, HR.out, HO.out]; rfl⟩
        case measure => simp [intOf]; omega
      | false =>
        have hok2 : (Go.bits .and .i64 (ofB (s[k]).toNat) what == 0) = true := by simpa [okB] using hok
        have HO := Lib.hid hok; clear hok
        go_wp2_with (go_at_call 294; refine (of_any _ _ (by omega) (by omega) hm).mono ?_; rintro e w' ⟨rfl, rfl⟩)
        go_ret
        refine ⟨?_, rfl⟩
        have : allB s.data.toList what = false := by
          have h1 : allB (s.data.toList.take (k + 1)) what = false := by rw [HT.out, all_snoc, HO.out, Bool.and_false]
          have h2 : allB s.data.toList what = (allB (s.data.toList.take (k + 1)) what && allB (s.data.toList.drop (k + 1)) what) := by
            unfold allB
            rw [← List.all_append, List.take_append_drop]
          rw [h2, h1]; rfl
        rw [this]; rfl
    · go_wp2
      go_ret
      exact ⟨by have h := HR.out; rw [take_all _ _ (by rw [← size_len]; omega)] at h; rw [h]; rfl, rfl⟩

set_option maxHeartbeats 400000 in
theorem says_any (b : Bool) (c : Int) (w : World) :
    Calls Tryz.prog 217 #[.bool b, .int .i64 c] w fun e w' => e = .returned (.int .i64 (sayB b c)) ∧ w = w' := by
  cases b <;>
  · go_enter Tryz.func217, Tryz.ntmps217
    go_wp2
    go_ret
    exact ⟨rfl, rfl⟩

/-! ### name -/
theorem nameB_nil : nameB [] = false := rfl
theorem first_at (s : ByteArray) (h : 0 < s.size) : ∃ r, s.data.toList = s[0] :: r := by
  have h' : 0 < s.data.toList.length := by rw [← size_len]; exact h
  match hl : s.data.toList, h' with
  | a :: r, _ => exact ⟨r, by have : s[0] = s.data.toList[0]'(by rw [hl]; simp) := rfl
                              rw [this]; simp [hl]⟩
theorem nameB_eq (s : ByteArray) (h : 0 < s.size) : nameB s.data.toList = (decide (s.size ≤ 16) && allB s.data.toList 1 && !(s[0] == 45) && !(s[s.size - 1] == 45)) := by
  obtain ⟨r, hr⟩ := first_at s h
  have hs := size_len s
  rw [hr] at hs
  have hl : s[s.size - 1] = s.data.toList.getLast (by rw [hr]; simp) := by
    rw [List.getLast_eq_getElem]
    rfl
  have hl2 : s.data.toList.getLast (by rw [hr]; simp) = (s[0] :: r).getLast (by simp) := by
    simp only [hr]
  rw [hl, hl2, hr]
  simp only [nameB]
  rw [hs]
  rfl

theorem u8_eq (a b : UInt8) : (a == b) = ((a.toNat : Int) == (b.toNat : Int)) := by
  rw [Bool.eq_iff_iff, beq_iff_eq, beq_iff_eq, ← UInt8.toNat_inj]; omega

theorem sizes (s : ByteArray) (hs : s.size ≤ 9223372036854775807) : s.data.toList.length ≤ 9223372036854775807 := by rw [← size_len]; exact hs

set_option maxHeartbeats 400000 in
theorem name_any (s : ByteArray) (w : World) (hs : s.size ≤ 9223372036854775807) (hm : LaidMarks w) :
    Calls Tryz.prog 218 #[.string s] w fun e w' => e = .returned (.bool (nameB s.data.toList)) ∧ w = w' := by
  by_cases h0 : s.size = 0
  · have hl : s.data.toList = [] := by rw [← List.length_eq_zero_iff, ← size_len]; exact h0
    have HL := Lib.hid hl
    have hl2 : s.toList = [] := by rw [Lib.toList_data, hl]
    clear hl h0
    go_enter Tryz.func218, Tryz.ntmps218
    go_wp2_with (go_at_call 268; refine (all_any _ _ _ hs hm).mono ?_; rintro e w' ⟨rfl, rfl⟩)
    go_ret
    exact ⟨by rw [HL.out]; rfl, rfl⟩
  · have hp : 0 < s.size := by omega
    have HE := Lib.hid (nameB_eq s hp)
    have hl2 : s.toList.isEmpty = false := by rw [Lib.toList_data]; obtain ⟨r, hr⟩ := first_at s hp; rw [hr]; rfl
    have hl3 : ¬ s.toList = [] := by rw [Lib.toList_data]; obtain ⟨r, hr⟩ := first_at s hp; rw [hr]; simp
    clear h0
    by_cases h1 : s.size ≤ 16
    · have hz : 0 ≤ (s.size : Int) - 1 := by omega
      cases h2 : allB s.data.toList 1 with
      | false =>
        have H2 := Lib.hid h2; clear h2
        go_enter Tryz.func218, Tryz.ntmps218
        go_wp2_with (go_at_call 268; refine (all_any _ _ _ hs hm).mono ?_; rw [H2.out]; rintro e w' ⟨rfl, rfl⟩)
        go_ret
        refine ⟨?_, rfl⟩
        rw [HE.out, H2.out]; simp
      | true =>
        have H2 := Lib.hid h2; clear h2
        cases h3 : (s[0] == (45 : UInt8)) with
        | true =>
          have H3 := Lib.hid h3
          have h4 : ((s[0].toNat : Int) != 45) = false := by have := u8_eq s[0] 45; rw [h3] at this; have e : (((45 : UInt8).toNat : Nat) : Int) = 45 := rfl; rw [e] at this; simp [bne, ← this]
          clear h3
          go_enter Tryz.func218, Tryz.ntmps218
          go_wp2_with (go_at_call 268; refine (all_any _ _ _ hs hm).mono ?_; rw [H2.out]; rintro e w' ⟨rfl, rfl⟩)
          all_goals (go_ret; refine ⟨?_, rfl⟩; rw [HE.out, H3.out]; simp)
        | false =>
          have H3 := Lib.hid h3
          have h4 : ((s[0].toNat : Int) != 45) = true := by have := u8_eq s[0] 45; rw [h3] at this; have e : (((45 : UInt8).toNat : Nat) : Int) = 45 := rfl; rw [e] at this; simp [bne, ← this]
          have H5 : Hid ((!(s[s.size - 1] == (45 : UInt8))) = ((s[s.size - 1].toNat : Int) != 45)) := by have := u8_eq s[s.size - 1] 45; unfold bne; rw [this]; rfl
          clear h3
          go_enter Tryz.func218, Tryz.ntmps218
          go_wp2_with (go_at_call 268; refine (all_any _ _ _ hs hm).mono ?_; rw [H2.out]; rintro e w' ⟨rfl, rfl⟩)
          go_ret
          refine ⟨?_, rfl⟩
          rw [HE.out, H2.out, H3.out, H5.out, decide_eq_true h1]; simp
    · have hn : nameB s.data.toList = false := by rw [HE.out]; simp [h1]
      have HN := Lib.hid hn; clear hn
      have h1' : ¬ (s.size : Int) ≤ 16 := by omega
      go_enter Tryz.func218, Tryz.ntmps218
      go_wp2
      go_ret
      exact ⟨by rw [HN.out]; rfl, rfl⟩

/-! ### strings.Cut at one byte -/
set_option maxHeartbeats 2000000 in
set_option maxRecDepth 100000 in
theorem cut_in (s : ByteArray) (c : UInt8) (w : World) (hs : s.size ≤ 9223372036854775806) :
    Calls Tryz.prog 299 #[.string s, .string ⟨#[c]⟩] w fun e w' => e = .returned (.tuple #[.string ⟨(Lib.cut s.data.toList [c]).1.toArray⟩, .string ⟨(Lib.cut s.data.toList [c]).2.1.toArray⟩, .bool (Lib.cut s.data.toList [c]).2.2]) ∧ ∃ n, w' = w.drewN n := by
  have hone := Lib.index_one s.data.toList c
  rcases Lib.indexB_cases s ⟨#[c]⟩ with hix | ⟨i, hix, hroom⟩
  · obtain ⟨e1, e2, e3⟩ := Lib.cutB_miss s ⟨#[c]⟩ hix
    have e1' : (⟨(Lib.cut s.data.toList [c]).1.toArray⟩ : ByteArray) = _ := e1
    have e2' : (⟨(Lib.cut s.data.toList [c]).2.1.toArray⟩ : ByteArray) = _ := e2
    have e3' : (Lib.cut s.data.toList [c]).2.2 = _ := e3
    rw [e1', e2', e3']
    have H : Hid (Lib.indexByte s.data.toList c = -1) := by rw [← hone]; exact hix
    clear e1 e2 e3 e1' e2' e3' hone hix
    go_enter Tryz.func299, Tryz.ntmps299
    go_wp2_with (go_at_call 308; refine (Tryz.stringslite_Index_one _ _ _).mono ?_; rw [H.out]; rintro e w' ⟨rfl, rfl⟩)
    go_ret3
    exact ⟨rfl, 0, rfl⟩
  · obtain ⟨e1, e2, e3⟩ := Lib.cutB_hit s ⟨#[c]⟩ i hix
    have e1' : (⟨(Lib.cut s.data.toList [c]).1.toArray⟩ : ByteArray) = _ := e1
    have e2' : (⟨(Lib.cut s.data.toList [c]).2.1.toArray⟩ : ByteArray) = _ := e2
    have e3' : (Lib.cut s.data.toList [c]).2.2 = _ := e3
    rw [e1', e2', e3']
    have H : Hid (Lib.indexByte s.data.toList c = i) := by rw [← hone]; exact hix
    have hr : i + 1 ≤ s.size := hroom
    have c1 : (0 : Int) ≤ ↑i := by omega
    have c2 : (↑i : Int) ≤ ↑s.size := by omega
    have c3 : (0 : Int) ≤ ↑i + 1 := by omega
    have c4 : (↑i + 1 : Int) ≤ ↑s.size := by omega
    clear e1 e2 e3 e1' e2' e3' hone hix hroom
    go_enter Tryz.func299, Tryz.ntmps299
    go_wp2_with (go_at_call 308; refine (Tryz.stringslite_Index_one _ _ _).mono ?_; rw [H.out]; rintro e w' ⟨rfl, rfl⟩)
    go_quiet (fail)
    go_wp2
    go_ret3
    exact ⟨rfl, _, rfl⟩

set_option maxHeartbeats 400000 in
theorem cut_one (s : ByteArray) (c : UInt8) (w : World) (hs : s.size ≤ 9223372036854775806) :
    Calls Tryz.prog 277 #[.string s, .string ⟨#[c]⟩] w fun e w' => e = .returned (.tuple #[.string ⟨(Lib.cut s.data.toList [c]).1.toArray⟩, .string ⟨(Lib.cut s.data.toList [c]).2.1.toArray⟩, .bool (Lib.cut s.data.toList [c]).2.2]) ∧ ∃ n, w' = w.drewN n := by
  go_enter Tryz.func277, Tryz.ntmps277
  go_wp2_with (go_at_call 299; refine (cut_in _ _ _ hs).mono ?_; rintro e w' ⟨rfl, n, rfl⟩)
  go_ret3
  exact ⟨rfl, _, rfl⟩

theorem cut_le (l : Bytes) (c : UInt8) : (Lib.cut l [c]).1.length ≤ l.length ∧ (Lib.cut l [c]).2.1.length ≤ l.length := by
  unfold Lib.cut
  split <;> simp <;> omega

theorem namesB_step (n : Nat) (l : Bytes) : namesB (n + 1) l = if nameB (Lib.cut l [47]).1 then (if (Lib.cut l [47]).2.2 then namesB n (Lib.cut l [47]).2.1 else true) else false := rfl

set_option maxHeartbeats 400000 in
theorem names_any (s : ByteArray) (m : Nat) (w : World) (hs : s.size ≤ 9223372036854775806) (hmm : m ≤ 1000) (hm : LaidMarks w) :
    Calls Tryz.prog 295 #[.string s, .int .i64 m] w fun e w' => e = .returned (.bool (namesB m s.data.toList)) ∧ ∃ n, w' = w.drewN n := by
  go_enter Tryz.func295, Tryz.ntmps295
  go_wp2
  go_loopw [0, 9] (fun t i wr => ∃ (k : Nat) (x : ByteArray), k ≤ m ∧ i = .int .i64 k ∧ t = .string x ∧ x.size ≤ s.size ∧ namesB (m - k) x.data.toList = namesB m s.data.toList ∧ ∃ n, wr = w.drewN n) (fun _ i _ => m - (intOf i).toNat)
  case atStart => exact ⟨0, s, Nat.zero_le _, rfl, rfl, Nat.le_refl _, rfl, 0, rfl⟩
  case round =>
    obtain ⟨k, x, hk, rfl, rfl, hx, hn, n, rfl⟩ := hrel
    have HN := Lib.hid hn; clear hn
    by_cases hlt : k < m
    · obtain ⟨j, hj⟩ : ∃ j, m - k = j + 1 := ⟨m - k - 1, by omega⟩
      have HJ := Lib.hid hj; clear hj
      have hc := cut_le x.data.toList 47
      have hc1 : (⟨(Lib.cut x.data.toList [47]).1.toArray⟩ : ByteArray).size ≤ 9223372036854775807 := by rw [mk_size]; have := size_len x; omega
      have hc2 : (⟨(Lib.cut x.data.toList [47]).2.1.toArray⟩ : ByteArray).size ≤ s.size := by rw [mk_size]; have := size_len x; omega
      cases h1 : nameB (Lib.cut x.data.toList [47]).1 with
      | false =>
        have H1 := Lib.hid h1; clear h1 hc
        go_wp2_with (first | (go_at_call 277; refine (cut_one _ _ _ (by omega)).mono ?_; rintro e w' ⟨rfl, n, rfl⟩) | (go_at_call 218; refine (name_any _ _ hc1 (hm.drewN _)).mono ?_; rw [mk_toList, H1.out]; rintro e w' ⟨rfl, rfl⟩))
        go_ret
        refine ⟨?_, _, rfl⟩
        rw [← HN.out, HJ.out, namesB_step, H1.out]; rfl
      | true =>
        cases h2 : (Lib.cut x.data.toList [47]).2.2 with
        | false =>
          have H1 := Lib.hid h1; clear h1 hc
          have H2 := Lib.hid h2
          go_wp2_with (first | (go_at_call 277; refine (cut_one _ _ _ (by omega)).mono ?_; rintro e w' ⟨rfl, n, rfl⟩) | (go_at_call 218; refine (name_any _ _ hc1 (hm.drewN _)).mono ?_; rw [mk_toList, H1.out]; rintro e w' ⟨rfl, rfl⟩))
          go_ret
          refine ⟨?_, _, rfl⟩
          rw [← HN.out, HJ.out, namesB_step, H1.out, H2.out]; rfl
        | true =>
          have H1 := Lib.hid h1; clear h1 hc
          have H2 := Lib.hid h2
          go_wp2_with (first | (go_at_call 277; refine (cut_one _ _ _ (by omega)).mono ?_; rintro e w' ⟨rfl, n, rfl⟩) | (go_at_call 218; refine (name_any _ _ hc1 (hm.drewN _)).mono ?_; rw [mk_toList, H1.out]; rintro e w' ⟨rfl, rfl⟩))
          go_roundw
          case rel => exact ⟨k + 1, _, by omega, by go_num, rfl, hc2, by rw [← HN.out, HJ.out, namesB_step, H1.out, H2.out, show m - (k + 1) = j by have := HJ.out; omega]; rfl, _, rfl⟩
          case measure => simp [intOf]; omega
    · go_wp2
      go_ret
      refine ⟨?_, _, rfl⟩
      have h := HN.out
      rw [show m - k = 0 by omega] at h
      rw [← h]; rfl

set_option maxHeartbeats 400000 in
theorem repo_any (s : ByteArray) (w : World) (hs : s.size ≤ 9223372036854775806) (hm : LaidMarks w) :
    Calls Tryz.prog 278 #[.string s] w fun e w' => e = .returned (.bool (repoB s.data.toList)) ∧ ∃ n, w' = w.drewN n := by
  by_cases h : s.size ≤ 24
  · have he : repoB s.data.toList = namesB 24 s.data.toList := by unfold repoB; rw [← size_len, decide_eq_true h]; rfl
    rw [he]; clear he
    go_enter Tryz.func278, Tryz.ntmps278
    go_wp2_with (go_at_call 295; refine (names_any s 24 _ hs (by omega) hm).mono ?_; rintro e w' ⟨rfl, n, rfl⟩)
    go_ret
    exact ⟨rfl, _, rfl⟩
  · have he : repoB s.data.toList = false := by unfold repoB; rw [← size_len, decide_eq_false h]; rfl
    rw [he]; clear he
    go_enter Tryz.func278, Tryz.ntmps278
    go_wp2
    go_ret
    exact ⟨rfl, 0, rfl⟩

theorem isEmpty_iff (s : ByteArray) : s.toList.isEmpty = decide (s.size = 0) := by
  rw [Lib.toList_data, size_len]
  generalize s.data.toList = l
  cases l <;> simp

set_option maxHeartbeats 400000 in
theorem tag_any (s : ByteArray) (w : World) (hs : s.size ≤ 9223372036854775806) (hm : LaidMarks w) :
    Calls Tryz.prog 279 #[.string s] w fun e w' => e = .returned (.bool (tagB s.data.toList)) ∧ w = w' := by
  by_cases h0 : s.size = 0
  · have hl : s.data.toList = [] := by rw [← List.length_eq_zero_iff, ← size_len]; exact h0
    have he : tagB s.data.toList = false := by rw [hl]; rfl
    have hl2 : s.toList = [] := by rw [Lib.toList_data, hl]
    rw [he]; clear hl h0 he
    go_enter Tryz.func279, Tryz.ntmps279
    go_wp2
    go_ret
    exact ⟨rfl, rfl⟩
  · have hl3 : ¬ s.toList = [] := by rw [Lib.toList_data, ← List.length_eq_zero_iff, ← size_len]; exact h0
    have hl2 : s.toList.isEmpty = false := by rw [isEmpty_iff]; simp [h0]
    by_cases h : s.size ≤ 8
    · have he : tagB s.data.toList = allB s.data.toList 2 := by
        unfold tagB; rw [← size_len, decide_eq_true h, ← Lib.toList_data, hl2]; rfl
      rw [he]; clear he h0
      go_enter Tryz.func279, Tryz.ntmps279
      go_wp2_with (go_at_call 268; refine (all_any _ _ _ (by omega) hm).mono ?_; rintro e w' ⟨rfl, rfl⟩)
      go_ret
      exact ⟨rfl, rfl⟩
    · have he : tagB s.data.toList = false := by
        unfold tagB; rw [← size_len, decide_eq_false h]; simp
      rw [he]; clear he h0
      go_enter Tryz.func279, Tryz.ntmps279
      go_wp2
      go_ret
      exact ⟨rfl, rfl⟩

set_option maxHeartbeats 400000 in
theorem Val_any (s : ByteArray) (w : World) (hs : s.size ≤ 9223372036854775806) (hm : LaidMarks w) :
    Calls Tryz.prog 270 #[.string s] w fun e w' => e = .returned (.int .i64 (sayB (valB s.data.toList) 32)) ∧ w = w' := by
  by_cases h : s.size ≤ 16
  · have he : valB s.data.toList = allB s.data.toList 4 := by unfold valB; rw [← size_len, decide_eq_true h]; rfl
    rw [he]; clear he
    go_enter Tryz.func270, Tryz.ntmps270
    go_wp2_with (first | (go_at_call 268; refine (all_any _ _ _ (by omega) hm).mono ?_; rintro e w' ⟨rfl, rfl⟩) | (go_at_call 217; refine (says_any _ _ _).mono ?_; rintro e w' ⟨rfl, rfl⟩))
    go_ret
    exact ⟨rfl, rfl⟩
  · have he : valB s.data.toList = false := by unfold valB; rw [← size_len, decide_eq_false h]; rfl
    rw [he]; clear he
    go_enter Tryz.func270, Tryz.ntmps270
    go_wp2_with (go_at_call 217; refine (says_any _ _ _).mono ?_; rintro e w' ⟨rfl, rfl⟩)
    go_ret
    exact ⟨rfl, rfl⟩

set_option maxHeartbeats 400000 in
theorem Key_any (s : ByteArray) (w : World) (hs : s.size ≤ 9223372036854775806) (hm : LaidMarks w) :
    Calls Tryz.prog 269 #[.string s] w fun e w' => e = .returned (.int .i64 (sayB (keyB s.data.toList) 31)) ∧ ∃ n, w' = w.drewN n := by
  unfold keyB
  go_enter Tryz.func269, Tryz.ntmps269
  go_wp2_with (first | (go_at_call 295; refine (names_any s 2 _ hs (by omega) hm).mono ?_; rintro e w' ⟨rfl, n, rfl⟩) | (go_at_call 217; refine (says_any _ _ _).mono ?_; rintro e w' ⟨rfl, rfl⟩))
  go_ret
  exact ⟨rfl, _, rfl⟩

set_option maxHeartbeats 400000 in
theorem Name_any (s : ByteArray) (w : World) (hs : s.size ≤ 9223372036854775806) (hm : LaidMarks w) :
    Calls Tryz.prog 123 #[.string s] w fun e w' => e = .returned (.int .i64 (sayB (nameB s.data.toList) 30)) ∧ w = w' := by
  go_enter Tryz.func123, Tryz.ntmps123
  go_wp2_with (first | (go_at_call 218; refine (name_any _ _ (by omega) hm).mono ?_; rintro e w' ⟨rfl, rfl⟩) | (go_at_call 217; refine (says_any _ _ _).mono ?_; rintro e w' ⟨rfl, rfl⟩))
  go_ret
  exact ⟨rfl, rfl⟩

def tupB (x : Bytes × Bytes × Bool) : Value := .tuple #[.string ⟨x.1.toArray⟩, .string ⟨x.2.1.toArray⟩, .bool x.2.2]

set_option maxHeartbeats 400000 in
theorem parts_any (s : ByteArray) (w : World) (hs : s.size ≤ 9223372036854775806) (hm : LaidMarks w) :
    Calls Tryz.prog 222 #[.string s] w fun e w' => e = .returned (.tuple #[.string ⟨(partsB s.data.toList).1.toArray⟩, .string ⟨(partsB s.data.toList).2.1.toArray⟩, .bool (partsB s.data.toList).2.2]) ∧ ∃ n, w' = w.drewN n := by
  have hc := cut_le s.data.toList 58
  have hc1 : (⟨(Lib.cut s.data.toList [58]).1.toArray⟩ : ByteArray).size ≤ 9223372036854775806 := by rw [mk_size]; have := size_len s; omega
  have hc2 : (⟨(Lib.cut s.data.toList [58]).2.1.toArray⟩ : ByteArray).size ≤ 9223372036854775806 := by rw [mk_size]; have := size_len s; omega
  clear hc
  cases h1 : (Lib.cut s.data.toList [58]).2.2 with
  | false =>
    have he : partsB s.data.toList = ([], [], false) := by unfold partsB imgB; rw [h1]; rfl
    rw [he]
    have H1 := Lib.hid h1; clear h1 he
    go_enter Tryz.func222, Tryz.ntmps222
    go_wp2_with (go_at_call 277; refine (cut_one _ _ _ hs).mono ?_; rw [H1.out]; rintro e w' ⟨rfl, n, rfl⟩)
    go_ret3
    exact ⟨rfl, _, rfl⟩
  | true =>
    cases h2 : repoB (Lib.cut s.data.toList [58]).1 with
    | false =>
      have he : partsB s.data.toList = ([], [], false) := by unfold partsB imgB; rw [h1, h2]; rfl
      rw [he]
      have H1 := Lib.hid h1; clear h1 he
      have H2 := Lib.hid h2; clear h2
      go_enter Tryz.func222, Tryz.ntmps222
      go_wp2_with (first | (go_at_call 277; refine (cut_one _ _ _ hs).mono ?_; rw [H1.out]; rintro e w' ⟨rfl, n, rfl⟩) | (go_at_call 278; refine (repo_any _ _ hc1 (hm.drewN _)).mono ?_; rw [mk_toList, H2.out]; rintro e w' ⟨rfl, n, rfl⟩))
      go_ret3
      exact ⟨rfl, _, rfl⟩
    | true =>
      cases h3 : tagB (Lib.cut s.data.toList [58]).2.1 with
      | false =>
        have he : partsB s.data.toList = ([], [], false) := by unfold partsB imgB; rw [h1, h2, h3]; rfl
        rw [he]
        have H1 := Lib.hid h1; clear h1 he
        have H2 := Lib.hid h2; clear h2
        have H3 := Lib.hid h3; clear h3
        go_enter Tryz.func222, Tryz.ntmps222
        go_wp2_with (first | (go_at_call 277; refine (cut_one _ _ _ hs).mono ?_; rw [H1.out]; rintro e w' ⟨rfl, n, rfl⟩) | (go_at_call 278; refine (repo_any _ _ hc1 (hm.drewN _)).mono ?_; rw [mk_toList, H2.out]; rintro e w' ⟨rfl, n, rfl⟩) | (go_at_call 279; refine (tag_any _ _ hc2 (LaidMarks.drewN hm _)).mono ?_; rw [mk_toList, H3.out]; rintro e w' ⟨rfl, rfl⟩))
        go_ret3
        exact ⟨rfl, _, rfl⟩
      | true =>
        have he : partsB s.data.toList = ((Lib.cut s.data.toList [58]).1, (Lib.cut s.data.toList [58]).2.1, true) := by unfold partsB imgB; rw [h1, h2, h3]; rfl
        rw [he]
        have H1 := Lib.hid h1; clear h1 he
        have H2 := Lib.hid h2; clear h2
        have H3 := Lib.hid h3; clear h3
        go_enter Tryz.func222, Tryz.ntmps222
        go_wp2_with (first | (go_at_call 277; refine (cut_one _ _ _ hs).mono ?_; rw [H1.out]; rintro e w' ⟨rfl, n, rfl⟩) | (go_at_call 278; refine (repo_any _ _ hc1 (hm.drewN _)).mono ?_; rw [mk_toList, H2.out]; rintro e w' ⟨rfl, n, rfl⟩) | (go_at_call 279; refine (tag_any _ _ hc2 (LaidMarks.drewN hm _)).mono ?_; rw [mk_toList, H3.out]; rintro e w' ⟨rfl, rfl⟩))
        go_ret3
        exact ⟨rfl, _, rfl⟩

theorem partsB_ok (l : Bytes) : (partsB l).2.2 = imgB l := by unfold partsB; split <;> simp_all

set_option maxHeartbeats 400000 in
theorem Image_any (s : ByteArray) (w : World) (hs : s.size ≤ 9223372036854775806) (hm : LaidMarks w) :
    Calls Tryz.prog 272 #[.string s] w fun e w' => e = .returned (.int .i64 (sayB (imgB s.data.toList) 33)) ∧ ∃ n, w' = w.drewN n := by
  go_enter Tryz.func272, Tryz.ntmps272
  go_wp2_with (first | (go_at_call 222; refine (parts_any _ _ hs hm).mono ?_; rw [partsB_ok]; rintro e w' ⟨rfl, n, rfl⟩) | (go_at_call 217; refine (says_any _ _ _).mono ?_; rintro e w' ⟨rfl, rfl⟩))
  go_ret
  exact ⟨rfl, _, rfl⟩

def sameB (a b : Bytes) : Bool := imgB a && imgB b && ((partsB a).1 == (partsB b).1)

set_option maxHeartbeats 400000 in
theorem Same_any (a b : ByteArray) (w : World) (ha : a.size ≤ 9223372036854775806) (hb : b.size ≤ 9223372036854775806) (hm : LaidMarks w) :
    Calls Tryz.prog 130 #[.string a, .string b] w fun e w' => e = .returned (.bool (sameB a.data.toList b.data.toList)) ∧ ∃ n, w' = w.drewN n := by
  have he : sameB a.data.toList b.data.toList = (imgB a.data.toList && imgB b.data.toList && (((⟨(partsB a.data.toList).1.toArray⟩ : ByteArray).toList) == ((⟨(partsB b.data.toList).1.toArray⟩ : ByteArray).toList))) := by
    unfold sameB; rw [Lib.toList_data, Lib.toList_data]
  rw [he]; clear he
  cases h1 : imgB a.data.toList <;> cases h2 : imgB b.data.toList <;>
  · have H1 := Lib.hid h1; clear h1
    have H2 := Lib.hid h2; clear h2
    go_enter Tryz.func130, Tryz.ntmps130
    go_wp2_with fail
    refine (parts_any _ _ ha hm).mono ?_; rw [partsB_ok, H1.out]; rintro e w' ⟨rfl, n, rfl⟩
    go_wp2_with fail
    refine (parts_any _ _ hb (hm.drewN _)).mono ?_; rw [partsB_ok, H2.out]; rintro e w' ⟨rfl, n', rfl⟩
    go_wp2_with fail
    go_ret
    refine ⟨?_, _, rfl⟩
    simp

end Go.Proofs.YtgelbkgkjkeccaaGreatDoor
