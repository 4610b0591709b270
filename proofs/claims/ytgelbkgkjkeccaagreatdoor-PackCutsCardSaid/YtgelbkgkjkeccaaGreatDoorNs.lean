/- Law 07: PackCuts. -/
import Derived.Test.YtgelbkgkjkeccaaGreatDoorNGe
namespace Go.Proofs.YtgelbkgkjkeccaaGreatDoor
open Go.RowKit

theorem isEmpty_not {b : ByteArray} (h : b ≠ ⟨#[]⟩) : b.toList.isEmpty = false := by
  have h1 : (b.toList == (⟨#[]⟩ : ByteArray).toList) = false := (beq_nff _ _).2 h
  simpa using h1
theorem isEmpty_yes {b : ByteArray} (h : b = ⟨#[]⟩) : b.toList.isEmpty = true := by rw [h]; simp
set_option maxHeartbeats 12000000 in
set_option maxRecDepth 100000 in
theorem PackCuts_any (a : SpecD) (la ia ma : Option Addr) (lc ic mc : Nat) (n : Int) (hn1 : -9223372036854775808 ≤ n) (hn2 : n ≤ 9223372036854775807) (b : ByteArray) (w : World) (ha : ISpec (· < w.heap.size) w a (.slice la a.labels.length lc) (.slice ia a.inits.length ic) (.slice ma a.mains.length mc)) (hm : LaidMarks w) (hg : ErrTyped w) :
    Calls Tryz.prog 7 #[specV a (.slice la a.labels.length lc) (.slice ia a.inits.length ic) (.slice ma a.mains.length mc), .int .i64 n, .string b] w fun e w' => e = .returned (.bool true) ∧ Below w.heap.size w w' := by
  have hgl := hg.lt
  obtain ⟨l, rfl⟩ := ba_ex b
  have hbl := ba_size_of l
  have HBL := Lib.hid hbl
  clear hbl
  have HM := Lib.hid hm
  have HGT := Lib.hid hg
  have HA := Lib.hid ha
  clear hm hg ha
  go_enter Tryz.func7, Tryz.ntmps7
  go_wp2_with fail
  obtain ⟨W, hW⟩ : ∃ W, W = w.alloc (.cells #[.string a.name, .slice la a.labels.length lc, .slice ia a.inits.length ic, .slice ma a.mains.length mc, .int .i64 a.restart, .int .i64 a.grace, .int .i64 a.prio] 25) := ⟨_, rfl⟩
  have HB0 := Lib.hid (show Below w.heap.size w W from by rw [hW]; exact bnew _ _)
  have HX0 := Lib.hid (show W.heap[w.heap.size]? = some (.cells #[.string a.name, .slice la a.labels.length lc, .slice ia a.inits.length ic, .slice ma a.mains.length mc, .int .i64 a.restart, .int .i64 a.grace, .int .i64 a.prio] 25 (0, 0)) from by rw [hW]; exact heap_alloc_new _ _)
  rw [← hW]
  clear hW
  refine (works07_any W (HM.out.below HB0.out) (HGT.out.below HB0.out hgl)).mono ?_
  rintro e w1 ⟨rfl, hb1⟩
  have HB1 := Lib.hid (bto HB0.out hb1)
  have HX1 := Lib.hid (boxB hb1 HX0.out)
  have HA1 := Lib.hid (HA.out.below HB1.out)
  clear hb1 HX0
  have a0 : w1.cell? ⟨w.heap.size, 0, none⟩ = some (.string a.name) := cell_at HX1.out rfl
  have a1 : w1.cell? ⟨w.heap.size, 1, none⟩ = some (.slice la a.labels.length lc) := cell_at HX1.out rfl
  have a2 : w1.cell? ⟨w.heap.size, 2, none⟩ = some (.slice ia a.inits.length ic) := cell_at HX1.out rfl
  have a3 : w1.cell? ⟨w.heap.size, 3, none⟩ = some (.slice ma a.mains.length mc) := cell_at HX1.out rfl
  have a4 : w1.cell? ⟨w.heap.size, 4, none⟩ = some (.int .i64 a.restart) := cell_at HX1.out rfl
  have a5 : w1.cell? ⟨w.heap.size, 5, none⟩ = some (.int .i64 a.grace) := cell_at HX1.out rfl
  have a6 : w1.cell? ⟨w.heap.size, 6, none⟩ = some (.int .i64 a.prio) := cell_at HX1.out rfl
  go_wp2_with fail
  refine (Light_any _ a la ia ma lc ic mc w1 HA1.out).mono ?_
  rintro e w2 ⟨rfl, hb2⟩
  have HB2 := Lib.hid (bto HB1.out hb2)
  have HX2 := Lib.hid (boxB hb2 HX1.out)
  have HA2 := Lib.hid (HA.out.below HB2.out)
  clear hb2 HX1 a0 a1 a2 a3 a4 a5 a6
  cases hla : lightS a with
  | false =>
    go_wp2
    go_ret
    exact ⟨rfl, HB2.out⟩
  | true =>
    have hoa := lightS_ok hla
    have a0 : w2.cell? ⟨w.heap.size, 0, none⟩ = some (.string a.name) := cell_at HX2.out rfl
    have a1 : w2.cell? ⟨w.heap.size, 1, none⟩ = some (.slice la a.labels.length lc) := cell_at HX2.out rfl
    have a2 : w2.cell? ⟨w.heap.size, 2, none⟩ = some (.slice ia a.inits.length ic) := cell_at HX2.out rfl
    have a3 : w2.cell? ⟨w.heap.size, 3, none⟩ = some (.slice ma a.mains.length mc) := cell_at HX2.out rfl
    have a4 : w2.cell? ⟨w.heap.size, 4, none⟩ = some (.int .i64 a.restart) := cell_at HX2.out rfl
    have a5 : w2.cell? ⟨w.heap.size, 5, none⟩ = some (.int .i64 a.grace) := cell_at HX2.out rfl
    have a6 : w2.cell? ⟨w.heap.size, 6, none⟩ = some (.int .i64 a.prio) := cell_at HX2.out rfl
    go_wp2_with fail
    refine (Check_any a _ ia ma ic mc w2 hoa (HM.out.below HB2.out) (laid_lt (HM.out.below HB2.out)) HA2.out.labs.R HA2.out.inits.R HA2.out.mains.R).mono ?_
    rintro e w3 ⟨v3, rfl, hr3, hb3⟩
    have HB3 := Lib.hid (bto HB2.out hb3)
    have HX3 := Lib.hid (boxB hb3 HX2.out)
    have HA3 := Lib.hid ((HA.out.below HB3.out).mono (J := (· < w3.heap.size)) fun k hk => Nat.lt_of_lt_of_le hk HB3.out.size)
    clear hb3 HX2 HA2 a0 a1 a2 a3 a4 a5 a6
    cases hck : checkE a with
    | some y =>
      rw [hck] at hr3
      obtain ⟨t3, z3, rfl⟩ := RErr.held (show RErr _ _ v3 y.1 y.2 from hr3)
      clear hr3 hck
      go_wp2
      go_ret
      exact ⟨rfl, HB3.out⟩
    | none =>
      rw [hck] at hr3
      have hv3 : v3 = .nilIface := hr3
      subst hv3
      have HCK := Lib.hid hck
      clear hr3 hck
      by_cases hlen : 300 < (baOf l).size
      · go_wp2
        go_ret
        exact ⟨rfl, HB3.out⟩
      · have hll : l.length ≤ 300 := by have := HBL.out; omega
        have a0 : w3.cell? ⟨w.heap.size, 0, none⟩ = some (.string a.name) := cell_at HX3.out rfl
        have a1 : w3.cell? ⟨w.heap.size, 1, none⟩ = some (.slice la a.labels.length lc) := cell_at HX3.out rfl
        have a2 : w3.cell? ⟨w.heap.size, 2, none⟩ = some (.slice ia a.inits.length ic) := cell_at HX3.out rfl
        have a3 : w3.cell? ⟨w.heap.size, 3, none⟩ = some (.slice ma a.mains.length mc) := cell_at HX3.out rfl
        have a4 : w3.cell? ⟨w.heap.size, 4, none⟩ = some (.int .i64 a.restart) := cell_at HX3.out rfl
        have a5 : w3.cell? ⟨w.heap.size, 5, none⟩ = some (.int .i64 a.grace) := cell_at HX3.out rfl
        have a6 : w3.cell? ⟨w.heap.size, 6, none⟩ = some (.int .i64 a.prio) := cell_at HX3.out rfl
        go_wp2_with fail
        refine (packBytes_any a la ia ma lc ic mc w3 hoa HA3.out (HM.out.below HB3.out) (HGT.out.below HB3.out hgl)).mono ?_
        rintro e w4 ⟨rfl, hb4⟩
        rw [bytesE_right HCK.out, bytesC_right HCK.out]
        obtain ⟨be, hbe⟩ : ∃ L, L = encSpec a := ⟨_, rfl⟩
        rw [← hbe]
        have hbp : be ≠ [] := by rw [hbe]; exact enc_pos a
        have hbn : be.length ≤ 20000 := by rw [hbe]; exact encSpec_len2 (checkE_in HCK.out).1
        have hsz := ba_size_of be
        have hp0 : 0 < (baOf be).size := by rw [hsz]; exact List.length_pos_iff.2 hbp
        have HEB := Lib.hid hbe
        have HB4 := Lib.hid (bto HB3.out hb4)
        obtain ⟨k, hk⟩ : ∃ k : Nat, (k : Int) = n % ((baOf be).size : Nat) := ⟨(n % ((baOf be).size : Nat)).toNat, by have := Int.emod_nonneg n (show ((baOf be).size : Int) ≠ 0 by omega); omega⟩
        have hkl : k < (baOf be).size := by have := Int.emod_lt_of_pos n (show 0 < ((baOf be).size : Int) by omega); omega
        have hkl2 : k < be.length := by omega
        have CB := Lib.hid (Below_any n (baOf be).size w4 hp0 (by omega) hn1 hn2)
        rw [← hk] at CB
        have HTK := Lib.hid (ba_take be k)
        have HAP : Hid (baOf be ++ baOf l = baOf (be ++ l)) := Lib.hid (by simp [baOf]; rfl)
        have he0 : ((baOf be).toList == (⟨#[]⟩ : ByteArray).toList) = false := (beq_nff _ _).2 fun e => by rw [e] at hp0; exact Nat.lt_irrefl 0 hp0
        have he1 : (baOf be).toList.isEmpty = false := isEmpty_not fun e => by rw [e] at hp0; exact Nat.lt_irrefl 0 hp0
        have hadd : ¬ (9223372036854775807 < (baOf be).size + (baOf l).size) := by omega
        have HSZ := Lib.hid hsz
        have HLEN5 : Hid ((be.take k).length ≤ 1000000) := Lib.hid (by simp; omega)
        have HLEN6 : Hid ((be ++ l).length ≤ 1000000) := Lib.hid (by rw [List.length_append]; omega)
        have HE5 : Hid (ofE (be.take k) = some (40, [wireS])) := Lib.hid (ofE_cut HCK.out (q := be.take k) (t := be.drop k) (by rw [List.take_append_drop, HEB.out]) (by intro e; have := congrArg List.length e; simp at this; omega))
        clear hb4 hbe hk hsz a0 a1 a2 a3 a4 a5 a6 hbp
        go_wp2_with (go_at_call 36; refine CB.out.mono ?_; rintro e w' ⟨rfl, rfl⟩)
        rw [HTK.out]
        refine (Of_any (be.take k) w4 (HM.out.below HB4.out) HLEN5.out).mono ?_
        rintro e w5 ⟨lv5, iv5, mv5, v5, rfl, ho, her, hb⟩
        obtain ⟨xa5, xb5, xc5, xd5, xe5, xf5, rfl, rfl, rfl⟩ := ho.forms
        obtain ⟨s5, hs⟩ : ∃ s, s = ofS (be.take k) := ⟨_, rfl⟩
        rw [← hs]
        rw [HE5.out] at her
        have HBW5 := Lib.hid (bto HB4.out hb)
        have HEW5 := Lib.hid (her.mono HB4.out.size)
        have HH4 := Lib.hid hb
        clear ho her hb hs
        go_upto_region 9 with fail
        obtain ⟨X5, hX⟩ : ∃ X, X = w5.alloc (.cells #[.string s5.name, .slice xa5 s5.labels.length xd5, .slice xb5 s5.inits.length xe5, .slice xc5 s5.mains.length xf5, .int .i64 s5.restart, .int .i64 s5.grace, .int .i64 s5.prio] 25) := ⟨_, rfl⟩
        have HBX5 := Lib.hid (show Below w.heap.size w X5 from by rw [hX]; exact bto HBW5.out (bnew _ _))
        have HEX5 := Lib.hid (show Below w5.heap.size w5 X5 from by rw [hX]; exact bnew _ _)
        rw [← hX]
        clear hX
        go_wp2_with fail
        rw [HAP.out]
        by_cases hl0 : l = []
        · have HL0 := Lib.hid hl0
          have HE6 : Hid (ofE (be ++ l) = none) := Lib.hid (by rw [HL0.out, List.append_nil, HEB.out]; exact (ofE_enc HCK.out).1)
          have hq1 : ((baOf l).toList == (⟨#[]⟩ : ByteArray).toList) = true := (beq_iff _ _).2 (by rw [HL0.out]; rfl)
          have hq3 : (baOf l).toList.isEmpty = true := isEmpty_yes (by rw [HL0.out]; rfl)
          have hq2 : ((baOf l).toList != (⟨#[]⟩ : ByteArray).toList) = false := by unfold bne; rw [hq1]; rfl
          clear hl0
          refine (Of_any (be ++ l) X5 (HM.out.below HBX5.out) HLEN6.out).mono ?_
          rintro e w6 ⟨lv6, iv6, mv6, v6, rfl, ho, her, hb⟩
          obtain ⟨xa6, xb6, xc6, xd6, xe6, xf6, rfl, rfl, rfl⟩ := ho.forms
          obtain ⟨s6, hs⟩ : ∃ s, s = ofS (be ++ l) := ⟨_, rfl⟩
          rw [← hs]
          rw [HE6.out] at her
          have HBW6 := Lib.hid (bto HBX5.out hb)
          have HEW6 := Lib.hid (her.mono HBX5.out.size)
          have HH5 := Lib.hid hb
          clear ho her hb hs
          go_upto_region 10 with fail
          obtain ⟨X6, hX⟩ : ∃ X, X = w6.alloc (.cells #[.string s6.name, .slice xa6 s6.labels.length xd6, .slice xb6 s6.inits.length xe6, .slice xc6 s6.mains.length xf6, .int .i64 s6.restart, .int .i64 s6.grace, .int .i64 s6.prio] 25) := ⟨_, rfl⟩
          have HBX6 := Lib.hid (show Below w.heap.size w X6 from by rw [hX]; exact bto HBW6.out (bnew _ _))
          have HEX6 := Lib.hid (show Below w6.heap.size w6 X6 from by rw [hX]; exact bnew _ _)
          rw [← hX]
          clear hX
          have hv6 : v6 = .nilIface := HEW6.out
          subst hv6
          go_wp2_with (go_at_call 38; refine (Code_some w.heap.size v5 40 [wireS] X6 (HGT.out.below HBX6.out hgl) (((HEW5.out.below HEX5.out).below HH5.out).below HEX6.out)).mono ?_; rintro e w7 ⟨rfl, hb7⟩)
          go_ret
          exact ⟨rfl, bto HBX6.out hb7⟩
        · have HL0 := Lib.hid hl0
          have HE6 : Hid (ofE (be ++ l) = some (3, [wireS])) := Lib.hid (by rw [HEB.out]; exact ofE_long HCK.out HL0.out)
          have hq1 : ((baOf l).toList == (⟨#[]⟩ : ByteArray).toList) = false := (beq_nff _ _).2 fun e => HL0.out (congrArg (fun b : ByteArray => b.data.toList) e)
          have hq3 : (baOf l).toList.isEmpty = false := isEmpty_not fun e => HL0.out (congrArg (fun b : ByteArray => b.data.toList) e)
          have hq2 : ((baOf l).toList != (⟨#[]⟩ : ByteArray).toList) = true := by unfold bne; rw [hq1]; rfl
          clear hl0
          refine (Of_any (be ++ l) X5 (HM.out.below HBX5.out) HLEN6.out).mono ?_
          rintro e w6 ⟨lv6, iv6, mv6, v6, rfl, ho, her, hb⟩
          obtain ⟨xa6, xb6, xc6, xd6, xe6, xf6, rfl, rfl, rfl⟩ := ho.forms
          obtain ⟨s6, hs⟩ : ∃ s, s = ofS (be ++ l) := ⟨_, rfl⟩
          rw [← hs]
          rw [HE6.out] at her
          have HBW6 := Lib.hid (bto HBX5.out hb)
          have HEW6 := Lib.hid (her.mono HBX5.out.size)
          have HH5 := Lib.hid hb
          clear ho her hb hs
          go_upto_region 10 with fail
          obtain ⟨X6, hX⟩ : ∃ X, X = w6.alloc (.cells #[.string s6.name, .slice xa6 s6.labels.length xd6, .slice xb6 s6.inits.length xe6, .slice xc6 s6.mains.length xf6, .int .i64 s6.restart, .int .i64 s6.grace, .int .i64 s6.prio] 25) := ⟨_, rfl⟩
          have HBX6 := Lib.hid (show Below w.heap.size w X6 from by rw [hX]; exact bto HBW6.out (bnew _ _))
          have HEX6 := Lib.hid (show Below w6.heap.size w6 X6 from by rw [hX]; exact bnew _ _)
          rw [← hX]
          clear hX
          go_wp2_with (first
            | (go_at_call 38; refine (Code_some w.heap.size v5 40 [wireS] X6 (HGT.out.below HBX6.out hgl) (((HEW5.out.below HEX5.out).below HH5.out).below HEX6.out)).mono ?_; rintro e w7 ⟨rfl, hb7⟩)
            | (go_at_call 38; refine (Code_some w.heap.size v6 3 [wireS] w7 (HGT.out.below (bto HBX6.out hb7) hgl) ((HEW6.out.below HEX6.out).below hb7)).mono ?_; rintro e w8 ⟨rfl, hb8⟩)
            | (go_at_call 48; refine (Text_wire w.heap.size v6 3 w8 (HGT.out.below (bto (bto HBX6.out hb7) hb8) hgl) (((HEW6.out.below HEX6.out).below hb7).below hb8)).mono ?_; rintro e w9 ⟨rfl, hb9⟩))
          go_ret
          exact ⟨rfl, bto (bto (bto HBX6.out hb7) hb8) hb9⟩
end Go.Proofs.YtgelbkgkjkeccaaGreatDoor
