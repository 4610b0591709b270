/- Package fail's Code, Path and Text. -/
import Derived.Test.YtgelbkgkjkeccaaGreatDoorL
import Derived.Test.YtgelbkgkjkeccaaGreatDoorShelf
import Derived.Maps.AppendAt
namespace Go.Proofs.YtgelbkgkjkeccaaGreatDoor
open Go.RowKit

theorem ErrTyped.below {w w' : World} {n : Nat} (h : ErrTyped w) (hb : Below n w w') (hn : 1 < n) : ErrTyped w' := by
  unfold ErrTyped at h ⊢
  exact (hb.cell (p := ⟨1, 0, none⟩) (by simpa using hn)).trans h
theorem ErrTyped.lt {w : World} (h : ErrTyped w) : 1 < w.heap.size := cell_lt h
theorem ErrTyped.kept {M : Nat → Prop} {w w' : World} (h : ErrTyped w) (hb : Kept M w w') (hn : ¬ M 1) : ErrTyped w' := hb.cell hn h
/-- The code of an error. -/
def codeE : Err → Int
  | none => 0
  | some (c, _) => c
theorem below_of_kept {w w1 w' : World} {o : Obj} (hw : w1 = w.alloc o) (h : Kept (· = w.heap.size) w1 w') : Below w.heap.size w w' := by
  subst hw
  have hb := (Below.refl w.heap.size w).alloc (Nat.le_refl _) o
  refine ⟨h.os.trans hb.os, h.tape.trans hb.tape, h.output.trans hb.output, Nat.le_trans hb.size h.size, fun k hk => ?_⟩
  exact (h.block k (by simp; omega) (Nat.ne_of_lt hk)).trans (hb.block k hk)

set_option maxHeartbeats 1000000 in
theorem Code_any (B : Nat) (v : Value) (er : Err) (w : World) (hg : ErrTyped w) (h : RErrO B w v er) :
    Calls Tryz.prog 38 #[v] w fun e w' => e = .returned (.int .i64 (codeE er)) ∧ Below w.heap.size w w' := by
  cases er with
  | none =>
    have h' : v = .nilIface := h
    subst h'
    go_enter Tryz.func38, Tryz.ntmps38
    go_wp2
    go_ret
    exact ⟨rfl, Below.refl _ _⟩
  | some x =>
    have h1 : RErr B w v x.1 x.2 := h
    have hb := (Below.refl w.heap.size w).alloc (Nat.le_refl _) (.cells #[.int .i64 0] 46)
    have hA := Lib.hid (As_code B v x.1 x.2 w.heap.size (.int .i64 0) (w.alloc (.cells #[.int .i64 0] 46)) (hg.below hb hg.lt) (h1.below hb) (by simp) (by simp))
    obtain ⟨t, y, rfl⟩ := RErr.held h1
    clear h h1 hb hg
    go_enter Tryz.func38, Tryz.ntmps38
    go_wp2_with (go_at_call 131; refine hA.out.mono ?_; rintro e w2 ⟨rfl, hx, hy, hz⟩)
    go_ret
    exact ⟨rfl, below_of_kept rfl hz⟩

/-- The path of an error, and its text. -/
def pathE : Err → List ByteArray
  | none => []
  | some (_, ps) => ps
def textE (e : Err) : ByteArray := ⟨(Lib.join ((pathE e).map (·.data.toList)) [46]).toArray⟩
set_option maxHeartbeats 4000000 in
set_option maxRecDepth 100000 in
theorem Path_some (B : Nat) (v : Value) (c : Int) (ps : List ByteArray) (w : World) (hg : ErrTyped w) (h : RErr B w v c ps) (hl : ps.length ≤ 1000000) :
    Calls Tryz.prog 148 #[v] w fun e w' => ∃ sl, e = .returned sl ∧ w'.ownsRow w.heap.size 9 1 sl ps.length (ps.map .string) ∧ Below w.heap.size w w' := by
  obtain ⟨i0, hi0, hz0, hz1, hz2⟩ := info_parts info9
  obtain ⟨t, y, hv⟩ := RErr.held h
  subst hv
  have HG := hg.lt
  go_enter Tryz.func148, Tryz.ntmps148
  go_wp2
  go_loopw [0, 3] (fun u sl wr => ∃ k, k ≤ ps.length ∧ RErr B w u c (ps.drop k) ∧ wr.ownsRow w.heap.size 9 1 sl k ((ps.take k).map .string) ∧ Below w.heap.size w wr ∧ (∃ old, wr.cell? ⟨w.heap.size, 0, none⟩ = some old) ∧ wr.frozen? ⟨w.heap.size, 0, none⟩ = false ∧ sl.ownBlock ≠ some w.heap.size) (fun u _ _ => errLen B w u)
  case atStart => exact ⟨0, Nat.zero_le _, h, ⟨rfl, .inl ⟨rfl, rfl⟩⟩, (Below.refl _ _).alloc (Nat.le_refl _) _, ⟨.pointer none, by simp⟩, by simp, by simp [Value.ownBlock]⟩
  case round =>
    obtain ⟨k, hk, hq, hr, hb, ⟨old, ht0⟩, hf0, hne⟩ := hrel
    have hgr := hg.below hb HG
    by_cases hlt : k < ps.length
    · have HD : Hid (ps.drop k = ps[k] :: ps.drop (k + 1)) := List.drop_eq_getElem_cons hlt
      have HL := errLen_of hq
      rw [HD.out] at hq HL
      obtain ⟨b, u', hu, hB, h0, h1, h2⟩ := hq
      subst hu
      have HL2 := errLen_of h2
      have h0r := (hb.cell (p := ⟨b, 0, none⟩) (cell_lt h0)).trans h0
      have h1r := (hb.cell (p := ⟨b, 1, none⟩) (cell_lt h0)).trans h1
      have hbl := cell_lt h0
      have HR := Lib.hid h2
      obtain ⟨tt, xx, hx⟩ := RErr.held h2
      subst hx
      clear h0 h1 h2 h hg
      have hu : Hid (u3 = u3) := rfl
      generalize u3 = sl at *
      have hlw : w.heap.size < wr.heap.size := cell_lt ht0
      have hnb : sl.ownBlock ≠ some b := fun hk => by have := own_ge hr hk; omega
      go_wp2_with (first | (at_builtin; go_loud (refine wpList_append_own_at _ rfl _ _ 96 rfl w.heap.size 9 i0 _ 1 16 Tryz.underlying96 hi0 hz0 hz1 hz2 rfl (by omega) _ k ((ps.take k).map Value.string) rfl (hr2.alloc _) ⟨w2.heap.size, 0, none⟩ 1 1 [.string ps[k]] rfl rfl (World.news_of_block (cs := #[.string ps[k]]) (t := 9) (fr := (0, 0)) (heap_alloc_new w2 _)) (by simp [Value.oneCell']) (by unfold maxLen; omega) (by omega) (by simp; omega) ?_)) | (go_at_call 131; refine (As_step b w.heap.size old wr hgr ht0 hf0).mono ?_; rintro e w2 ⟨rfl, hx, hy, hz⟩; have c0 : w2.cell? ⟨b, 0, none⟩ = some (.string ps[k]) := hz.cell (by omega) h0r; have c1 : w2.cell? ⟨b, 1, none⟩ = some (.iface tt xx) := hz.cell (by omega) h1r; have hr2 := own_block_kept (w' := w2) hr (fun j hj => hz.block j (own_lt hr hj) (fun e => hne (e ▸ hj))); have hlw2 : w.heap.size < w2.heap.size := Nat.lt_of_lt_of_le hlw hz.size))
      intro v3 w3 hown1 hgrow hnil hat
      have k0 : w3.cell? ⟨w.heap.size, 0, none⟩ = some (.pointer (some ⟨b, 0, none⟩)) := (hgrow.cell_far ⟨w.heap.size, 0, none⟩ (by simp; omega) (fun h => hne h.symm)).trans (cell_push hx)
      have k1 : w3.cell? ⟨b, 1, none⟩ = some (.iface tt xx) := (hgrow.cell_far ⟨b, 1, none⟩ (by simp; omega) (fun h => hnb h.symm)).trans (cell_push c1)
      go_wp2
      have hsz2 : (w2.alloc (.cells #[.string ps[k]] 9)).heap.size = w2.heap.size + 1 := by simp
      have hfar : w3.frozen? ⟨w.heap.size, 0, none⟩ = false := (hgrow.frozen_far ⟨w.heap.size, 0, none⟩ (by simp; omega) (fun h => hne h.symm)).trans (frozen_push hx hy)
      have htk : (ps.take (k + 1)).map Value.string = (ps.map Value.string).take k ++ [.string ps[k]] := by rw [List.map_take, List.take_add_one, List.getElem?_map, List.getElem?_eq_getElem hlt]; rfl
      have hbz : Below w.heap.size w w2 := ⟨hz.os.trans hb.os, hz.tape.trans hb.tape, hz.output.trans hb.output, Nat.le_trans hb.size hz.size, fun i hi => (hz.block i (by omega) (by omega)).trans (hb.block i hi)⟩
      have hown3 : ∀ i, i < w.heap.size → some i ≠ sl.ownBlock := fun i hi h => by have := own_ge hr h.symm; omega
      have hbl3 : Below w.heap.size w w3 := ⟨hgrow.os.trans hbz.os, hgrow.tape.trans hbz.tape, hgrow.output.trans hbz.output, by have := hgrow.size; have := hbz.size; omega,
        fun i hi => ((hgrow.block i (by omega) (hown3 i hi)).trans (Below.heap_alloc w2 _ i (by omega))).trans (hbz.block i hi)⟩
      refine ⟨⟨k + 1, hlt, HR.out, ?_, hbl3, ⟨_, k0⟩, hfar, ?_⟩, by rw [HL2, HL]; simp; omega⟩
      · rw [htk]; exact hown1
      · rcases hat with h | h
        · rw [h]; exact hne
        · rw [h]; simp; omega
    · have hz : ps.drop k = [] := List.drop_of_length_le (by omega)
      rw [hz] at hq
      have hq' : _ = _ := hq
      subst hq'
      have hkk : k = ps.length := by omega
      subst hkk
      rw [List.take_length] at hr
      have HH := Lib.hid hr
      have HB2 := Lib.hid hb
      clear hr hz h hg
      go_wp2_with (go_at_call 131; refine (As_nostep c w.heap.size wr hgr).mono ?_; rintro e w2 ⟨rfl, hz⟩)
      go_ret
      refine ⟨_, rfl, own_block_kept HH.out fun j hj => hz.block j (own_lt HH.out hj), HB2.out.trans (hz.mono HB2.out.size)⟩

set_option maxHeartbeats 1000000 in
theorem Path_nil (w : World) :
    Calls Tryz.prog 148 #[.nilIface] w fun e w' => e = .returned (.slice none 0 0) ∧ Below w.heap.size w w' := by
  have HB := Lib.hid ((Below.refl w.heap.size w).alloc (Nat.le_refl _) (.cells #[.pointer none] 297))
  go_enter Tryz.func148, Tryz.ntmps148
  go_wp2
  refine wp_loop_rounds 1 ?_
  rw [rounds_succ]
  go_wp2_with (go_at_call 131; refine (As_nil _ _).mono ?_; rintro e w2 ⟨rfl, rfl⟩)
  go_ret
  exact ⟨rfl, HB.out⟩
theorem Path_any (B : Nat) (v : Value) (er : Err) (w : World) (hg : ErrTyped w) (h : RErrO B w v er) (hl : (pathE er).length ≤ 1000000) :
    Calls Tryz.prog 148 #[v] w fun e w' => ∃ sl, e = .returned sl ∧ w'.ownsRow w.heap.size 9 1 sl (pathE er).length ((pathE er).map .string) ∧ Below w.heap.size w w' := by
  cases er with
  | none =>
    have h' : v = .nilIface := h
    subst h'
    refine (Path_nil w).mono ?_
    rintro e w' ⟨rfl, hb⟩
    exact ⟨_, rfl, ⟨rfl, .inl ⟨rfl, rfl⟩⟩, hb⟩
  | some x => exact Path_some B v x.1 x.2 w hg h hl
theorem Join_row (B : Nat) (w : World) (sl : Value) (xs : List ByteArray) (sep : ByteArray) (h : w.ownsRow B 9 1 sl xs.length (xs.map .string)) (hl : xs.length ≤ 1000000) (hlen : (Lib.join (xs.map (·.data.toList)) sep.data.toList).length ≤ 140737488355328) :
    Calls Tryz.prog 147 #[sl, .string sep] w fun e w' => e = .returned (.string ⟨(Lib.join (xs.map (·.data.toList)) sep.data.toList).toArray⟩) ∧ Below w.heap.size w w' := by
  have hcap : ∀ g c, sl = .slice (some ⟨g, 0, none⟩) xs.length c → xs.length ≤ c ∧ g < w.heap.size := by
    rintro g c rfl
    refine ⟨?_, own_lt h rfl⟩
    rcases h.2 with ⟨h2, _⟩ | ⟨g', cap, cur, h2, _, _, h3, h4, _⟩
    · cases h2
    · injection h2 with _ _ h2
      omega
  rcases own_cells h with ⟨rfl, h0⟩ | ⟨g, c, rfl, hc⟩
  · obtain rfl : xs = [] := List.length_eq_zero_iff.1 h0
    refine (Tryz.strings_Join_none _ _ _ _).mono ?_
    rintro e w' ⟨rfl, rfl⟩
    exact ⟨rfl, Below.refl _ _⟩
  · exact Tryz.strings_Join g 0 c xs sep w (fun j x hj => hc j _ (by simp [hj])) (hcap g c rfl).2 (by omega) (hcap g c rfl).1 hlen
set_option maxHeartbeats 1000000 in
theorem Text_err (B : Nat) (v : Value) (er : Err) (w : World) (hg : ErrTyped w) (h : RErrO B w v er) (hl : (pathE er).length ≤ 1000000) (hlen : (Lib.join ((pathE er).map (·.data.toList)) [46]).length ≤ 140737488355328) :
    Calls Tryz.prog 48 #[v] w fun e w' => e = .returned (.string (textE er)) ∧ Below w.heap.size w w' := by
  obtain ⟨p, hp⟩ : ∃ p, p = pathE er := ⟨_, rfl⟩
  have HT : textE er = ⟨(Lib.join (p.map (·.data.toList)) [46]).toArray⟩ := by rw [hp]; rfl
  have hP := Path_any B v er w hg h hl
  rw [← hp] at hl hlen hP
  rw [HT]
  have HP := Lib.hid hP
  have HLEN := Lib.hid hlen
  clear hP hlen HT hp h hg
  go_enter Tryz.func48, Tryz.ntmps48
  go_wp2_with (first | (go_at_call 148; refine HP.out.mono ?_; rintro e w2 ⟨sl, rfl, hr, hb⟩) | (go_at_call 147; refine (Join_row _ _ _ p _ hr hl HLEN.out).mono ?_; rintro e w3 ⟨rfl, hb3⟩))
  go_ret
  exact ⟨rfl, hb.trans (hb3.mono hb.size)⟩

end Go.Proofs.YtgelbkgkjkeccaaGreatDoor
