/- A number's bytes: the walks of num.Put and of the document's Put: both are the plain function putN. The writer of package wire: what lies at a writer's block; the walks of its calls: each is a plain function on what was written and the first error. strings.Builder's String and the writer's End. -/
import Derived.Test.YtgelbkgkjkeccaaGreatDoorB
import Derived.Test.YtgelbkgkjkeccaaGreatDoorWa
import Derived.Deep.RegionWith
import Derived.Outline
import Derived.Test.YtgelbkgkjkeccaaGreatDoorP
import Derived.Lib.FrozenHead
import Derived.RegionTactic
namespace Go.Proofs.YtgelbkgkjkeccaaGreatDoor
open Go.RowKit

theorem bnew0 (w : World) (o : Obj) : Below w.heap.size w (w.alloc o) := (Below.refl _ _).alloc (Nat.le_refl _) _
theorem bto0 {w0 w w' : World} (h : Below w0.heap.size w0 w) (k : Below w.heap.size w w') : Below w0.heap.size w0 w' := h.trans (k.mono h.size)
theorem bdrew0 (w : World) : Below w.heap.size w w.drew := (Below.refl _ _).drew
theorem bcell0 {W w1 : World} (hb : Below W.heap.size W w1) : (∀ b o, b < W.heap.size → w1.cell? ⟨b, o, none⟩ = W.cell? ⟨b, o, none⟩) ∧ (∀ b o, b < W.heap.size → w1.frozen? ⟨b, o, none⟩ = W.frozen? ⟨b, o, none⟩) :=
  ⟨fun b o h => hb.cell (p := ⟨b, o, none⟩) h, fun b o h => hb.frozen (p := ⟨b, o, none⟩) h⟩
def baOf (l : List UInt8) : ByteArray := ⟨l.toArray⟩
def bI (l : List UInt8) : List Int := l.map fun b => (b.toNat : Int)
theorem bI_len (l : List UInt8) : (bI l).length = l.length := by simp [bI]
theorem str_bI (l : List UInt8) : strOfNums (bI l) = baOf l := by
  unfold bI baOf
  show (⟨((l.map fun b => (b.toNat : Int)).map fun n => UInt8.ofNat n.toNat).toArray⟩ : ByteArray) = _
  rw [List.map_map]
  congr 1
  congr 1
  have : ((fun n : Int => UInt8.ofNat n.toNat) ∘ fun b : UInt8 => (b.toNat : Int)) = id := by
    funext b
    simp
  rw [this, List.map_id]
theorem arr349 : Tryz.prog.underlying 349 = some (.array (Tryz.prog.arrayLen 349) (Tryz.prog.elem 349)) := by kernel_rfl
theorem len349 : Tryz.prog.arrayLen 349 = 10 := by kernel_rfl
theorem elem349 : Tryz.prog.elem 349 = 5 := by kernel_rfl
theorem slice349 (w : World) (b j : Nat) (h : j < 10) :
    (Instr.sliceAt 349 (.pointer (some ⟨b, 0, none⟩)) none (some (.int .i64 ((j : Int) + 1))) none).run Tryz.prog w = .ok (.slice (some ⟨b, 0, none⟩) (j + 1) 10) w := by
  rw [run_sliceAt_array_h w 349 _ arr349 .i64 ((j : Int) + 1) (by omega) (by rw [len349]; omega), elem349, len349, Tryz.sizeOf5]
  simp only [Result.andThen, slicedAt]
  have e : ((j : Int) + 1).toNat = j + 1 := by omega
  rw [e]
  simp [Addr.add]
def putCells (pre : List UInt8) : Array Value := (pre.map (fun b : UInt8 => Value.int .u8 (b.toNat : Int)) ++ List.replicate (10 - pre.length) (Value.int .u8 0)).toArray
theorem putCells_get (pre : List UInt8) (h : pre.length < 10) : (putCells pre)[pre.length]? = some (.int .u8 0) := by
  simp [putCells, List.getElem?_append, List.getElem?_replicate]
  omega
theorem putCells_set (pre : List UInt8) (h : pre.length < 10) (b : UInt8) : (putCells pre).setIfInBounds pre.length (.int .u8 (b.toNat : Int)) = putCells (pre ++ [b]) := by
  simp only [putCells, List.setIfInBounds_toArray]
  congr 1
  rw [List.set_append_right _ _ (by simp)]
  simp only [List.length_map, Nat.sub_self, List.map_append, List.length_append, List.length_cons, List.length_nil, List.map_cons, List.map_nil, List.append_assoc]
  congr 1
  obtain ⟨j, hj⟩ : ∃ j, 10 - pre.length = j + 1 := ⟨9 - pre.length, by omega⟩
  have e : 10 - (pre.length + (0 + 1)) = j := by omega
  rw [hj, e, List.replicate_succ]
  rfl
theorem u8_nat (m : Nat) (h : m < 256) : ((UInt8.ofNat m).toNat : Int) = m := by rw [UInt8.toNat_ofNat']; omega

set_option maxHeartbeats 1000000 in
set_option maxRecDepth 100000 in
theorem Put_any (n : Nat) (w : World) (hn : IsU64 n) :
    Calls Tryz.prog 248 #[.int .u64 n] w fun e w' => e = .returned (.string (baOf (putN n))) ∧ Below w.heap.size w w' := by
  go_enter Tryz.func248, Tryz.ntmps248
  go_wp2
  go_loopw [0, 4] (fun t i wr => ∃ (m : Nat) (pre : List UInt8), pre.length ≤ 9 ∧ i = .int .i64 pre.length ∧ t = .int .u64 m ∧ IsU64 m ∧ m < 2 * 128 ^ (9 - pre.length) ∧ pre ++ putF (9 - pre.length) m = putN n ∧ wr = w.alloc (.cells (putCells pre) 349)) (fun _ i _ => 10 - (intOf i).toNat)
  case atStart => exact ⟨n, [], Nat.zero_le _, rfl, rfl, hn, by unfold IsU64 at hn; simpa using hn, rfl, rfl⟩
  case round =>
    obtain ⟨m, pre, hp, rfl, rfl, hu, hm, he, rfl⟩ := hrel
    have HE := Lib.hid he
    have HM := Lib.hid hm
    have hg := putCells_get pre (by omega)
    have hc : (w.alloc (.cells (putCells pre) 349)).cell? ⟨w.heap.size, pre.length, none⟩ = some (.int .u8 0) := by
      rw [World.cell?_alloc_at _ _ _ _ rfl]; exact hg
    have hf : (w.alloc (.cells (putCells pre) 349)).frozen? ⟨w.heap.size, pre.length, none⟩ = false := by
      rw [World.frozen?_alloc_at _ _ _ _ rfl]
    clear hg he hm
    have hpl : (pre.length : Int) < 10 := by omega
    by_cases hz : m < 128
    · have hz2 : decide ((m : Int) ≥ 128) = false := by simp; omega
      have hw0 : IntKind.u8.wrap (m : Int) = (m : Int) := IntWalk.u8_in _ (by omega)
      have HF : Hid (pre ++ [UInt8.ofNat m] = putN n) := by
        have h1 := HE.out
        cases hk : 9 - pre.length with
        | zero => rw [hk] at h1; exact h1
        | succ f => rw [hk, putF, if_pos hz] at h1; exact h1
      have HS : Hid ((putCells pre).setIfInBounds pre.length (.int .u8 (m : Int)) = putCells (pre ++ [UInt8.ofNat m])) := Lib.hid (by
        rw [← putCells_set pre (by omega), u8_nat m (by omega)])
      have hsl := slice349 (w.alloc (Obj.cells ((putCells pre).setIfInBounds pre.length (Value.int IntKind.u8 (m : Int))) 349)) w.heap.size pre.length (by omega)
      have hcv := run_convert_bytes_arg (P := Tryz.prog) (w.alloc (Obj.cells ((putCells pre).setIfInBounds pre.length (Value.int IntKind.u8 (m : Int))) 349)) 181 5 Tryz.underlying181 Tryz.underlying5 w.heap.size 0 (pre.length + 1) 10 (bI (pre ++ [UInt8.ofNat m])) (by rw [bI_len]; simp)
        (fun i hi => by
          rw [World.cell?_alloc_at _ _ _ _ rfl, HS.out]
          have h3 : i < (pre ++ [UInt8.ofNat m]).length := by simp; omega
          simp only [putCells, Nat.zero_add, List.getElem?_toArray]
          rw [List.getElem?_append_left (by simpa using h3), List.getElem?_map, List.getElem?_eq_getElem h3]
          rw [List.getD_eq_getElem?_getD, bI, List.getElem?_map, List.getElem?_eq_getElem h3]; rfl) 9 Tryz.underlying9
      go_wp2
      go_ret
      refine ⟨?_, (Below.refl _ _).alloc (Nat.le_refl _) _⟩
      rw [str_bI, HF.out]
      rfl
    · have hz2 : decide ((m : Int) ≥ 128) = true := by simp; omega
      have hlt : pre.length < 9 := by
        apply Decidable.byContradiction
        intro h
        have e : 9 - pre.length = 0 := by omega
        have := HM.out
        rw [e] at this
        omega
      have hw1 : IntKind.u8.wrap ((m : Int) % 128) = (m : Int) % 128 := IntWalk.u8_in _ (by omega)
      have hw3 : IntKind.u64.wrap ((m : Int) / 128) = (m : Int) / 128 := by
        unfold IsU64 at hu
        exact IntWalk.u64_in _ (by omega)
      have hw2 : IntKind.u8.wrap ((m : Int) % 128 + 128) = (m : Int) % 128 + 128 := IntWalk.u8_in _ (by omega)
      go_wp2
      refine ⟨⟨m / 128, pre ++ [UInt8.ofNat (m % 128 + 128)], by simp; omega, by simp, rfl, hu.div 128, ?_, ?_, ?_⟩, ?_⟩
      · have h1 := HM.out
        obtain ⟨f, hf⟩ : ∃ f, 9 - pre.length = f + 1 := ⟨8 - pre.length, by omega⟩
        have e : 9 - (pre ++ [UInt8.ofNat (m % 128 + 128)]).length = f := by simp; omega
        rw [e]
        rw [hf, Nat.pow_succ] at h1
        exact Nat.div_lt_of_lt_mul (by omega)
      · have h1 := HE.out
        obtain ⟨f, hf⟩ : ∃ f, 9 - pre.length = f + 1 := ⟨8 - pre.length, by omega⟩
        have e : 9 - (pre ++ [UInt8.ofNat (m % 128 + 128)]).length = f := by simp; omega
        rw [e]
        rw [hf, putF, if_neg hz] at h1
        rw [← h1, List.append_assoc]
        rfl
      · rw [← putCells_set pre (by omega), u8_nat (m % 128 + 128) (by omega)]
        rfl
      · simp [intOf]
        omega
theorem conv_at (W : World) (b : Nat) (x : UInt8) (h : W.cell? ⟨b, 0, none⟩ = some (.int .u8 (x.toNat : Int))) : (convert 181 9 (.slice (some ⟨b, 0, none⟩) 1 1)).run Tryz.prog W = .ok (.string (baOf [x])) W := by
  have h := run_convert_bytes_arg (P := Tryz.prog) W 181 5 Tryz.underlying181 Tryz.underlying5 b 0 1 1 (bI [x]) rfl
    (fun i hi => by
      have : i = 0 := by omega
      subst this
      exact h) 9 Tryz.underlying9
  rw [h, str_bI]
theorem conv_one (w : World) (x : UInt8) : (convert 181 9 (.slice (some ⟨w.heap.size, 0, none⟩) 1 1)).run Tryz.prog (w.alloc (.cells #[.int .u8 (x.toNat : Int)] 5)) = .ok (.string (baOf [x])) (w.alloc (.cells #[.int .u8 (x.toNat : Int)] 5)) :=
  conv_at _ _ _ (by rw [World.cell?_alloc_at _ _ _ _ rfl]; rfl)
theorem putF_small (f n : Nat) (h : n < 128) : putF f n = [UInt8.ofNat n] := by
  cases f with
  | zero => rfl
  | succ f => rw [putF, if_pos h]
theorem ba_append (a b : List UInt8) : baOf a ++ baOf b = baOf (a ++ b) := by
  apply ByteArray.ext
  simp [baOf, ByteArray.data_append]

set_option maxHeartbeats 2000000 in
set_option maxRecDepth 100000 in
theorem refPutF_any (f : Nat) : ∀ (n : Nat) (w : World), n < 2 * 128 ^ f → f ≤ 9 →
    Calls Tryz.prog 165 #[.int .u64 n] w fun e w' => e = .returned (.string (baOf (putF f n))) ∧ Below w.heap.size w w' := by
  have small : ∀ (n : Nat) (w : World), n < 128 → Calls Tryz.prog 165 #[.int .u64 n] w fun e w' => e = .returned (.string (baOf [UInt8.ofNat n])) ∧ Below w.heap.size w w' := by
    intro n w hn
    have hz2 : decide ((n : Int) < 128) = true := by simp; omega
    have hw0 : IntKind.u8.wrap (n : Int) = (n : Int) := IntWalk.u8_in _ (by omega)
    have hc := conv_one w (UInt8.ofNat n)
    rw [u8_nat n (by omega)] at hc
    go_enter Tryz.func165, Tryz.ntmps165
    go_wp2_with fail
    go_ret
    exact ⟨rfl, bnew0 _ _⟩
  induction f with
  | zero =>
    intro n w hn _
    exact small n w (by omega)
  | succ f ih =>
    intro n w hn hf
    by_cases hz : n < 128
    · rw [putF_small _ _ hz]
      exact small n w hz
    · have hz2 : decide ((n : Int) < 128) = false := by simp; omega
      have h64 : n < 18446744073709551616 := by
        have h1 : 128 ^ (f + 1) ≤ 128 ^ 9 := Nat.pow_le_pow_right (by omega) hf
        have h2 : 128 ^ 9 = 9223372036854775808 := by decide
        omega
      have hw1 : IntKind.u64.wrap ((n : Int) % 128 + 128) = (n : Int) % 128 + 128 := IntWalk.u64_in _ (by omega)
      have hw2 : IntKind.u8.wrap ((n : Int) % 128 + 128) = (n : Int) % 128 + 128 := IntWalk.u8_in _ (by omega)
      have hw3 : IntKind.u64.wrap ((n : Int) / 128) = ((n / 128 : Nat) : Int) := by rw [IntWalk.u64_in _ (by omega)]; rfl
      have ht : (n : Int).tmod 128 = (n : Int) % 128 := Int.tmod_eq_emod_of_nonneg (by omega)
      have e1 : ((n % 128 + 128 : Nat) : Int) = (n : Int) % 128 + 128 := by omega
      obtain ⟨x, hx⟩ : ∃ x : UInt8, x = UInt8.ofNat (n % 128 + 128) := ⟨_, rfl⟩
      have HX := Lib.hid hx
      clear hx
      have hc : ∀ (W : World) (b : Nat), W.cell? ⟨b, 0, none⟩ = some (.int .u8 ((n : Int) % 128 + 128)) → (convert 181 9 (.slice (some ⟨b, 0, none⟩) 1 1)).run Tryz.prog W = .ok (.string (baOf [x])) W := by
        intro W b h
        exact conv_at W b x (by rw [HX.out, u8_nat _ (by omega), e1]; exact h)
      have HI := Lib.hid fun W => ih (n / 128) W (by rw [Nat.pow_succ] at hn; exact Nat.div_lt_of_lt_mul (by omega)) (by omega)
      have HE : Hid (baOf (putF (f + 1) n) = baOf [x] ++ baOf (putF f (n / 128))) := Lib.hid (by rw [ba_append, putF, if_neg hz, HX.out]; rfl)
      have hs : (baOf (putF f (n / 128))).size ≤ 20 := by
        show (putF f (n / 128)).toArray.size ≤ 20
        have := putF_le f (n / 128)
        simp; omega
      have hs2 : (baOf [x]).size = 1 := rfl
      have hadd : ¬ (9223372036854775807 < (baOf [x]).size + (baOf (putF f (n / 128))).size) := by omega
      clear ih small e1 hs hs2
      go_enter Tryz.func165, Tryz.ntmps165
      go_wp2_with fail
      go_region_with (go_at_call 165; refine (HI.out _).mono ?_; rintro e w1 ⟨rfl, hb1⟩; obtain ⟨hc1, hf1⟩ := bcell0 hb1)
      all_goals
        go_wp2
        go_ret
        rw [HE.out]
        refine ⟨rfl, ?_⟩
        first | exact bto0 (bnew0 _ _).drew hb1 | exact bto0 (bto0 (bdrew0 _) hb1) (bnew0 _ _)
theorem refPut_any (n : Nat) (w : World) (hn : IsU64 n) :
    Calls Tryz.prog 165 #[.int .u64 n] w fun e w' => e = .returned (.string (baOf (putN n))) ∧ Below w.heap.size w w' :=
  refPutF_any 9 n w (by unfold IsU64 at hn; have h2 : 128 ^ 9 = 9223372036854775808 := by decide
                        omega) (Nat.le_refl _)
end Go.Proofs.YtgelbkgkjkeccaaGreatDoor
namespace Go.Proofs.YtgelbkgkjkeccaaGreatDoor
open Go.RowKit

/-- What was written, and the first error. -/
structure WS where
  out : List UInt8
  c : Int
def failW (c : Int) (s : WS) : WS := if s.c = 0 then ⟨s.out, c⟩ else s
def putW (bs : List UInt8) (s : WS) : WS := if s.c = 0 then ⟨s.out ++ bs, 0⟩ else s
def numW (n : Int) (s : WS) : WS := if n < 0 then failW 1 s else putW (putN n.toNat) s
def textW (t : ByteArray) (s : WS) : WS := putW t.data.toList (numW t.size s)
def emptyW : WS := ⟨[], 0⟩
theorem putW_len (bs : List UInt8) (s : WS) : (putW bs s).out.length ≤ s.out.length + bs.length := by
  unfold putW; split
  · simp
  · omega
theorem failW_out (c : Int) (s : WS) : (failW c s).out = s.out := by unfold failW; split <;> rfl
theorem numW_len (n : Int) (s : WS) : (numW n s).out.length ≤ s.out.length + 10 := by
  unfold numW; split
  · rw [failW_out]; omega
  · have := putW_len (putN n.toNat) s
    have := putN_le n.toNat
    omega
theorem textW_len (t : ByteArray) (s : WS) : (textW t s).out.length ≤ s.out.length + 10 + t.size := by
  unfold textW
  have := putW_len t.data.toList (numW t.size s)
  have := numW_len t.size s
  rw [← size_len] at *
  omega

/-- The writer at block p: its builder's two cells, its error; its rows of bytes lie from B on. -/
structure WrAt (B p : Nat) (w : World) (s : WS) : Prop where
  ge : B ≤ p
  ex : ∃ av bv, w.heap[p]? = some (.cells #[av, bv, .int .i64 s.c] 187 (0, 0)) ∧ (av = .pointer none ∨ av = .pointer (some ⟨p, 0, none⟩)) ∧ w.ownsRowF B 5 1 bv s.out.length (Lib.byteCells s.out) ∧ (s.out = [] → bv = .slice none 0 0)
/-- What a writer's call may write: its own block, rows of bytes from B on. -/
def WM (B p : Nat) (w : World) (k : Nat) : Prop := k = p ∨ (B ≤ k ∧ ∃ cur fr, w.heap[k]? = some (.cells cur 5 fr))
def Wrote (B p : Nat) (w w' : World) : Prop := Kept (WM B p w) w w'
theorem Wrote.refl (B p : Nat) (w : World) : Wrote B p w w := Kept.refl _ w
theorem Wrote.trans {B p : Nat} {w w1 w2 : World} (h1 : Wrote B p w w1) (h2 : Wrote B p w1 w2) : Wrote B p w w2 := Kept.trans h1 h2 fun i hi hm => by
  by_cases hc : WM B p w i
  · exact hc
  · have h := h1.block i hi hc
    rcases hm with rfl | ⟨hb, cur, fr, hh⟩
    · exact .inl rfl
    · exact .inr ⟨hb, cur, fr, h ▸ hh⟩
theorem WM_lt {B p : Nat} {w : World} (hp : B ≤ p) (k : Nat) (hk : k < B) : ¬ WM B p w k := by
  rintro (rfl | ⟨h, _⟩) <;> omega
theorem Wrote.of_below {B p : Nat} {w w' : World} (h : Below w.heap.size w w') : Wrote B p w w' := Kept.of_below h
theorem Wrote.below {B p : Nat} {w w' : World} (h : Wrote B p w w') (hp : B ≤ p) (hB : B ≤ w.heap.size) : Below B w w' :=
  ⟨h.os, h.tape, h.output, h.size, fun i hi => h.block i (by omega) (WM_lt hp i hi)⟩
theorem Wrote.box {B p q : Nat} {w w' : World} {cs : Array Value} {T : TypeId} {fr : Nat × Nat} (h : Wrote B p w w') (hq : w.heap[q]? = some (.cells cs T fr)) (hT : T ≠ 5) (hne : q ≠ p) : w'.heap[q]? = some (.cells cs T fr) := by
  refine (h.block q (Array.getElem?_eq_some_iff.1 hq).1 ?_).trans hq
  rintro (rfl | ⟨_, cur, fr', hh⟩)
  · exact hne rfl
  · rw [hq] at hh
    injection hh with hh
    injection hh with _ ht
    exact hT ht
theorem boxB {q : Nat} {w w' : World} {o : Obj} (hb : Below w.heap.size w w') (h : w.heap[q]? = some o) : w'.heap[q]? = some o := (hb.block q (Array.getElem?_eq_some_iff.1 h).1).trans h
theorem grown_of_below {w w' : World} (h : Below w.heap.size w w') : w.grownBy w' none := ⟨h.os, h.tape, h.output, h.size, fun k hk _ => h.block k hk⟩
theorem WrAt.lt {B p : Nat} {w : World} {s : WS} (h : WrAt B p w s) : p < w.heap.size := by
  obtain ⟨av, bv, hb, _⟩ := h.ex
  exact (Array.getElem?_eq_some_iff.1 hb).1
theorem WrAt.keptBelow {B p : Nat} {w w' : World} {s : WS} (h : WrAt B p w s) (hb : Below w.heap.size w w') : WrAt B p w' s := by
  obtain ⟨hge, av, bv, hbk, ha, hown, hn⟩ := h
  exact ⟨hge, av, bv, boxB hb hbk, ha, hown.kept (grown_of_below hb) (by cases bv.ownBlock <;> simp), hn⟩
theorem ownsF_form {w : World} {B n : Nat} {e : TypeId} {size : Nat} {v : Value} {xs : List Value} (h : w.ownsRowF B e size v n xs) : ∃ a c, v = .slice a n c := by
  rcases h.2 with ⟨rfl, rfl⟩ | ⟨g, cap, cur, fz, rfl, _⟩
  · exact ⟨_, _, rfl⟩
  · exact ⟨_, _, rfl⟩
theorem ownsF_block {w : World} {B n : Nat} {size : Nat} {v : Value} {xs : List Value} (h : w.ownsRowF B 5 size v n xs) (k : Nat) (hk : v.ownBlock = some k) : B ≤ k ∧ ∃ cur fr, w.heap[k]? = some (.cells cur 5 fr) := by
  rcases h.2 with ⟨rfl, rfl⟩ | ⟨g, cap, cur, fz, rfl, hB, hh, _⟩
  · cases hk
  · have : g = k := by simpa [Value.ownBlock] using hk
    subst this
    exact ⟨hB, cur, fz, hh⟩
theorem Wrote.set {B p : Nat} (w : World) (o : Nat) (x : Value) : Wrote B p w (w.setCell ⟨p, o, none⟩ x) := (kept_set w p o x).weaken fun _ h => .inl h
theorem Wrote.grown {B p n : Nat} {w w' : World} {v : Value} {xs : List Value} (h : w.ownsRowF B 5 1 v n xs) (hg : w.grownBy w' v.ownBlock) : Wrote B p w w' :=
  ⟨hg.os, hg.tape, hg.output, hg.size, fun k hk hm => hg.block k hk fun e => hm (.inr (ownsF_block h k e.symm))⟩

theorem size183 : (Tryz.prog.info? 183).map (·.size) = some 2 := by kernel_rfl
theorem lies187 : liesAt Tryz.prog Tryz.prog.depth 187 (3 / Tryz.prog.cellsOf 187) 0 183 1 = true := by kernel_rfl
theorem info5 : (Tryz.prog.info? 5).map (fun i => (i.zero, i.size, i.bytes)) = some (some (.int .u8 0), 1, 1) := by kernel_rfl

set_option maxHeartbeats 1000000 in
set_option maxRecDepth 100000 in
theorem copyCheck_used (p : Nat) (w : World) (h0 : w.cell? ⟨p, 0, none⟩ = some (.pointer (some ⟨p, 0, none⟩))) :
    Calls Tryz.prog 283 #[.pointer (some ⟨p, 0, none⟩)] w fun e w' => e = .returned (.tuple #[]) ∧ w' = w := by
  obtain ⟨j, hj, _⟩ := Option.map_eq_some_iff.1 size183
  go_enter Tryz.func283, Tryz.ntmps283
  go_wp2
  rw [Lib.run_neq_ptr_same w _ Tryz.underlying180 hj]
  go_wp2
  go_end0
  exact ⟨rfl, rfl⟩
set_option maxHeartbeats 1000000 in
set_option maxRecDepth 100000 in
theorem copyCheck_fresh (p : Nat) (w : World) (h0 : w.cell? ⟨p, 0, none⟩ = some (.pointer none)) (hsh : w.shape? p = some (187, 3)) (hfz : w.frozen? ⟨p, 0, none⟩ = false) :
    Calls Tryz.prog 283 #[.pointer (some ⟨p, 0, none⟩)] w fun e w' => e = .returned (.tuple #[]) ∧ w' = w.setCell ⟨p, 0, none⟩ (.pointer (some ⟨p, 0, none⟩)) := by
  obtain ⟨j, hj, hjs⟩ := Option.map_eq_some_iff.1 size183
  go_enter Tryz.func283, Tryz.ntmps283
  go_wp2
  rw [Lib.run_to_unsafe w ⟨p, 0, none⟩ Tryz.underlying180 Tryz.underlying273 hj (by rw [hjs]; decide) hsh (show (0 : Nat) < 3 by omega)]
  simp only [Result.andThen]
  rw [Oper.upon_value]
  go_wp2
  rw [run_callFunc_extern Tryz.func300 (by kernel_rfl) (by kernel_rfl) (by kernel_rfl) (e := Extern.AbiNoEscape.same) (by kernel_rfl)]
  rw [Lib.run_noEscape]
  simp only [Result.andThen]
  rw [Oper.upon_value]
  go_wp2
  rw [Lib.run_from_unsafe w ⟨p, 0, none⟩ Tryz.underlying273 Tryz.underlying180 hj hsh lies187]
  simp only [Result.andThen]
  rw [Oper.upon_value]
  go_wp2
  go_end0
  exact ⟨rfl, rfl⟩
/-- Behind copyCheck. -/
def CheckPost (B p : Nat) (w : World) (s : WS) (e : Ending) (w' : World) : Prop :=
  e = .returned (.tuple #[]) ∧ (∃ bv, w'.heap[p]? = some (.cells #[.pointer (some ⟨p, 0, none⟩), bv, .int .i64 s.c] 187 (0, 0)) ∧ w'.ownsRowF B 5 1 bv s.out.length (Lib.byteCells s.out) ∧ (s.out = [] → bv = .slice none 0 0)) ∧ Wrote B p w w'
theorem copyCheck_any (B p : Nat) (w : World) (s : WS) (h : WrAt B p w s) : Calls Tryz.prog 283 #[.pointer (some ⟨p, 0, none⟩)] w (CheckPost B p w s) := by
  obtain ⟨hge, av, bv, hbk, ha, hown, hn⟩ := h
  rcases ha with rfl | rfl
  · refine (copyCheck_fresh p w (by simp [World.cell?, hbk]) (by simp [World.shape?, hbk]) (by simp [World.frozen?, hbk])).mono ?_
    rintro e w' ⟨rfl, rfl⟩
    refine ⟨rfl, ⟨bv, setCell_atn _ _ _ _ _ _ hbk, ?_, hn⟩, Wrote.set _ _ _⟩
    exact hown.kept (row := some p) ⟨rfl, rfl, rfl, by simp [World.setCell], fun k _ hk => Below.heap_setCell _ _ _ _ (fun e => hk (by simp [e]))⟩ (Or.inr (Lib.ownBlock_neF hown hbk (by decide)))
  · refine (copyCheck_used p w (by simp [World.cell?, hbk])).mono ?_
    rintro e w' ⟨rfl, rfl⟩
    exact ⟨rfl, ⟨bv, hbk, hown, hn⟩, Wrote.refl _ _ _⟩

def WritePost (B p : Nat) (w : World) (s' : WS) (v : Value) (e : Ending) (w' : World) : Prop := e = .returned v ∧ WrAt B p w' s' ∧ Wrote B p w w'
set_option maxHeartbeats 2000000 in
set_option maxRecDepth 100000 in
theorem WriteString_any (B p : Nat) (w : World) (s : WS) (t : ByteArray) (h : WrAt B p w s) (hB : B ≤ w.heap.size) (hl : s.out.length + t.size ≤ 1000000000) :
    Calls Tryz.prog 227 #[.pointer (some ⟨p, 0, none⟩), .string t] w (WritePost B p w ⟨s.out ++ t.data.toList, s.c⟩ (.tuple #[.int .i64 t.size, .nilIface])) := by
  obtain ⟨i0, hi, hz0, hz1, hz2⟩ := info_parts info5
  have HH := Lib.hid h
  go_enter Tryz.func227, Tryz.ntmps227
  go_wp2_with fail
  refine (copyCheck_any B p w s HH.out).mono ?_
  rintro e w1 ⟨rfl, ⟨bv, hbk, hown, hn⟩, hw1⟩
  have HW1 := Lib.hid hw1
  have HN := Lib.hid hn
  have HBK := Lib.hid hbk
  have HOWN := Lib.hid hown
  have c1 : w1.cell? ⟨p, 1, none⟩ = some bv := by simp [World.cell?, hbk]
  clear hw1 hn hbk hown h
  go_wp2_with (at_builtin; refine Lib.wpList_append_own_stringF _ rfl _ _ 181 9 rfl B 5 i0 Tryz.underlying181 Tryz.underlying9 hi hz0 hz1 hz2 _ _ _ rfl HOWN.out t rfl ?c3 ?c4 ?c5 ?_)
  case c3 => unfold maxLen; omega
  case c4 => omega
  case c5 => have := HW1.out.size; omega
  intro v' w2 hown' hgrow hnil
  obtain ⟨a', c', hf⟩ := ownsF_form hown'
  have hw2 : Wrote B p w1 w2 := Wrote.grown HOWN.out hgrow
  have hbk2 : w2.heap[p]? = some (.cells #[.pointer (some ⟨p, 0, none⟩), bv, .int .i64 s.c] 187 (0, 0)) :=
    (hgrow.block p (Array.getElem?_eq_some_iff.1 HBK.out).1 (fun e => by
      obtain ⟨_, cur, fr, hh⟩ := ownsF_block HOWN.out p e.symm
      rw [HBK.out] at hh
      injection hh with hh
      injection hh with _ ht
      exact absurd ht (by decide))).trans HBK.out
  have c2 : w2.cell? ⟨p, 1, none⟩ = some bv := by simp [World.cell?, hbk2]
  have f2 : w2.frozen? ⟨p, 1, none⟩ = false := by simp [World.frozen?, hbk2]
  have HO2 := Lib.hid hown'
  have HNIL := Lib.hid hnil
  have HW2 := Lib.hid hw2
  have HBK2 := Lib.hid hbk2
  clear hown' hnil hw2 hbk2 hgrow c1
  subst hf
  go_wp2
  go_ret2
  refine ⟨rfl, ⟨HH.out.ge, _, _, setCell_atn _ _ _ _ _ _ HBK2.out, .inr rfl, ?_, ?_⟩, HW1.out.trans (HW2.out.trans (Wrote.set _ _ _))⟩
  · have h1 := HO2.out.kept (w' := w2.setCell ⟨p, 1, none⟩ (.slice a' (s.out.length + t.size) c')) (row := some p) ⟨rfl, rfl, rfl, by simp [World.setCell], fun k _ hk => Below.heap_setCell _ _ _ _ (fun e => hk (by simp [e]))⟩ (Or.inr (Lib.ownBlock_neF HO2.out HBK2.out (by decide)))
    have e1 : (s.out ++ t.data.toList).length = s.out.length + t.size := by rw [List.length_append, size_len]
    rw [e1, Lib.byteCells_append]
    exact h1
  · intro h0
    have h1 := List.append_eq_nil_iff.1 h0
    exact HNIL.out.2 ⟨HN.out h1.1, ByteArray.ext (Array.ext' h1.2)⟩
theorem WrAt.box {B p : Nat} {w : World} {s : WS} (h : WrAt B p w s) : ∃ av bv, w.heap[p]? = some (.cells #[av, bv, .int .i64 s.c] 187 (0, 0)) := by
  obtain ⟨av, bv, hb, _⟩ := h.ex
  exact ⟨av, bv, hb⟩
set_option maxHeartbeats 1000000 in
theorem wput_any (B p : Nat) (w : World) (s : WS) (t : ByteArray) (h : WrAt B p w s) (hB : B ≤ w.heap.size) (hl : s.out.length + t.size ≤ 1000000000) :
    Calls Tryz.prog 133 #[.pointer (some ⟨p, 0, none⟩), .string t] w (WritePost B p w (putW t.data.toList s) (.tuple #[])) := by
  obtain ⟨av, bv, hb⟩ := h.box
  have c2 : w.cell? ⟨p, 2, none⟩ = some (.int .i64 s.c) := by simp [World.cell?, hb]
  have HH := Lib.hid h
  clear hb h
  by_cases hc : s.c = 0
  · have hc1 : (s.c == 0) = true := by simp [hc]
    have HE : Hid (putW t.data.toList s = ⟨s.out ++ t.data.toList, s.c⟩) := Lib.hid (by unfold putW; rw [if_pos hc, hc])
    clear hc
    go_enter Tryz.func133, Tryz.ntmps133
    go_wp2_with (go_at_call 227; refine (WriteString_any B p w s t HH.out hB hl).mono ?_; rintro e w1 ⟨rfl, h1, h2⟩)
    go_end0
    rw [HE.out]
    exact ⟨rfl, h1, h2⟩
  · have hc1 : (s.c == 0) = false := by simp [hc]
    have HE : Hid (putW t.data.toList s = s) := Lib.hid (by unfold putW; rw [if_neg hc])
    clear hc
    go_enter Tryz.func133, Tryz.ntmps133
    go_wp2
    go_end0
    rw [HE.out]
    exact ⟨rfl, HH.out, Wrote.refl _ _ _⟩
set_option maxHeartbeats 1000000 in
theorem wfail_any (B p : Nat) (w : World) (s : WS) (c : Int) (h : WrAt B p w s) :
    Calls Tryz.prog 135 #[.pointer (some ⟨p, 2, none⟩), .int .i64 c] w (WritePost B p w (failW c s) (.tuple #[])) := by
  obtain ⟨av, bv, hb⟩ := h.box
  have c2 : w.cell? ⟨p, 2, none⟩ = some (.int .i64 s.c) := by simp [World.cell?, hb]
  have f2 : w.frozen? ⟨p, 2, none⟩ = false := by simp [World.frozen?, hb]
  have HH := Lib.hid h
  clear hb h
  by_cases hc : s.c = 0
  · have hc1 : (s.c == 0) = true := by simp [hc]
    have HE : Hid (failW c s = ⟨s.out, c⟩) := Lib.hid (by unfold failW; rw [if_pos hc])
    clear hc
    go_enter Tryz.func135, Tryz.ntmps135
    go_wp2
    go_end0
    rw [HE.out]
    obtain ⟨hge, av, bv, hbk, ha, hown, hn⟩ := HH.out
    refine ⟨rfl, ⟨hge, av, bv, setCell_atn _ _ _ _ _ _ hbk, ha, ?_, hn⟩, Wrote.set _ _ _⟩
    exact hown.kept (row := some p) ⟨rfl, rfl, rfl, by simp [World.setCell], fun k _ hk => Below.heap_setCell _ _ _ _ (fun e => hk (by simp [e]))⟩ (Or.inr (Lib.ownBlock_neF hown hbk (by decide)))
  · have hc1 : (s.c == 0) = false := by simp [hc]
    have HE : Hid (failW c s = s) := Lib.hid (by unfold failW; rw [if_neg hc])
    clear hc
    go_enter Tryz.func135, Tryz.ntmps135
    go_wp2
    go_end0
    rw [HE.out]
    exact ⟨rfl, HH.out, Wrote.refl _ _ _⟩
theorem putN_size (n : Nat) : (baOf (putN n)).size ≤ 10 := by
  show (putN n).toArray.size ≤ 10
  have := putN_le n
  simpa using this
theorem WritePost.wrote {B p : Nat} {w w1 : World} {s : WS} {v : Value} {e : Ending} {w' : World} (h : WritePost B p w1 s v e w') (hw : Wrote B p w w1) : WritePost B p w s v e w' := ⟨h.1, h.2.1, hw.trans h.2.2⟩
set_option maxHeartbeats 1000000 in
theorem wbig_any (B p : Nat) (w : World) (s : WS) (n : Nat) (h : WrAt B p w s) (hn : IsU64 n) (hB : B ≤ w.heap.size) (hl : s.out.length ≤ 900000000) :
    Calls Tryz.prog 177 #[.pointer (some ⟨p, 0, none⟩), .int .u64 n] w (WritePost B p w (putW (putN n) s) (.tuple #[])) := by
  have HH := Lib.hid h
  have hz := putN_size n
  clear h
  go_enter Tryz.func177, Tryz.ntmps177
  go_wp2_with fail
  refine (Put_any n w hn).mono ?_
  rintro e w1 ⟨rfl, hb1⟩
  have HB1 := Lib.hid hb1
  have hB1 : B ≤ w1.heap.size := by have := hb1.size; omega
  clear hb1
  go_wp2_with fail
  refine (wput_any B p w1 s (baOf (putN n)) (HH.out.keptBelow HB1.out) hB1 (by omega)).mono ?_
  rintro e w2 ⟨rfl, h1, h2⟩
  go_wp2
  go_end0
  exact ⟨rfl, h1, (Wrote.of_below HB1.out).trans h2⟩
set_option maxHeartbeats 1000000 in
theorem wnum_any (B p : Nat) (w : World) (s : WS) (n : Int) (h : WrAt B p w s) (h1 : n ≤ 9223372036854775807) (hB : B ≤ w.heap.size) (hl : s.out.length ≤ 900000000) :
    Calls Tryz.prog 132 #[.pointer (some ⟨p, 0, none⟩), .int .i64 n] w (WritePost B p w (numW n s) (.tuple #[])) := by
  have HH := Lib.hid h
  clear h
  by_cases hn : n < 0
  · have HE : Hid (numW n s = failW 1 s) := Lib.hid (by unfold numW; rw [if_pos hn])
    go_enter Tryz.func132, Tryz.ntmps132
    go_wp2_with (go_at_call 135; refine (wfail_any B p w s 1 HH.out).mono ?_; rintro e w1 ⟨rfl, h1, h2⟩)
    go_end0
    rw [HE.out]
    exact ⟨rfl, h1, h2⟩
  · obtain ⟨m, rfl⟩ : ∃ m : Nat, n = m := ⟨n.toNat, by omega⟩
    have HE : Hid (numW m s = putW (putN m) s) := Lib.hid (by unfold numW; rw [if_neg hn]; rfl)
    have hw : IntKind.u64.wrap (m : Int) = (m : Int) := IntWalk.u64_in _ (by omega)
    have hu : IsU64 m := by unfold IsU64; omega
    go_enter Tryz.func132, Tryz.ntmps132
    go_wp2_with (go_at_call 177; refine (wbig_any B p w s m HH.out hu hB hl).mono ?_; rintro e w1 ⟨rfl, h1, h2⟩)
    go_end0
    rw [HE.out]
    exact ⟨rfl, h1, h2⟩
set_option maxHeartbeats 1000000 in
theorem wtext_any (B p : Nat) (w : World) (s : WS) (t : ByteArray) (h : WrAt B p w s) (hB : B ≤ w.heap.size) (ht : t.size ≤ 1000000) (hl : s.out.length ≤ 900000000) :
    Calls Tryz.prog 42 #[.pointer (some ⟨p, 0, none⟩), .string t] w (WritePost B p w (textW t s) (.tuple #[])) := by
  have HH := Lib.hid h
  have hlen := numW_len t.size s
  clear h
  go_enter Tryz.func42, Tryz.ntmps42
  go_wp2_with fail
  refine (wnum_any B p w s t.size HH.out (by omega) hB hl).mono ?_
  rintro e w1 ⟨rfl, h1, h2⟩
  have H1 := Lib.hid h1
  have H2 := Lib.hid h2
  have hB1 : B ≤ w1.heap.size := by have := h2.size; omega
  clear h1 h2
  go_wp2_with fail
  refine (wput_any B p w1 _ t H1.out hB1 (by omega)).mono ?_
  rintro e w2 ⟨rfl, h1, h2⟩
  go_wp2
  go_end0
  exact ⟨rfl, h1, H2.out.trans h2⟩
set_option maxHeartbeats 1000000 in
/-- A new writer. -/
theorem Write_any (w : World) : Calls Tryz.prog 41 #[] w fun e w' => e = .returned (.pointer (some ⟨w.heap.size, 0, none⟩)) ∧ w' = w.alloc (.cells #[.pointer none, .slice none 0 0, .int .i64 0] 187) := by
  go_enter Tryz.func41, Tryz.ntmps41
  go_wp2
  go_ret
  exact ⟨rfl, rfl⟩
theorem WrAt.new (w : World) : WrAt w.heap.size w.heap.size (w.alloc (.cells #[.pointer none, .slice none 0 0, .int .i64 0] 187)) emptyW :=
  ⟨Nat.le_refl _, _, _, heap_alloc_new _ _, .inl rfl, World.ownsRowF_nil _ _ _ _, fun _ => rfl⟩
end Go.Proofs.YtgelbkgkjkeccaaGreatDoor
namespace Go.Proofs.YtgelbkgkjkeccaaGreatDoor
open Go.RowKit

theorem freeze_block (w : World) (g n k : Nat) (h : k ≠ g) : (w.freeze ⟨g, 0, none⟩ n).heap[k]? = w.heap[k]? := by
  unfold World.freeze
  split
  · rfl
  · simp only [Array.getElem?_modify]
    rw [if_neg (fun e => h e.symm)]
theorem froze_row {w : World} {B g cap n : Nat} {xs : List Value} (hown : w.ownsRowF B 5 1 (.slice (some ⟨g, 0, none⟩) n cap) n xs) : (w.freeze ⟨g, 0, none⟩ n).ownsRowF B 5 1 (.slice (some ⟨g, 0, none⟩) n cap) n xs := by
  unfold World.freeze
  split
  · exact hown
  · refine ⟨hown.1, ?_⟩
    rcases hown.2 with ⟨hv, _⟩ | ⟨g', cap', cur, fz, hv, hbg, hg, hfz, rest⟩
    · cases hv
    · injection hv with ha _ hcap
      injection ha with ha
      injection ha with hgg _ _
      subst hgg
      subst hcap
      obtain ⟨lo, hi⟩ := fz
      refine .inr ⟨g, _, cur, (if lo == hi then (0, 0 + n) else (min lo 0, max hi (0 + n))), rfl, hbg, ?_, ?_, rest⟩
      · simp [Array.getElem?_modify, hg]
      · simp only at hfz
        split <;> simp <;> omega
theorem cells5 : Tryz.prog.cellsOf 5 = 1 := by kernel_rfl
set_option maxHeartbeats 2000000 in
set_option maxRecDepth 100000 in
theorem String_some (B p g cap : Nat) (av : Value) (l : List UInt8) (c : Int) (w : World) (h0 : l ≠ []) (hbk : w.heap[p]? = some (.cells #[av, .slice (some ⟨g, 0, none⟩) l.length cap, .int .i64 c] 187 (0, 0))) (hown : w.ownsRowF B 5 1 (.slice (some ⟨g, 0, none⟩) l.length cap) l.length (Lib.byteCells l)) (hcap : l.length ≤ 1000000000) :
    Calls Tryz.prog 134 #[.pointer (some ⟨p, 0, none⟩)] w fun e w' => e = .returned (.string (baOf l)) ∧ w' = (w.drew.freeze ⟨g, 0, none⟩ l.length) := by
  have hl0 : l.length ≠ 0 := by simpa using h0
  obtain ⟨cur, fz, hg, hnc, hcs⟩ : ∃ cur fz, w.heap[g]? = some (.cells cur 5 fz) ∧ l.length ≤ cap ∧ cur.size = cap * 1 := by
    rcases hown.2 with ⟨hv, _⟩ | ⟨g', cap', cur, fz, hv, hbg, hg, _, h1, _, h3, _⟩
    · cases hv
    · injection hv with ha _ hc
      injection ha with ha
      injection ha with hgg _ _
      subst hgg
      subst hc
      exact ⟨cur, fz, hg, h1, h3⟩
  have c1 : w.drew.cell? ⟨p, 1, none⟩ = some (.slice (some ⟨g, 0, none⟩) l.length cap) := by
    have : w.drew.heap[p]? = some (.cells #[av, .slice (some ⟨g, 0, none⟩) l.length cap, .int .i64 c] 187 (0, 0)) := hbk
    rw [Lib.cell_of_heap this]; rfl
  have hSD : (Builtin.unsafeSliceData_ #[181] 287 #[.slice (some ⟨g, 0, none⟩) l.length cap]).run Tryz.prog w.drew = .ok (.pointer (some ⟨g, 0, none⟩)) w.drew :=
    Lib.run_unsafeSliceData_row _ _ _ _ _ _ (by omega)
  have hUS : (Builtin.unsafeString_ #[287, 3] 9 #[.pointer (some ⟨g, 0, none⟩), .int .i64 l.length]).run Tryz.prog w.drew = .ok (.string (baOf l)) (w.drew.freeze ⟨g, 0, none⟩ l.length) := by
    refine Lib.run_unsafeString_row w.drew 287 3 9 5 Tryz.underlying287 cells5 g cur.size (by have hg' : w.drew.heap[g]? = some (.cells cur 5 fz) := hg; simp [World.shape?, hg']) l h0 (by omega) (by omega) ?_
    intro j x hx
    have := hown.cells (g := g) rfl j (.int .u8 x.toNat) (by simp [Lib.byteCells, hx])
    exact this
  clear hown hbk hg
  go_enter Tryz.func134, Tryz.ntmps134
  go_wp2
  go_region
  all_goals (go_wp2; go_ret; exact ⟨rfl, rfl⟩)
set_option maxHeartbeats 2000000 in
set_option maxRecDepth 100000 in
theorem String_nil (p : Nat) (av : Value) (c : Int) (w : World) (hbk : w.heap[p]? = some (.cells #[av, .slice none 0 0, .int .i64 c] 187 (0, 0))) :
    Calls Tryz.prog 134 #[.pointer (some ⟨p, 0, none⟩)] w fun e w' => e = .returned (.string (baOf [])) ∧ Below w.heap.size w w' := by
  have hUS : ∀ W : World, (Builtin.unsafeString_ #[287, 3] 9 #[.pointer none, .int .i64 0]).run Tryz.prog W = .ok (.string (baOf [])) W := fun W => Lib.run_unsafeString_none W _ _ _ none
  have c1 : w.drew.cell? ⟨p, 1, none⟩ = some (.slice none 0 0) := by
    have : w.drew.heap[p]? = some (.cells #[av, .slice none 0 0, .int .i64 c] 187 (0, 0)) := hbk
    rw [Lib.cell_of_heap this]; rfl
  have hSD : (Builtin.unsafeSliceData_ #[181] 287 #[.slice none 0 0]).run Tryz.prog w.drew = .ok (.pointer none) w.drew := rfl
  clear hbk
  go_enter Tryz.func134, Tryz.ntmps134
  go_wp2
  go_region
  all_goals (go_wp2; go_ret; exact ⟨rfl, Below.drew (Below.refl _ w)⟩)
theorem WString_any (B p : Nat) (w : World) (s : WS) (h : WrAt B p w s) (hl : s.out.length ≤ 1000000000) :
    Calls Tryz.prog 134 #[.pointer (some ⟨p, 0, none⟩)] w (WritePost B p w s (.string (baOf s.out))) := by
  obtain ⟨hge, av, bv, hbk, ha, hown, hn⟩ := h
  cases ho : s.out with
  | nil =>
    have hb := hn ho
    subst hb
    refine (String_nil p av s.c w hbk).mono ?_
    rintro e w' ⟨rfl, hb⟩
    refine ⟨rfl, WrAt.keptBelow ⟨hge, av, _, hbk, ha, hown, hn⟩ hb, Wrote.of_below hb⟩
  | cons x r =>
    have hne : s.out ≠ [] := by rw [ho]; simp
    rw [← ho]
    rcases hown.2 with ⟨_, hz⟩ | ⟨g, cap, cur, fz, rfl, hbg, hg, _⟩
    · rw [ho] at hz; simp at hz
    · have hpg : p ≠ g := by
        rintro rfl
        rw [hbk] at hg
        injection hg with hg
        injection hg with _ ht
        exact absurd ht (by decide)
      refine (String_some B p g cap av s.out s.c w hne hbk hown hl).mono ?_
      rintro e w' ⟨rfl, rfl⟩
      refine ⟨rfl, ⟨hge, av, _, (freeze_block _ g _ p hpg).trans hbk, ha, froze_row (w := w.drew) hown, hn⟩, ?_⟩
      refine ⟨?_, ?_, ?_, ?_, fun k hk hm => freeze_block w.drew g _ k (fun e => hm (.inr ⟨e ▸ hbg, cur, fz, e ▸ hg⟩))⟩
      · unfold World.freeze; split <;> rfl
      · unfold World.freeze; split <;> rfl
      · unfold World.freeze; split <;> rfl
      · unfold World.freeze; split
        · exact Nat.le_refl _
        · simp
def endW (s : WS) : List UInt8 := if s.c = 0 then s.out else []
set_option maxHeartbeats 1000000 in
theorem wend_any (B p : Nat) (w : World) (s : WS) (h : WrAt B p w s) (hl : s.out.length ≤ 1000000000) :
    Calls Tryz.prog 43 #[.pointer (some ⟨p, 0, none⟩)] w (WritePost B p w s (.tuple #[.string (baOf (endW s)), .int .i64 s.c])) := by
  obtain ⟨av, bv, hb⟩ := h.box
  have c2 : w.cell? ⟨p, 2, none⟩ = some (.int .i64 s.c) := by simp [World.cell?, hb]
  have HH := Lib.hid h
  clear hb h
  by_cases hc : s.c = 0
  · have hc1 : (s.c == 0) = true := by simp [hc]
    have HE : Hid (endW s = s.out) := Lib.hid (by unfold endW; rw [if_pos hc])
    have HC := Lib.hid hc
    clear hc
    go_enter Tryz.func43, Tryz.ntmps43
    go_wp2_with (go_at_call 134; refine (WString_any B p w s HH.out hl).mono ?_; rintro e w1 ⟨rfl, h1, h2⟩)
    go_ret2
    rw [HE.out, HC.out]
    exact ⟨rfl, h1, h2⟩
  · have hc1 : (s.c == 0) = false := by simp [hc]
    have HE : Hid (endW s = []) := Lib.hid (by unfold endW; rw [if_neg hc])
    clear hc
    go_enter Tryz.func43, Tryz.ntmps43
    go_wp2_with fail
    go_region
    all_goals
      go_wp2
      go_ret2
      rw [HE.out]
      exact ⟨rfl, HH.out.keptBelow (bdrew0 _), Wrote.of_below (bdrew0 _)⟩
end Go.Proofs.YtgelbkgkjkeccaaGreatDoor
