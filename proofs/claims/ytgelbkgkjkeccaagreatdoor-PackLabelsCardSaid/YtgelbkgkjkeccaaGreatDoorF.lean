/- What was met in a pod (package spec's seen): its two rows; the walks of name, port, container, containers and Check. -/
import Derived.Test.YtgelbkgkjkeccaaGreatDoorE
import Derived.Deep.AppendLies
import Derived.Deep.RegionLaw
import Derived.BigRegion
namespace Go.Proofs.YtgelbkgkjkeccaaGreatDoor
open Go.RowKit

/-- What lies outside of M stays as it was. -/
structure Kept (M : Nat → Prop) (w w' : World) : Prop where
  os : w'.os = w.os
  tape : w'.tape = w.tape
  output : w'.output = w.output
  size : w.heap.size ≤ w'.heap.size
  block : ∀ k, k < w.heap.size → ¬ M k → w'.heap[k]? = w.heap[k]?
theorem Kept.refl (M : Nat → Prop) (w : World) : Kept M w w := ⟨rfl, rfl, rfl, Nat.le_refl _, fun _ _ _ => rfl⟩
theorem Kept.trans {M M' : Nat → Prop} {w w1 w2 : World} (h : Kept M w w1) (k : Kept M' w1 w2) (hM : ∀ i, i < w.heap.size → M' i → M i) : Kept M w w2 :=
  ⟨k.os.trans h.os, k.tape.trans h.tape, k.output.trans h.output, Nat.le_trans h.size k.size, fun i hi hn => (k.block i (Nat.lt_of_lt_of_le hi h.size) (fun hm => hn (hM i hi hm))).trans (h.block i hi hn)⟩
theorem Kept.of_below {M : Nat → Prop} {w w' : World} (h : Below w.heap.size w w') : Kept M w w' := ⟨h.os, h.tape, h.output, h.size, fun k hk _ => h.block k hk⟩
theorem Kept.cell {M : Nat → Prop} {w w' : World} {b o : Nat} {x : Value} (h : Kept M w w') (hb : ¬ M b) (hc : w.cell? ⟨b, o, none⟩ = some x) : w'.cell? ⟨b, o, none⟩ = some x :=
  (World.cell?_of_block (w := w) (a := ⟨b, o, none⟩) (h.block b (World.block_lt_of_cell? w _ hc) hb)).trans hc
theorem Kept.err {M : Nat → Prop} {B : Nat} {w w' : World} {v : Value} {e : Err} (h : Kept M w w') (hM : ∀ k, B ≤ k → ¬ M k) (he : RErrO B w v e) : RErrO B w' v e := he.kept fun k hk hl => h.block k hl (hM k hk)

/-- What was met: two rows of the pod's own behind one pointer. -/
structure IsSeen (B : Nat) (w : World) (g : Nat) (nv pv : Value) (ns : List ByteArray) (ps : List Int) : Prop where
  blk : w.heap[g]? = some (.cells #[nv, pv] 175 (0, 0))
  base : B ≤ g
  names : w.ownsRow B 9 1 nv ns.length (ns.map .string)
  ports : w.ownsRow B 3 1 pv ps.length (ps.map (.int .i64))
def Mut (g : Nat) (nv pv : Value) (k : Nat) : Prop := k = g ∨ nv.ownBlock = some k ∨ pv.ownBlock = some k
/-- The pod's cell, and one of its rows. -/
def Mut1 (g : Nat) (v : Value) (k : Nat) : Prop := k = g ∨ v.ownBlock = some k
theorem Mut1.n {g : Nat} {nv pv : Value} {k : Nat} (h : Mut1 g nv k) : Mut g nv pv k := h.elim .inl fun h => .inr (.inl h)
theorem Mut1.p {g : Nat} {nv pv : Value} {k : Nat} (h : Mut1 g pv k) : Mut g nv pv k := h.elim .inl fun h => .inr (.inr h)
def NewRow (w : World) (v v' : Value) : Prop := v'.ownBlock = v.ownBlock ∨ ∃ k, v'.ownBlock = some k ∧ w.heap.size ≤ k

theorem own_type {w : World} {B : Nat} {e : TypeId} {size n k : Nat} {v : Value} {xs : List Value} (h : w.ownsRow B e size v n xs) (hk : v.ownBlock = some k) : ∃ cur, w.heap[k]? = some (.cells cur e (0, 0)) := by
  rcases h.2 with ⟨rfl, _⟩ | ⟨g, cap, cur, rfl, _, hh, _⟩
  · simp [Value.ownBlock] at hk
  · have : g = k := by simpa [Value.ownBlock] using hk
    subst this
    exact ⟨cur, hh⟩
theorem own_lt {w : World} {B : Nat} {e : TypeId} {size n k : Nat} {v : Value} {xs : List Value} (h : w.ownsRow B e size v n xs) (hk : v.ownBlock = some k) : k < w.heap.size := by
  obtain ⟨cur, hh⟩ := own_type h hk
  exact (Array.getElem?_eq_some_iff.1 hh).1
theorem own_ge {w : World} {B : Nat} {e : TypeId} {size n k : Nat} {v : Value} {xs : List Value} (h : w.ownsRow B e size v n xs) (hk : v.ownBlock = some k) : B ≤ k := by
  rcases h.2 with ⟨rfl, _⟩ | ⟨g, cap, cur, rfl, hb, _, _⟩
  · simp [Value.ownBlock] at hk
  · have : g = k := by simpa [Value.ownBlock] using hk
    omega
theorem own_block_kept {w w' : World} {B : Nat} {e : TypeId} {size n : Nat} {v : Value} {xs : List Value} (h : w.ownsRow B e size v n xs) (hk : ∀ k, v.ownBlock = some k → w'.heap[k]? = w.heap[k]?) : w'.ownsRow B e size v n xs := by
  refine ⟨h.1, ?_⟩
  rcases h.2 with h2 | ⟨g, cap, cur, rfl, hb, hh, hr⟩
  · exact .inl h2
  · exact .inr ⟨g, cap, cur, rfl, hb, (hk g rfl).trans hh, hr⟩
theorem IsSeen.lt {B : Nat} {w : World} {g : Nat} {nv pv : Value} {ns : List ByteArray} {ps : List Int} (h : IsSeen B w g nv pv ns ps) : g < w.heap.size := (Array.getElem?_eq_some_iff.1 h.blk).1
theorem IsSeen.mut_lt {B : Nat} {w : World} {g : Nat} {nv pv : Value} {ns : List ByteArray} {ps : List Int} (h : IsSeen B w g nv pv ns ps) (k : Nat) (hk : Mut g nv pv k) : B ≤ k ∧ k < w.heap.size := by
  rcases hk with rfl | hk | hk
  · exact ⟨h.base, h.lt⟩
  · exact ⟨own_ge h.names hk, own_lt h.names hk⟩
  · exact ⟨own_ge h.ports hk, own_lt h.ports hk⟩
theorem IsSeen.below {B : Nat} {w w' : World} {g : Nat} {nv pv : Value} {ns : List ByteArray} {ps : List Int} (h : IsSeen B w g nv pv ns ps) (hb : Below w.heap.size w w') : IsSeen B w' g nv pv ns ps :=
  ⟨(hb.block g h.lt).trans h.blk, h.base, own_block_kept h.names fun k hk => hb.block k (own_lt h.names hk), own_block_kept h.ports fun k hk => hb.block k (own_lt h.ports hk)⟩
theorem IsSeen.n_ne {B : Nat} {w : World} {g : Nat} {nv pv : Value} {ns : List ByteArray} {ps : List Int} (h : IsSeen B w g nv pv ns ps) : nv.ownBlock ≠ some g := fun hk => by
  obtain ⟨cur, hh⟩ := own_type h.names hk
  rw [h.blk] at hh
  injection hh with hh
  injection hh with _ ht
  exact absurd ht (by decide)
theorem IsSeen.p_ne {B : Nat} {w : World} {g : Nat} {nv pv : Value} {ns : List ByteArray} {ps : List Int} (h : IsSeen B w g nv pv ns ps) : pv.ownBlock ≠ some g := fun hk => by
  obtain ⟨cur, hh⟩ := own_type h.ports hk
  rw [h.blk] at hh
  injection hh with hh
  injection hh with _ ht
  exact absurd ht (by decide)
theorem IsSeen.np_ne {B : Nat} {w : World} {g : Nat} {nv pv : Value} {ns : List ByteArray} {ps : List Int} (h : IsSeen B w g nv pv ns ps) (k : Nat) (h1 : nv.ownBlock = some k) (h2 : pv.ownBlock = some k) : False := by
  obtain ⟨cur, hh⟩ := own_type h.names h1
  obtain ⟨cur2, hh2⟩ := own_type h.ports h2
  rw [hh] at hh2
  injection hh2 with hh2
  injection hh2 with _ ht
  exact absurd ht (by decide)

/-- slices.Contains over a row of names, and of ports. -/
theorem own_cells {w : World} {B : Nat} {e : TypeId} {v : Value} {n : Nat} {xs : List Value} (h : w.ownsRow B e 1 v n xs) :
    (v = .slice none 0 0 ∧ n = 0) ∨ ∃ g c, v = .slice (some ⟨g, 0, none⟩) n c ∧ ∀ j x, xs[j]? = some x → w.cell? ⟨g, 0 + j, none⟩ = some x := by
  rcases h.2 with h2 | ⟨g, cap, cur, rfl, hb, hh, h1, h2, h3, h4⟩
  · exact .inl h2
  · refine .inr ⟨g, cap, rfl, fun j x hj => ?_⟩
    rw [← h4] at hj
    have hj2 : cur[j]? = some x := by
      rw [List.getElem?_take] at hj
      split at hj
      · simpa using hj
      · simp at hj
    simp [World.cell?, hh, hj2]

theorem contains_names (B : Nat) (w : World) (v : Value) (ns : List ByteArray) (x : ByteArray) (h : w.ownsRow B 9 1 v ns.length (ns.map .string)) (hl : ns.length ≤ 1000000000000) :
    Calls Tryz.prog 296 #[v, .string x] w fun e w' => e = .returned (.bool (Lib.containsS ns x)) ∧ w' = w := by
  rcases own_cells h with ⟨rfl, h0⟩ | ⟨g, c, rfl, hc⟩
  · obtain rfl : ns = [] := List.length_eq_zero_iff.1 h0
    exact Tryz.slices_Contains_string_empty none 0 x w
  · have := Tryz.slices_Contains_string g 0 ns.length c ns x w (Nat.le_refl _) (by omega) (fun j hj => hc j _ (by simp [List.getElem?_eq_getElem hj, List.getD_eq_getElem?_getD]))
    rw [List.take_length] at this
    exact this
theorem contains_ports (B : Nat) (w : World) (v : Value) (ps : List Int) (x : Int) (h : w.ownsRow B 3 1 v ps.length (ps.map (.int .i64))) (hl : ps.length ≤ 1000000000000) :
    Calls Tryz.prog 298 #[v, .int .i64 x] w fun e w' => e = .returned (.bool (ps.contains x)) ∧ w' = w := by
  rcases own_cells h with ⟨rfl, h0⟩ | ⟨g, c, rfl, hc⟩
  · obtain rfl : ps = [] := List.length_eq_zero_iff.1 h0
    exact Tryz.slices_Contains_int_empty none 0 x w
  · have := Tryz.slices_Contains_int g 0 ps.length c ps x w (Nat.le_refl _) (by omega) (fun j hj => hc j _ (by simp [List.getElem?_eq_getElem hj, List.getD_eq_getElem?_getD]))
    rw [List.take_length] at this
    exact this

/-- A container's cells; 'q': the value of its slice of ports. -/
abbrev ctrCells (c : CtrD) (q : Value) : Array Value := #[.string c.name, .string c.image, .int .i64 c.req.cpu, .int .i64 c.req.mem, .int .i64 c.req.pids, .int .i64 c.lim.cpu, .int .i64 c.lim.mem, .int .i64 c.lim.pids, q, .int .i64 c.every, .int .i64 c.fails]
def nameS : ByteArray := ⟨#[110, 97, 109, 101]⟩
def nameE (c : CtrD) (ns : List ByteArray) : Err := if nameB c.name.data.toList then (if Lib.containsS ns c.name then some (7, [nameS]) else none) else some (30, [nameS])
theorem info9 : (Tryz.prog.info? 9).map (fun i => (i.zero, i.size, i.bytes)) = some (some (.string ⟨#[]⟩), 1, 16) := by kernel_rfl
theorem info3 : (Tryz.prog.info? 3).map (fun i => (i.zero, i.size, i.bytes)) = some (some (.int .i64 0), 1, 8) := by kernel_rfl

/-- What name leaves. -/
def NamePost (B : Nat) (w : World) (g : Nat) (nv pv : Value) (ns : List ByteArray) (ps : List Int) (x : ByteArray) (er : Err) (e : Ending) (w' : World) : Prop :=
  ∃ v nv', e = .returned v ∧ RErrO w.heap.size w' v er ∧ IsSeen B w' g nv' pv (ns ++ [x]) ps ∧ Kept (Mut1 g nv) w w' ∧ NewRow w nv nv'

theorem setCell_at0 (w : World) (g : Nat) (x y u : Value) (h : w.heap[g]? = some (.cells #[x, y] 175 (0, 0))) : (w.setCell ⟨g, 0, none⟩ u).heap[g]? = some (.cells #[u, y] 175 (0, 0)) := by
  simp [World.setCell, Array.getElem?_modify, h]
theorem setCell_at1 (w : World) (g : Nat) (x y u : Value) (h : w.heap[g]? = some (.cells #[x, y] 175 (0, 0))) : (w.setCell ⟨g, 1, none⟩ u).heap[g]? = some (.cells #[x, u] 175 (0, 0)) := by
  simp [World.setCell, Array.getElem?_modify, h]
theorem setCell_size (w : World) (a : Addr) (u : Value) : (w.setCell a u).heap.size = w.heap.size := by simp [World.setCell]

/-- Behind the append to the names and the store into the pod's own cell. -/
theorem name_end {B g gg cap : Nat} {nv pv v : Value} {ns : List ByteArray} {ps : List Int} {x : ByteArray} {er : Err} {w W w1 : World} {o : Obj} (hs : IsSeen B w g nv pv ns ps)
    (HBW : Below w.heap.size w W) (hrW : RErrO w.heap.size W v er)
    (hown1 : w1.ownsRow B 9 1 (.slice (some ⟨gg, 0, none⟩) (ns.length + 1) cap) (ns.length + 1) (ns.map Value.string ++ [.string x]))
    (hgrow : (W.alloc o).drew.grownBy w1 nv.ownBlock) (hat : nv.ownBlock = some gg ∨ gg = W.heap.size + 1) :
    NamePost B w g nv pv ns ps x er (.returned v) (w1.setCell ⟨g, 0, none⟩ (.slice (some ⟨gg, 0, none⟩) (ns.length + 1) cap)) := by
  have hsW := hs.below HBW
  have hgl := hsW.lt
  have hne : some g ≠ nv.ownBlock := fun h => hsW.n_ne h.symm
  have hsz : (W.alloc o).drew.heap.size = W.heap.size + 1 := by simp
  have hW1 : ∀ k, k < W.heap.size → nv.ownBlock ≠ some k → w1.heap[k]? = W.heap[k]? := fun k hk hn => by
    rw [hgrow.block k (by rw [hsz]; omega) (fun h => hn h.symm)]
    exact Below.heap_alloc W o k hk
  have hblk : w1.heap[g]? = some (.cells #[nv, pv] 175 (0, 0)) := (hW1 g hgl (fun h => hne h.symm)).trans hsW.blk
  have hsz1 : W.heap.size ≤ w1.heap.size := by have := hgrow.size; rw [hsz] at this; omega
  have hgg : gg ≠ g := by
    rintro rfl
    rcases hat with h | h
    · exact hne h.symm
    · omega
  have hother : ∀ k, k ≠ g → ∀ u, (w1.setCell ⟨g, 0, none⟩ u).heap[k]? = w1.heap[k]? := fun k hk u => Below.heap_setCell _ _ _ _ hk
  refine ⟨v, _, rfl, ?_, ⟨setCell_at0 _ _ _ _ _ hblk, hs.base, ?_, ?_⟩, ⟨?_, ?_, ?_, ?_, ?_⟩, ?_⟩
  · refine hrW.kept fun k hk hl => ?_
    have hkg : k ≠ g := by have := hs.lt; omega
    rw [hother k hkg]
    exact hW1 k hl (fun h => by have := own_lt hs.names h; omega)
  · rw [List.length_append, List.map_append]
    exact own_block_kept hown1 fun k hk => by
      have : gg = k := by simpa [Value.ownBlock] using hk
      subst this
      exact hother _ hgg _
  · refine own_block_kept hsW.ports fun k hk => ?_
    have hkg : k ≠ g := by rintro rfl; exact hsW.p_ne hk
    rw [hother k hkg]
    exact hW1 k (own_lt hsW.ports hk) (fun h => hsW.np_ne k h hk)
  · exact hgrow.os.trans HBW.os
  · exact hgrow.tape.trans HBW.tape
  · exact hgrow.output.trans HBW.output
  · rw [setCell_size]; exact Nat.le_trans HBW.size hsz1
  · intro k hk hn
    have hkg : k ≠ g := fun h => hn (.inl h)
    rw [hother k hkg, hW1 k (Nat.lt_of_lt_of_le hk HBW.size) (fun h => hn (.inr h))]
    exact HBW.block k hk
  · rcases hat with h | h
    · exact .inl h.symm
    · exact .inr ⟨gg, rfl, by have := HBW.size; omega⟩

set_option maxHeartbeats 2000000 in
set_option maxRecDepth 100000 in
theorem name_bad (B : Nat) (c : CtrD) (q : Value) (g : Nat) (nv pv : Value) (ns : List ByteArray) (ps : List Int) (w : World) (hs : IsSeen B w g nv pv ns ps) (hm : LaidMarks w)
    (hn : c.name.size ≤ 1000000) (hl : ns.length ≤ 1000000) (hk : nameB c.name.data.toList = false) :
    Calls Tryz.prog 271 #[.pointer (some ⟨g, 0, none⟩), .agg (ctrCells c q)] w (NamePost B w g nv pv ns ps c.name (some (30, [nameS]))) := by
  obtain ⟨i0, hi0, hz0, hz1, hz2⟩ := info_parts info9
  have hm1 := hm.below (bnew w (.cells (ctrCells c q) 44))
  have HK := Lib.hid hk; clear hk
  go_enter Tryz.func271, Tryz.ntmps271
  go_wp2_with (go_at_call 123; refine (Name_any _ _ (by omega) hm1).mono ?_; rw [HK.out]; rintro e w' ⟨rfl, rfl⟩)
  refine (New_one _ nameS _ _ _ (new_cell _ _ _ _ _ _ (by simp) rfl)).mono ?_
  rintro e w2 ⟨v2, rfl, hr2, hb2⟩
  obtain ⟨t2, y2, rfl⟩ := RErr.held (show RErr _ w2 v2 30 [nameS] from hr2)
  have c0 : w2.cell? ⟨w.heap.size, 0, none⟩ = some (.string c.name) := keepc hb2 (by go_simp)
  have hB2 : Below w.heap.size w w2 := bto (bto (bnew _ _) (bnew _ _)) hb2
  have hs2 := hs.below hB2
  go_wp2_with fail
  go_quiet (fail)
  obtain ⟨W, hW⟩ : ∃ W, W = w2.drewN nq := ⟨_, rfl⟩
  have c0W : W.cell? ⟨w.heap.size, 0, none⟩ = some (.string c.name) := by rw [hW]; exact c0
  have hsW : IsSeen B W g nv pv ns ps := by rw [hW]; exact hs2.below (bdrew _ _)
  have HBW : Hid (Below w.heap.size w W) := by rw [hW]; exact bto hB2 (bdrew _ _)
  have hrW : RErrO w.heap.size W (.iface t2 y2) (some (30, [nameS])) := by rw [hW]; exact (hr2.mono (by simp; omega)).below (bdrew _ _)
  rw [← hW]
  clear hW c0 hs2 hb2 hB2 hr2
  have g0 : W.cell? ⟨g, 0, none⟩ = some nv := by simp [World.cell?, hsW.blk]
  have f0 : W.frozen? ⟨g, 0, none⟩ = false := by simp [World.frozen?, hsW.blk]
  have hgl := hsW.lt
  have hgw := hs.lt
  have hne : some g ≠ nv.ownBlock := fun h => hsW.n_ne h.symm
  have hB1 : B ≤ W.heap.size := Nat.le_trans hsW.base (Nat.le_of_lt hgl)
  go_wp2_with fail
  go_region_law (refine step_append_lies _ (by rfl) _ _ 96 (by rfl) B 9 i0 _ 1 16 Tryz.underlying96 hi0 hz0 hz1 hz2 rfl (by omega) nv ns.length (ns.map .string) (by rfl) ((hsW.names.alloc _).drew) ⟨W.heap.size, 0, none⟩ 1 1 [.string c.name] (by rfl) (by rfl) (World.news_of_block (cs := #[.string c.name]) (t := 9) (fr := (0, 0)) (heap_alloc_new W _)) (by simp [Value.oneCell']) (by omega) (by unfold maxLen; omega) (by omega) (by simp; omega) (W.heap.size + 1) (by simp) ?_; intro gg cap w1 hown1 hgrow hat hlt; have k0 : w1.cell? ⟨g, 0, none⟩ = some nv := (hgrow.cell_far ⟨g, 0, none⟩ (by simp; omega) hne).trans (by go_simp); have k1 : w1.frozen? ⟨g, 0, none⟩ = false := (hgrow.frozen_far ⟨g, 0, none⟩ (by simp; omega) hne).trans (by go_simp))
  all_goals
    go_wp2
    go_ret
    exact name_end hs HBW.out hrW hown1 hgrow hat

set_option maxHeartbeats 2000000 in
set_option maxRecDepth 100000 in
theorem name_new (B : Nat) (c : CtrD) (q : Value) (g : Nat) (nv pv : Value) (ns : List ByteArray) (ps : List Int) (w : World) (hs : IsSeen B w g nv pv ns ps) (hm : LaidMarks w)
    (hn : c.name.size ≤ 1000000) (hl : ns.length ≤ 1000000) (hk : nameB c.name.data.toList = true) (hcn : Lib.containsS ns c.name = false) :
    Calls Tryz.prog 271 #[.pointer (some ⟨g, 0, none⟩), .agg (ctrCells c q)] w (NamePost B w g nv pv ns ps c.name none) := by
  obtain ⟨i0, hi0, hz0, hz1, hz2⟩ := info_parts info9
  have hm1 := hm.below (bnew w (.cells (ctrCells c q) 44))
  have HK := Lib.hid hk; clear hk
  have HC := Lib.hid hcn; clear hcn
  go_enter Tryz.func271, Tryz.ntmps271
  go_wp2_with (go_at_call 123; refine (Name_any _ _ (by omega) hm1).mono ?_; rw [HK.out]; rintro e w' ⟨rfl, rfl⟩)
  refine (New_one _ nameS _ _ _ (new_cell _ _ _ _ _ _ (by simp) rfl)).mono ?_
  rintro e w2 ⟨v2, rfl, hr2, hb2⟩
  have hv2 : v2 = .nilIface := hr2
  subst hv2
  have c0 : w2.cell? ⟨w.heap.size, 0, none⟩ = some (.string c.name) := keepc hb2 (by go_simp)
  have hB2 : Below w.heap.size w w2 := bto (bto (bnew _ _) (bnew _ _)) hb2
  have hs2 := hs.below hB2
  have g20 : w2.cell? ⟨g, 0, none⟩ = some nv := by simp [World.cell?, hs2.blk]
  go_wp2_with fail
  go_quiet ((go_at_call 296; exact Calls.quiet_of_same ((contains_names B _ nv ns c.name (by exact hs2.names) (by omega)).mono fun _ _ h => by rw [HC.out] at h; exact h)))
  go_wp2_with fail
  obtain ⟨W, hW⟩ : ∃ W, W = w2.drewN nq := ⟨_, rfl⟩
  have c0W : W.cell? ⟨w.heap.size, 0, none⟩ = some (.string c.name) := by rw [hW]; exact c0
  have hsW : IsSeen B W g nv pv ns ps := by rw [hW]; exact hs2.below (bdrew _ _)
  have HBW : Hid (Below w.heap.size w W) := by rw [hW]; exact bto hB2 (bdrew _ _)
  have hrW : RErrO w.heap.size W .nilIface none := rfl
  rw [← hW]
  clear hW c0 hs2 hb2 hB2 hr2 g20
  have g0 : W.cell? ⟨g, 0, none⟩ = some nv := by simp [World.cell?, hsW.blk]
  have f0 : W.frozen? ⟨g, 0, none⟩ = false := by simp [World.frozen?, hsW.blk]
  have hgl := hsW.lt
  have hgw := hs.lt
  have hne : some g ≠ nv.ownBlock := fun h => hsW.n_ne h.symm
  have hB1 : B ≤ W.heap.size := Nat.le_trans hsW.base (Nat.le_of_lt hgl)
  go_wp2_with fail
  go_region_law (refine step_append_lies _ (by rfl) _ _ 96 (by rfl) B 9 i0 _ 1 16 Tryz.underlying96 hi0 hz0 hz1 hz2 rfl (by omega) nv ns.length (ns.map .string) (by rfl) ((hsW.names.alloc _).drew) ⟨W.heap.size, 0, none⟩ 1 1 [.string c.name] (by rfl) (by rfl) (World.news_of_block (cs := #[.string c.name]) (t := 9) (fr := (0, 0)) (heap_alloc_new W _)) (by simp [Value.oneCell']) (by omega) (by unfold maxLen; omega) (by omega) (by simp; omega) (W.heap.size + 1) (by simp) ?_; intro gg cap w1 hown1 hgrow hat hlt; have k0 : w1.cell? ⟨g, 0, none⟩ = some nv := (hgrow.cell_far ⟨g, 0, none⟩ (by simp; omega) hne).trans (by go_simp); have k1 : w1.frozen? ⟨g, 0, none⟩ = false := (hgrow.frozen_far ⟨g, 0, none⟩ (by simp; omega) hne).trans (by go_simp))
  all_goals
    go_wp2
    go_ret
    exact name_end hs HBW.out hrW hown1 hgrow hat

set_option maxHeartbeats 2000000 in
set_option maxRecDepth 100000 in
theorem name_there (B : Nat) (c : CtrD) (q : Value) (g : Nat) (nv pv : Value) (ns : List ByteArray) (ps : List Int) (w : World) (hs : IsSeen B w g nv pv ns ps) (hm : LaidMarks w)
    (hn : c.name.size ≤ 1000000) (hl : ns.length ≤ 1000000) (hk : nameB c.name.data.toList = true) (hcn : Lib.containsS ns c.name = true) :
    Calls Tryz.prog 271 #[.pointer (some ⟨g, 0, none⟩), .agg (ctrCells c q)] w (NamePost B w g nv pv ns ps c.name (some (7, [nameS]))) := by
  obtain ⟨i0, hi0, hz0, hz1, hz2⟩ := info_parts info9
  have hm1 := hm.below (bnew w (.cells (ctrCells c q) 44))
  have HK := Lib.hid hk; clear hk
  have HC := Lib.hid hcn; clear hcn
  go_enter Tryz.func271, Tryz.ntmps271
  go_wp2_with (go_at_call 123; refine (Name_any _ _ (by omega) hm1).mono ?_; rw [HK.out]; rintro e w' ⟨rfl, rfl⟩)
  refine (New_one _ nameS _ _ _ (new_cell _ _ _ _ _ _ (by simp) rfl)).mono ?_
  rintro e w2 ⟨v2, rfl, hr2, hb2⟩
  have hv2 : v2 = .nilIface := hr2
  subst hv2
  have c0 : w2.cell? ⟨w.heap.size, 0, none⟩ = some (.string c.name) := keepc hb2 (by go_simp)
  have hB2 : Below w.heap.size w w2 := bto (bto (bnew _ _) (bnew _ _)) hb2
  have hs2 := hs.below hB2
  have g20 : w2.cell? ⟨g, 0, none⟩ = some nv := by simp [World.cell?, hs2.blk]
  go_wp2_with fail
  go_quiet ((go_at_call 296; exact Calls.quiet_of_same ((contains_names B _ nv ns c.name (by exact hs2.names) (by omega)).mono fun _ _ h => by rw [HC.out] at h; exact h)))
  go_wp2_with fail
  refine (New_one _ nameS _ _ _ (new_cell _ _ _ _ _ _ (by simp) rfl)).mono ?_
  rintro e w3 ⟨v3, rfl, hr3, hb3⟩
  obtain ⟨t3, y3, rfl⟩ := RErr.held (show RErr _ w3 v3 7 [nameS] from hr3)
  have HB3 : Below w.heap.size w w3 := bto (bto (bto hB2 (bdrew _ _)) (bnew _ _)) hb3
  have c0W : w3.cell? ⟨w.heap.size, 0, none⟩ = some (.string c.name) := keepc hb3 (keepc (bnew _ _) c0)
  have hsW : IsSeen B w3 g nv pv ns ps := hs.below HB3
  have HBW := Lib.hid HB3
  have hrW : RErrO w.heap.size w3 (.iface t3 y3) (some (7, [nameS])) := RErrO.mono hr3 (by have := hB2.size; simp; omega)
  clear c0 hs2 hb2 hB2 hr2 hb3 hr3 HB3 g20
  have g0 : w3.cell? ⟨g, 0, none⟩ = some nv := by simp [World.cell?, hsW.blk]
  have f0 : w3.frozen? ⟨g, 0, none⟩ = false := by simp [World.frozen?, hsW.blk]
  have hgl := hsW.lt
  have hgw := hs.lt
  have hne : some g ≠ nv.ownBlock := fun h => hsW.n_ne h.symm
  have hB1 : B ≤ w3.heap.size := Nat.le_trans hsW.base (Nat.le_of_lt hgl)
  go_wp2_with fail
  go_region_law (refine step_append_lies _ (by rfl) _ _ 96 (by rfl) B 9 i0 _ 1 16 Tryz.underlying96 hi0 hz0 hz1 hz2 rfl (by omega) nv ns.length (ns.map .string) (by rfl) ((hsW.names.alloc _).drew) ⟨w3.heap.size, 0, none⟩ 1 1 [.string c.name] (by rfl) (by rfl) (World.news_of_block (cs := #[.string c.name]) (t := 9) (fr := (0, 0)) (heap_alloc_new w3 _)) (by simp [Value.oneCell']) (by omega) (by unfold maxLen; omega) (by omega) (by simp; omega) (w3.heap.size + 1) (by simp) ?_; intro gg cap w1 hown1 hgrow hat hlt; have k0 : w1.cell? ⟨g, 0, none⟩ = some nv := (hgrow.cell_far ⟨g, 0, none⟩ (by simp; omega) hne).trans (by go_simp); have k1 : w1.frozen? ⟨g, 0, none⟩ = false := (hgrow.frozen_far ⟨g, 0, none⟩ (by simp; omega) hne).trans (by go_simp))
  all_goals
    go_wp2
    go_ret
    exact name_end hs HBW.out hrW hown1 hgrow hat

theorem nameseen_any (B : Nat) (c : CtrD) (q : Value) (g : Nat) (nv pv : Value) (ns : List ByteArray) (ps : List Int) (w : World) (hs : IsSeen B w g nv pv ns ps) (hm : LaidMarks w)
    (hn : c.name.size ≤ 1000000) (hl : ns.length ≤ 1000000) :
    Calls Tryz.prog 271 #[.pointer (some ⟨g, 0, none⟩), .agg (ctrCells c q)] w (NamePost B w g nv pv ns ps c.name (nameE c ns)) := by
  unfold nameE
  cases hk : nameB c.name.data.toList with
  | false => exact name_bad B c q g nv pv ns ps w hs hm hn hl hk
  | true =>
    cases hc : Lib.containsS ns c.name with
    | false => exact name_new B c q g nv pv ns ps w hs hm hn hl hk hc
    | true => exact name_there B c q g nv pv ns ps w hs hm hn hl hk hc

end Go.Proofs.YtgelbkgkjkeccaaGreatDoor
