/- The ports of a container: the walk of package spec's port. -/
import Derived.Test.YtgelbkgkjkeccaaGreatDoorF
namespace Go.Proofs.YtgelbkgkjkeccaaGreatDoor
open Go.RowKit

/-- A slice of whole numbers below block B; nil and empty ones alike. -/
def RInts (B : Nat) (w : World) (v : Value) (l : List Int) : Prop :=
  (l = [] ∧ ∃ a c, v = .slice a 0 c) ∨
  (0 < l.length ∧ ∃ b off c, v = .slice (some ⟨b, off, none⟩) l.length c ∧ l.length ≤ c ∧ b < B ∧ ∀ j (h : j < l.length), w.cell? ⟨b, off + j, none⟩ = some (.int .i64 l[j]))
theorem RInts.below {B : Nat} {w w' : World} {v : Value} {l : List Int} (h : RInts B w v l) (hb : Below w.heap.size w w') : RInts B w' v l := by
  rcases h with h | ⟨h0, b, off, c, hv, hc, hl, hr⟩
  · exact .inl h
  · exact .inr ⟨h0, b, off, c, hv, hc, hl, fun j hj => keepc hb (hr j hj)⟩
theorem RInts.kept {B : Nat} {M : Nat → Prop} {w w' : World} {v : Value} {l : List Int} (h : RInts B w v l) (hb : Kept M w w') (hM : ∀ k, M k → B ≤ k) : RInts B w' v l := by
  rcases h with h | ⟨h0, b, off, c, hv, hc, hl, hr⟩
  · exact .inl h
  · exact .inr ⟨h0, b, off, c, hv, hc, hl, fun j hj => hb.cell (fun hm => by have := hM b hm; omega) (hr j hj)⟩
theorem LaidMarks.kept {M : Nat → Prop} {w w' : World} (h : LaidMarks w) (hb : Kept M w w') (hM : ¬ M 3) : LaidMarks w' := fun j hj => hb.cell hM (h j hj)

def portsS : ByteArray := ⟨#[112, 111, 114, 116, 115]⟩
def portStep (i : Nat) (ps : List Int) (x : Int) : Err :=
  match withinE 1 (atB portsS i) x 1 65535 with
  | some e => some e
  | none => if ps.contains x then some (150, [atB portsS i]) else none
def portsFrom : Nat → List Int → List Int → Err × List Int
  | _, ps, [] => (none, ps)
  | i, ps, x :: r => match portStep i ps x with
    | some e => (some e, ps ++ [x])
    | none => portsFrom (i + 1) (ps ++ [x]) r
def portE (xs : List Int) (most : Int) (ps : List Int) : Err × List Int :=
  match withinE 2 portsS xs.length 0 most with
  | some e => (some e, ps)
  | none => portsFrom 0 ps xs
theorem portsFrom_drop (xs ps : List Int) (k : Nat) (h : k < xs.length) :
    portsFrom k ps (xs.drop k) = (match portStep k ps xs[k] with | some e => (some e, ps ++ [xs[k]]) | none => portsFrom (k + 1) (ps ++ [xs[k]]) (xs.drop (k + 1))) := by
  rw [List.drop_eq_getElem_cons h]
  rfl

/-- Where port stands in a round. -/
structure PortSt (B : Nat) (w wr : World) (g : Nat) (nv pv pv' : Value) (ns : List ByteArray) (ps' : List Int) (v : Value) (er : Err) : Prop where
  err : RErrO w.heap.size wr v er
  seen : IsSeen B wr g nv pv' ns ps'
  kept : Kept (Mut1 g pv) w wr
  row : NewRow w pv pv'

theorem port_end {B g gg cap : Nat} {nv pv pv' v v' : Value} {ns : List ByteArray} {ps' : List Int} {x : Int} {er er' : Err} {w wr W w1 : World} {o : Obj}
    (h : PortSt B w wr g nv pv pv' ns ps' v er) (HBW : Below wr.heap.size wr W) (hrW : RErrO wr.heap.size W v' er')
    (hown1 : w1.ownsRow B 3 1 (.slice (some ⟨gg, 0, none⟩) (ps'.length + 1) cap) (ps'.length + 1) (ps'.map (Value.int .i64) ++ [.int .i64 x]))
    (hgrow : (W.alloc o).drew.grownBy w1 pv'.ownBlock) (hat : pv'.ownBlock = some gg ∨ gg = W.heap.size + 1) :
    PortSt B w (w1.setCell ⟨g, 1, none⟩ (.slice (some ⟨gg, 0, none⟩) (ps'.length + 1) cap)) g nv pv (.slice (some ⟨gg, 0, none⟩) (ps'.length + 1) cap) ns (ps' ++ [x]) v' er' := by
  have hs := h.seen
  have hsW := hs.below HBW
  have hgl := hsW.lt
  have hne : some g ≠ pv'.ownBlock := fun h => hsW.p_ne h.symm
  have hsz : (W.alloc o).drew.heap.size = W.heap.size + 1 := by simp
  have hW1 : ∀ k, k < W.heap.size → pv'.ownBlock ≠ some k → w1.heap[k]? = W.heap[k]? := fun k hk hn => by
    rw [hgrow.block k (by rw [hsz]; omega) (fun h => hn h.symm)]
    exact Below.heap_alloc W o k hk
  have hblk : w1.heap[g]? = some (.cells #[nv, pv'] 175 (0, 0)) := (hW1 g hgl (fun h => hne h.symm)).trans hsW.blk
  have hsz1 : W.heap.size ≤ w1.heap.size := by have := hgrow.size; rw [hsz] at this; omega
  have hgg : gg ≠ g := by
    rintro rfl
    rcases hat with h | h
    · exact hne h.symm
    · omega
  have hother : ∀ k, k ≠ g → ∀ u, (w1.setCell ⟨g, 1, none⟩ u).heap[k]? = w1.heap[k]? := fun k hk u => Below.heap_setCell _ _ _ _ hk
  have hrow : NewRow w pv (.slice (some ⟨gg, 0, none⟩) (ps'.length + 1) cap) := by
    rcases hat with ha | ha
    · rcases h.row with hr | ⟨k, hk, hk2⟩
      · exact .inl (ha.symm.trans hr)
      · exact .inr ⟨k, by rw [ha] at hk; simpa [Value.ownBlock] using hk, hk2⟩
    · exact .inr ⟨gg, rfl, by have := HBW.size; have := h.kept.size; omega⟩
  have hK : Kept (Mut1 g pv') wr (w1.setCell ⟨g, 1, none⟩ (.slice (some ⟨gg, 0, none⟩) (ps'.length + 1) cap)) := by
    refine ⟨hgrow.os.trans HBW.os, hgrow.tape.trans HBW.tape, hgrow.output.trans HBW.output, ?_, ?_⟩
    · rw [setCell_size]; exact Nat.le_trans HBW.size hsz1
    · intro k hk hm
      have hkg : k ≠ g := fun h => hm (.inl h)
      rw [hother k hkg, hW1 k (Nat.lt_of_lt_of_le hk HBW.size) (fun h => hm (.inr h))]
      exact HBW.block k hk
  refine ⟨?_, ⟨setCell_at1 _ _ _ _ _ hblk, hs.base, ?_, ?_⟩, ?_, hrow⟩
  · refine RErrO.mono (hrW.kept fun k hk hl => ?_) h.kept.size
    have hkg : k ≠ g := by have := hs.lt; omega
    rw [hother k hkg]
    exact hW1 k hl (fun hpk => by have := own_lt hs.ports hpk; omega)
  · refine own_block_kept hsW.names fun k hk => ?_
    have hkg : k ≠ g := by rintro rfl; exact hsW.n_ne hk
    rw [hother k hkg]
    exact hW1 k (own_lt hsW.names hk) (fun h => hsW.np_ne k hk h)
  · rw [List.length_append, List.map_append]
    exact own_block_kept hown1 fun k hk => by
      have : gg = k := by simpa [Value.ownBlock] using hk
      subst this
      exact hother _ hgg _
  · refine h.kept.trans hK fun i hi hm => ?_
    rcases hm with hm | hm
    · exact .inl hm
    · rcases h.row with hr | ⟨k, hk, hk2⟩
      · exact .inr (hr ▸ hm)
      · rw [hk] at hm; cases hm; omega

def PortPost (B : Nat) (w : World) (g : Nat) (nv pv : Value) (ns : List ByteArray) (r : Err × List Int) (e : Ending) (w' : World) : Prop := ∃ v pv', e = .returned v ∧ PortSt B w w' g nv pv pv' ns r.2 v r.1

set_option maxHeartbeats 4000000 in
set_option maxRecDepth 100000 in
theorem port_any (B : Nat) (xs : List Int) (most : Int) (q : Value) (g : Nat) (nv pv : Value) (ns : List ByteArray) (ps : List Int) (w : World) (hs : IsSeen B w g nv pv ns ps) (hq : RInts B w q xs)
    (hxs : xs.length ≤ 1000000) (hps : ps.length ≤ 1000000) :
    Calls Tryz.prog 275 #[.pointer (some ⟨g, 0, none⟩), q, .int .i64 most] w (PortPost B w g nv pv ns (portE xs most ps)) := by
  obtain ⟨i0, hi0, hz0, hz1, hz2⟩ := info_parts info3
  have hst : ∀ (w1 : World) (v1 : Value) (e1 : Err), Below w.heap.size w w1 → RErrO w.heap.size w1 v1 e1 → PortSt B w w1 g nv pv pv ns ps v1 e1 := fun w1 v1 e1 hb hr => ⟨hr, hs.below hb, Kept.of_below hb, .inl rfl⟩
  have HST := Lib.hid hst; clear hst
  cases hw : withinE 2 portsS xs.length 0 most with
  | some y =>
    have he : portE xs most ps = (some y, ps) := by unfold portE; rw [hw]
    rw [he]
    have HW := Lib.hid hw; clear hw he
    have hlen : ∃ a c, q = .slice a xs.length c := by
      rcases hq with ⟨rfl, a, c, rfl⟩ | ⟨_, b, off, c, rfl, _⟩
      · exact ⟨_, _, rfl⟩
      · exact ⟨_, _, rfl⟩
    obtain ⟨a, c, rfl⟩ := hlen
    clear hq
    go_enter Tryz.func275, Tryz.ntmps275
    go_wp2_with fail
    refine (atMost_any portsS _ _ _ _).mono ?_
    rw [HW.out]
    rintro e w1 ⟨v1, rfl, hr1, hb1⟩
    obtain ⟨t, z, rfl⟩ := RErr.held (show RErr _ w1 v1 y.1 y.2 from hr1)
    go_wp2_with fail
    go_loop [7, 8] (fun v i => v = .iface t z ∧ i = .int .i64 0) (fun _ _ => 0)
    case atStart => exact ⟨rfl, rfl⟩
    case round =>
      obtain ⟨rfl, rfl⟩ := hrel
      go_wp2
      go_ret
      exact ⟨_, _, rfl, HST.out _ _ _ hb1 hr1⟩
  | none =>
    have he : portE xs most ps = portsFrom 0 ps xs := by unfold portE; rw [hw]
    rw [he]
    have HW := Lib.hid hw; clear hw he
    rcases hq with ⟨rfl, a, c, rfl⟩ | ⟨h0, b, off, c, rfl, hc, hbB, hr⟩
    · go_enter Tryz.func275, Tryz.ntmps275
      go_wp2_with fail
      refine (atMost_any portsS _ _ _ _).mono ?_
      have HW2 : withinE 2 portsS 0 0 most = none := HW.out
      rw [HW2]
      clear HW2
      rintro e w1 ⟨v1, rfl, hr1, hb1⟩
      have hv1 : v1 = .nilIface := hr1
      subst hv1
      go_wp2_with fail
      go_loop [7, 8] (fun v i => v = .nilIface ∧ i = .int .i64 0) (fun _ _ => 0)
      case atStart => exact ⟨rfl, rfl⟩
      case round =>
        obtain ⟨rfl, rfl⟩ := hrel
        go_wp2
        go_ret
        exact ⟨_, _, rfl, HST.out _ _ none hb1 rfl⟩
    · go_enter Tryz.func275, Tryz.ntmps275
      go_wp2_with fail
      refine (atMost_any portsS _ _ _ _).mono ?_
      rw [HW.out]
      rintro e w1 ⟨v1, rfl, hr1, hb1⟩
      have hv1 : v1 = .nilIface := hr1
      subst hv1
      go_wp2_with fail
      go_loopw [7, 8] (fun v i wr => ∃ (k : Nat) (er : Err) (pv' : Value) (ps' : List Int), k ≤ xs.length ∧ ps'.length ≤ ps.length + k ∧ i = .int .i64 k ∧ PortSt B w wr g nv pv pv' ns ps' v er ∧
          ((er = none ∧ portsFrom k ps' (xs.drop k) = portsFrom 0 ps xs) ∨ (∃ y, er = some y ∧ (er, ps') = portsFrom 0 ps xs)))
        (fun _ i _ => xs.length - (intOf i).toNat)
      case atStart => exact ⟨0, none, pv, ps, Nat.zero_le _, by omega, rfl, HST.out _ _ none hb1 rfl, .inl ⟨rfl, rfl⟩⟩
      case round =>
        obtain ⟨k, er, pv', ps', hk, hps', rfl, hP, hcase⟩ := hrel
        have HP := Lib.hid hP
        rcases hcase with ⟨rfl, hd⟩ | ⟨y, rfl, hd⟩
        · have hv : _ = Value.nilIface := hP.err
          subst hv
          have HD := Lib.hid hd; clear hd
          by_cases hlt : k < xs.length
          · have HStep := Lib.hid (portsFrom_drop xs ps' k hlt)
            have hck : wr.cell? ⟨b, off + k, none⟩ = some (.int .i64 xs[k]) := hP.kept.cell (fun hm => by have := (hs.mut_lt b hm.p).1; omega) (hr k hlt)
            have hsr := hP.seen
            have hlt2 : (k : Int) < (xs.length : Int) := by omega
            clear hP hr
            have KEEP : Hid (∀ W W' : World, Below W.heap.size W W' → (W.cell? ⟨b, off + k, none⟩ = some (.int .i64 xs[k])) → (W'.cell? ⟨b, off + k, none⟩ = some (.int .i64 xs[k]))) := fun W W' hb h => keepc hb h
            cases h1 : withinE 1 (atB portsS k) xs[k] 1 65535 with
            | some y =>
              have H1 := Lib.hid h1; clear h1
              go_wp2_with fail
              go_region_held3 (fun w' => w'.cell? ⟨b, off + k, none⟩ = some (.int .i64 xs[k]))
                (first | assumption | exact KEEP.out _ _ hb3 (by assumption) | exact KEEP.out _ _ hb2 (by assumption) | exact KEEP.out _ _ (bnew _ _) (by assumption) | simp)
                (first
                  | (go_at_call 129; refine (at_any portsS _ _ (by decide) (by omega) (by omega)).mono ?_; rintro e w2 ⟨rfl, hb2⟩)
                  | (go_at_call 127; refine (within_any _ _ _ _ _).mono ?_; rw [H1.out]; rintro e w3 ⟨v3, rfl, hr3, hb3⟩))
              obtain ⟨t3, z3, rfl⟩ := RErr.held (show RErr _ w3 v3 y.1 y.2 from hr3)
              go_wp2_with fail
              go_quiet (fail)
              obtain ⟨W, hW⟩ : ∃ W, W = w3.drewN nq := ⟨_, rfl⟩
              have HB3 := bto (bto (bto (bdrew wr 1) hb2) hb3) (bdrew _ nq)
              have HBW : Hid (Below wr.heap.size wr W) := by rw [hW]; exact HB3
              have hckW : W.cell? ⟨b, off + k, none⟩ = some (.int .i64 xs[k]) := keepc HBW.out hck
              have hsW : IsSeen B W g nv pv' ns ps' := hsr.below HBW.out
              have hrW : RErrO wr.heap.size W (.iface t3 z3) (some y) := by rw [hW]; exact (hr3.mono hb2.size).below (bdrew _ _)
              go_wp2_with fail
              rw [← hW]
              clear hW hr3 hb3 hb2 HB3 hsr hck
              have g1 : W.cell? ⟨g, 1, none⟩ = some pv' := by simp [World.cell?, hsW.blk]
              have f1 : W.frozen? ⟨g, 1, none⟩ = false := by simp [World.frozen?, hsW.blk]
              have hgl := hsW.lt
              have hne : some g ≠ pv'.ownBlock := fun h => hsW.p_ne h.symm
              have hB1 : B ≤ W.heap.size := Nat.le_trans hsW.base (Nat.le_of_lt hgl)
              go_wp2_with fail
              go_region_law (refine step_append_lies _ (by rfl) _ _ 31 (by rfl) B 3 i0 _ 1 8 Tryz.underlying31 hi0 hz0 hz1 hz2 rfl (by omega) pv' ps'.length (ps'.map (.int .i64)) (by rfl) ((hsW.ports.alloc _).drew) ⟨W.heap.size, 0, none⟩ 1 1 [.int .i64 xs[k]] (by rfl) (by rfl) (World.news_of_block (cs := #[.int .i64 xs[k]]) (t := 3) (fr := (0, 0)) (heap_alloc_new W _)) (by simp [Value.oneCell']) (by omega) (by unfold maxLen; omega) (by omega) (by simp; omega) (W.heap.size + 1) (by simp) ?_; intro gg cap w1 hown1 hgrow hat hlt; have k0 : w1.cell? ⟨g, 1, none⟩ = some pv' := (hgrow.cell_far ⟨g, 1, none⟩ (by simp; omega) hne).trans (by go_simp); have k1 : w1.frozen? ⟨g, 1, none⟩ = false := (hgrow.frozen_far ⟨g, 1, none⟩ (by simp; omega) hne).trans (by go_simp))
              all_goals
                go_wp2
                refine ⟨⟨k + 1, some y, _, _, by omega, by simp; omega, by go_num, port_end HP.out HBW.out hrW hown1 hgrow hat, .inr ⟨y, rfl, by have h := HStep.out; rw [HD.out, show portStep k ps' xs[k] = some y by unfold portStep; rw [H1.out]] at h; exact h.symm⟩⟩, by simp [intOf]; omega⟩
            | none =>
              have H1 := Lib.hid h1; clear h1
              cases h2 : ps'.contains xs[k] with
              | false =>
                have H2 := Lib.hid h2; clear h2
                have g1r : wr.cell? ⟨g, 1, none⟩ = some pv' := by simp [World.cell?, hsr.blk]
                go_wp2_with fail
                go_region_held3 (fun w' => w'.cell? ⟨b, off + k, none⟩ = some (.int .i64 xs[k]))
                  (first | assumption | exact KEEP.out _ _ hb3 (by assumption) | exact KEEP.out _ _ hb2 (by assumption) | exact KEEP.out _ _ (bnew _ _) (by assumption) | simp)
                  (first
                    | (go_at_call 129; refine (at_any portsS _ _ (by decide) (by omega) (by omega)).mono ?_; rintro e w2 ⟨rfl, hb2⟩)
                    | (go_at_call 127; refine (within_any _ _ _ _ _).mono ?_; rw [H1.out]; rintro e w3 ⟨v3, rfl, hr3, hb3⟩))
                have hv3 : v3 = .nilIface := hr3
                subst hv3
                have HB3 := bto (bto (bdrew wr 1) hb2) hb3
                have g13 := keepc HB3 g1r
                have hs3 := hsr.below HB3
                have hck3 := keepc HB3 hck
                go_wp2_with fail
                go_quiet ((go_at_call 298; exact Calls.quiet_of_same ((contains_ports B _ pv' ps' _ (by exact hs3.ports) (by omega)).mono fun _ _ h => by rw [H2.out] at h; exact h)))
                obtain ⟨W, hW⟩ : ∃ W, W = w3.drewN nq := ⟨_, rfl⟩
                have HBW : Hid (Below wr.heap.size wr W) := by rw [hW]; exact bto HB3 (bdrew _ nq)
                have hckW : W.cell? ⟨b, off + k, none⟩ = some (.int .i64 xs[k]) := keepc HBW.out hck
                have hsW : IsSeen B W g nv pv' ns ps' := hsr.below HBW.out
                have hrW : RErrO wr.heap.size W .nilIface none := rfl
                go_wp2_with fail
                rw [← hW]
                clear hW hr3 hb3 hb2 HB3 hsr hck hs3 g13 g1r hck3
                have g1 : W.cell? ⟨g, 1, none⟩ = some pv' := by simp [World.cell?, hsW.blk]
                have f1 : W.frozen? ⟨g, 1, none⟩ = false := by simp [World.frozen?, hsW.blk]
                have hgl := hsW.lt
                have hne : some g ≠ pv'.ownBlock := fun h => hsW.p_ne h.symm
                have hB1 : B ≤ W.heap.size := Nat.le_trans hsW.base (Nat.le_of_lt hgl)
                go_wp2_with fail
                go_region_law (refine step_append_lies _ (by rfl) _ _ 31 (by rfl) B 3 i0 _ 1 8 Tryz.underlying31 hi0 hz0 hz1 hz2 rfl (by omega) pv' ps'.length (ps'.map (.int .i64)) (by rfl) ((hsW.ports.alloc _).drew) ⟨W.heap.size, 0, none⟩ 1 1 [.int .i64 xs[k]] (by rfl) (by rfl) (World.news_of_block (cs := #[.int .i64 xs[k]]) (t := 3) (fr := (0, 0)) (heap_alloc_new W _)) (by simp [Value.oneCell']) (by omega) (by unfold maxLen; omega) (by omega) (by simp; omega) (W.heap.size + 1) (by simp) ?_; intro gg cap w1 hown1 hgrow hat hlt; have k0 : w1.cell? ⟨g, 1, none⟩ = some pv' := (hgrow.cell_far ⟨g, 1, none⟩ (by simp; omega) hne).trans (by go_simp); have k1 : w1.frozen? ⟨g, 1, none⟩ = false := (hgrow.frozen_far ⟨g, 1, none⟩ (by simp; omega) hne).trans (by go_simp))
                all_goals
                  go_wp2
                  refine ⟨⟨k + 1, none, _, _, by omega, by simp; omega, by go_num, port_end HP.out HBW.out hrW hown1 hgrow hat, .inl ⟨rfl, by have h := HStep.out; rw [HD.out, show portStep k ps' xs[k] = none by unfold portStep; rw [H1.out]; simp only [H2.out]; rfl] at h; exact h.symm⟩⟩, by simp [intOf]; omega⟩
              | true =>
                have H2 := Lib.hid h2; clear h2
                have g1r : wr.cell? ⟨g, 1, none⟩ = some pv' := by simp [World.cell?, hsr.blk]
                go_wp2_with fail
                go_region_held3 (fun w' => w'.cell? ⟨b, off + k, none⟩ = some (.int .i64 xs[k]))
                  (first | assumption | exact KEEP.out _ _ hb3 (by assumption) | exact KEEP.out _ _ hb2 (by assumption) | exact KEEP.out _ _ (bnew _ _) (by assumption) | simp)
                  (first
                    | (go_at_call 129; refine (at_any portsS _ _ (by decide) (by omega) (by omega)).mono ?_; rintro e w2 ⟨rfl, hb2⟩)
                    | (go_at_call 127; refine (within_any _ _ _ _ _).mono ?_; rw [H1.out]; rintro e w3 ⟨v3, rfl, hr3, hb3⟩))
                have hv3 : v3 = .nilIface := hr3
                subst hv3
                have HB3 := bto (bto (bdrew wr 1) hb2) hb3
                have g13 := keepc HB3 g1r
                have hs3 := hsr.below HB3
                have hck3 := keepc HB3 hck
                go_wp2_with fail
                go_quiet ((go_at_call 298; exact Calls.quiet_of_same ((contains_ports B _ pv' ps' _ (by exact hs3.ports) (by omega)).mono fun _ _ h => by rw [H2.out] at h; exact h)))
                go_wp2_with (go_at_call 129; refine (at_any portsS _ _ (by decide) (by omega) (by omega)).mono ?_; rintro e w4 ⟨rfl, hb4⟩)
                refine (New_one _ (atB portsS k) _ _ _ (new_cell _ _ _ _ _ _ (by simp) rfl)).mono ?_
                rintro e W ⟨v5, rfl, hr5, hb5⟩
                obtain ⟨t5, z5, rfl⟩ := RErr.held (show RErr _ W v5 150 [atB portsS k] from hr5)
                have HB5 := bto (bto (bto (bto HB3 (bdrew _ nq)) hb4) (bnew _ _)) hb5
                have HBW : Hid (Below wr.heap.size wr W) := HB5
                have hckW : W.cell? ⟨b, off + k, none⟩ = some (.int .i64 xs[k]) := keepc HBW.out hck
                have hsW : IsSeen B W g nv pv' ns ps' := hsr.below HBW.out
                have hrW : RErrO wr.heap.size W (.iface t5 z5) (some (150, [atB portsS k])) := RErrO.mono hr5 (by have := (bto HB3 (bto (bdrew _ nq) hb4)).size; simp; omega)
                clear hr3 hb3 hb2 HB3 hsr hck hs3 g13 g1r hck3 hr5 hb4 hb5 HB5
                have g1 : W.cell? ⟨g, 1, none⟩ = some pv' := by simp [World.cell?, hsW.blk]
                have f1 : W.frozen? ⟨g, 1, none⟩ = false := by simp [World.frozen?, hsW.blk]
                have hgl := hsW.lt
                have hne : some g ≠ pv'.ownBlock := fun h => hsW.p_ne h.symm
                have hB1 : B ≤ W.heap.size := Nat.le_trans hsW.base (Nat.le_of_lt hgl)
                go_wp2_with fail
                go_region_law (refine step_append_lies _ (by rfl) _ _ 31 (by rfl) B 3 i0 _ 1 8 Tryz.underlying31 hi0 hz0 hz1 hz2 rfl (by omega) pv' ps'.length (ps'.map (.int .i64)) (by rfl) ((hsW.ports.alloc _).drew) ⟨W.heap.size, 0, none⟩ 1 1 [.int .i64 xs[k]] (by rfl) (by rfl) (World.news_of_block (cs := #[.int .i64 xs[k]]) (t := 3) (fr := (0, 0)) (heap_alloc_new W _)) (by simp [Value.oneCell']) (by omega) (by unfold maxLen; omega) (by omega) (by simp; omega) (W.heap.size + 1) (by simp) ?_; intro gg cap w1 hown1 hgrow hat hlt; have k0 : w1.cell? ⟨g, 1, none⟩ = some pv' := (hgrow.cell_far ⟨g, 1, none⟩ (by simp; omega) hne).trans (by go_simp); have k1 : w1.frozen? ⟨g, 1, none⟩ = false := (hgrow.frozen_far ⟨g, 1, none⟩ (by simp; omega) hne).trans (by go_simp))
                all_goals
                  go_wp2
                  refine ⟨⟨k + 1, some (150, [atB portsS k]), _, _, by omega, by simp; omega, by go_num, port_end HP.out HBW.out hrW hown1 hgrow hat, .inr ⟨_, rfl, by have h := HStep.out; rw [HD.out, show portStep k ps' xs[k] = some (150, [atB portsS k]) by unfold portStep; rw [H1.out]; simp only [H2.out]; rfl] at h; exact h.symm⟩⟩, by simp [intOf]; omega⟩
          · have hz : xs.drop k = [] := List.drop_of_length_le (by omega)
            have h := HD.out
            rw [hz] at h
            have H := Lib.hid h
            clear h hz hr hP
            go_wp2
            go_ret
            exact ⟨_, _, rfl, by rw [← H.out]; exact HP.out⟩
        · obtain ⟨t, z, rfl⟩ := RErr.held (show RErr _ wr _ y.1 y.2 from hP.err)
          have HD := Lib.hid hd; clear hd hr hP
          go_wp2
          go_ret
          exact ⟨_, _, rfl, by rw [← HD.out]; exact HP.out⟩

end Go.Proofs.YtgelbkgkjkeccaaGreatDoor
