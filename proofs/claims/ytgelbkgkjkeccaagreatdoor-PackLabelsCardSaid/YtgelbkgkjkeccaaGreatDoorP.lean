/- Package spec's clones and Clone: the walks. -/
import Derived.Test.YtgelbkgkjkeccaaGreatDoorO
namespace Go.Proofs.YtgelbkgkjkeccaaGreatDoor
open Go.RowKit
/-- What clones has done, k rounds on. -/
structure ClonesSt (w wr : World) (l : List CtrD) (G cap k : Nat) (qs : List Value) (cur : Array Value) : Prop where
  len : qs.length = l.length
  blk : wr.heap[G]? = some (.cells cur 44 (0, 0))
  size : cur.size = cap * 11
  take : cur.toList.take (l.length * 11) = ctrsCells l qs
  ports : ∀ (j : Nat) (q : Value) (c : CtrD), j < k → qs[j]? = some q → l[j]? = some c → OInts (Ran w.heap.size wr.heap.size) wr q c.ports
  below : Below w.heap.size w wr
theorem ClonesSt.next {w wr w2 : World} {l : List CtrD} {G cap k : Nat} {qs : List Value} {cur : Array Value} {v' : Value} (h : ClonesSt w wr l G cap k qs cur) (hk : k < l.length) (hG : w.heap.size ≤ G)
    (ho : OInts (Ran wr.heap.size w2.heap.size) w2 v' l[k].ports) (hb : Below wr.heap.size wr w2) :
    ClonesSt w (w2.setCell ⟨G, k * 11 + 8, none⟩ v') l G cap (k + 1) (qs.set k v') (cur.setIfInBounds (k * 11 + 8) v') := by
  have hGl : G < wr.heap.size := (Array.getElem?_eq_some_iff.1 h.blk).1
  have hK : Kept (· = G) w2 (w2.setCell ⟨G, k * 11 + 8, none⟩ v') := kept_set _ _ _ _
  have hsz : (w2.setCell ⟨G, k * 11 + 8, none⟩ v').heap.size = w2.heap.size := setCell_size _ _ _
  refine ⟨by simp [h.len], setCell_atn _ _ _ _ _ _ ((hb.block G hGl).trans h.blk), by simp [h.size], ?_, ?_, belowk0 (bto h.below hb) hK (fun i hi => hi ▸ hG) (Nat.le_trans h.below.size hb.size)⟩
  · rw [Array.toList_setIfInBounds, List.take_set, h.take, ctrs_set l qs k v' h.len hk]
  · intro j q c hj hq hc
    rw [hsz]
    rcases Nat.lt_or_ge j k with hlt | hge
    · rw [List.getElem?_set_ne (by omega)] at hq
      have h1 := h.ports j q c hlt hq hc
      have h2 : OInts (Ran w.heap.size w2.heap.size) w2 q c.ports := ORow.mono (ORow.below h1 hb) fun i hi => ⟨hi.1, Nat.lt_of_lt_of_le hi.2 hb.size⟩
      refine ⟨h2.1, h2.2.imp_right ?_⟩
      rintro ⟨g, cp, cr, hv, hI, hh, r⟩
      refine ⟨g, cp, cr, hv, hI, (hK.block g (Array.getElem?_eq_some_iff.1 hh).1 (fun e => ?_)).trans hh, r⟩
      subst e
      rw [(hb.block g hGl).trans h.blk] at hh
      injection hh with hh
      injection hh with _ ht
      exact absurd ht (by decide)
    · have : j = k := by omega
      subst this
      have hq' : v' = q := by
        rw [List.getElem?_set_self (by rw [h.len]; omega)] at hq
        injection hq
      have hc' : l[j] = c := by
        rw [List.getElem?_eq_getElem hk] at hc
        injection hc
      subst hq' hc'
      refine ORow.mono (ORow.kept ho hK fun i hi e => by have := hi.1; omega) fun i hi => ⟨Nat.le_trans h.below.size hi.1, hi.2⟩

theorem own_form {w : World} {B : Nat} {e : TypeId} {size n : Nat} {v : Value} {xs : List Value} (h : w.ownsRow B e size v n xs) (hne : v ≠ .slice none 0 0) :
    ∃ g cap cur, v = .slice (some ⟨g, 0, none⟩) n cap ∧ B ≤ g ∧ w.heap[g]? = some (.cells cur e (0, 0)) ∧ n ≤ cap ∧ cur.size = cap * size ∧ cur.toList.take (n * size) = xs := by
  rcases h.2 with ⟨h2, _⟩ | ⟨g, cap, cur, hv, hb, hh, h1, _, h3, h4⟩
  · exact absurd h2 hne
  · exact ⟨g, cap, cur, hv, hb, hh, h1, h3, h4⟩
theorem IInts.form {I : Nat → Prop} {w : World} {v : Value} {l : List Int} (h : IInts I w v l) : ∃ a c, v = .slice a l.length c := by
  rcases h with ⟨rfl, a, c, h⟩ | ⟨_, b, off, c, h, _⟩
  · exact ⟨_, _, h⟩
  · exact ⟨_, _, h⟩
theorem ICtrs.form {I : Nat → Prop} {w : World} {v : Value} {l : List CtrD} (h : ICtrs I w v l) : ∃ a c, v = .slice a l.length c := by
  rcases h with ⟨rfl, a, c, h⟩ | ⟨_, b, off, c, h, _⟩
  · exact ⟨_, _, h⟩
  · exact ⟨_, _, h⟩
theorem ILabs.form {I : Nat → Prop} {w : World} {v : Value} {l : List LabelD} (h : ILabs I w v l) : ∃ a c, v = .slice a l.length c := by
  rcases h with ⟨rfl, a, c, h⟩ | ⟨_, b, off, c, h, _⟩
  · exact ⟨_, _, h⟩
  · exact ⟨_, _, h⟩
/-- The values of the ports, as a list. -/
theorem pick_qs {l : List CtrD} {P : (j : Nat) → j < l.length → Value → Prop} (h : ∀ j (hj : j < l.length), ∃ q, P j hj q) : ∃ qs : List Value, qs.length = l.length ∧ ∀ j (hj : j < l.length) (hq : j < qs.length), P j hj qs[j] := by
  refine ⟨List.ofFn fun j : Fin l.length => (h j.1 j.2).choose, by simp, fun j hj hq => ?_⟩
  rw [List.getElem_ofFn]
  exact (h j hj).choose_spec
theorem OInts.form {I : Nat → Prop} {w : World} {v : Value} {l : List Int} (h : OInts I w v l) : ∃ a c, v = .slice a l.length c := by
  rcases h.2 with ⟨h2, h0⟩ | ⟨g, cap, cur, hv, _⟩
  · exact ⟨none, 0, by rw [h0]; exact h2⟩
  · exact ⟨_, _, hv⟩

def ClonesPost (w : World) (l : List CtrD) (e : Ending) (w' : World) : Prop := ∃ v', e = .returned v' ∧ OCtrs (Ran w.heap.size w'.heap.size) w' v' l ∧ Below w.heap.size w w'
set_option maxHeartbeats 2000000 in
set_option maxRecDepth 100000 in
theorem clones_nil (c : Nat) (w : World) : Calls Tryz.prog 115 #[.slice none 0 c] w (ClonesPost w []) := by
  have hE : ∀ n w, OCtrs (Ran n (World.heap w).size) w (.slice none 0 0) [] := fun n w => ⟨[], rfl, ⟨rfl, .inl ⟨rfl, rfl⟩⟩, fun j q c h => by simp at h⟩
  go_enter Tryz.func115, Tryz.ntmps115
  go_wp2_with (go_at_call 214; refine (cloneCtrs_nil _ _).mono ?_; rintro e w1 ⟨rfl, rfl⟩)
  go_loop [9] (fun i => i = .int .i64 0) (fun _ => 0)
  case atStart => exact rfl
  case round =>
    obtain rfl := hrel
    go_wp2
    go_ret
    exact ⟨_, rfl, hE _ _, Below.refl _ _⟩
set_option maxHeartbeats 2000000 in
set_option maxRecDepth 100000 in
theorem clones_zero (a : Addr) (c : Nat) (w : World) : Calls Tryz.prog 115 #[.slice (some a) 0 c] w (ClonesPost w []) := by
  go_enter Tryz.func115, Tryz.ntmps115
  go_wp2_with (go_at_call 214; refine (cloneCtrs_row a 0 c [] w rfl (by omega) (fun j u h => by simp at h) (fun u h => by cases h)).mono ?_; rintro e w1 ⟨v', rfl, ho, hne, hb⟩; obtain ⟨G, cap, cur, hv, hG, hh, h1, h3, h4⟩ := own_form ho hne; subst hv)
  go_loop [9] (fun i => i = .int .i64 0) (fun _ => 0)
  case atStart => exact rfl
  case round =>
    obtain rfl := hrel
    go_wp2
    go_ret
    exact ⟨_, rfl, ⟨[], rfl, ORow.of_own ho, fun j q c h => by simp at h⟩, hb⟩
theorem ctrL_cells (x : CtrD × Value) (hx : x.2.oneCell' = true) : ∀ u ∈ ctrL x, u.oneCell' = true := by
  intro u hu
  simp [ctrL] at hu
  rcases hu with h | h | h | h | h | h | h | h | h | h | h <;> subst h <;> first | rfl | exact hx
set_option maxHeartbeats 4000000 in
set_option maxRecDepth 100000 in
theorem clones_some (I : Nat → Prop) (b off c : Nat) (l : List CtrD) (qs : List Value) (w : World) (h0 : 0 < l.length) (hl : CtrsOk l) (hq : qs.length = l.length)
    (hr : ∀ j (h : j < l.length) (hj : j < qs.length), IInts I w qs[j] l[j].ports ∧ ∀ i x, (ctrCells l[j] qs[j])[i]? = some x → w.cell? ⟨b, off + j * 11 + i, none⟩ = some x) :
    Calls Tryz.prog 115 #[.slice (some ⟨b, off, none⟩) l.length c] w (ClonesPost w l) := by
  have hlen : (ctrsCells l qs).length = l.length * 11 := by rw [ctrsCells, flat_len ctrL ctrL_len, List.length_zip, hq, Nat.min_self]
  have hz : ∀ j x, (l.zip qs)[j]? = some x → ∃ (h1 : j < l.length) (h2 : j < qs.length), x = (l[j], qs[j]) := by
    intro j x hj
    have h1 := (List.getElem?_eq_some_iff.1 hj).1
    rw [List.length_zip] at h1
    refine ⟨by omega, by omega, ?_⟩
    have h2 := (List.getElem?_eq_some_iff.1 hj).2
    rw [← h2, List.getElem_zip]
  have hcells : ∀ k u, (ctrsCells l qs)[k]? = some u → w.cell? ((⟨b, off, none⟩ : Addr).add k) = some u := by
    intro k u hk
    obtain ⟨x, hx, hu⟩ := flat_of ctrL ctrL_len (by omega) (l.zip qs) k u hk
    obtain ⟨h1, h2, rfl⟩ := hz _ _ hx
    have h3 := (hr (k / 11) h1 h2).2 (k % 11) u (by simpa [ctrL] using hu)
    rw [Addr.add_lit]
    have e : off + k = off + k / 11 * 11 + k % 11 := by omega
    rw [e]; exact h3
  have hone : ∀ u ∈ ctrsCells l qs, u.oneCell' = true := by
    intro u hu
    obtain ⟨x, hx, hu⟩ := List.mem_flatMap.1 hu
    obtain ⟨j, hj⟩ := List.getElem?_of_mem hx
    obtain ⟨h1, h2, rfl⟩ := hz _ _ hj
    obtain ⟨qa, qc, hf⟩ := (hr j h1 h2).1.form
    exact ctrL_cells _ (by rw [hf]; rfl) u hu
  have HR := Lib.hid hr
  clear hr hz
  have hl1 := hl.1
  go_enter Tryz.func115, Tryz.ntmps115
  go_wp2_with (go_at_call 214; refine (cloneCtrs_row ⟨b, off, none⟩ l.length c _ w hlen (by omega) hcells hone).mono ?_; rintro e w1 ⟨v', rfl, ho, hne, hb⟩; obtain ⟨G, cap, cur, hv, hG, hh, h1, h3, h4⟩ := own_form ho hne; subst hv)
  clear hcells hone hne ho
  go_loopw [9] (fun i wr => ∃ (k : Nat) (qs' : List Value) (cur' : Array Value), k ≤ l.length ∧ i = .int .i64 k ∧ ClonesSt w wr l G cap k qs' cur') (fun i _ => l.length - (intOf i).toNat)
  case atStart => exact ⟨0, qs, cur, Nat.zero_le _, rfl, hq, hh, h3, h4, fun j q c hj => by omega, hb⟩
  case round =>
    obtain ⟨k, qs', cur', hk, rfl, hS⟩ := hrel
    by_cases hlt : k < l.length
    · obtain ⟨hq1, hq2⟩ := HR.out k hlt (by omega)
      have c8 := hq2 8 _ rfl
      have hq1r := hq1.below (hS.below.mono (Nat.le_refl _))
      have c8r : wr.cell? ⟨b, off + k * 11 + 8, none⟩ = some qs[k] := keepc hS.below c8
      obtain ⟨qa, qc, hf⟩ := hq1.form
      rw [hf] at c8r hq1r
      have hcs : k * 11 + 8 < cur'.size := by rw [hS.size]; omega
      have hcG : wr.cell? ⟨G, k * 11 + 8, none⟩ = some cur'[k * 11 + 8] := by simp [World.cell?, hS.blk, hcs]
      have hp := (hl.2 _ (List.getElem_mem hlt)).2.2
      have hGl : G < wr.heap.size := (Array.getElem?_eq_some_iff.1 hS.blk).1
      have HNext := fun w2 v' h1 h2 => Lib.hid (ClonesSt.next (w2 := w2) (v' := v') hS hlt hG h1 h2)
      have hfG : wr.frozen? ⟨G, k * 11 + 8, none⟩ = false := by simp [World.frozen?, hS.blk]
      go_wp2_with (go_at_call 204; refine (cloneInts_any I qa qc l[k].ports wr hq1r (by omega)).mono ?_; rintro e w2 ⟨v2, rfl, ho2, hb2⟩; obtain ⟨a2, c2, hv2⟩ := ho2.form; subst hv2; have hBG := (hb2.block G hGl).trans hS.blk; have cG2 : w2.cell? ⟨G, k * 11 + 8, none⟩ = some cur'[k * 11 + 8] := keepc hb2 hcG; have fG2 : w2.frozen? ⟨G, k * 11 + 8, none⟩ = false := by simp [World.frozen?, hBG])
      exact ⟨⟨k + 1, _, _, hlt, by go_num, (HNext _ _ ho2 hb2).out⟩, by simp [intOf]; omega⟩
    · have hkk : k = l.length := by omega
      subst hkk
      have HS := Lib.hid hS
      clear hS
      go_wp2
      go_ret
      refine ⟨_, rfl, ⟨qs', HS.out.len, ⟨?_, .inr ⟨G, cap, cur', rfl, ⟨hG, (Array.getElem?_eq_some_iff.1 HS.out.blk).1⟩, HS.out.blk, h1, HS.out.size, HS.out.take⟩⟩, fun j q c h1 h2 => HS.out.ports j q c ?_ h1 h2⟩, HS.out.below⟩
      · rw [ctrsCells, flat_len ctrL ctrL_len, List.length_zip, HS.out.len, Nat.min_self]
      · exact (List.getElem?_eq_some_iff.1 h2).1

theorem clones_any (I : Nat → Prop) (v : Value) (l : List CtrD) (w : World) (h : ICtrs I w v l) (hl : CtrsOk l) :
    Calls Tryz.prog 115 #[v] w (ClonesPost w l) := by
  rcases h with ⟨rfl, a, c, rfl⟩ | ⟨h0, b, off, c', rfl, hc, hI, hr⟩
  · cases a with
    | none => exact clones_nil c w
    | some a => exact clones_zero a c w
  · obtain ⟨qs, hq, hr⟩ := pick_qs hr
    exact clones_some I b off c' l qs w h0 hl hq hr

/-- A spec's slices, read in blocks of I; a call's own. -/
structure ISpec (I : Nat → Prop) (w : World) (s : SpecD) (lv iv mv : Value) : Prop where
  labs : ILabs I w lv s.labels
  inits : ICtrs I w iv s.inits
  mains : ICtrs I w mv s.mains
structure OSpec (I : Nat → Prop) (w : World) (s : SpecD) (lv iv mv : Value) : Prop where
  labs : OLabs I w lv s.labels
  inits : OCtrs I w iv s.inits
  mains : OCtrs I w mv s.mains
theorem ISpec.kept {I M : Nat → Prop} {w w' : World} {s : SpecD} {a b c : Value} (h : ISpec I w s a b c) (hk : Kept M w w') (hM : ∀ k, I k → ¬ M k) : ISpec I w' s a b c := ⟨h.labs.kept hk hM, h.inits.kept hk hM, h.mains.kept hk hM⟩
theorem OSpec.kept {I M : Nat → Prop} {w w' : World} {s : SpecD} {a b c : Value} (h : OSpec I w s a b c) (hk : Kept M w w') (hM : ∀ k, I k → ¬ M k) : OSpec I w' s a b c := ⟨ORow.kept h.labs hk hM, h.inits.kept hk hM, h.mains.kept hk hM⟩
theorem OSpec.mono {I J : Nat → Prop} {w : World} {s : SpecD} {a b c : Value} (h : OSpec I w s a b c) (hM : ∀ k, I k → J k) : OSpec J w s a b c := ⟨ORow.mono h.labs hM, h.inits.mono hM, h.mains.mono hM⟩
theorem ISpec.below {I : Nat → Prop} {w w' : World} {s : SpecD} {a b c : Value} (h : ISpec I w s a b c) (hk : Below w.heap.size w w') : ISpec I w' s a b c := h.kept (kept_false hk) fun _ _ h => h
theorem OSpec.below {I : Nat → Prop} {w w' : World} {s : SpecD} {a b c : Value} (h : OSpec I w s a b c) (hk : Below w.heap.size w w') : OSpec I w' s a b c := h.kept (kept_false hk) fun _ _ h => h
theorem OSpec.I {I : Nat → Prop} {w : World} {s : SpecD} {a b c : Value} (h : OSpec I w s a b c) : ISpec I w s a b c := ⟨h.labs.I, h.inits.I, h.mains.I⟩
abbrev specV (s : SpecD) (lv iv mv : Value) : Value := .agg #[.string s.name, lv, iv, mv, .int .i64 s.restart, .int .i64 s.grace, .int .i64 s.prio]
def SpecClonePost (s : SpecD) (w : World) (e : Ending) (w' : World) : Prop :=
  ∃ lv iv mv, e = .returned (specV s lv iv mv) ∧ OSpec (Ran w.heap.size w'.heap.size) w' s lv iv mv ∧ Below w.heap.size w w'
/-- The same, and the two rows of containers lie in different blocks. -/
def SpecClonePost2 (s : SpecD) (w : World) (e : Ending) (w' : World) : Prop :=
  ∃ lv iv mv, e = .returned (specV s lv iv mv) ∧ OSpec (Ran w.heap.size w'.heap.size) w' s lv iv mv ∧ Below w.heap.size w w' ∧ ∃ mid, OCtrs (Ran w.heap.size mid) w' iv s.inits ∧ OCtrs (Ran mid w'.heap.size) w' mv s.mains ∧ w.heap.size ≤ mid ∧ mid ≤ w'.heap.size
theorem OLabs.form {I : Nat → Prop} {w : World} {v : Value} {l : List LabelD} (h : OLabs I w v l) : ∃ a c, v = .slice a l.length c := h.I.form
theorem OCtrs.form {I : Nat → Prop} {w : World} {v : Value} {l : List CtrD} (h : OCtrs I w v l) : ∃ a c, v = .slice a l.length c := h.I.form
set_option maxHeartbeats 4000000 in
set_option maxRecDepth 100000 in
theorem Clone_any2 (I : Nat → Prop) (s : SpecD) (la ia ma : Option Addr) (lc ic mc : Nat) (w : World) (hs : SpecOk s) (h : ISpec I w s (.slice la s.labels.length lc) (.slice ia s.inits.length ic) (.slice ma s.mains.length mc)) :
    Calls Tryz.prog 27 #[specV s (.slice la s.labels.length lc) (.slice ia s.inits.length ic) (.slice ma s.mains.length mc)] w (SpecClonePost2 s w) := by
  obtain ⟨hn, hlab, hnl, hoki, hokm⟩ := hs
  go_enter Tryz.func27, Tryz.ntmps27
  have hn0 : (w.alloc (.cells #[.string s.name, .slice la s.labels.length lc, .slice ia s.inits.length ic, .slice ma s.mains.length mc, .int .i64 s.restart, .int .i64 s.grace, .int .i64 s.prio] 25)).heap.size = w.heap.size + 1 := by simp
  obtain ⟨W, hW⟩ : ∃ W, W = (w.alloc (.cells #[.string s.name, .slice la s.labels.length lc, .slice ia s.inits.length ic, .slice ma s.mains.length mc, .int .i64 s.restart, .int .i64 s.grace, .int .i64 s.prio] 25)).alloc (.cells #[.string ⟨#[]⟩, .slice none 0 0, .slice none 0 0, .slice none 0 0, .int .i64 0, .int .i64 0, .int .i64 0] 25) := ⟨_, rfl⟩
  have hb0 : Below w.heap.size w W := by rw [hW]; exact bto (bnew _ _) (bnew _ _)
  have hs0 : W.heap.size = w.heap.size + 2 := by rw [hW]; simp
  have hB0 : W.heap[w.heap.size]? = some (.cells #[.string s.name, .slice la s.labels.length lc, .slice ia s.inits.length ic, .slice ma s.mains.length mc, .int .i64 s.restart, .int .i64 s.grace, .int .i64 s.prio] 25 (0, 0)) := by
    rw [hW, Below.heap_alloc _ _ _ (by simp)]; exact heap_alloc_new _ _
  have hB1 : W.heap[w.heap.size + 1]? = some (.cells #[.string ⟨#[]⟩, .slice none 0 0, .slice none 0 0, .slice none 0 0, .int .i64 0, .int .i64 0, .int .i64 0] 25 (0, 0)) := by
    rw [hW, ← hn0]; exact heap_alloc_new _ _
  go_wp2_with fail
  rw [← hW]
  refine (cloneLabs_any I _ s.labels W (h.labs.below hb0) (by omega)).mono ?_
  rintro e w1 ⟨lv, rfl, ho1, hb1⟩
  obtain ⟨la1, lc1, hv1⟩ := ho1.form
  subst hv1
  have hB01 := (hb1.block w.heap.size (by omega)).trans hB0
  have hB11 := (hb1.block (w.heap.size + 1) (by omega)).trans hB1
  have c1 : w1.cell? ⟨w.heap.size, 1, none⟩ = some (.slice la s.labels.length lc) := by simp [World.cell?, hB01]
  have f1 : w1.frozen? ⟨w.heap.size, 1, none⟩ = false := by simp [World.frozen?, hB01]
  go_wp2_with fail
  obtain ⟨W1, hW1⟩ : ∃ W1, W1 = w1.setCell ⟨w.heap.size, 1, none⟩ (.slice la1 s.labels.length lc1) := ⟨_, rfl⟩
  rw [← hW1]
  have hK1 : Kept (· = w.heap.size) w1 W1 := by rw [hW1]; exact kept_set _ _ _ _
  have hlt0 : w.heap.size + 2 ≤ W1.heap.size := by have := hK1.size; have := hb1.size; omega
  have hB02 : W1.heap[w.heap.size]? = some (.cells #[.string s.name, .slice la1 s.labels.length lc1, .slice ia s.inits.length ic, .slice ma s.mains.length mc, .int .i64 s.restart, .int .i64 s.grace, .int .i64 s.prio] 25 (0, 0)) := by
    rw [hW1, setCell_atn _ _ _ _ _ _ hB01]; rfl
  have hB12 := (hK1.block (w.heap.size + 1) (by have := hb1.size; omega) (by omega)).trans hB11
  have hbW : Below w.heap.size w W1 := belowk0 (bto hb0 hb1) hK1 (fun i hi => Nat.le_of_eq hi.symm) (by have := hb1.size; omega)
  have hoW : OLabs (Ran W.heap.size w1.heap.size) W1 (.slice la1 s.labels.length lc1) s.labels := ORow.kept ho1 hK1 fun i hi e => by have := hi.1; omega
  have hiI := h.inits.below hbW
  have hiM := h.mains.below hbW
  have c2 : W1.cell? ⟨w.heap.size, 2, none⟩ = some (.slice ia s.inits.length ic) := by simp [World.cell?, hB02]
  have c3 : W1.cell? ⟨w.heap.size, 3, none⟩ = some (.slice ma s.mains.length mc) := by simp [World.cell?, hB02]
  have HB02 := Lib.hid hB02
  have HB12 := Lib.hid hB12
  have HbW := Lib.hid hbW
  have HoW := Lib.hid hoW
  have HiI := Lib.hid (hiI.below (bdrew1 W1))
  have HiM := Lib.hid (hiM.below (bdrew1 W1))
  have HL0 := Lib.hid hlt0
  have HS1 : Hid (w1.heap.size ≤ W1.heap.size) := hK1.size
  have HS0 : Hid (W.heap.size = w.heap.size + 2) := hs0
  clear hW1 c1 f1 hW hB0 hB1 hB01 hB11 hB02 hB12 hK1 hbW hoW hiI hiM ho1 hb1 hb0 hn0 hs0 h hlt0
  go_region_with (first
    | (go_at_call 115; have hg2 := HO2; refine (clones_any I (.slice ma s.mains.length mc) s.mains _ (HiM.out.below HB2.out) hokm).mono ?_; rintro e w3 ⟨mv3, rfl, ho3, hb3⟩; obtain ⟨ma3, mc3, hv3⟩ := ho3.form; subst hv3; have HB04 := Lib.hid ((hb3.block w.heap.size (Nat.lt_of_lt_of_le (show w.heap.size < W1.heap.size by have := HL0.out; omega) HB2.out.size)).trans HB03.out); have HO3 := Lib.hid ho3; have HB3 := Lib.hid hb3; have c2c : w3.cell? ⟨w.heap.size, 2, none⟩ = some (.slice ia s.inits.length ic) := (by simp [World.cell?, HB04.out]); have f2c : w3.frozen? ⟨w.heap.size, 2, none⟩ = false := (by simp [World.frozen?, HB04.out]); have c3d : (w3.setCell ⟨w.heap.size, 2, none⟩ (.slice ia2 s.inits.length ic2)).cell? ⟨w.heap.size, 3, none⟩ = some (.slice ma s.mains.length mc) := (by simp [World.cell?, setCell_atn w3 w.heap.size 2 _ 25 (.slice ia2 s.inits.length ic2) HB04.out]); have f3d : (w3.setCell ⟨w.heap.size, 2, none⟩ (.slice ia2 s.inits.length ic2)).frozen? ⟨w.heap.size, 3, none⟩ = false := (by simp [World.frozen?, setCell_atn w3 w.heap.size 2 _ 25 (.slice ia2 s.inits.length ic2) HB04.out]); clear ho3 hb3)
    | (go_at_call 115; refine (clones_any I (.slice ia s.inits.length ic) s.inits _ HiI.out hoki).mono ?_; rintro e w2 ⟨iv2, rfl, ho2, hb2⟩; obtain ⟨ia2, ic2, hv2⟩ := ho2.form; subst hv2; have HB03 := Lib.hid ((hb2.block w.heap.size (show w.heap.size < W1.heap.size by have := HL0.out; omega)).trans HB02.out); have HO2 := Lib.hid ho2; have HB2 := Lib.hid hb2; have c3b : w2.cell? ⟨w.heap.size, 3, none⟩ = some (.slice ma s.mains.length mc) := (by simp [World.cell?, HB03.out]); clear ho2 hb2))
  all_goals
    obtain ⟨W5, hW5⟩ : ∃ W5, W5 = (w3.setCell ⟨w.heap.size, 2, none⟩ (.slice ia2 s.inits.length ic2)).setCell ⟨w.heap.size, 3, none⟩ (.slice ma3 s.mains.length mc3) := ⟨_, rfl⟩
    rw [← hW5]
    have hB5 : W5.heap[w.heap.size]? = some (.cells #[.string s.name, .slice la1 s.labels.length lc1, .slice ia2 s.inits.length ic2, .slice ma3 s.mains.length mc3, .int .i64 s.restart, .int .i64 s.grace, .int .i64 s.prio] 25 (0, 0)) := by
      rw [hW5, setCell_atn _ _ _ _ _ _ (setCell_atn w3 w.heap.size 2 _ 25 (.slice ia2 s.inits.length ic2) HB04.out)]; rfl
    have hK5 : Kept (· = w.heap.size) w3 W5 := by rw [hW5]; exact kept_thru (kept_set _ _ _ _) (kept_set _ _ _ _)
    have hsz3 : w.heap.size + 2 ≤ w3.heap.size := Nat.le_trans HL0.out (Nat.le_trans HB2.out.size HB3.out.size)
    have hN2 := (HB2.out.block (w.heap.size + 1) (show w.heap.size + 1 < W1.heap.size by have := HL0.out; omega)).trans HB12.out
    have hN3 := (HB3.out.block (w.heap.size + 1) (Nat.lt_of_lt_of_le (show w.heap.size + 1 < W1.heap.size by have := HL0.out; omega) HB2.out.size)).trans hN2
    have hN5 := (hK5.block (w.heap.size + 1) (by omega) (by omega)).trans hN3
    have hbW5 : Below w.heap.size w W5 := belowk0 (bto (bto (bto HbW.out (bdrew1 _)) HB2.out) HB3.out) hK5 (fun i hi => Nat.le_of_eq hi.symm) (by omega)
    have hO5 : OSpec (Ran (w.heap.size + 2) W5.heap.size) W5 s (.slice la1 s.labels.length lc1) (.slice ia2 s.inits.length ic2) (.slice ma3 s.mains.length mc3) := by
      have q1 : w1.heap.size ≤ w2.heap.size := Nat.le_trans HS1.out HB2.out.size
      refine ⟨?_, ?_, ?_⟩
      · refine ORow.mono (ORow.kept (ORow.below (ORow.below (ORow.below HoW.out (bdrew1 _)) HB2.out) HB3.out) hK5 fun i hi e => ?_) fun i hi => ⟨?_, ?_⟩
        · have := hi.1; have := HS0.out; omega
        · have := hi.1; have := HS0.out; omega
        · have := hi.2; have := HB3.out.size; have := hK5.size; omega
      · refine OCtrs.mono (OCtrs.kept (OCtrs.kept HO2.out (kept_false HB3.out) fun _ _ h => h) hK5 fun i hi e => ?_) fun i hi => ⟨?_, ?_⟩
        · have h1 : W1.heap.size ≤ i := hi.1; have := HL0.out; omega
        · have h1 : W1.heap.size ≤ i := hi.1; have := HL0.out; omega
        · have := hi.2; have := HB3.out.size; have := hK5.size; omega
      · refine OCtrs.mono (OCtrs.kept HO3.out hK5 fun i hi e => ?_) fun i hi => ⟨?_, ?_⟩
        · have := hi.1; have := HS0.out; have := HL0.out; have h2 : W1.heap.size ≤ w2.heap.size := HB2.out.size; omega
        · have := hi.1; have := HS0.out; have := HL0.out; have h2 : W1.heap.size ≤ w2.heap.size := HB2.out.size; omega
        · have := hi.2; have := hK5.size; omega
    have hI5 : OCtrs (Ran (w.heap.size + 2) w2.heap.size) W5 (.slice ia2 s.inits.length ic2) s.inits := by
      refine OCtrs.mono (OCtrs.kept (OCtrs.kept HO2.out (kept_false HB3.out) fun _ _ h => h) hK5 fun i hi e => ?_) fun i hi => ⟨?_, hi.2⟩
      · have h1 : W1.heap.size ≤ i := hi.1; have := HL0.out; omega
      · have h1 : W1.heap.size ≤ i := hi.1; have := HL0.out; omega
    have hM5 : OCtrs (Ran w2.heap.size W5.heap.size) W5 (.slice ma3 s.mains.length mc3) s.mains := by
      refine OCtrs.mono (OCtrs.kept HO3.out hK5 fun i hi e => ?_) fun i hi => ⟨hi.1, ?_⟩
      · have h3 : w2.heap.size ≤ i := hi.1; have := HL0.out; have h2 : W1.heap.size ≤ w2.heap.size := HB2.out.size; omega
      · have := hi.2; have := hK5.size; omega
    have hm1 : w.heap.size + 2 ≤ w2.heap.size := by have := HL0.out; have h2 : W1.heap.size ≤ w2.heap.size := HB2.out.size; omega
    have hm2 : w2.heap.size ≤ W5.heap.size := Nat.le_trans HB3.out.size hK5.size
    have hK6 : Hid (∀ W6, Kept (· = w.heap.size + 1) W5 W6 → SpecClonePost2 s w (.returned (specV s (.slice la1 s.labels.length lc1) (.slice ia2 s.inits.length ic2) (.slice ma3 s.mains.length mc3))) W6) := by
      intro W6 hK
      exact ⟨_, _, _, rfl, (hO5.kept hK (fun i hi e => by have := hi.1; omega)).mono (fun i hi => ⟨by have := hi.1; omega, by have := hi.2; have := hK.size; omega⟩), belowk0 hbW5 hK (fun i hi => by omega) hbW5.size, w2.heap.size, (hI5.kept hK (fun i hi e => by have := hi.1; omega)).mono (fun i hi => ⟨by have := hi.1; omega, hi.2⟩), (hM5.kept hK (fun i hi e => by have := hi.1; omega)).mono (fun i hi => ⟨hi.1, by have := hi.2; have := hK.size; omega⟩), by omega, Nat.le_trans hm2 hK.size⟩
    clear hI5 hM5 hm1 hm2 hW5 c2c f2c c3d f3d c3b
    have z0 : W5.cell? ⟨w.heap.size, 0, none⟩ = some (.string s.name) := (by simp [World.cell?, hB5])
    have z1 : W5.cell? ⟨w.heap.size, 1, none⟩ = some (.slice la1 s.labels.length lc1) := (by simp [World.cell?, hB5])
    have z2 : W5.cell? ⟨w.heap.size, 2, none⟩ = some (.slice ia2 s.inits.length ic2) := (by simp [World.cell?, hB5])
    have z3 : W5.cell? ⟨w.heap.size, 3, none⟩ = some (.slice ma3 s.mains.length mc3) := (by simp [World.cell?, hB5])
    have z4 : W5.cell? ⟨w.heap.size, 4, none⟩ = some (.int .i64 s.restart) := (by simp [World.cell?, hB5])
    have z5 : W5.cell? ⟨w.heap.size, 5, none⟩ = some (.int .i64 s.grace) := (by simp [World.cell?, hB5])
    have z6 : W5.cell? ⟨w.heap.size, 6, none⟩ = some (.int .i64 s.prio) := (by simp [World.cell?, hB5])
    have y0 := hN5
    have p0 : (W5).cell? ⟨w.heap.size + 1, 0, none⟩ = some (.string ⟨#[]⟩) := (by simp only [World.cell?, y0]; rfl)
    have f0 : (W5).frozen? ⟨w.heap.size + 1, 0, none⟩ = false := (by simp [World.frozen?, y0])
    have y1 : ((W5).setCell ⟨w.heap.size + 1, 0, none⟩ (.string s.name)).heap[w.heap.size + 1]? = some (.cells #[.string s.name, .slice none 0 0, .slice none 0 0, .slice none 0 0, .int .i64 0, .int .i64 0, .int .i64 0] 25 (0, 0)) := (by rw [setCell_atn _ _ _ _ _ _ y0]; rfl)
    have p1 : ((W5).setCell ⟨w.heap.size + 1, 0, none⟩ (.string s.name)).cell? ⟨w.heap.size + 1, 1, none⟩ = some (.slice none 0 0) := (by simp only [World.cell?, y1]; rfl)
    have f1 : ((W5).setCell ⟨w.heap.size + 1, 0, none⟩ (.string s.name)).frozen? ⟨w.heap.size + 1, 1, none⟩ = false := (by simp [World.frozen?, y1])
    have y2 : (((W5).setCell ⟨w.heap.size + 1, 0, none⟩ (.string s.name)).setCell ⟨w.heap.size + 1, 1, none⟩ (.slice la1 s.labels.length lc1)).heap[w.heap.size + 1]? = some (.cells #[.string s.name, .slice la1 s.labels.length lc1, .slice none 0 0, .slice none 0 0, .int .i64 0, .int .i64 0, .int .i64 0] 25 (0, 0)) := (by rw [setCell_atn _ _ _ _ _ _ y1]; rfl)
    have p2 : (((W5).setCell ⟨w.heap.size + 1, 0, none⟩ (.string s.name)).setCell ⟨w.heap.size + 1, 1, none⟩ (.slice la1 s.labels.length lc1)).cell? ⟨w.heap.size + 1, 2, none⟩ = some (.slice none 0 0) := (by simp only [World.cell?, y2]; rfl)
    have f2 : (((W5).setCell ⟨w.heap.size + 1, 0, none⟩ (.string s.name)).setCell ⟨w.heap.size + 1, 1, none⟩ (.slice la1 s.labels.length lc1)).frozen? ⟨w.heap.size + 1, 2, none⟩ = false := (by simp [World.frozen?, y2])
    have y3 : ((((W5).setCell ⟨w.heap.size + 1, 0, none⟩ (.string s.name)).setCell ⟨w.heap.size + 1, 1, none⟩ (.slice la1 s.labels.length lc1)).setCell ⟨w.heap.size + 1, 2, none⟩ (.slice ia2 s.inits.length ic2)).heap[w.heap.size + 1]? = some (.cells #[.string s.name, .slice la1 s.labels.length lc1, .slice ia2 s.inits.length ic2, .slice none 0 0, .int .i64 0, .int .i64 0, .int .i64 0] 25 (0, 0)) := (by rw [setCell_atn _ _ _ _ _ _ y2]; rfl)
    have p3 : ((((W5).setCell ⟨w.heap.size + 1, 0, none⟩ (.string s.name)).setCell ⟨w.heap.size + 1, 1, none⟩ (.slice la1 s.labels.length lc1)).setCell ⟨w.heap.size + 1, 2, none⟩ (.slice ia2 s.inits.length ic2)).cell? ⟨w.heap.size + 1, 3, none⟩ = some (.slice none 0 0) := (by simp only [World.cell?, y3]; rfl)
    have f3 : ((((W5).setCell ⟨w.heap.size + 1, 0, none⟩ (.string s.name)).setCell ⟨w.heap.size + 1, 1, none⟩ (.slice la1 s.labels.length lc1)).setCell ⟨w.heap.size + 1, 2, none⟩ (.slice ia2 s.inits.length ic2)).frozen? ⟨w.heap.size + 1, 3, none⟩ = false := (by simp [World.frozen?, y3])
    have y4 : (((((W5).setCell ⟨w.heap.size + 1, 0, none⟩ (.string s.name)).setCell ⟨w.heap.size + 1, 1, none⟩ (.slice la1 s.labels.length lc1)).setCell ⟨w.heap.size + 1, 2, none⟩ (.slice ia2 s.inits.length ic2)).setCell ⟨w.heap.size + 1, 3, none⟩ (.slice ma3 s.mains.length mc3)).heap[w.heap.size + 1]? = some (.cells #[.string s.name, .slice la1 s.labels.length lc1, .slice ia2 s.inits.length ic2, .slice ma3 s.mains.length mc3, .int .i64 0, .int .i64 0, .int .i64 0] 25 (0, 0)) := (by rw [setCell_atn _ _ _ _ _ _ y3]; rfl)
    have p4 : (((((W5).setCell ⟨w.heap.size + 1, 0, none⟩ (.string s.name)).setCell ⟨w.heap.size + 1, 1, none⟩ (.slice la1 s.labels.length lc1)).setCell ⟨w.heap.size + 1, 2, none⟩ (.slice ia2 s.inits.length ic2)).setCell ⟨w.heap.size + 1, 3, none⟩ (.slice ma3 s.mains.length mc3)).cell? ⟨w.heap.size + 1, 4, none⟩ = some (.int .i64 0) := (by simp only [World.cell?, y4]; rfl)
    have f4 : (((((W5).setCell ⟨w.heap.size + 1, 0, none⟩ (.string s.name)).setCell ⟨w.heap.size + 1, 1, none⟩ (.slice la1 s.labels.length lc1)).setCell ⟨w.heap.size + 1, 2, none⟩ (.slice ia2 s.inits.length ic2)).setCell ⟨w.heap.size + 1, 3, none⟩ (.slice ma3 s.mains.length mc3)).frozen? ⟨w.heap.size + 1, 4, none⟩ = false := (by simp [World.frozen?, y4])
    have y5 : ((((((W5).setCell ⟨w.heap.size + 1, 0, none⟩ (.string s.name)).setCell ⟨w.heap.size + 1, 1, none⟩ (.slice la1 s.labels.length lc1)).setCell ⟨w.heap.size + 1, 2, none⟩ (.slice ia2 s.inits.length ic2)).setCell ⟨w.heap.size + 1, 3, none⟩ (.slice ma3 s.mains.length mc3)).setCell ⟨w.heap.size + 1, 4, none⟩ (.int .i64 s.restart)).heap[w.heap.size + 1]? = some (.cells #[.string s.name, .slice la1 s.labels.length lc1, .slice ia2 s.inits.length ic2, .slice ma3 s.mains.length mc3, .int .i64 s.restart, .int .i64 0, .int .i64 0] 25 (0, 0)) := (by rw [setCell_atn _ _ _ _ _ _ y4]; rfl)
    have p5 : ((((((W5).setCell ⟨w.heap.size + 1, 0, none⟩ (.string s.name)).setCell ⟨w.heap.size + 1, 1, none⟩ (.slice la1 s.labels.length lc1)).setCell ⟨w.heap.size + 1, 2, none⟩ (.slice ia2 s.inits.length ic2)).setCell ⟨w.heap.size + 1, 3, none⟩ (.slice ma3 s.mains.length mc3)).setCell ⟨w.heap.size + 1, 4, none⟩ (.int .i64 s.restart)).cell? ⟨w.heap.size + 1, 5, none⟩ = some (.int .i64 0) := (by simp only [World.cell?, y5]; rfl)
    have f5 : ((((((W5).setCell ⟨w.heap.size + 1, 0, none⟩ (.string s.name)).setCell ⟨w.heap.size + 1, 1, none⟩ (.slice la1 s.labels.length lc1)).setCell ⟨w.heap.size + 1, 2, none⟩ (.slice ia2 s.inits.length ic2)).setCell ⟨w.heap.size + 1, 3, none⟩ (.slice ma3 s.mains.length mc3)).setCell ⟨w.heap.size + 1, 4, none⟩ (.int .i64 s.restart)).frozen? ⟨w.heap.size + 1, 5, none⟩ = false := (by simp [World.frozen?, y5])
    have y6 : (((((((W5).setCell ⟨w.heap.size + 1, 0, none⟩ (.string s.name)).setCell ⟨w.heap.size + 1, 1, none⟩ (.slice la1 s.labels.length lc1)).setCell ⟨w.heap.size + 1, 2, none⟩ (.slice ia2 s.inits.length ic2)).setCell ⟨w.heap.size + 1, 3, none⟩ (.slice ma3 s.mains.length mc3)).setCell ⟨w.heap.size + 1, 4, none⟩ (.int .i64 s.restart)).setCell ⟨w.heap.size + 1, 5, none⟩ (.int .i64 s.grace)).heap[w.heap.size + 1]? = some (.cells #[.string s.name, .slice la1 s.labels.length lc1, .slice ia2 s.inits.length ic2, .slice ma3 s.mains.length mc3, .int .i64 s.restart, .int .i64 s.grace, .int .i64 0] 25 (0, 0)) := (by rw [setCell_atn _ _ _ _ _ _ y5]; rfl)
    have p6 : (((((((W5).setCell ⟨w.heap.size + 1, 0, none⟩ (.string s.name)).setCell ⟨w.heap.size + 1, 1, none⟩ (.slice la1 s.labels.length lc1)).setCell ⟨w.heap.size + 1, 2, none⟩ (.slice ia2 s.inits.length ic2)).setCell ⟨w.heap.size + 1, 3, none⟩ (.slice ma3 s.mains.length mc3)).setCell ⟨w.heap.size + 1, 4, none⟩ (.int .i64 s.restart)).setCell ⟨w.heap.size + 1, 5, none⟩ (.int .i64 s.grace)).cell? ⟨w.heap.size + 1, 6, none⟩ = some (.int .i64 0) := (by simp only [World.cell?, y6]; rfl)
    have f6 : (((((((W5).setCell ⟨w.heap.size + 1, 0, none⟩ (.string s.name)).setCell ⟨w.heap.size + 1, 1, none⟩ (.slice la1 s.labels.length lc1)).setCell ⟨w.heap.size + 1, 2, none⟩ (.slice ia2 s.inits.length ic2)).setCell ⟨w.heap.size + 1, 3, none⟩ (.slice ma3 s.mains.length mc3)).setCell ⟨w.heap.size + 1, 4, none⟩ (.int .i64 s.restart)).setCell ⟨w.heap.size + 1, 5, none⟩ (.int .i64 s.grace)).frozen? ⟨w.heap.size + 1, 6, none⟩ = false := (by simp [World.frozen?, y6])
    have y7 : ((((((((W5).setCell ⟨w.heap.size + 1, 0, none⟩ (.string s.name)).setCell ⟨w.heap.size + 1, 1, none⟩ (.slice la1 s.labels.length lc1)).setCell ⟨w.heap.size + 1, 2, none⟩ (.slice ia2 s.inits.length ic2)).setCell ⟨w.heap.size + 1, 3, none⟩ (.slice ma3 s.mains.length mc3)).setCell ⟨w.heap.size + 1, 4, none⟩ (.int .i64 s.restart)).setCell ⟨w.heap.size + 1, 5, none⟩ (.int .i64 s.grace)).setCell ⟨w.heap.size + 1, 6, none⟩ (.int .i64 s.prio)).heap[w.heap.size + 1]? = some (.cells #[.string s.name, .slice la1 s.labels.length lc1, .slice ia2 s.inits.length ic2, .slice ma3 s.mains.length mc3, .int .i64 s.restart, .int .i64 s.grace, .int .i64 s.prio] 25 (0, 0)) := (by rw [setCell_atn _ _ _ _ _ _ y6]; rfl)
    have r0 : ((((((((W5).setCell ⟨w.heap.size + 1, 0, none⟩ (.string s.name)).setCell ⟨w.heap.size + 1, 1, none⟩ (.slice la1 s.labels.length lc1)).setCell ⟨w.heap.size + 1, 2, none⟩ (.slice ia2 s.inits.length ic2)).setCell ⟨w.heap.size + 1, 3, none⟩ (.slice ma3 s.mains.length mc3)).setCell ⟨w.heap.size + 1, 4, none⟩ (.int .i64 s.restart)).setCell ⟨w.heap.size + 1, 5, none⟩ (.int .i64 s.grace)).setCell ⟨w.heap.size + 1, 6, none⟩ (.int .i64 s.prio)).cell? ⟨w.heap.size + 1, 0, none⟩ = some (.string s.name) := (by simp only [World.cell?, y7]; rfl)
    have r1 : ((((((((W5).setCell ⟨w.heap.size + 1, 0, none⟩ (.string s.name)).setCell ⟨w.heap.size + 1, 1, none⟩ (.slice la1 s.labels.length lc1)).setCell ⟨w.heap.size + 1, 2, none⟩ (.slice ia2 s.inits.length ic2)).setCell ⟨w.heap.size + 1, 3, none⟩ (.slice ma3 s.mains.length mc3)).setCell ⟨w.heap.size + 1, 4, none⟩ (.int .i64 s.restart)).setCell ⟨w.heap.size + 1, 5, none⟩ (.int .i64 s.grace)).setCell ⟨w.heap.size + 1, 6, none⟩ (.int .i64 s.prio)).cell? ⟨w.heap.size + 1, 1, none⟩ = some (.slice la1 s.labels.length lc1) := (by simp only [World.cell?, y7]; rfl)
    have r2 : ((((((((W5).setCell ⟨w.heap.size + 1, 0, none⟩ (.string s.name)).setCell ⟨w.heap.size + 1, 1, none⟩ (.slice la1 s.labels.length lc1)).setCell ⟨w.heap.size + 1, 2, none⟩ (.slice ia2 s.inits.length ic2)).setCell ⟨w.heap.size + 1, 3, none⟩ (.slice ma3 s.mains.length mc3)).setCell ⟨w.heap.size + 1, 4, none⟩ (.int .i64 s.restart)).setCell ⟨w.heap.size + 1, 5, none⟩ (.int .i64 s.grace)).setCell ⟨w.heap.size + 1, 6, none⟩ (.int .i64 s.prio)).cell? ⟨w.heap.size + 1, 2, none⟩ = some (.slice ia2 s.inits.length ic2) := (by simp only [World.cell?, y7]; rfl)
    have r3 : ((((((((W5).setCell ⟨w.heap.size + 1, 0, none⟩ (.string s.name)).setCell ⟨w.heap.size + 1, 1, none⟩ (.slice la1 s.labels.length lc1)).setCell ⟨w.heap.size + 1, 2, none⟩ (.slice ia2 s.inits.length ic2)).setCell ⟨w.heap.size + 1, 3, none⟩ (.slice ma3 s.mains.length mc3)).setCell ⟨w.heap.size + 1, 4, none⟩ (.int .i64 s.restart)).setCell ⟨w.heap.size + 1, 5, none⟩ (.int .i64 s.grace)).setCell ⟨w.heap.size + 1, 6, none⟩ (.int .i64 s.prio)).cell? ⟨w.heap.size + 1, 3, none⟩ = some (.slice ma3 s.mains.length mc3) := (by simp only [World.cell?, y7]; rfl)
    have r4 : ((((((((W5).setCell ⟨w.heap.size + 1, 0, none⟩ (.string s.name)).setCell ⟨w.heap.size + 1, 1, none⟩ (.slice la1 s.labels.length lc1)).setCell ⟨w.heap.size + 1, 2, none⟩ (.slice ia2 s.inits.length ic2)).setCell ⟨w.heap.size + 1, 3, none⟩ (.slice ma3 s.mains.length mc3)).setCell ⟨w.heap.size + 1, 4, none⟩ (.int .i64 s.restart)).setCell ⟨w.heap.size + 1, 5, none⟩ (.int .i64 s.grace)).setCell ⟨w.heap.size + 1, 6, none⟩ (.int .i64 s.prio)).cell? ⟨w.heap.size + 1, 4, none⟩ = some (.int .i64 s.restart) := (by simp only [World.cell?, y7]; rfl)
    have r5 : ((((((((W5).setCell ⟨w.heap.size + 1, 0, none⟩ (.string s.name)).setCell ⟨w.heap.size + 1, 1, none⟩ (.slice la1 s.labels.length lc1)).setCell ⟨w.heap.size + 1, 2, none⟩ (.slice ia2 s.inits.length ic2)).setCell ⟨w.heap.size + 1, 3, none⟩ (.slice ma3 s.mains.length mc3)).setCell ⟨w.heap.size + 1, 4, none⟩ (.int .i64 s.restart)).setCell ⟨w.heap.size + 1, 5, none⟩ (.int .i64 s.grace)).setCell ⟨w.heap.size + 1, 6, none⟩ (.int .i64 s.prio)).cell? ⟨w.heap.size + 1, 5, none⟩ = some (.int .i64 s.grace) := (by simp only [World.cell?, y7]; rfl)
    have r6 : ((((((((W5).setCell ⟨w.heap.size + 1, 0, none⟩ (.string s.name)).setCell ⟨w.heap.size + 1, 1, none⟩ (.slice la1 s.labels.length lc1)).setCell ⟨w.heap.size + 1, 2, none⟩ (.slice ia2 s.inits.length ic2)).setCell ⟨w.heap.size + 1, 3, none⟩ (.slice ma3 s.mains.length mc3)).setCell ⟨w.heap.size + 1, 4, none⟩ (.int .i64 s.restart)).setCell ⟨w.heap.size + 1, 5, none⟩ (.int .i64 s.grace)).setCell ⟨w.heap.size + 1, 6, none⟩ (.int .i64 s.prio)).cell? ⟨w.heap.size + 1, 6, none⟩ = some (.int .i64 s.prio) := (by simp only [World.cell?, y7]; rfl)
    have K7 : Kept (· = w.heap.size + 1) W5 ((((((((W5).setCell ⟨w.heap.size + 1, 0, none⟩ (.string s.name)).setCell ⟨w.heap.size + 1, 1, none⟩ (.slice la1 s.labels.length lc1)).setCell ⟨w.heap.size + 1, 2, none⟩ (.slice ia2 s.inits.length ic2)).setCell ⟨w.heap.size + 1, 3, none⟩ (.slice ma3 s.mains.length mc3)).setCell ⟨w.heap.size + 1, 4, none⟩ (.int .i64 s.restart)).setCell ⟨w.heap.size + 1, 5, none⟩ (.int .i64 s.grace)).setCell ⟨w.heap.size + 1, 6, none⟩ (.int .i64 s.prio)) := kept_thru (kept_thru (kept_thru (kept_thru (kept_thru (kept_thru (kept_set _ _ _ _) (kept_set _ _ _ _)) (kept_set _ _ _ _)) (kept_set _ _ _ _)) (kept_set _ _ _ _)) (kept_set _ _ _ _)) (kept_set _ _ _ _)
    have HK7 := Lib.hid (hK6.out _ K7)
    have HY7 := Lib.hid y7
    clear y0 y1 y2 y3 y4 y5 y6 y7 hK6 hN5 hN3 hN2 hB5 K7 hK5 hbW5 hO5
    go_wp2
    (try simp only [Exit.inBlock, Exit.then])
    refine bodyPost_ret (results_cell_row rfl _ _ (w.heap.size + 1) 25 _ (0, 0) _ rfl HY7.out Tryz.underlying25 rfl (by kernel_rfl)) rfl ?_
    exact HK7.out
theorem Clone_any (I : Nat → Prop) (s : SpecD) (la ia ma : Option Addr) (lc ic mc : Nat) (w : World) (hs : SpecOk s) (h : ISpec I w s (.slice la s.labels.length lc) (.slice ia s.inits.length ic) (.slice ma s.mains.length mc)) :
    Calls Tryz.prog 27 #[specV s (.slice la s.labels.length lc) (.slice ia s.inits.length ic) (.slice ma s.mains.length mc)] w (SpecClonePost s w) :=
  (Clone_any2 I s la ia ma lc ic mc w hs h).mono fun _ _ ⟨lv, iv, mv, h1, h2, h3, _⟩ => ⟨lv, iv, mv, h1, h2, h3⟩
end Go.Proofs.YtgelbkgkjkeccaaGreatDoor
