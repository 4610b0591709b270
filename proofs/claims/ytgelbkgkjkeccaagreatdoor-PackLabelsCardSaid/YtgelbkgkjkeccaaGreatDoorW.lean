/- The spoiling of a spec: the walk. -/
import Derived.Test.YtgelbkgkjkeccaaGreatDoorV
namespace Go.Proofs.YtgelbkgkjkeccaaGreatDoor
open Go.RowKit

theorem SpoilSt.other {I : Nat → Prop} {wr w' : World} {g n m size : Nat} {e : TypeId} {qs : List Value} {l : List CtrD} {v : Value} {xs : List Value} (h : SpoilSt I wr g n qs l) (he : e ≠ 44) (hv : ORow I wr e size v m xs) (hS : Shaped (fun k => v.ownBlock = some k) wr w') : SpoilSt I w' g n qs l := by
  have hne : v.ownBlock ≠ some g := by
    intro e
    obtain ⟨cur, hh, _⟩ := h.blk
    rcases hv.2 with ⟨rfl, _⟩ | ⟨g2, cap, cur2, rfl, _, hh2, _⟩
    · cases e
    · have : g2 = g := by simpa [Value.ownBlock] using e
      subst this
      rw [hh] at hh2
      injection hh2 with hh2
      injection hh2 with _ ht
      exact he ht.symm
  refine ⟨?_, fun j q hq => hS.kept.cell hne (h.ports j q hq), fun j q c hq hc => ?_⟩
  · obtain ⟨cur, hh, hsz⟩ := h.blk
    obtain ⟨cur', hh', hsz'⟩ := hS.shape g cur 44 hh
    exact ⟨cur', hh', by omega⟩
  · obtain ⟨ys, hx⟩ := h.rows j q c hq hc
    exact hx.shaped hS
theorem SpoilSt.below {I : Nat → Prop} {wr w' : World} {g n : Nat} {qs : List Value} {l : List CtrD} (h : SpoilSt I wr g n qs l) (hb : Below wr.heap.size wr w') : SpoilSt I w' g n qs l := by
  refine ⟨?_, fun j q hq => keepc hb (h.ports j q hq), fun j q c hq hc => ?_⟩
  · obtain ⟨cur, hh, hsz⟩ := h.blk
    exact ⟨cur, (hb.block g (Array.getElem?_eq_some_iff.1 hh).1).trans hh, hsz⟩
  · obtain ⟨ys, hx⟩ := h.rows j q c hq hc
    exact ⟨ys, hx.below hb⟩
def SpoilPost (I : Nat → Prop) (w : World) (e : Ending) (w' : World) : Prop := e = .returned (.tuple #[]) ∧ Kept I w w'
theorem OLabs.row {I : Nat → Prop} {w : World} {v : Value} {l : List LabelD} (h : OLabs I w v l) : ORow I w 159 2 v l.length (labsCells l) := h
theorem ownBlock_I {I : Nat → Prop} {w : World} {e : TypeId} {size n : Nat} {v : Value} {xs : List Value} (h : ORow I w e size v n xs) (k : Nat) (hk : v.ownBlock = some k) : I k := by
  rcases h.2 with ⟨rfl, _⟩ | ⟨g2, cap2, cur2, rfl, hI2, _⟩
  · cases hk
  · have : g2 = k := by simpa [Value.ownBlock] using hk
    exact this ▸ hI2
/-- Behind the labels. -/
theorem SpoilS.start {I : Nat → Prop} {w w1 : World} {s : SpecD} {la ia ma : Option Addr} {lc ic mc : Nat} (hI : ∀ k, I k → k < w.heap.size)
    (h : OSpec I w s (.slice la s.labels.length lc) (.slice ia s.inits.length ic) (.slice ma s.mains.length mc))
    (hS : Shaped (fun k => (Value.slice la s.labels.length lc).ownBlock = some k) (w.alloc (.cells #[.string s.name, .slice la s.labels.length lc, .slice ia s.inits.length ic, .slice ma s.mains.length mc, .int .i64 s.restart, .int .i64 s.grace, .int .i64 s.prio] 25)) w1) :
    SpoilS I w w1 s la ia ma lc ic mc := by
  have hb := bnew w (.cells #[.string s.name, .slice la s.labels.length lc, .slice ia s.inits.length ic, .slice ma s.mains.length mc, .int .i64 s.restart, .int .i64 s.grace, .int .i64 s.prio] 25)
  have hl := ORow.below (OLabs.row h.labs) hb
  refine ⟨(kept_false hb |>.weaken fun _ h => h.elim).trans (hS.kept.weaken (ownBlock_I hl)) fun _ _ h => h, ?_, fun h0 => ?_, fun h0 => ?_⟩
  · refine (hS.kept.block _ (by simp) (fun hk => ?_)).trans (heap_alloc_new _ _)
    have := hI _ (ownBlock_I hl _ hk)
    omega
  · obtain ⟨g, qs, h1, h2, h3, h4, h5⟩ := h.inits.spoil h0
    exact ⟨g, qs, h1, h2, h3, h4, (h5.below hb).other (by decide) hl hS⟩
  · obtain ⟨g, qs, h1, h2, h3, h4, h5⟩ := h.mains.spoil h0
    exact ⟨g, qs, h1, h2, h3, h4, (h5.below hb).other (by decide) hl hS⟩
set_option maxHeartbeats 4000000 in
set_option maxRecDepth 100000 in
theorem SpoilSpec_any (I : Nat → Prop) (s : SpecD) (la ia ma : Option Addr) (lc ic mc : Nat) (w : World) (hs : SpecOk s) (hI : ∀ k, I k → k < w.heap.size)
    (h : OSpec I w s (.slice la s.labels.length lc) (.slice ia s.inits.length ic) (.slice ma s.mains.length mc)) :
    Calls Tryz.prog 34 #[specV s (.slice la s.labels.length lc) (.slice ia s.inits.length ic) (.slice ma s.mains.length mc)] w (SpoilPost I w) := by
  obtain ⟨hn, hlab, hnl, hoki, hokm⟩ := hs
  have hi100 := hoki.1
  have hm100 := hokm.1
  have hlr := ORow.below (OLabs.row h.labs) (bnew w (.cells #[.string s.name, .slice la s.labels.length lc, .slice ia s.inits.length ic, .slice ma s.mains.length mc, .int .i64 s.restart, .int .i64 s.grace, .int .i64 s.prio] 25))
  have HP := fun j (hj : j < s.inits.length) => Lib.hid ((hoki.2 _ (List.getElem_mem hj)).2.2)
  have HPm := fun j (hj : j < s.mains.length) => Lib.hid ((hokm.2 _ (List.getElem_mem hj)).2.2)
  go_enter Tryz.func34, Tryz.ntmps34
  go_wp2_with fail
  refine (spoilLabs_own I _ _ _ _ hlr (by omega)).mono ?_
  rintro e w1 ⟨rfl, hs1⟩
  have hS1 := SpoilS.start hI h hs1
  have HI := Lib.hid hI
  have b2 : w1.cell? ⟨w.heap.size, 2, none⟩ = some (.slice ia s.inits.length ic) := by simp [World.cell?, hS1.box]
  clear hs1 hlr h hI hoki hokm hlab
  go_wp2_with fail
  clear b2
  go_loopw [10] (fun i wr => ∃ k : Nat, k ≤ s.inits.length ∧ i = .int .i64 k ∧ SpoilS I w wr s la ia ma lc ic mc) (fun i _ => s.inits.length - (intOf i).toNat)
  case atStart => exact ⟨0, Nat.zero_le _, rfl, hS1⟩
  case round =>
    obtain ⟨k, hk, rfl, hS⟩ := hrel
    have HS := Lib.hid hS
    by_cases hlt : k < s.inits.length
    · obtain ⟨g, qs, rfl, hq, hc, hIg, hst⟩ := hS.inits (by omega)
      have HIg := Lib.hid hIg
      have c2 : wr.cell? ⟨w.heap.size, 2, none⟩ = some (.slice (some ⟨g, 0, none⟩) s.inits.length ic) := by simp [World.cell?, hS.box]
      have c8 := hst.ports k _ (List.getElem?_eq_getElem (by omega))
      obtain ⟨xs, hrow⟩ := hst.rows k _ _ (List.getElem?_eq_getElem (by omega)) (List.getElem?_eq_getElem hlt)
      obtain ⟨qa, qc, hf⟩ := OInts.form' hrow
      rw [hf] at c8 hrow
      have hp := (HP k hlt).out
      have HN := fun w2 h => Lib.hid (SpoilS.ints (w' := w2) hS HI.out hrow h)
      have HR := Lib.hid hrow
      clear hS hst hS1 hrow
      go_wp2_with (go_at_call 33; refine (spoilInts_own I _ _ xs _ HR.out (by omega)).mono ?_; rintro e w2 ⟨rfl, hs2⟩; have hS2 := (HN w2 hs2).out; have HS2 := Lib.hid hS2; obtain ⟨g2, qs2, e2, hq2, _, _, hst2⟩ := hS2.inits (by omega); injection e2 with e2; injection e2 with e2; subst e2; have c2b : w2.cell? ⟨w.heap.size, 2, none⟩ = some (.slice (some ⟨g, 0, none⟩) s.inits.length ic) := (by simp [World.cell?, hS2.box]); obtain ⟨cur, hh, hsz⟩ := hst2.blk; have c0 : w2.cell? ⟨g, k * 11, none⟩ = some (cur[k * 11]'(by omega)) := (by simp [World.cell?, hh]); have f0 : w2.frozen? ⟨g, k * 11, none⟩ = false := (by simp [World.frozen?, hh]); clear hS2 hst2 hh hs2)
      exact ⟨⟨k + 1, hlt, by go_num, HS2.out.set HI.out _ _ _ HIg.out⟩, by simp [intOf]; omega⟩
    · have b3 : wr.cell? ⟨w.heap.size, 3, none⟩ = some (.slice ma s.mains.length mc) := by simp [World.cell?, hS.box]
      clear hS hS1 hk
      go_wp2_with fail
      clear b3
      obtain ⟨wo, hwo⟩ : ∃ wo : World, wo = wr := ⟨_, rfl⟩
      rw [← hwo] at HS ⊢
      clear hwo
      go_loopw [29] (fun i wr => ∃ k : Nat, k ≤ s.mains.length ∧ i = .int .i64 k ∧ SpoilS I w wr s la ia ma lc ic mc) (fun i _ => s.mains.length - (intOf i).toNat)
      case atStart => exact ⟨0, Nat.zero_le _, rfl, HS.out⟩
      case round =>
        obtain ⟨k, hk, rfl, hS⟩ := hrel
        have HS := Lib.hid hS
        by_cases hlt : k < s.mains.length
        · obtain ⟨g, qs, rfl, hq, hc, hIg, hst⟩ := hS.mains (by omega)
          have HIg := Lib.hid hIg
          have c2 : wr.cell? ⟨w.heap.size, 3, none⟩ = some (.slice (some ⟨g, 0, none⟩) s.mains.length mc) := by simp [World.cell?, hS.box]
          have c8 := hst.ports k _ (List.getElem?_eq_getElem (by omega))
          obtain ⟨xs, hrow⟩ := hst.rows k _ _ (List.getElem?_eq_getElem (by omega)) (List.getElem?_eq_getElem hlt)
          obtain ⟨qa, qc, hf⟩ := OInts.form' hrow
          rw [hf] at c8 hrow
          have hp := (HPm k hlt).out
          have HN := fun w2 h => Lib.hid (SpoilS.ints (w' := w2) hS HI.out hrow h)
          have HR := Lib.hid hrow
          clear hS hst hrow
          go_wp2_with (go_at_call 33; refine (spoilInts_own I _ _ xs _ HR.out (by omega)).mono ?_; rintro e w2 ⟨rfl, hs2⟩; have hS2 := (HN w2 hs2).out; have HS2 := Lib.hid hS2; obtain ⟨g2, qs2, e2, hq2, _, _, hst2⟩ := hS2.mains (by omega); injection e2 with e2; injection e2 with e2; subst e2; have c2b : w2.cell? ⟨w.heap.size, 3, none⟩ = some (.slice (some ⟨g, 0, none⟩) s.mains.length mc) := (by simp [World.cell?, hS2.box]); obtain ⟨cur, hh, hsz⟩ := hst2.blk; have c0 : w2.cell? ⟨g, k * 11, none⟩ = some (cur[k * 11]'(by omega)) := (by simp [World.cell?, hh]); have f0 : w2.frozen? ⟨g, k * 11, none⟩ = false := (by simp [World.frozen?, hh]); clear hS2 hst2 hh hs2)
          exact ⟨⟨k + 1, hlt, by go_num, HS2.out.set HI.out _ _ _ HIg.out⟩, by simp [intOf]; omega⟩
        · clear hS hk
          go_wp2
          go_end0
          exact ⟨rfl, HS.out.kept⟩
end Go.Proofs.YtgelbkgkjkeccaaGreatDoor
