/- The spoiling of a spec. -/
import Derived.Test.YtgelbkgkjkeccaaGreatDoorU
namespace Go.Proofs.YtgelbkgkjkeccaaGreatDoor
open Go.RowKit

/-- A row of containers while it is spoilt: it is there; the slices of its ports are those that were. -/
structure SpoilSt (I : Nat → Prop) (wr : World) (g n : Nat) (qs : List Value) (l : List CtrD) : Prop where
  blk : ∃ cur, wr.heap[g]? = some (.cells cur 44 (0, 0)) ∧ n * 11 ≤ cur.size
  ports : ∀ (j : Nat) (q : Value), qs[j]? = some q → wr.cell? ⟨g, j * 11 + 8, none⟩ = some q
  rows : ∀ (j : Nat) (q : Value) (c : CtrD), qs[j]? = some q → l[j]? = some c → ∃ xs, ORow I wr 3 1 q c.ports.length xs
theorem SpoilSt.set {I : Nat → Prop} {wr : World} {g n : Nat} {qs : List Value} {l : List CtrD} (h : SpoilSt I wr g n qs l) (g' k : Nat) (x : Value) : SpoilSt I (wr.setCell ⟨g', k * 11, none⟩ x) g n qs l := by
  have hS := Shaped.set (I := (· = g')) wr g' (k * 11) x rfl
  refine ⟨?_, fun j q hq => ?_, fun j q c hq hc => ?_⟩
  · obtain ⟨cur, hh, hsz⟩ := h.blk
    obtain ⟨cur', hh', hsz'⟩ := hS.shape g cur 44 hh
    exact ⟨cur', hh', by omega⟩
  · have h1 := h.ports j q hq
    by_cases e : g = g'
    · subst e
      obtain ⟨cur, hh, hsz⟩ := h.blk
      have hh' := setCell_atn wr g (k * 11) cur 44 x hh
      simp only [World.cell?, hh] at h1
      simp only [World.cell?, hh']
      rw [← h1]
      simp
      rw [Array.getElem?_setIfInBounds_ne (by omega)]
    · exact hS.kept.cell e h1
  · obtain ⟨xs, hx⟩ := h.rows j q c hq hc
    exact hx.shaped hS
theorem SpoilSt.ints {I : Nat → Prop} {wr w' : World} {g n m : Nat} {qs : List Value} {l : List CtrD} {v : Value} {xs : List Value} (h : SpoilSt I wr g n qs l) (hv : ORow I wr 3 1 v m xs) (hS : Shaped (fun k => v.ownBlock = some k) wr w') : SpoilSt I w' g n qs l := by
  have hne : v.ownBlock ≠ some g := by
    intro e
    obtain ⟨cur, hh, _⟩ := h.blk
    rcases hv.2 with ⟨rfl, _⟩ | ⟨g2, cap, cur2, rfl, _, hh2, _⟩
    · cases e
    · have : g2 = g := by simpa [Value.ownBlock] using e
      subst this
      rw [hh] at hh2
      injection hh2 with hh2
      injection hh2 with _ ht
      exact absurd ht (by decide)
  refine ⟨?_, fun j q hq => hS.kept.cell hne (h.ports j q hq), fun j q c hq hc => ?_⟩
  · obtain ⟨cur, hh, hsz⟩ := h.blk
    obtain ⟨cur', hh', hsz'⟩ := hS.shape g cur 44 hh
    exact ⟨cur', hh', by omega⟩
  · obtain ⟨ys, hx⟩ := h.rows j q c hq hc
    exact hx.shaped hS
theorem OCtrs.spoil {I : Nat → Prop} {w : World} {a : Option Addr} {c : Nat} {l : List CtrD} (h : OCtrs I w (.slice a l.length c) l) (h0 : 0 < l.length) :
    ∃ g qs, a = some ⟨g, 0, none⟩ ∧ qs.length = l.length ∧ l.length ≤ c ∧ I g ∧ SpoilSt I w g l.length qs l := by
  obtain ⟨qs, hq, hR, hO⟩ := h
  rcases hR.2 with ⟨_, hz⟩ | ⟨g, cap, cur, hv, hI, hh, h1, h2, h3⟩
  · omega
  · injection hv with ha _ hc
    subst ha hc
    refine ⟨g, qs, rfl, hq, h1, hI, ⟨cur, hh, by rw [h2]; exact Nat.mul_le_mul_right _ h1⟩, fun j q hj => ?_, fun j q c hj hc => ⟨_, hO j q c hj hc⟩⟩
    have hjl : j < l.length := by rw [← hq]; exact (List.getElem?_eq_some_iff.1 hj).1
    have hqq : qs[j]'(by omega) = q := (List.getElem?_eq_some_iff.1 hj).2
    have h4 : (ctrsCells l qs)[j * 11 + 8]? = some q := ctrs_get hq hjl (by rw [← hqq]; rfl)
    rw [← h3] at h4
    have hj2 : cur[j * 11 + 8]? = some q := by
      rw [List.getElem?_take] at h4
      split at h4
      · simpa using h4
      · simp at h4
    simp [World.cell?, hh, hj2]
theorem OInts.form' {I : Nat → Prop} {w : World} {v : Value} {n : Nat} {xs : List Value} (h : ORow I w 3 1 v n xs) : ∃ a c, v = .slice a n c := by
  rcases h.2 with ⟨rfl, rfl⟩ | ⟨g, cap, cur, rfl, _⟩
  · exact ⟨_, _, rfl⟩
  · exact ⟨_, _, rfl⟩
/-- Where the spoiling stands. -/
structure SpoilS (I : Nat → Prop) (w wr : World) (s : SpecD) (la ia ma : Option Addr) (lc ic mc : Nat) : Prop where
  kept : Kept (fun k => I k) w wr
  box : wr.heap[w.heap.size]? = some (.cells #[.string s.name, .slice la s.labels.length lc, .slice ia s.inits.length ic, .slice ma s.mains.length mc, .int .i64 s.restart, .int .i64 s.grace, .int .i64 s.prio] 25 (0, 0))
  inits : 0 < s.inits.length → ∃ g qs, ia = some ⟨g, 0, none⟩ ∧ qs.length = s.inits.length ∧ s.inits.length ≤ ic ∧ I g ∧ SpoilSt I wr g s.inits.length qs s.inits
  mains : 0 < s.mains.length → ∃ g qs, ma = some ⟨g, 0, none⟩ ∧ qs.length = s.mains.length ∧ s.mains.length ≤ mc ∧ I g ∧ SpoilSt I wr g s.mains.length qs s.mains
theorem SpoilS.ints {I : Nat → Prop} {w wr w' : World} {s : SpecD} {la ia ma : Option Addr} {lc ic mc m : Nat} {v : Value} {xs : List Value} (h : SpoilS I w wr s la ia ma lc ic mc) (hI : ∀ k, I k → k < w.heap.size)
    (hv : ORow I wr 3 1 v m xs) (hS : Shaped (fun k => v.ownBlock = some k) wr w') : SpoilS I w w' s la ia ma lc ic mc := by
  have ho : ∀ k, v.ownBlock = some k → I k := by
    intro k hk
    rcases hv.2 with ⟨rfl, _⟩ | ⟨g2, cap, cur2, rfl, hI2, _⟩
    · cases hk
    · have : g2 = k := by simpa [Value.ownBlock] using hk
      exact this ▸ hI2
  refine ⟨h.kept.trans (hS.kept.weaken ho) fun _ _ h => h, (hS.kept.block _ (Array.getElem?_eq_some_iff.1 h.box).1 (fun hk => by have := hI _ (ho _ hk); omega)).trans h.box, fun h0 => ?_, fun h0 => ?_⟩
  · obtain ⟨g, qs, h1, h2, h3, h4, h5⟩ := h.inits h0
    exact ⟨g, qs, h1, h2, h3, h4, h5.ints hv hS⟩
  · obtain ⟨g, qs, h1, h2, h3, h4, h5⟩ := h.mains h0
    exact ⟨g, qs, h1, h2, h3, h4, h5.ints hv hS⟩
theorem SpoilS.set {I : Nat → Prop} {w wr : World} {s : SpecD} {la ia ma : Option Addr} {lc ic mc : Nat} (h : SpoilS I w wr s la ia ma lc ic mc) (hI : ∀ k, I k → k < w.heap.size)
    (g k : Nat) (x : Value) (hg : I g) : SpoilS I w (wr.setCell ⟨g, k * 11, none⟩ x) s la ia ma lc ic mc := by
  have hS := Shaped.set (I := (· = g)) wr g (k * 11) x rfl
  refine ⟨h.kept.trans (hS.kept.weaken fun k hk => hk ▸ hg) fun _ _ h => h, (hS.kept.block _ (Array.getElem?_eq_some_iff.1 h.box).1 (fun hk => by have := hI _ hg; omega)).trans h.box, fun h0 => ?_, fun h0 => ?_⟩
  · obtain ⟨g, qs, h1, h2, h3, h4, h5⟩ := h.inits h0
    exact ⟨g, qs, h1, h2, h3, h4, h5.set _ _ _⟩
  · obtain ⟨g, qs, h1, h2, h3, h4, h5⟩ := h.mains h0
    exact ⟨g, qs, h1, h2, h3, h4, h5.set _ _ _⟩
end Go.Proofs.YtgelbkgkjkeccaaGreatDoor
