/- Numbers and texts as bytes, and read again: the plain law of package wire: what is put is taken as it was; what is taken was put; what is cut is short. No program in sight. -/
namespace Go.Proofs.YtgelbkgkjkeccaaGreatDoor

/-! ### a number's bytes -/
def putF : Nat → Nat → List UInt8
  | 0, n => [UInt8.ofNat n]
  | k + 1, n => if n < 128 then [UInt8.ofNat n] else UInt8.ofNat (n % 128 + 128) :: putF k (n / 128)
def putN (n : Nat) : List UInt8 := putF 9 n
def takeG : List UInt8 → Nat → Nat → Nat × Nat
  | [], _, _ => (0, 0)
  | b :: r, i, n => if 10 ≤ i then (0, 0) else if i = 9 ∧ 1 < b.toNat then (0, 0) else
      if b.toNat < 128 then (if b.toNat = 0 ∧ 0 < i then (0, 0) else (n + b.toNat % 128 * 128 ^ i, i + 1)) else takeG r (i + 1) (n + b.toNat % 128 * 128 ^ i)
def takeN (l : List UInt8) : Nat × Nat := takeG l 0 0

theorem putF_pos (f m : Nat) : 0 < (putF f m).length := by
  cases f <;> simp only [putF]
  · simp
  · split <;> simp
theorem putF_le (f m : Nat) : (putF f m).length ≤ f + 1 := by
  induction f generalizing m with
  | zero => simp [putF]
  | succ f ih =>
    simp only [putF]
    split
    · simp
    · have := ih (m / 128); simp; omega
theorem u8_of (n : Nat) (h : n < 256) : (UInt8.ofNat n).toNat = n := by
  rw [UInt8.toNat_ofNat']; omega
theorem take_put (f : Nat) : ∀ (i acc m : Nat) (r : List UInt8), i + f = 9 → m < 2 * 128 ^ f → (0 < i → 0 < m) → takeG (putF f m ++ r) i acc = (acc + m * 128 ^ i, i + (putF f m).length) := by
  induction f with
  | zero =>
    intro i acc m r hi hm h0
    have hm2 : m < 2 := by simpa using hm
    have hb : (UInt8.ofNat m).toNat = m := u8_of m (by omega)
    simp only [putF, List.cons_append, List.nil_append, takeG, hb]
    rw [if_neg (by omega), if_neg (by omega), if_pos (by omega), if_neg (by omega), Nat.mod_eq_of_lt (by omega)]
    simp
  | succ f ih =>
    intro i acc m r hi hm h0
    simp only [putF]
    by_cases h : m < 128
    · have hb : (UInt8.ofNat m).toNat = m := u8_of m (by omega)
      rw [if_pos h]
      simp only [List.cons_append, List.nil_append, takeG, hb]
      rw [if_neg (by omega), if_neg (by omega), if_pos (by omega), if_neg (by omega), Nat.mod_eq_of_lt (by omega)]
      simp
    · have hb : (UInt8.ofNat (m % 128 + 128)).toNat = m % 128 + 128 := u8_of _ (by omega)
      rw [if_neg h]
      simp only [List.cons_append, takeG, hb]
      rw [if_neg (by omega), if_neg (by omega), if_neg (by omega)]
      have hm' : m / 128 < 2 * 128 ^ f := by
        rw [Nat.pow_succ] at hm
        exact Nat.div_lt_of_lt_mul (by rw [Nat.mul_comm]; rw [Nat.mul_assoc]; exact hm)
      rw [ih (i + 1) _ (m / 128) r (by omega) hm' (by omega)]
      have e1 : (m % 128 + 128) % 128 = m % 128 := by omega
      have e2 : acc + m % 128 * 128 ^ i + m / 128 * 128 ^ (i + 1) = acc + m * 128 ^ i := by
        rw [Nat.pow_succ, Nat.add_assoc]
        congr 1
        have : m / 128 * (128 ^ i * 128) = m / 128 * 128 * 128 ^ i := by rw [Nat.mul_assoc, Nat.mul_comm (128 ^ i)]
        rw [this, ← Nat.add_mul]
        congr 1
        omega
      rw [e1, e2]
      simp only [List.length_cons]
      congr 1
      omega
theorem takeN_put (m : Nat) (r : List UInt8) (hm : m < 18446744073709551616) : takeN (putN m ++ r) = (m, (putN m).length) := by
  have := take_put 9 0 0 m r (by omega) (by have : (2 * 128 ^ 9 : Nat) = 18446744073709551616 := by decide
                                            omega) (by omega)
  simpa [takeN, putN] using this
theorem put_take (l : List UInt8) : ∀ (i acc n j : Nat), i ≤ 9 → takeG l i acc = (n, j) → 0 < j →
    ∃ m r, l = putF (9 - i) m ++ r ∧ n = acc + m * 128 ^ i ∧ j = i + (putF (9 - i) m).length ∧ m < 2 * 128 ^ (9 - i) ∧ (0 < i → 0 < m) := by
  induction l with
  | nil => intro i acc n j _ h h0; simp only [takeG, Prod.mk.injEq] at h; omega
  | cons b r ih =>
    intro i acc n j hi h h0
    simp only [takeG] at h
    rw [if_neg (by omega)] at h
    have hbt := b.toNat_lt
    by_cases h9 : i = 9 ∧ 1 < b.toNat
    · rw [if_pos h9] at h; simp only [Prod.mk.injEq] at h; omega
    rw [if_neg h9] at h
    by_cases hb : b.toNat < 128
    · rw [if_pos hb] at h
      by_cases hz : b.toNat = 0 ∧ 0 < i
      · rw [if_pos hz] at h; simp only [Prod.mk.injEq] at h; omega
      rw [if_neg hz, Nat.mod_eq_of_lt hb] at h
      simp only [Prod.mk.injEq] at h
      have hp : putF (9 - i) b.toNat = [b] := by
        have e : UInt8.ofNat b.toNat = b := by simp
        rcases Nat.lt_or_ge i 9 with hlt | hge
        · obtain ⟨k, hk⟩ : ∃ k, 9 - i = k + 1 := ⟨8 - i, by omega⟩
          rw [hk]; simp only [putF]; rw [if_pos hb, e]
        · have : 9 - i = 0 := by omega
          rw [this]; simp only [putF]; rw [e]
      refine ⟨b.toNat, r, by rw [hp]; rfl, h.1.symm, by rw [hp]; exact h.2.symm, ?_, by omega⟩
      rcases Nat.lt_or_ge i 9 with hlt | hge
      · obtain ⟨k, hk⟩ : ∃ k, 9 - i = k + 1 := ⟨8 - i, by omega⟩
        rw [hk, Nat.pow_succ]
        have : 0 < 128 ^ k := Nat.pow_pos (by omega)
        omega
      · have : 9 - i = 0 := by omega
        rw [this]; omega
    · rw [if_neg hb] at h
      have hi9 : i < 9 := by omega
      obtain ⟨m, r', hr, hn, hj, hm, hp⟩ := ih (i + 1) _ n j (by omega) h h0
      obtain ⟨k, hk⟩ : ∃ k, 9 - i = k + 1 := ⟨8 - i, by omega⟩
      have hk1 : 9 - (i + 1) = k := by omega
      rw [hk1] at hr hj hm
      have hm0 := hp (by omega)
      have hM : ¬ (b.toNat % 128 + m * 128) < 128 := by omega
      have e1 : (b.toNat % 128 + m * 128) % 128 = b.toNat % 128 := by omega
      have e2 : (b.toNat % 128 + m * 128) / 128 = m := by omega
      have e3 : UInt8.ofNat (b.toNat % 128 + 128) = b := by
        have : b.toNat % 128 + 128 = b.toNat := by omega
        rw [this]; simp
      have hpf : putF (9 - i) (b.toNat % 128 + m * 128) = b :: putF k m := by
        rw [hk]; simp only [putF]; rw [if_neg hM, e1, e2, e3]
      refine ⟨b.toNat % 128 + m * 128, r', by rw [hpf, hr]; rfl, ?_, by rw [hpf, hj]; simp; omega, ?_, by omega⟩
      · rw [hn, Nat.pow_succ, Nat.add_assoc, Nat.add_mul]
        congr 2
        rw [Nat.mul_assoc, Nat.mul_comm 128]
      · rw [hk, Nat.pow_succ]
        have : b.toNat % 128 < 128 := Nat.mod_lt _ (by omega)
        have : m * 128 + 128 ≤ 2 * 128 ^ k * 128 := by
          rw [← Nat.succ_mul]; exact Nat.mul_le_mul_right _ hm
        rw [Nat.mul_assoc] at this
        omega
theorem putN_take {l : List UInt8} {n j : Nat} (h : takeN l = (n, j)) (h0 : 0 < j) : ∃ r, l = putN n ++ r ∧ j = (putN n).length ∧ n < 18446744073709551616 := by
  obtain ⟨m, r, h1, h2, h3, h4, _⟩ := put_take l 0 0 n j (by omega) h h0
  have : n = m := by simpa using h2
  subst this
  refine ⟨r, h1, by simpa [putN] using h3, ?_⟩
  have : (2 * 128 ^ 9 : Nat) = 18446744073709551616 := by decide
  simp only [Nat.sub_zero] at h4
  omega
theorem putN_pos (n : Nat) : 0 < (putN n).length := putF_pos 9 n
theorem putN_le (n : Nat) : (putN n).length ≤ 10 := putF_le 9 n

/-- do bytes lack for a number? -/
def lacksB (l : List UInt8) : Bool := decide (l.length < 10) && (l.take 10).all fun b => decide (128 ≤ b.toNat)
theorem putF_parts (f : Nat) : ∀ m, m < 2 * 128 ^ f → ∃ h z, putF f m = h ++ [z] ∧ z.toNat < 128 ∧ ∀ b ∈ h, 128 ≤ b.toNat := by
  induction f with
  | zero =>
    intro m hm
    have hm2 : m < 2 := by simpa using hm
    exact ⟨[], UInt8.ofNat m, rfl, by rw [u8_of m (by omega)]; omega, by simp⟩
  | succ f ih =>
    intro m hm
    simp only [putF]
    by_cases h : m < 128
    · rw [if_pos h]
      exact ⟨[], UInt8.ofNat m, rfl, by rw [u8_of m (by omega)]; omega, by simp⟩
    · rw [if_neg h]
      have hm' : m / 128 < 2 * 128 ^ f := by
        rw [Nat.pow_succ] at hm
        exact Nat.div_lt_of_lt_mul (by rw [Nat.mul_comm]; rw [Nat.mul_assoc]; exact hm)
      obtain ⟨h1, z, e, hz, hb⟩ := ih _ hm'
      refine ⟨UInt8.ofNat (m % 128 + 128) :: h1, z, by rw [e]; rfl, hz, ?_⟩
      intro b hb'
      rcases List.mem_cons.1 hb' with rfl | h2
      · rw [u8_of _ (by omega)]; omega
      · exact hb b h2
theorem putN_parts (m : Nat) (hm : m < 18446744073709551616) : ∃ h z, putN m = h ++ [z] ∧ z.toNat < 128 ∧ ∀ b ∈ h, 128 ≤ b.toNat :=
  putF_parts 9 m (by have : (2 * 128 ^ 9 : Nat) = 18446744073709551616 := by decide
                     omega)
theorem lacks_put (m : Nat) (r : List UInt8) (hm : m < 18446744073709551616) : lacksB (putN m ++ r) = false := by
  obtain ⟨h, z, e, hz, _⟩ := putN_parts m hm
  unfold lacksB
  rw [Bool.and_eq_false_iff]
  rcases Nat.lt_or_ge (putN m ++ r).length 10 with h1 | h1
  · right
    rw [List.take_of_length_le (by omega), List.all_eq_false]
    exact ⟨z, by rw [e]; simp, by simp; omega⟩
  · left; simp at *; omega
theorem lacks_cut (m : Nat) (q t : List UInt8) (hm : m < 18446744073709551616) (h : q ++ t = putN m) (ht : t ≠ []) : lacksB q = true := by
  obtain ⟨h', z, e, _, hb⟩ := putN_parts m hm
  have hl := putN_le m
  rw [← h, List.length_append] at hl
  have hp : 0 < t.length := List.length_pos_iff.2 ht
  have hq : ∀ b ∈ q, 128 ≤ b.toNat := by
    intro b hbq
    apply hb
    rw [e] at h
    have h2 : q ++ t.dropLast = h' := by
      have := congrArg List.dropLast h
      rw [List.dropLast_append_of_ne_nil ht, List.dropLast_concat] at this
      exact this
    rw [← h2]
    exact List.mem_append_left _ hbq
  unfold lacksB
  rw [Bool.and_eq_true, List.all_eq_true]
  refine ⟨by simp; omega, fun b hb' => ?_⟩
  simpa using hq b (List.mem_of_mem_take hb')

/-! ### a reader -/
structure RS where
  l : List UInt8
  c : Int
def bigP (s : RS) : RS × Nat :=
  if s.c ≠ 0 then (s, 0) else if lacksB s.l then (⟨s.l, 40⟩, 0) else if (takeN s.l).2 = 0 then (⟨s.l, 3⟩, 0) else (⟨s.l.drop (takeN s.l).2, 0⟩, (takeN s.l).1)
def numP (most : Nat) (s : RS) : RS × Int :=
  if (bigP s).1.c ≠ 0 then ((bigP s).1, 0) else if most < (bigP s).2 then (⟨s.l, 2⟩, 0) else ((bigP s).1, ((bigP s).2 : Int))
def textP (most : Nat) (s : RS) : RS × ByteArray :=
  if (numP most s).1.c ≠ 0 then ((numP most s).1, ⟨#[]⟩) else if (numP most s).1.l.length < (numP most s).2.toNat then (⟨(numP most s).1.l, 40⟩, ⟨#[]⟩)
  else (⟨(numP most s).1.l.drop (numP most s).2.toNat, 0⟩, ⟨((numP most s).1.l.take (numP most s).2.toNat).toArray⟩)

def Sticky {α : Type} (p : RS → RS × α) : Prop := ∀ s, s.c ≠ 0 → (p s).1 = s
/-- Bytes e are read as x, whatever stands behind; without some at their end they are short. -/
structure Codec {α : Type} (p : RS → RS × α) (e : List UInt8) (x : α) : Prop where
  ok : ∀ r, p ⟨e ++ r, 0⟩ = (⟨r, 0⟩, x)
  cut : ∀ q t, q ++ t = e → t ≠ [] → (p ⟨q, 0⟩).1.c = 40
/-- What is read without an error was written so. -/
def RdsC {α : Type} (p : RS → RS × α) (enc : α → List UInt8) (Ok : α → Prop) : Prop := ∀ l r x, p ⟨l, 0⟩ = (⟨r, 0⟩, x) → l = enc x ++ r ∧ Ok x

theorem bigP_sticky : Sticky bigP := fun s h => by unfold bigP; rw [if_pos h]
theorem numP_sticky (m : Nat) : Sticky (numP m) := fun s h => by
  unfold numP; rw [bigP_sticky s h, if_pos h]
theorem textP_sticky (m : Nat) : Sticky (textP m) := fun s h => by
  unfold textP; rw [numP_sticky m s h, if_pos h]
theorem bigP_codec (n : Nat) (h : n < 18446744073709551616) : Codec bigP (putN n) n := by
  constructor
  · intro r
    unfold bigP
    simp only [takeN_put n r h, lacks_put n r h]
    have := putN_pos n
    rw [if_neg (by simp), if_neg (by simp), if_neg (by omega)]
    simp
  · intro q t hq ht
    unfold bigP
    rw [if_neg (by simp), if_pos (lacks_cut n q t h hq ht)]
theorem numP_codec (m n : Nat) (h : n ≤ m) (hm : m < 18446744073709551616) : Codec (numP m) (putN n) (n : Int) := by
  have hb := bigP_codec n (by omega)
  constructor
  · intro r
    unfold numP
    rw [hb.ok r, if_neg (by simp), if_neg (by simp; omega)]
  · intro q t hq ht
    unfold numP
    have := hb.cut q t hq ht
    rw [if_pos (by rw [this]; decide)]
    exact this
def encT (s : ByteArray) : List UInt8 := putN s.size ++ s.data.toList
theorem ba_size (s : ByteArray) : s.size = s.data.toList.length := by show s.data.size = _; simp
theorem textP_codec (m : Nat) (s : ByteArray) (h : s.size ≤ m) (hm : m < 18446744073709551616) : Codec (textP m) (encT s) s := by
  have hb := numP_codec m s.size h hm
  have hs := ba_size s
  constructor
  · intro r
    unfold textP encT
    rw [List.append_assoc, hb.ok, if_neg (by simp), if_neg (by simp only [Int.toNat_natCast, List.length_append]; omega)]
    simp only [Int.toNat_natCast, hs, List.drop_left, List.take_left]
  · intro q t hq ht
    unfold encT at hq
    unfold textP
    rcases List.append_eq_append_iff.1 hq with ⟨u, h1, h2⟩ | ⟨u, h1, h2⟩
    · -- the number is cut, or just whole
      by_cases hu : u = []
      · subst hu
        simp only [List.append_nil] at h1
        simp only [List.nil_append] at h2
        have hl : 0 < s.data.toList.length := by rw [← h2]; exact List.length_pos_iff.2 ht
        have := hb.ok []
        rw [List.append_nil] at this
        rw [← h1, this, if_neg (by simp), if_pos (by simp; omega)]
      · have := hb.cut q u h1.symm hu
        rw [if_pos (by rw [this]; decide)]
        exact this
    · rw [h1, hb.ok, if_neg (by simp)]
      have hlt : u.length < s.size := by
        rw [hs, h2, List.length_append]
        have := List.length_pos_iff.2 ht
        omega
      rw [if_pos (by simpa using hlt)]
theorem bigP_reads : RdsC bigP putN (fun n => n < 18446744073709551616) := by
  intro l r x h
  unfold bigP at h
  simp only [ne_eq, not_true_eq_false, if_false] at h
  split at h
  · simp at h
  split at h
  · simp at h
  · rename_i h1 h2
    obtain ⟨r', e, hj, hn⟩ := putN_take (l := l) (n := (takeN l).1) (j := (takeN l).2) rfl (by omega)
    simp only [Prod.mk.injEq, RS.mk.injEq, and_true] at h
    obtain ⟨h3, h4⟩ := h
    rw [← h4]
    refine ⟨?_, hn⟩
    rw [← h3, hj]
    have hd := congrArg (List.drop (putN (takeN l).1).length) e
    rw [List.drop_left] at hd
    rw [hd]
    exact e
theorem numP_reads (m : Nat) : RdsC (numP m) (fun n => putN n.toNat) (fun n => 0 ≤ n ∧ n ≤ m ∧ n < 18446744073709551616) := by
  intro l r x h
  unfold numP at h
  split at h
  · rename_i hc
    simp only [Prod.mk.injEq] at h
    rw [h.1] at hc
    exact absurd rfl hc
  split at h
  · simp at h
  · rename_i h1 h2
    simp only [Prod.mk.injEq] at h
    obtain ⟨e, hn⟩ := bigP_reads l r (bigP ⟨l, 0⟩).2 (by rw [← h.1])
    rw [← h.2]
    exact ⟨by simpa using e, by omega, by omega, by omega⟩
theorem textP_reads (m : Nat) : RdsC (textP m) encT (fun s => s.size ≤ m) := by
  intro l r x h
  unfold textP at h
  split at h
  · rename_i hc
    simp only [Prod.mk.injEq] at h
    rw [h.1] at hc
    exact absurd rfl hc
  split at h
  · simp at h
  · rename_i h1 h2
    simp only [ne_eq, Decidable.not_not] at h1
    simp only [Prod.mk.injEq, RS.mk.injEq, and_true] at h
    have hst : (numP m ⟨l, 0⟩).1 = ⟨(numP m ⟨l, 0⟩).1.l, 0⟩ := by
      cases hq : (numP m ⟨l, 0⟩).1 with
      | mk l' c' => rw [hq] at h1; simp only at h1; subst h1; rfl
    obtain ⟨e, h0, hm, _⟩ := numP_reads m l (numP m ⟨l, 0⟩).1.l (numP m ⟨l, 0⟩).2 (Prod.ext hst rfl)
    obtain ⟨h3, h4⟩ := h
    have hsz : x.size = (numP m ⟨l, 0⟩).2.toNat := by
      rw [← h4, ba_size]; simp; omega
    refine ⟨?_, by omega⟩
    unfold encT
    rw [hsz]
    conv => lhs; rw [e]
    rw [List.append_assoc]
    congr 1
    rw [← h3, ← h4]
    simp

/-! ### one behind the other -/
def bindP {α β : Type} (p : RS → RS × α) (f : α → RS → RS × β) (s : RS) : RS × β := f (p s).2 (p s).1
def pureP {α : Type} (x : α) (s : RS) : RS × α := (s, x)
theorem pureP_codec {α : Type} (x : α) : Codec (pureP x) [] x := ⟨fun _ => rfl, fun _ _ h ht => absurd (List.append_eq_nil_iff.1 h).2 ht⟩
theorem pureP_sticky {α : Type} (x : α) : Sticky (pureP x) := fun _ _ => rfl
theorem bindP_sticky {α β : Type} {p : RS → RS × α} {f : α → RS → RS × β} (h : Sticky p) (hf : ∀ x, Sticky (f x)) : Sticky (bindP p f) := fun s hs => by
  unfold bindP; rw [h s hs]; exact hf _ s hs
theorem Codec.bind {α β : Type} {p : RS → RS × α} {f : α → RS → RS × β} {e1 e2 : List UInt8} {x : α} {y : β} (h1 : Codec p e1 x) (h2 : Codec (f x) e2 y) (hf : ∀ x, Sticky (f x)) : Codec (bindP p f) (e1 ++ e2) y := by
  constructor
  · intro r
    unfold bindP
    rw [List.append_assoc, h1.ok]
    exact h2.ok r
  · intro q t hq ht
    unfold bindP
    rcases List.append_eq_append_iff.1 hq with ⟨u, ha, hb⟩ | ⟨u, ha, hb⟩
    · by_cases hu : u = []
      · subst hu
        simp only [List.append_nil] at ha
        simp only [List.nil_append] at hb
        have := h1.ok []
        rw [List.append_nil] at this
        rw [← ha, this]
        exact h2.cut [] t (by simpa using hb) ht
      · have := h1.cut q u ha.symm hu
        rw [hf _ _ (by rw [this]; decide)]
        exact this
    · rw [ha, h1.ok]
      exact h2.cut u t hb.symm ht
theorem mk_zero {s : RS} (h : s.c = 0) : s = ⟨s.l, 0⟩ := by cases s; simp at h; subst h; rfl
theorem RdsC.bind {α β : Type} {p : RS → RS × α} {f : α → RS → RS × β} {enc : α → List UInt8} {Ok : α → Prop} (hp : RdsC p enc Ok) (hf : ∀ x, Sticky (f x)) {l r : List UInt8} {y : β} (h : bindP p f ⟨l, 0⟩ = (⟨r, 0⟩, y)) :
    ∃ x l', l = enc x ++ l' ∧ Ok x ∧ f x ⟨l', 0⟩ = (⟨r, 0⟩, y) := by
  unfold bindP at h
  have hc : (p ⟨l, 0⟩).1.c = 0 := by
    apply Decidable.byContradiction
    intro hc
    have h1 := hf (p ⟨l, 0⟩).2 _ hc
    rw [h] at h1
    simp only at h1
    rw [← h1] at hc
    exact hc rfl
  obtain ⟨e, ho⟩ := hp l _ _ (Prod.ext (mk_zero hc) rfl)
  exact ⟨_, _, e, ho, by rw [← mk_zero hc]; exact h⟩

/-! ### lists -/
/-- The program's: nothing, if there was an error. -/
def listP {α : Type} (one : RS → RS × α) : Nat → RS → RS × List α
  | 0, s => (s, [])
  | n + 1, s => if (one s).1.c ≠ 0 then ((one s).1, []) else if (listP one n (one s).1).1.c ≠ 0 then ((listP one n (one s).1).1, []) else ((listP one n (one s).1).1, (one s).2 :: (listP one n (one s).1).2)
def takeAllP {α : Type} (most : Nat) (one : RS → RS × α) (s : RS) : RS × List α := bindP (numP most) (fun n => listP one n.toNat) s
/-- The document's: as far as there was none. -/
def listR {α : Type} (one : RS → RS × α) : Nat → RS → RS × List α
  | 0, s => (s, [])
  | n + 1, s => if s.c ≠ 0 then (s, []) else ((listR one n (one s).1).1, (one s).2 :: (listR one n (one s).1).2)
def takeAllR {α : Type} (most : Nat) (one : RS → RS × α) (s : RS) : RS × List α := bindP (numP most) (fun n => listR one n.toNat) s
theorem listR_sticky {α : Type} (one : RS → RS × α) (n : Nat) : Sticky (listR one n) := fun s h => by
  cases n with
  | zero => rfl
  | succ n => simp only [listR]; rw [if_pos h]
theorem listP_sticky {α : Type} {one : RS → RS × α} (ho : Sticky one) (n : Nat) : Sticky (listP one n) := fun s h => by
  cases n with
  | zero => rfl
  | succ n => simp only [listP]; rw [ho s h, if_pos h]
theorem numP_err {m : Nat} {s : RS} (h : (numP m s).1.c ≠ 0) : (numP m s).2 = 0 := by
  unfold numP at *
  split
  · rfl
  · rename_i h1
    rw [if_neg h1] at h
    split
    · rfl
    · rename_i h2; rw [if_neg h2] at h; exact absurd h h1
theorem takeAllP_sticky {α : Type} {one : RS → RS × α} (ho : Sticky one) (m : Nat) : Sticky (takeAllP m one) := bindP_sticky (numP_sticky m) fun _ => listP_sticky ho _
theorem takeAllR_sticky {α : Type} (one : RS → RS × α) (m : Nat) : Sticky (takeAllR m one) := bindP_sticky (numP_sticky m) fun _ => listR_sticky one _
theorem list_same {α : Type} {one : RS → RS × α} {two : RS → RS × α} (h : ∀ s, (one s).1 = (two s).1 ∧ ((one s).1.c = 0 → (one s).2 = (two s).2)) (ho : Sticky one) : ∀ (n : Nat) (s : RS), (listP one n s).1 = (listR two n s).1 ∧ ((listP one n s).1.c = 0 → (listP one n s).2 = (listR two n s).2)
  | 0, s => ⟨rfl, fun _ => rfl⟩
  | n + 1, s => by
    simp only [listP, listR]
    by_cases hs : s.c ≠ 0
    · rw [ho s hs, if_pos hs, if_pos hs]
      exact ⟨rfl, fun _ => rfl⟩
    · rw [if_neg hs]
      obtain ⟨h1, h2⟩ := h s
      have ih := list_same h ho n (one s).1
      by_cases h3 : (one s).1.c ≠ 0
      · rw [if_pos h3]
        refine ⟨?_, fun h => absurd h h3⟩
        simp only
        rw [← h1]
        exact (listR_sticky two n _ h3).symm
      · rw [if_neg h3]
        simp only [ne_eq, Decidable.not_not] at h3
        by_cases h4 : (listP one n (one s).1).1.c ≠ 0
        · rw [if_pos h4]
          exact ⟨by simp only; rw [← h1]; exact ih.1, fun h => absurd h h4⟩
        · rw [if_neg h4]
          simp only [ne_eq, Decidable.not_not] at h4
          refine ⟨by simp only; rw [← h1]; exact ih.1, fun _ => ?_⟩
          simp only
          rw [← h1, h2 h3, ih.2 h4]
theorem takeAll_same {α : Type} {one : RS → RS × α} {two : RS → RS × α} (h : ∀ s, (one s).1 = (two s).1 ∧ ((one s).1.c = 0 → (one s).2 = (two s).2)) (ho : Sticky one) (m : Nat) (s : RS) :
    (takeAllP m one s).1 = (takeAllR m two s).1 ∧ ((takeAllP m one s).1.c = 0 → (takeAllP m one s).2 = (takeAllR m two s).2) := list_same h ho _ _
theorem listP_codec {α : Type} {one : RS → RS × α} {enc : α → List UInt8} (ho : Sticky one) : ∀ (l : List α), (∀ x ∈ l, Codec one (enc x) x) → Codec (listP one l.length) (l.flatMap enc) l
  | [], _ => pureP_codec _
  | x :: l, h => by
    have h1 := h x (by simp)
    have h2 := listP_codec ho l fun y hy => h y (by simp [hy])
    constructor
    · intro r
      simp only [List.length_cons, listP, List.flatMap_cons, List.append_assoc]
      rw [h1.ok, if_neg (by simp), h2.ok, if_neg (by simp)]
    · intro q t hq ht
      simp only [List.flatMap_cons] at hq
      simp only [List.length_cons, listP]
      have fin : ∀ s : RS, ((listP one l.length s).1.c ≠ 0) → (if (listP one l.length s).1.c ≠ 0 then ((listP one l.length s).1, ([] : List α)) else ((listP one l.length s).1, (one ⟨q, 0⟩).2 :: (listP one l.length s).2)).1.c = (listP one l.length s).1.c := fun s hs => by rw [if_pos hs]
      rcases List.append_eq_append_iff.1 hq with ⟨u, ha, hb⟩ | ⟨u, ha, hb⟩
      · by_cases hu : u = []
        · subst hu
          simp only [List.append_nil] at ha
          simp only [List.nil_append] at hb
          have := h1.ok []
          rw [List.append_nil] at this
          have hc := h2.cut [] t (by simpa using hb) ht
          rw [ha] at this
          rw [this, if_neg (by simp), if_pos (by rw [hc]; decide)]
          exact hc
        · have := h1.cut q u ha.symm hu
          rw [if_pos (by rw [this]; decide)]
          exact this
      · have hc := h2.cut u t hb.symm ht
        rw [ha, h1.ok, if_neg (by simp), if_pos (by rw [hc]; decide)]
        exact hc
def encL {α : Type} (enc : α → List UInt8) (l : List α) : List UInt8 := putN l.length ++ l.flatMap enc
theorem takeAllP_codec {α : Type} {one : RS → RS × α} {enc : α → List UInt8} (ho : Sticky one) (m : Nat) (l : List α) (hl : l.length ≤ m) (hm : m < 18446744073709551616) (h : ∀ x ∈ l, Codec one (enc x) x) : Codec (takeAllP m one) (encL enc l) l :=
  Codec.bind (numP_codec m l.length hl hm) (by simpa using listP_codec ho l h) fun _ => listP_sticky ho _
theorem listP_reads {α : Type} {one : RS → RS × α} {enc : α → List UInt8} {Ok : α → Prop} (h : RdsC one enc Ok) : ∀ (n : Nat) (l r : List UInt8) (xs : List α), listP one n ⟨l, 0⟩ = (⟨r, 0⟩, xs) → l = xs.flatMap enc ++ r ∧ xs.length = n ∧ ∀ x ∈ xs, Ok x
  | 0, l, r, xs, he => by
    simp only [listP, Prod.mk.injEq, RS.mk.injEq, and_true] at he
    rw [← he.2, ← he.1]
    exact ⟨rfl, rfl, by simp⟩
  | n + 1, l, r, xs, he => by
    simp only [listP] at he
    split at he
    · rename_i hc
      simp only [Prod.mk.injEq] at he
      rw [he.1] at hc
      exact absurd rfl hc
    split at he
    · rename_i hc
      simp only [Prod.mk.injEq] at he
      rw [he.1] at hc
      exact absurd rfl hc
    · rename_i h1 h2
      simp only [ne_eq, Decidable.not_not] at h1 h2
      simp only [Prod.mk.injEq] at he
      obtain ⟨e1, o1⟩ := h l _ _ (Prod.ext (mk_zero h1) rfl)
      rw [mk_zero h1] at he h2
      obtain ⟨e2, e3, o2⟩ := listP_reads h n _ r _ (Prod.ext he.1 rfl)
      rw [← he.2]
      refine ⟨?_, by simp [e3], ?_⟩
      · rw [List.flatMap_cons, List.append_assoc, ← e2]
        exact e1
      · intro x hx
        rcases List.mem_cons.1 hx with rfl | hx
        · exact o1
        · exact o2 x hx
theorem takeAllP_reads {α : Type} {one : RS → RS × α} {enc : α → List UInt8} {Ok : α → Prop} (ho : Sticky one) (h : RdsC one enc Ok) (m : Nat) : RdsC (takeAllP m one) (encL enc) (fun xs => xs.length ≤ m ∧ ∀ x ∈ xs, Ok x) := by
  intro l r xs he
  obtain ⟨n, l', e, ⟨h0, hn, _⟩, h2⟩ := (numP_reads m).bind (fun _ => listP_sticky ho _) he
  obtain ⟨e2, e3, o⟩ := listP_reads h _ _ _ _ h2
  refine ⟨?_, by omega, o⟩
  unfold encL
  rw [e3, List.append_assoc, ← e2]
  exact e
end Go.Proofs.YtgelbkgkjkeccaaGreatDoor
