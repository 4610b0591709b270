/- Specs as bytes, in plain lists: what is put is taken as it was; what is taken was put; what is cut is short; the document's reading and the program's are alike. No program in sight. -/
import Derived.Test.YtgelbkgkjkeccaaGreatDoorE
import Derived.Test.YtgelbkgkjkeccaaGreatDoorWa
namespace Go.Proofs.YtgelbkgkjkeccaaGreatDoor
open Go.RowKit

/-! ### specs as bytes -/
def Alike {α : Type} (p q : RS → RS × α) : Prop := ∀ s, (p s).1 = (q s).1 ∧ ((p s).1.c = 0 → (p s).2 = (q s).2)
theorem Alike.refl {α : Type} (p : RS → RS × α) : Alike p p := fun _ => ⟨rfl, fun _ => rfl⟩
theorem Alike.bind {α β : Type} {p q : RS → RS × α} {f g : α → RS → RS × β} (h : Alike p q) (hf : ∀ x, Alike (f x) (g x)) (sf : ∀ x, Sticky (f x)) (sg : ∀ x, Sticky (g x)) : Alike (bindP p f) (bindP q g) := by
  intro s
  obtain ⟨h1, h2⟩ := h s
  unfold bindP
  by_cases hc : (p s).1.c = 0
  · rw [← h1, ← h2 hc]
    exact hf _ _
  · have e1 := sf (p s).2 _ hc
    have e2 := sg (q s).2 (q s).1 (by rw [← h1]; exact hc)
    rw [e1, e2]
    exact ⟨h1, fun h => absurd h hc⟩
theorem Codec.of_eq {α : Type} {p : RS → RS × α} {e e' : List UInt8} {x : α} (h : Codec p e x) (he : e = e') : Codec p e' x := he ▸ h

def resP : RS → RS × ResD := bindP (numP 1099511627776) fun a => bindP (numP 1099511627776) fun b => bindP (numP 1099511627776) fun c => pureP ⟨a, b, c⟩
def contW (tk : Nat → (RS → RS × Int) → RS → RS × List Int) : RS → RS × CtrD :=
  bindP (textP 16) fun n => bindP (textP 33) fun im => bindP resP fun rq => bindP resP fun lm => bindP (tk 3 (numP 65535)) fun ps => bindP (numP 1000) fun ev => bindP (numP 10) fun fl => pureP ⟨n, im, rq, lm, ps, ev, fl⟩
def contP : RS → RS × CtrD := contW takeAllP
def contR : RS → RS × CtrD := contW takeAllR
def labP : RS → RS × LabelD := bindP (textP 33) fun k => bindP (textP 16) fun v => pureP ⟨k, v⟩
def labsP : RS → RS × List LabelD := takeAllP 4 labP
def labsR : RS → RS × List LabelD := takeAllR 4 labP
def specW (tl : RS → RS × List LabelD) (tk : Nat → RS → RS × List CtrD) : RS → RS × SpecD :=
  bindP (textP 16) fun n => bindP tl fun ls => bindP (tk 3) fun i => bindP (tk 4) fun m => bindP (numP 3) fun r => bindP (numP 1000) fun g => bindP (numP 10) fun p => pureP ⟨n, ls, i, m, r, g, p⟩
def specP : RS → RS × SpecD := specW labsP fun m => takeAllP m contP
def specR : RS → RS × SpecD := specW labsR fun m => takeAllR m contR

theorem resP_sticky : Sticky resP := bindP_sticky (numP_sticky _) fun _ => bindP_sticky (numP_sticky _) fun _ => bindP_sticky (numP_sticky _) fun _ => pureP_sticky _
theorem contW_sticky {tk : Nat → (RS → RS × Int) → RS → RS × List Int} (h : Sticky (tk 3 (numP 65535))) : Sticky (contW tk) :=
  bindP_sticky (textP_sticky _) fun _ => bindP_sticky (textP_sticky _) fun _ => bindP_sticky resP_sticky fun _ => bindP_sticky resP_sticky fun _ => bindP_sticky h fun _ => bindP_sticky (numP_sticky _) fun _ => bindP_sticky (numP_sticky _) fun _ => pureP_sticky _
theorem contP_sticky : Sticky contP := contW_sticky (takeAllP_sticky (numP_sticky _) _)
theorem contR_sticky : Sticky contR := contW_sticky (takeAllR_sticky _ _)
theorem labP_sticky : Sticky labP := bindP_sticky (textP_sticky _) fun _ => bindP_sticky (textP_sticky _) fun _ => pureP_sticky _
theorem labsP_sticky : Sticky labsP := takeAllP_sticky labP_sticky _
theorem labsR_sticky : Sticky labsR := takeAllR_sticky _ _
theorem specW_sticky {tl : RS → RS × List LabelD} {tk : Nat → RS → RS × List CtrD} (hl : Sticky tl) (h : ∀ m, Sticky (tk m)) : Sticky (specW tl tk) :=
  bindP_sticky (textP_sticky _) fun _ => bindP_sticky hl fun _ => bindP_sticky (h _) fun _ => bindP_sticky (h _) fun _ => bindP_sticky (numP_sticky _) fun _ => bindP_sticky (numP_sticky _) fun _ => bindP_sticky (numP_sticky _) fun _ => pureP_sticky _
theorem specP_sticky : Sticky specP := specW_sticky labsP_sticky fun _ => takeAllP_sticky contP_sticky _
theorem specR_sticky : Sticky specR := specW_sticky labsR_sticky fun _ => takeAllR_sticky _ _

theorem contP_alike : Alike contP contR := by
  unfold contP contR contW
  have hn : ∀ m, Alike (takeAllP m (numP 65535)) (takeAllR m (numP 65535)) := fun m s => takeAll_same (fun _ => ⟨rfl, fun _ => rfl⟩) (numP_sticky _) m s
  have s1 : ∀ a b c d e, Sticky (bindP (numP 1000) fun ev => bindP (numP 10) fun fl => pureP (⟨a, b, c, d, e, ev, fl⟩ : CtrD)) := fun _ _ _ _ _ => bindP_sticky (numP_sticky _) fun _ => bindP_sticky (numP_sticky _) fun _ => pureP_sticky _
  have s2 : ∀ a b c d (tk : RS → RS × List Int), Sticky tk → Sticky (bindP tk fun ps => bindP (numP 1000) fun ev => bindP (numP 10) fun fl => pureP (⟨a, b, c, d, ps, ev, fl⟩ : CtrD)) := fun _ _ _ _ _ h => bindP_sticky h fun _ => s1 _ _ _ _ _
  have s3 : ∀ a b c (tk : RS → RS × List Int), Sticky tk → Sticky (bindP resP fun lm => bindP tk fun ps => bindP (numP 1000) fun ev => bindP (numP 10) fun fl => pureP (⟨a, b, c, lm, ps, ev, fl⟩ : CtrD)) := fun _ _ _ _ h => bindP_sticky resP_sticky fun _ => s2 _ _ _ _ _ h
  have s4 : ∀ a b (tk : RS → RS × List Int), Sticky tk → Sticky (bindP resP fun rq => bindP resP fun lm => bindP tk fun ps => bindP (numP 1000) fun ev => bindP (numP 10) fun fl => pureP (⟨a, b, rq, lm, ps, ev, fl⟩ : CtrD)) := fun _ _ _ h => bindP_sticky resP_sticky fun _ => s3 _ _ _ _ h
  have s5 : ∀ a (tk : RS → RS × List Int), Sticky tk → Sticky (bindP (textP 33) fun b => bindP resP fun rq => bindP resP fun lm => bindP tk fun ps => bindP (numP 1000) fun ev => bindP (numP 10) fun fl => pureP (⟨a, b, rq, lm, ps, ev, fl⟩ : CtrD)) := fun _ _ h => bindP_sticky (textP_sticky _) fun _ => s4 _ _ _ h
  have p1 := takeAllP_sticky (numP_sticky 65535) 3
  have p2 := takeAllR_sticky (numP 65535) 3
  exact .bind (.refl _) (fun _ => .bind (.refl _) (fun _ => .bind (.refl _) (fun _ => .bind (.refl _) (fun _ => .bind (hn _) (fun _ => .refl _) (fun _ => s1 _ _ _ _ _) fun _ => s1 _ _ _ _ _) (fun _ => s2 _ _ _ _ _ p1) fun _ => s2 _ _ _ _ _ p2) (fun _ => s3 _ _ _ _ p1) fun _ => s3 _ _ _ _ p2) (fun _ => s4 _ _ _ p1) fun _ => s4 _ _ _ p2) (fun _ => s5 _ _ p1) fun _ => s5 _ _ p2
theorem labsP_alike : Alike labsP labsR := fun s => takeAll_same (fun _ => ⟨rfl, fun _ => rfl⟩) labP_sticky _ s
theorem contsP_alike (m : Nat) : Alike (takeAllP m contP) (takeAllR m contR) := fun s => takeAll_same contP_alike contP_sticky _ s
theorem specP_alike : Alike specP specR := by
  unfold specP specR specW
  have s1 : ∀ a b c d, Sticky (bindP (numP 3) fun r => bindP (numP 1000) fun g => bindP (numP 10) fun p => pureP (⟨a, b, c, d, r, g, p⟩ : SpecD)) := fun _ _ _ _ => bindP_sticky (numP_sticky _) fun _ => bindP_sticky (numP_sticky _) fun _ => bindP_sticky (numP_sticky _) fun _ => pureP_sticky _
  have s2 : ∀ a b c (k : RS → RS × List CtrD), Sticky k → Sticky (bindP k fun m => bindP (numP 3) fun r => bindP (numP 1000) fun g => bindP (numP 10) fun p => pureP (⟨a, b, c, m, r, g, p⟩ : SpecD)) := fun _ _ _ _ h => bindP_sticky h fun _ => s1 _ _ _ _
  have s3 : ∀ a b (k k' : RS → RS × List CtrD), Sticky k → Sticky k' → Sticky (bindP k fun i => bindP k' fun m => bindP (numP 3) fun r => bindP (numP 1000) fun g => bindP (numP 10) fun p => pureP (⟨a, b, i, m, r, g, p⟩ : SpecD)) := fun _ _ _ _ h h' => bindP_sticky h fun _ => s2 _ _ _ _ h'
  have s4 : ∀ a (l : RS → RS × List LabelD) (k k' : RS → RS × List CtrD), Sticky l → Sticky k → Sticky k' → Sticky (bindP l fun ls => bindP k fun i => bindP k' fun m => bindP (numP 3) fun r => bindP (numP 1000) fun g => bindP (numP 10) fun p => pureP (⟨a, ls, i, m, r, g, p⟩ : SpecD)) := fun _ _ _ _ hl h h' => bindP_sticky hl fun _ => s3 _ _ _ _ h h'
  have p1 := fun m => takeAllP_sticky contP_sticky m
  have p2 := fun m => takeAllR_sticky contR m
  exact .bind (.refl _) (fun _ => .bind labsP_alike (fun _ => .bind (contsP_alike _) (fun _ => .bind (contsP_alike _) (fun _ => .refl _) (fun _ => s1 _ _ _ _) fun _ => s1 _ _ _ _) (fun _ => s2 _ _ _ _ (p1 _)) fun _ => s2 _ _ _ _ (p2 _)) (fun _ => s3 _ _ _ _ (p1 _) (p1 _)) fun _ => s3 _ _ _ _ (p2 _) (p2 _)) (fun _ => s4 _ _ _ _ labsP_sticky (p1 _) (p1 _)) fun _ => s4 _ _ _ _ labsR_sticky (p2 _) (p2 _)

def encI (n : Int) : List UInt8 := putN n.toNat
def encRes (r : ResD) : List UInt8 := encI r.cpu ++ encI r.mem ++ encI r.pids
def encCtr (c : CtrD) : List UInt8 := encT c.name ++ encT c.image ++ encRes c.req ++ encRes c.lim ++ encL encI c.ports ++ encI c.every ++ encI c.fails
def encLab (x : LabelD) : List UInt8 := encT x.key ++ encT x.val
def encSpec (s : SpecD) : List UInt8 := encT s.name ++ encL encLab s.labels ++ encL encCtr s.inits ++ encL encCtr s.mains ++ encI s.restart ++ encI s.grace ++ encI s.prio

def NumR (m : Nat) (n : Int) : Prop := 0 ≤ n ∧ n ≤ m
structure ResR (r : ResD) : Prop where
  cpu : NumR 1099511627776 r.cpu
  mem : NumR 1099511627776 r.mem
  pids : NumR 1099511627776 r.pids
structure CtrR (c : CtrD) : Prop where
  name : c.name.size ≤ 16
  image : c.image.size ≤ 33
  req : ResR c.req
  lim : ResR c.lim
  nports : c.ports.length ≤ 3
  ports : ∀ x ∈ c.ports, NumR 65535 x
  every : NumR 1000 c.every
  fails : NumR 10 c.fails
structure LabR (x : LabelD) : Prop where
  key : x.key.size ≤ 33
  val : x.val.size ≤ 16
structure SpecR (s : SpecD) : Prop where
  name : s.name.size ≤ 16
  nlabs : s.labels.length ≤ 4
  labs : ∀ x ∈ s.labels, LabR x
  ninits : s.inits.length ≤ 3
  inits : ∀ x ∈ s.inits, CtrR x
  nmains : s.mains.length ≤ 4
  mains : ∀ x ∈ s.mains, CtrR x
  restart : NumR 3 s.restart
  grace : NumR 1000 s.grace
  prio : NumR 10 s.prio

theorem numP_codecI (m : Nat) (n : Int) (h : NumR m n) (hm : m < 18446744073709551616) : Codec (numP m) (encI n) n := by
  have := numP_codec m n.toNat (by have := h.1; have := h.2; omega) hm
  rw [show ((n.toNat : Nat) : Int) = n from Int.toNat_of_nonneg h.1] at this
  exact this
theorem numP_readsI (m : Nat) : RdsC (numP m) encI (NumR m) := fun l r x h => let ⟨a, b, c, _⟩ := numP_reads m l r x h; ⟨a, b, c⟩
theorem resP_codec (r : ResD) (h : ResR r) : Codec resP (encRes r) r := by
  refine Codec.of_eq (e := encI r.cpu ++ (encI r.mem ++ (encI r.pids ++ []))) ?_ (by simp [encRes])
  refine Codec.bind (numP_codecI _ _ h.cpu (by decide)) ?_ fun _ => bindP_sticky (numP_sticky _) fun _ => bindP_sticky (numP_sticky _) fun _ => pureP_sticky _
  refine Codec.bind (numP_codecI _ _ h.mem (by decide)) ?_ fun _ => bindP_sticky (numP_sticky _) fun _ => pureP_sticky _
  refine Codec.bind (numP_codecI _ _ h.pids (by decide)) ?_ fun _ => pureP_sticky _
  exact pureP_codec _
theorem labP_codec (x : LabelD) (h : LabR x) : Codec labP (encLab x) x := by
  refine Codec.of_eq (e := encT x.key ++ (encT x.val ++ [])) ?_ (by simp [encLab])
  refine Codec.bind (textP_codec _ _ h.key (by decide)) ?_ fun _ => bindP_sticky (textP_sticky _) fun _ => pureP_sticky _
  refine Codec.bind (textP_codec _ _ h.val (by decide)) ?_ fun _ => pureP_sticky _
  exact pureP_codec _
theorem contP_codec (c : CtrD) (h : CtrR c) : Codec contP (encCtr c) c := by
  have s1 : ∀ a b c d e, Sticky (bindP (numP 1000) fun ev => bindP (numP 10) fun fl => pureP (⟨a, b, c, d, e, ev, fl⟩ : CtrD)) := fun _ _ _ _ _ => bindP_sticky (numP_sticky _) fun _ => bindP_sticky (numP_sticky _) fun _ => pureP_sticky _
  have s2 : ∀ a b c d (tk : RS → RS × List Int), Sticky tk → Sticky (bindP tk fun ps => bindP (numP 1000) fun ev => bindP (numP 10) fun fl => pureP (⟨a, b, c, d, ps, ev, fl⟩ : CtrD)) := fun _ _ _ _ _ h => bindP_sticky h fun _ => s1 _ _ _ _ _
  have s3 : ∀ a b c (tk : RS → RS × List Int), Sticky tk → Sticky (bindP resP fun lm => bindP tk fun ps => bindP (numP 1000) fun ev => bindP (numP 10) fun fl => pureP (⟨a, b, c, lm, ps, ev, fl⟩ : CtrD)) := fun _ _ _ _ h => bindP_sticky resP_sticky fun _ => s2 _ _ _ _ _ h
  have s4 : ∀ a b (tk : RS → RS × List Int), Sticky tk → Sticky (bindP resP fun rq => bindP resP fun lm => bindP tk fun ps => bindP (numP 1000) fun ev => bindP (numP 10) fun fl => pureP (⟨a, b, rq, lm, ps, ev, fl⟩ : CtrD)) := fun _ _ _ h => bindP_sticky resP_sticky fun _ => s3 _ _ _ _ h
  have s5 : ∀ a (tk : RS → RS × List Int), Sticky tk → Sticky (bindP (textP 33) fun b => bindP resP fun rq => bindP resP fun lm => bindP tk fun ps => bindP (numP 1000) fun ev => bindP (numP 10) fun fl => pureP (⟨a, b, rq, lm, ps, ev, fl⟩ : CtrD)) := fun _ _ h => bindP_sticky (textP_sticky _) fun _ => s4 _ _ _ h
  have p1 := takeAllP_sticky (numP_sticky 65535) 3
  unfold contP contW
  refine Codec.of_eq (e := encT c.name ++ (encT c.image ++ (encRes c.req ++ (encRes c.lim ++ (encL encI c.ports ++ (encI c.every ++ (encI c.fails ++ []))))))) ?_ (by simp [encCtr])
  refine Codec.bind (textP_codec _ _ h.name (by decide)) ?_ fun x => s5 x _ p1
  refine Codec.bind (textP_codec _ _ h.image (by decide)) ?_ fun x => s4 _ x _ p1
  refine Codec.bind (resP_codec _ h.req) ?_ fun x => s3 _ _ x _ p1
  refine Codec.bind (resP_codec _ h.lim) ?_ fun x => s2 _ _ _ x _ p1
  refine Codec.bind (takeAllP_codec (numP_sticky _) 3 c.ports h.nports (by decide) fun x hx => numP_codecI _ x (h.ports x hx) (by decide)) ?_ fun x => s1 _ _ _ _ x
  refine Codec.bind (numP_codecI _ _ h.every (by decide)) ?_ fun _ => bindP_sticky (numP_sticky _) fun _ => pureP_sticky _
  refine Codec.bind (numP_codecI _ _ h.fails (by decide)) ?_ fun _ => pureP_sticky _
  exact pureP_codec _
theorem labsP_codec (l : List LabelD) (h0 : l.length ≤ 4) (h : ∀ x ∈ l, LabR x) : Codec labsP (encL encLab l) l := takeAllP_codec labP_sticky 4 l h0 (by decide) fun x hx => labP_codec x (h x hx)
theorem specP_codec (s : SpecD) (h : SpecR s) : Codec specP (encSpec s) s := by
  have s1 : ∀ a b c d, Sticky (bindP (numP 3) fun r => bindP (numP 1000) fun g => bindP (numP 10) fun p => pureP (⟨a, b, c, d, r, g, p⟩ : SpecD)) := fun _ _ _ _ => bindP_sticky (numP_sticky _) fun _ => bindP_sticky (numP_sticky _) fun _ => bindP_sticky (numP_sticky _) fun _ => pureP_sticky _
  have p1 := fun m => takeAllP_sticky contP_sticky m
  have s2 : ∀ a b c, Sticky (bindP (takeAllP 4 contP) fun m => bindP (numP 3) fun r => bindP (numP 1000) fun g => bindP (numP 10) fun p => pureP (⟨a, b, c, m, r, g, p⟩ : SpecD)) := fun _ _ _ => bindP_sticky (p1 _) fun _ => s1 _ _ _ _
  have s3 : ∀ a b, Sticky (bindP (takeAllP 3 contP) fun i => bindP (takeAllP 4 contP) fun m => bindP (numP 3) fun r => bindP (numP 1000) fun g => bindP (numP 10) fun p => pureP (⟨a, b, i, m, r, g, p⟩ : SpecD)) := fun _ _ => bindP_sticky (p1 _) fun _ => s2 _ _ _
  have s4 : ∀ a, Sticky (bindP labsP fun ls => bindP (takeAllP 3 contP) fun i => bindP (takeAllP 4 contP) fun m => bindP (numP 3) fun r => bindP (numP 1000) fun g => bindP (numP 10) fun p => pureP (⟨a, ls, i, m, r, g, p⟩ : SpecD)) := fun _ => bindP_sticky labsP_sticky fun _ => s3 _ _
  unfold specP specW
  refine Codec.of_eq (e := encT s.name ++ (encL encLab s.labels ++ (encL encCtr s.inits ++ (encL encCtr s.mains ++ (encI s.restart ++ (encI s.grace ++ (encI s.prio ++ []))))))) ?_ (by simp [encSpec])
  refine Codec.bind (textP_codec _ _ h.name (by decide)) ?_ fun x => s4 x
  refine Codec.bind (labsP_codec _ h.nlabs h.labs) ?_ fun x => s3 _ x
  refine Codec.bind (takeAllP_codec contP_sticky 3 s.inits h.ninits (by decide) fun x hx => contP_codec x (h.inits x hx)) ?_ fun x => s2 _ _ x
  refine Codec.bind (takeAllP_codec contP_sticky 4 s.mains h.nmains (by decide) fun x hx => contP_codec x (h.mains x hx)) ?_ fun x => s1 _ _ _ x
  refine Codec.bind (numP_codecI _ _ h.restart (by decide)) ?_ fun _ => bindP_sticky (numP_sticky _) fun _ => bindP_sticky (numP_sticky _) fun _ => pureP_sticky _
  refine Codec.bind (numP_codecI _ _ h.grace (by decide)) ?_ fun _ => bindP_sticky (numP_sticky _) fun _ => pureP_sticky _
  refine Codec.bind (numP_codecI _ _ h.prio (by decide)) ?_ fun _ => pureP_sticky _
  exact pureP_codec _

theorem pureP_eq {α : Type} {x y : α} {s t : RS} (h : pureP x s = (t, y)) : s = t ∧ x = y := by simpa [pureP] using h
theorem resP_reads : RdsC resP encRes ResR := by
  intro l r x h
  obtain ⟨a, l1, e1, o1, h⟩ := (numP_readsI _).bind (fun _ => bindP_sticky (numP_sticky _) fun _ => bindP_sticky (numP_sticky _) fun _ => pureP_sticky _) h
  obtain ⟨b, l2, e2, o2, h⟩ := (numP_readsI _).bind (fun _ => bindP_sticky (numP_sticky _) fun _ => pureP_sticky _) h
  obtain ⟨c, l3, e3, o3, h⟩ := (numP_readsI _).bind (fun _ => pureP_sticky _) h
  obtain ⟨h1, rfl⟩ := pureP_eq h
  injection h1 with h1
  subst h1
  exact ⟨by rw [e1, e2, e3]; simp [encRes], o1, o2, o3⟩
theorem labP_reads : RdsC labP encLab LabR := by
  intro l r x h
  obtain ⟨a, l1, e1, o1, h⟩ := (textP_reads _).bind (fun _ => bindP_sticky (textP_sticky _) fun _ => pureP_sticky _) h
  obtain ⟨b, l2, e2, o2, h⟩ := (textP_reads _).bind (fun _ => pureP_sticky _) h
  obtain ⟨h1, rfl⟩ := pureP_eq h
  injection h1 with h1
  subst h1
  exact ⟨by rw [e1, e2]; simp [encLab], o1, o2⟩
theorem contP_reads : RdsC contP encCtr CtrR := by
  intro l r x h
  unfold contP contW at h
  have p1 := takeAllP_sticky (numP_sticky 65535) 3
  have s1 : ∀ a b c d e, Sticky (bindP (numP 1000) fun ev => bindP (numP 10) fun fl => pureP (⟨a, b, c, d, e, ev, fl⟩ : CtrD)) := fun _ _ _ _ _ => bindP_sticky (numP_sticky _) fun _ => bindP_sticky (numP_sticky _) fun _ => pureP_sticky _
  have s2 : ∀ a b c d, Sticky (bindP (takeAllP 3 (numP 65535)) fun ps => bindP (numP 1000) fun ev => bindP (numP 10) fun fl => pureP (⟨a, b, c, d, ps, ev, fl⟩ : CtrD)) := fun _ _ _ _ => bindP_sticky p1 fun _ => s1 _ _ _ _ _
  have s3 : ∀ a b c, Sticky (bindP resP fun lm => bindP (takeAllP 3 (numP 65535)) fun ps => bindP (numP 1000) fun ev => bindP (numP 10) fun fl => pureP (⟨a, b, c, lm, ps, ev, fl⟩ : CtrD)) := fun _ _ _ => bindP_sticky resP_sticky fun _ => s2 _ _ _ _
  have s4 : ∀ a b, Sticky (bindP resP fun rq => bindP resP fun lm => bindP (takeAllP 3 (numP 65535)) fun ps => bindP (numP 1000) fun ev => bindP (numP 10) fun fl => pureP (⟨a, b, rq, lm, ps, ev, fl⟩ : CtrD)) := fun _ _ => bindP_sticky resP_sticky fun _ => s3 _ _ _
  obtain ⟨a, l1, e1, o1, h⟩ := (textP_reads _).bind (fun x => bindP_sticky (textP_sticky _) fun y => s4 x y) h
  obtain ⟨b, l2, e2, o2, h⟩ := (textP_reads _).bind (fun x => s4 _ x) h
  obtain ⟨c, l3, e3, o3, h⟩ := resP_reads.bind (fun x => s3 _ _ x) h
  obtain ⟨d, l4, e4, o4, h⟩ := resP_reads.bind (fun x => s2 _ _ _ x) h
  obtain ⟨ps, l5, e5, o5, h⟩ := (takeAllP_reads (numP_sticky _) (numP_readsI _) 3).bind (fun x => s1 _ _ _ _ x) h
  obtain ⟨f, l6, e6, o6, h⟩ := (numP_readsI _).bind (fun _ => bindP_sticky (numP_sticky _) fun _ => pureP_sticky _) h
  obtain ⟨g, l7, e7, o7, h⟩ := (numP_readsI _).bind (fun _ => pureP_sticky _) h
  obtain ⟨h1, rfl⟩ := pureP_eq h
  injection h1 with h1
  subst h1
  exact ⟨by rw [e1, e2, e3, e4, e5, e6, e7]; simp [encCtr], o1, o2, o3, o4, o5.1, o5.2, o6, o7⟩
theorem labsP_reads : RdsC labsP (encL encLab) (fun l => l.length ≤ 4 ∧ ∀ x ∈ l, LabR x) := takeAllP_reads labP_sticky labP_reads 4
theorem specP_reads : RdsC specP encSpec SpecR := by
  intro l r x h
  unfold specP specW at h
  have s1 : ∀ a b c d, Sticky (bindP (numP 3) fun r => bindP (numP 1000) fun g => bindP (numP 10) fun p => pureP (⟨a, b, c, d, r, g, p⟩ : SpecD)) := fun _ _ _ _ => bindP_sticky (numP_sticky _) fun _ => bindP_sticky (numP_sticky _) fun _ => bindP_sticky (numP_sticky _) fun _ => pureP_sticky _
  have p1 := fun m => takeAllP_sticky contP_sticky m
  have s2 : ∀ a b c, Sticky (bindP (takeAllP 4 contP) fun m => bindP (numP 3) fun r => bindP (numP 1000) fun g => bindP (numP 10) fun p => pureP (⟨a, b, c, m, r, g, p⟩ : SpecD)) := fun _ _ _ => bindP_sticky (p1 _) fun _ => s1 _ _ _ _
  have s3 : ∀ a b, Sticky (bindP (takeAllP 3 contP) fun i => bindP (takeAllP 4 contP) fun m => bindP (numP 3) fun r => bindP (numP 1000) fun g => bindP (numP 10) fun p => pureP (⟨a, b, i, m, r, g, p⟩ : SpecD)) := fun _ _ => bindP_sticky (p1 _) fun _ => s2 _ _ _
  have s4 : ∀ a, Sticky (bindP labsP fun ls => bindP (takeAllP 3 contP) fun i => bindP (takeAllP 4 contP) fun m => bindP (numP 3) fun r => bindP (numP 1000) fun g => bindP (numP 10) fun p => pureP (⟨a, ls, i, m, r, g, p⟩ : SpecD)) := fun _ => bindP_sticky labsP_sticky fun _ => s3 _ _
  obtain ⟨a, l1, e1, o1, h⟩ := (textP_reads _).bind (fun x => s4 x) h
  obtain ⟨b, l2, e2, o2, h⟩ := labsP_reads.bind (fun x => s3 _ x) h
  obtain ⟨c, l3, e3, o3, h⟩ := (takeAllP_reads contP_sticky contP_reads 3).bind (fun x => s2 _ _ x) h
  obtain ⟨d, l4, e4, o4, h⟩ := (takeAllP_reads contP_sticky contP_reads 4).bind (fun x => s1 _ _ _ x) h
  obtain ⟨f, l5, e5, o5, h⟩ := (numP_readsI _).bind (fun _ => bindP_sticky (numP_sticky _) fun _ => bindP_sticky (numP_sticky _) fun _ => pureP_sticky _) h
  obtain ⟨g, l6, e6, o6, h⟩ := (numP_readsI _).bind (fun _ => bindP_sticky (numP_sticky _) fun _ => pureP_sticky _) h
  obtain ⟨k, l7, e7, o7, h⟩ := (numP_readsI _).bind (fun _ => pureP_sticky _) h
  obtain ⟨h1, rfl⟩ := pureP_eq h
  injection h1 with h1
  subst h1
  exact ⟨by rw [e1, e2, e3, e4, e5, e6, e7]; simp [encSpec], o1, o2.1, o2.2, o3.1, o3.2, o4.1, o4.2, o5, o6, o7⟩
end Go.Proofs.YtgelbkgkjkeccaaGreatDoor
