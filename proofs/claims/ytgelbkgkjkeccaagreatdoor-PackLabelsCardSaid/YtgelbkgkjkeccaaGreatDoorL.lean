/- errors.As at the program's two targets: the walks. -/
import Derived.Test.YtgelbkgkjkeccaaGreatDoorK
import Derived.Test.YtgelbkgkjkeccaaGreatDoorF
namespace Go.Proofs.YtgelbkgkjkeccaaGreatDoor
open Go.RowKit Go.Extern.Stop Go.Stop Go.Extern

theorem RErr.same {B : Nat} {w : World} : ∀ {ps ps' : List ByteArray} {v : Value} {c c' : Int}, RErr B w v c ps → RErr B w v c' ps' → c = c' ∧ ps = ps'
  | [], [], _, _, _, h, h' => by
    have h1 : _ = _ := h.symm.trans h'
    injection h1 with _ h1
    injection h1 with _ h1
    exact ⟨h1, rfl⟩
  | [], _ :: _, _, _, _, h, ⟨_, _, h', _⟩ => by
    have h1 : _ = _ := (show _ = _ from h).symm.trans h'
    injection h1 with h1
    exact absurd h1 (by decide)
  | _ :: _, [], _, _, _, ⟨_, _, h', _⟩, h => by
    have h1 : _ = _ := (show _ = _ from h).symm.trans h'
    injection h1 with h1
    exact absurd h1 (by decide)
  | p :: ps, p' :: ps', _, _, _, ⟨b, v1, e, _, h0, h1, h2⟩, ⟨b', v1', e', _, h0', h1', h2'⟩ => by
    have h3 := e.symm.trans e'
    injection h3 with _ h3
    injection h3 with h3
    injection h3 with h3
    injection h3 with h3 _ _
    subst h3
    rw [h0] at h0'
    injection h0' with h0'
    injection h0' with h0'
    rw [h1] at h1'
    injection h1' with h1'
    subst h1'
    obtain ⟨r1, r2⟩ := RErr.same h2 h2'
    exact ⟨r1, by rw [h0', r2]⟩
noncomputable def errLen (B : Nat) (w : World) (v : Value) : Nat := by
  classical
  exact if h : ∃ x : Int × List ByteArray, RErr B w v x.1 x.2 then h.choose.2.length else 0
theorem errLen_of {B : Nat} {w : World} {v : Value} {c : Int} {ps : List ByteArray} (h : RErr B w v c ps) : errLen B w v = ps.length := by
  have hx : ∃ x : Int × List ByteArray, RErr B w v x.1 x.2 := ⟨(c, ps), h⟩
  unfold errLen
  rw [dif_pos hx]
  rw [(RErr.same hx.choose_spec h).2]

set_option maxHeartbeats 400000 in
theorem unwrap_any (b : Nat) (v : Value) (w : World) (h : w.cell? ⟨b, 1, none⟩ = some v) :
    Calls Tryz.prog 342 #[.pointer (some ⟨b, 0, none⟩)] w fun e w' => e = .returned v ∧ w = w' := by
  go_enter Tryz.func342, Tryz.ntmps342
  go_wp2
  go_ret
  exact ⟨rfl, rfl⟩


@[go_sem] theorem tas297_340 (v : Value) (w : World) : (Instr.typeAssert (.iface 297 v) 36 340 true).run Tryz.prog w = .ok (.tuple #[.nilIface, .bool false]) w := run_typeAssert_lacksB Tryz.underlying340 (by kernel_rfl) (by kernel_rfl) v 36 w
@[go_sem] theorem tas46_340 (v : Value) (w : World) : (Instr.typeAssert (.iface 46 v) 36 340 true).run Tryz.prog w = .ok (.tuple #[.nilIface, .bool false]) w := run_typeAssert_lacksB Tryz.underlying340 (by kernel_rfl) (by kernel_rfl) v 36 w
@[go_sem] theorem tas297_343 (v : Value) (w : World) : (Instr.typeAssert (.iface 297 v) 36 343 true).run Tryz.prog w = .ok (.tuple #[.iface 297 v, .bool true]) w := run_typeAssert_hasB Tryz.underlying343 (by kernel_rfl) v 36 w
@[go_sem] theorem tas46_343 (v : Value) (w : World) : (Instr.typeAssert (.iface 46 v) 36 343 true).run Tryz.prog w = .ok (.tuple #[.nilIface, .bool false]) w := run_typeAssert_lacksB Tryz.underlying343 (by kernel_rfl) (by kernel_rfl) v 36 w
@[go_sem] theorem tas46_345 (v : Value) (w : World) : (Instr.typeAssert (.iface 46 v) 36 345 true).run Tryz.prog w = .ok (.tuple #[.nilIface, .bool false]) w := run_typeAssert_lacksB Tryz.underlying345 (by kernel_rfl) (by kernel_rfl) v 36 w

theorem cell_lt {w : World} {b o : Nat} {x : Value} (h : w.cell? ⟨b, o, none⟩ = some x) : b < w.heap.size := World.block_lt_of_cell? w _ h
theorem cell_push {w : World} {b o : Nat} {x : Value} {ob : Obj} (h : w.cell? ⟨b, o, none⟩ = some x) : (w.alloc ob).cell? ⟨b, o, none⟩ = some x := by
  rw [World.cell?_alloc_lt _ _ ⟨b, o, none⟩ (cell_lt h)]; exact h
theorem frozen_push {w : World} {b o : Nat} {x : Value} {ob : Obj} {r : Bool} (h : w.cell? ⟨b, o, none⟩ = some x) (hf : w.frozen? ⟨b, o, none⟩ = r) : (w.alloc ob).frozen? ⟨b, o, none⟩ = r := by
  rw [World.frozen?_alloc_old _ _ ⟨b, o, none⟩ (Nat.ne_of_lt (cell_lt h))]; exact hf
theorem kept_alloc (M : Nat → Prop) (w : World) (o : Obj) : Kept M w (w.alloc o) := Kept.of_below ((Below.refl _ _).alloc (Nat.le_refl _) _)
theorem kept_set (w : World) (t o : Nat) (x : Value) : Kept (· = t) w (w.setCell ⟨t, o, none⟩ x) := by
  refine ⟨rfl, rfl, rfl, by simp [World.setCell], fun k hk hn => ?_⟩
  simp only [World.setCell]
  rw [Array.getElem?_modify]
  rw [if_neg (fun h => hn h.symm)]
theorem kept_thru {t : Nat} {w w1 w2 : World} (h : Kept (· = t) w w1) (k : Kept (· = t) w1 w2) : Kept (· = t) w w2 := h.trans k fun _ _ h => h

/-- errors.As and errors.as: '*target' is set. -/
def AsPost (t : Nat) (x : Value) (w : World) (e : Ending) (w' : World) : Prop :=
  e = .returned (.bool true) ∧ w'.cell? ⟨t, 0, none⟩ = some x ∧ w'.frozen? ⟨t, 0, none⟩ = false ∧ Kept (· = t) w w'
theorem set_cell_self {w : World} {t : Nat} {old x : Value} (h : w.cell? ⟨t, 0, none⟩ = some old) : (w.setCell ⟨t, 0, none⟩ x).cell? ⟨t, 0, none⟩ = some x := by
  simp only [World.cell?, World.setCell] at h ⊢
  cases hh : w.heap[t]? with
  | none => simp [hh] at h
  | some o =>
    cases o with
    | cells cs ty r =>
      simp [hh] at h
      have hlt : 0 < cs.size := (Array.getElem?_eq_some_iff.1 h).1
      simp [Array.getElem?_modify, hh, hlt]
    | _ => simp [hh] at h
theorem set_frozen {w : World} {t : Nat} {x : Value} {r : Bool} (h : w.frozen? ⟨t, 0, none⟩ = r) : (w.setCell ⟨t, 0, none⟩ x).frozen? ⟨t, 0, none⟩ = r := by
  simpa using h

set_option maxHeartbeats 2000000 in
theorem as_code (B : Nat) (v : Value) (c : Int) (ps : List ByteArray) (t a : Nat) (old : Value) (w : World) (h : RErr B w v c ps)
    (ha : w.cell? ⟨a, 0, none⟩ = some (.pointer (some ⟨t, 0, none⟩))) (ht : w.cell? ⟨t, 0, none⟩ = some old) (hf : w.frozen? ⟨t, 0, none⟩ = false) :
    Calls Tryz.prog 226 #[v, .iface 179 (.pointer (some ⟨t, 0, none⟩)), .agg #[.pointer (some ⟨7, 179, none⟩), .pointer (some ⟨a, 0, none⟩), .int .u64 150], .iface 335 (.agg #[.pointer (some ⟨7, 46, none⟩)])] w (AsPost t (.int .i64 c) w) := by
  have f280 := @run_callFunc_extern Tryz.prog 280 _ ReflectliteType.typeOf Tryz.func280 (by kernel_rfl) (by kernel_rfl) (by kernel_rfl) (by kernel_rfl)
  have f344 := @run_callFunc_extern Tryz.prog 344 _ (ReflectliteType.relation "AssignableTo" ReflectliteType.assignableTo) Tryz.func344 (by kernel_rfl) (by kernel_rfl) (by kernel_rfl) (by kernel_rfl)
  have f281 := @run_callFunc_extern Tryz.prog 281 _ (ReflectliteValue.method (ReflectliteValue.valueError "reflectlite.Value.Elem" 0) ReflectliteValue.elem) Tryz.func281 (by kernel_rfl) (by kernel_rfl) (by kernel_rfl) (by kernel_rfl)
  have f282 := @run_callFunc_extern Tryz.prog 282 _ ReflectliteValue.set Tryz.func282 (by kernel_rfl) (by kernel_rfl) (by kernel_rfl) (by kernel_rfl)
  have f223 := @run_callFunc_extern Tryz.prog 223 _ (fun args => ReflectliteValue.unpack (args.getD 0 (.tuple #[]))) Tryz.func223 (by kernel_rfl) (by kernel_rfl) (by kernel_rfl) (by kernel_rfl)
  have tO46 := rTypeOf46
  have tO297 := rTypeOf297
  have mA := rMethodAssignableTo
  have mU := rMethodUnwrap
  have a1 := rAssign46_46
  have a2 := rAssign297_46
  have v46 := rValueOf46
  have HB : Below w.heap.size w (w.alloc (.cells #[.pointer (some ⟨7, 179, none⟩), .pointer (some ⟨a, 0, none⟩), .int .u64 150] 276)) := (Below.refl _ _).alloc (Nat.le_refl _) _
  have hl1 : w.heap.size < (w.alloc (.cells #[.pointer (some ⟨7, 179, none⟩), .pointer (some ⟨a, 0, none⟩), .int .u64 150] 276)).heap.size := by simp
  have eV := rElemV179 ⟨a, 0, none⟩ ⟨t, 0, none⟩ (w.alloc (.cells #[.pointer (some ⟨7, 179, none⟩), .pointer (some ⟨a, 0, none⟩), .int .u64 150] 276)) (cell_push ha)
  have st := rSet46 ⟨t, 0, none⟩ ⟨w.heap.size + 1, 0, none⟩ c old ((w.alloc (.cells #[.pointer (some ⟨7, 179, none⟩), .pointer (some ⟨a, 0, none⟩), .int .u64 150] 276)).alloc (.cells #[.int .i64 c] 46))
    (by rw [World.cell?_alloc_at _ _ _ _ (by simp)]; rfl) (cell_push (cell_push ht)) (frozen_push (cell_push ht) (frozen_push ht hf))
  have HK : Hid (AsPost t (.int .i64 c) w (.returned (.bool true)) (((w.alloc (.cells #[.pointer (some ⟨7, 179, none⟩), .pointer (some ⟨a, 0, none⟩), .int .u64 150] 276)).alloc (.cells #[.int .i64 c] 46)).setCell ⟨t, 0, none⟩ (.int .i64 c))) :=
    ⟨rfl, set_cell_self (cell_push (cell_push ht)), set_frozen (frozen_push (cell_push ht) (frozen_push ht hf)), kept_thru (kept_alloc _ _ _) (kept_thru (kept_alloc _ _ _) (kept_set _ _ _ _))⟩
  have h' : RErr B (w.alloc (.cells #[.pointer (some ⟨7, 179, none⟩), .pointer (some ⟨a, 0, none⟩), .int .u64 150] 276)) v c ps := RErr.below HB h
  clear h ht hf ha
  go_enter Tryz.func226, Tryz.ntmps226
  go_wp2
  go_loop [0] (fun u => ∃ qs, RErr B (w.alloc (.cells #[.pointer (some ⟨7, 179, none⟩), .pointer (some ⟨a, 0, none⟩), .int .u64 150] 276)) u c qs) (fun u => errLen B (w.alloc (.cells #[.pointer (some ⟨7, 179, none⟩), .pointer (some ⟨a, 0, none⟩), .int .u64 150] 276)) u)
  case atStart => exact ⟨ps, h'⟩
  case round =>
    obtain ⟨qs, hq⟩ := hrel
    have HL := errLen_of hq
    cases qs with
    | nil =>
      have hq' : _ = _ := hq
      subst hq'
      set_option maxRecDepth 4000 in go_wp2
      go_ret
      exact HK.out
    | cons q qs =>
      obtain ⟨b, u', rfl, hb, h0, h1, h2⟩ := hq
      have HL2 := errLen_of h2
      have HR := Lib.hid h2
      obtain ⟨tt, xx, hx⟩ := RErr.held h2
      subst hx
      clear h2 h0
      set_option maxRecDepth 4000 in go_wp2_with (go_at_call 342; refine (unwrap_any _ _ _ h1).mono ?_; rintro e w2 ⟨rfl, rfl⟩)
      exact ⟨⟨qs, HR.out⟩, by rw [HL2, HL]; simp⟩

set_option maxHeartbeats 2000000 in
theorem as_step (b t a : Nat) (old : Value) (w : World)
    (ha : w.cell? ⟨a, 0, none⟩ = some (.pointer (some ⟨t, 0, none⟩))) (ht : w.cell? ⟨t, 0, none⟩ = some old) (hf : w.frozen? ⟨t, 0, none⟩ = false) :
    Calls Tryz.prog 226 #[.iface 297 (.pointer (some ⟨b, 0, none⟩)), .iface 298 (.pointer (some ⟨t, 0, none⟩)), .agg #[.pointer (some ⟨7, 298, none⟩), .pointer (some ⟨a, 0, none⟩), .int .u64 150], .iface 335 (.agg #[.pointer (some ⟨7, 297, none⟩)])] w (AsPost t (.pointer (some ⟨b, 0, none⟩)) w) := by
  have f280 := @run_callFunc_extern Tryz.prog 280 _ ReflectliteType.typeOf Tryz.func280 (by kernel_rfl) (by kernel_rfl) (by kernel_rfl) (by kernel_rfl)
  have f344 := @run_callFunc_extern Tryz.prog 344 _ (ReflectliteType.relation "AssignableTo" ReflectliteType.assignableTo) Tryz.func344 (by kernel_rfl) (by kernel_rfl) (by kernel_rfl) (by kernel_rfl)
  have f281 := @run_callFunc_extern Tryz.prog 281 _ (ReflectliteValue.method (ReflectliteValue.valueError "reflectlite.Value.Elem" 0) ReflectliteValue.elem) Tryz.func281 (by kernel_rfl) (by kernel_rfl) (by kernel_rfl) (by kernel_rfl)
  have f282 := @run_callFunc_extern Tryz.prog 282 _ ReflectliteValue.set Tryz.func282 (by kernel_rfl) (by kernel_rfl) (by kernel_rfl) (by kernel_rfl)
  have f223 := @run_callFunc_extern Tryz.prog 223 _ (fun args => ReflectliteValue.unpack (args.getD 0 (.tuple #[]))) Tryz.func223 (by kernel_rfl) (by kernel_rfl) (by kernel_rfl) (by kernel_rfl)
  have tO46 := rTypeOf46
  have tO297 := rTypeOf297
  have mA := rMethodAssignableTo
  have mU := rMethodUnwrap
  have a1 := rAssign297_297
  have v297 := rValueOf297
  have eV := rElemV298 ⟨a, 0, none⟩ ⟨t, 0, none⟩ (w.alloc (.cells #[.pointer (some ⟨7, 298, none⟩), .pointer (some ⟨a, 0, none⟩), .int .u64 150] 276)) (cell_push ha)
  have st := rSet297 ⟨t, 0, none⟩ ⟨w.heap.size + 1, 0, none⟩ ⟨b, 0, none⟩ old ((w.alloc (.cells #[.pointer (some ⟨7, 298, none⟩), .pointer (some ⟨a, 0, none⟩), .int .u64 150] 276)).alloc (.cells #[.pointer (some ⟨b, 0, none⟩)] 297))
    (by rw [World.cell?_alloc_at _ _ _ _ (by simp)]; rfl) (cell_push (cell_push ht)) (frozen_push (cell_push ht) (frozen_push ht hf))
  have HK : Hid (AsPost t (.pointer (some ⟨b, 0, none⟩)) w (.returned (.bool true)) (((w.alloc (.cells #[.pointer (some ⟨7, 298, none⟩), .pointer (some ⟨a, 0, none⟩), .int .u64 150] 276)).alloc (.cells #[.pointer (some ⟨b, 0, none⟩)] 297)).setCell ⟨t, 0, none⟩ (.pointer (some ⟨b, 0, none⟩)))) :=
    ⟨rfl, set_cell_self (cell_push (cell_push ht)), set_frozen (frozen_push (cell_push ht) (frozen_push ht hf)), kept_thru (kept_alloc _ _ _) (kept_thru (kept_alloc _ _ _) (kept_set _ _ _ _))⟩
  clear ht hf ha
  go_enter Tryz.func226, Tryz.ntmps226
  go_wp2
  refine wp_loop_rounds 1 ?_
  rw [rounds_succ]
  set_option maxRecDepth 4000 in go_wp2
  go_ret
  exact HK.out
set_option maxHeartbeats 2000000 in
theorem as_nostep (c : Int) (t a : Nat) (w : World) :
    Calls Tryz.prog 226 #[.iface 46 (.int .i64 c), .iface 298 (.pointer (some ⟨t, 0, none⟩)), .agg #[.pointer (some ⟨7, 298, none⟩), .pointer (some ⟨a, 0, none⟩), .int .u64 150], .iface 335 (.agg #[.pointer (some ⟨7, 297, none⟩)])] w fun e w' => e = .returned (.bool false) ∧ Below w.heap.size w w' := by
  have f280 := @run_callFunc_extern Tryz.prog 280 _ ReflectliteType.typeOf Tryz.func280 (by kernel_rfl) (by kernel_rfl) (by kernel_rfl) (by kernel_rfl)
  have f344 := @run_callFunc_extern Tryz.prog 344 _ (ReflectliteType.relation "AssignableTo" ReflectliteType.assignableTo) Tryz.func344 (by kernel_rfl) (by kernel_rfl) (by kernel_rfl) (by kernel_rfl)
  have f281 := @run_callFunc_extern Tryz.prog 281 _ (ReflectliteValue.method (ReflectliteValue.valueError "reflectlite.Value.Elem" 0) ReflectliteValue.elem) Tryz.func281 (by kernel_rfl) (by kernel_rfl) (by kernel_rfl) (by kernel_rfl)
  have f282 := @run_callFunc_extern Tryz.prog 282 _ ReflectliteValue.set Tryz.func282 (by kernel_rfl) (by kernel_rfl) (by kernel_rfl) (by kernel_rfl)
  have f223 := @run_callFunc_extern Tryz.prog 223 _ (fun args => ReflectliteValue.unpack (args.getD 0 (.tuple #[]))) Tryz.func223 (by kernel_rfl) (by kernel_rfl) (by kernel_rfl) (by kernel_rfl)
  have tO46 := rTypeOf46
  have tO297 := rTypeOf297
  have mA := rMethodAssignableTo
  have mU := rMethodUnwrap
  have a1 := rAssign46_297
  have HB : Hid (Below w.heap.size w (w.alloc (.cells #[.pointer (some ⟨7, 298, none⟩), .pointer (some ⟨a, 0, none⟩), .int .u64 150] 276))) := (Below.refl _ _).alloc (Nat.le_refl _) _
  go_enter Tryz.func226, Tryz.ntmps226
  go_wp2
  refine wp_loop_rounds 1 ?_
  rw [rounds_succ]
  set_option maxRecDepth 4000 in go_wp2
  go_ret
  exact ⟨rfl, HB.out⟩

/-- The cell of errors.errorType. -/
def ErrTyped (w : World) : Prop := w.cell? ⟨1, 0, none⟩ = some (.iface 335 (.agg #[.pointer (some ⟨7, 36, none⟩)]))
set_option maxHeartbeats 2000000 in
theorem As_code (B : Nat) (v : Value) (c : Int) (ps : List ByteArray) (t : Nat) (old : Value) (w : World) (hg : ErrTyped w) (h : RErr B w v c ps)
    (ht : w.cell? ⟨t, 0, none⟩ = some old) (hf : w.frozen? ⟨t, 0, none⟩ = false) :
    Calls Tryz.prog 131 #[v, .iface 179 (.pointer (some ⟨t, 0, none⟩))] w (AsPost t (.int .i64 c) w) := by
  have f223 := @run_callFunc_extern Tryz.prog 223 _ (fun args => ReflectliteValue.unpack (args.getD 0 (.tuple #[]))) Tryz.func223 (by kernel_rfl) (by kernel_rfl) (by kernel_rfl) (by kernel_rfl)
  have f224 := @run_callFunc_extern Tryz.prog 224 _ (ReflectliteValue.methodAny (ReflectliteValue.valueError "reflectlite.Value.Type" 0) (fun t _ _ _ => ReflectliteType.toType t)) Tryz.func224 (by kernel_rfl) (by kernel_rfl) (by kernel_rfl) (by kernel_rfl)
  have f225 := @run_callFunc_extern Tryz.prog 225 _ (ReflectliteValue.method (ReflectliteValue.valueError "reflectlite.Value.IsNil" 0) ReflectliteValue.isNil) Tryz.func225 (by kernel_rfl) (by kernel_rfl) (by kernel_rfl) (by kernel_rfl)
  have f333 := @run_callFunc_extern Tryz.prog 333 _ (ReflectliteType.abiMethod fun t => do pure (.int .u8 (← Rtype.kind t))) Tryz.func333 (by kernel_rfl) (by kernel_rfl) (by kernel_rfl) (by kernel_rfl)
  have f346 := @run_callFunc_extern Tryz.prog 346 _ (ReflectliteType.method ReflectliteType.elem) Tryz.func346 (by kernel_rfl) (by kernel_rfl) (by kernel_rfl) (by kernel_rfl)
  have f347 := @run_callFunc_extern Tryz.prog 347 _ (ReflectliteType.relation "Implements" ReflectliteType.implements_) Tryz.func347 (by kernel_rfl) (by kernel_rfl) (by kernel_rfl) (by kernel_rfl)
  have mK := rMethodKind
  have mE := rMethodElem
  have mI := rMethodImplements
  have f1 := rValueOf179
  have f2 := rType179
  have k1 := rKind179
  have k2 := rKind46
  have e1 := rElem179
  have i1 := rImplements46
  have HB : Hid (Below w.heap.size w ((w.alloc (.cells #[.pointer (some ⟨t, 0, none⟩)] 179)).alloc (.cells #[.pointer (some ⟨7, 179, none⟩), .pointer (some ⟨w.heap.size, 0, none⟩), .int .u64 150] 276))) := ((Below.refl _ _).alloc (Nat.le_refl _) _).alloc (by simp) _
  have hA : ((w.alloc (.cells #[.pointer (some ⟨t, 0, none⟩)] 179)).alloc (.cells #[.pointer (some ⟨7, 179, none⟩), .pointer (some ⟨w.heap.size, 0, none⟩), .int .u64 150] 276)).cell? ⟨w.heap.size, 0, none⟩ = some (.pointer (some ⟨t, 0, none⟩)) := by simp
  have n8 := rIsNil179 ⟨w.heap.size, 0, none⟩ ⟨t, 0, none⟩ ((w.alloc (.cells #[.pointer (some ⟨t, 0, none⟩)] 179)).alloc (.cells #[.pointer (some ⟨7, 179, none⟩), .pointer (some ⟨w.heap.size, 0, none⟩), .int .u64 150] 276)) hA
  have hg2 : ((w.alloc (.cells #[.pointer (some ⟨t, 0, none⟩)] 179)).alloc (.cells #[.pointer (some ⟨7, 179, none⟩), .pointer (some ⟨w.heap.size, 0, none⟩), .int .u64 150] 276)).cell? ⟨1, 0, none⟩ = some (.iface 335 (.agg #[.pointer (some ⟨7, 36, none⟩)])) := cell_push (cell_push hg)
  have h' := RErr.below HB.out h
  have ht' := cell_push (ob := .cells #[.pointer (some ⟨7, 179, none⟩), .pointer (some ⟨w.heap.size, 0, none⟩), .int .u64 150] 276) (cell_push (ob := .cells #[.pointer (some ⟨t, 0, none⟩)] 179) ht)
  have hf' := frozen_push (ob := .cells #[.pointer (some ⟨7, 179, none⟩), .pointer (some ⟨w.heap.size, 0, none⟩), .int .u64 150] 276) (cell_push (ob := .cells #[.pointer (some ⟨t, 0, none⟩)] 179) ht) (frozen_push (ob := .cells #[.pointer (some ⟨t, 0, none⟩)] 179) ht hf)
  have HC := Lib.hid (as_code B v c ps t w.heap.size old _ h' hA ht' hf')
  clear h' ht' hf'
  obtain ⟨tt, xx, rfl⟩ := RErr.held h
  clear h hf hg
  go_enter Tryz.func131, Tryz.ntmps131
  set_option maxRecDepth 4000 in go_wp2_with (go_at_call 226; refine HC.out.mono ?_; rintro e w2 ⟨rfl, hx, hy, hz⟩)
  go_ret
  exact ⟨rfl, hx, hy, kept_thru (Kept.of_below HB.out) hz⟩
set_option maxHeartbeats 2000000 in
theorem As_step (b t : Nat) (old : Value) (w : World) (hg : ErrTyped w)
    (ht : w.cell? ⟨t, 0, none⟩ = some old) (hf : w.frozen? ⟨t, 0, none⟩ = false) :
    Calls Tryz.prog 131 #[.iface 297 (.pointer (some ⟨b, 0, none⟩)), .iface 298 (.pointer (some ⟨t, 0, none⟩))] w (AsPost t (.pointer (some ⟨b, 0, none⟩)) w) := by
  have f223 := @run_callFunc_extern Tryz.prog 223 _ (fun args => ReflectliteValue.unpack (args.getD 0 (.tuple #[]))) Tryz.func223 (by kernel_rfl) (by kernel_rfl) (by kernel_rfl) (by kernel_rfl)
  have f224 := @run_callFunc_extern Tryz.prog 224 _ (ReflectliteValue.methodAny (ReflectliteValue.valueError "reflectlite.Value.Type" 0) (fun t _ _ _ => ReflectliteType.toType t)) Tryz.func224 (by kernel_rfl) (by kernel_rfl) (by kernel_rfl) (by kernel_rfl)
  have f225 := @run_callFunc_extern Tryz.prog 225 _ (ReflectliteValue.method (ReflectliteValue.valueError "reflectlite.Value.IsNil" 0) ReflectliteValue.isNil) Tryz.func225 (by kernel_rfl) (by kernel_rfl) (by kernel_rfl) (by kernel_rfl)
  have f333 := @run_callFunc_extern Tryz.prog 333 _ (ReflectliteType.abiMethod fun t => do pure (.int .u8 (← Rtype.kind t))) Tryz.func333 (by kernel_rfl) (by kernel_rfl) (by kernel_rfl) (by kernel_rfl)
  have f346 := @run_callFunc_extern Tryz.prog 346 _ (ReflectliteType.method ReflectliteType.elem) Tryz.func346 (by kernel_rfl) (by kernel_rfl) (by kernel_rfl) (by kernel_rfl)
  have f347 := @run_callFunc_extern Tryz.prog 347 _ (ReflectliteType.relation "Implements" ReflectliteType.implements_) Tryz.func347 (by kernel_rfl) (by kernel_rfl) (by kernel_rfl) (by kernel_rfl)
  have mK := rMethodKind
  have mE := rMethodElem
  have mI := rMethodImplements
  have f1 := rValueOf298
  have f2 := rType298
  have k1 := rKind298
  have k2 := rKind297
  have e1 := rElem298
  have i1 := rImplements297
  have HB : Hid (Below w.heap.size w ((w.alloc (.cells #[.pointer (some ⟨t, 0, none⟩)] 298)).alloc (.cells #[.pointer (some ⟨7, 298, none⟩), .pointer (some ⟨w.heap.size, 0, none⟩), .int .u64 150] 276))) := ((Below.refl _ _).alloc (Nat.le_refl _) _).alloc (by simp) _
  have hA : ((w.alloc (.cells #[.pointer (some ⟨t, 0, none⟩)] 298)).alloc (.cells #[.pointer (some ⟨7, 298, none⟩), .pointer (some ⟨w.heap.size, 0, none⟩), .int .u64 150] 276)).cell? ⟨w.heap.size, 0, none⟩ = some (.pointer (some ⟨t, 0, none⟩)) := by simp
  have n8 := rIsNil298 ⟨w.heap.size, 0, none⟩ ⟨t, 0, none⟩ ((w.alloc (.cells #[.pointer (some ⟨t, 0, none⟩)] 298)).alloc (.cells #[.pointer (some ⟨7, 298, none⟩), .pointer (some ⟨w.heap.size, 0, none⟩), .int .u64 150] 276)) hA
  have hg2 : ((w.alloc (.cells #[.pointer (some ⟨t, 0, none⟩)] 298)).alloc (.cells #[.pointer (some ⟨7, 298, none⟩), .pointer (some ⟨w.heap.size, 0, none⟩), .int .u64 150] 276)).cell? ⟨1, 0, none⟩ = some (.iface 335 (.agg #[.pointer (some ⟨7, 36, none⟩)])) := cell_push (cell_push hg)
  have ht' := cell_push (ob := .cells #[.pointer (some ⟨7, 298, none⟩), .pointer (some ⟨w.heap.size, 0, none⟩), .int .u64 150] 276) (cell_push (ob := .cells #[.pointer (some ⟨t, 0, none⟩)] 298) ht)
  have hf' := frozen_push (ob := .cells #[.pointer (some ⟨7, 298, none⟩), .pointer (some ⟨w.heap.size, 0, none⟩), .int .u64 150] 276) (cell_push (ob := .cells #[.pointer (some ⟨t, 0, none⟩)] 298) ht) (frozen_push (ob := .cells #[.pointer (some ⟨t, 0, none⟩)] 298) ht hf)
  have HC := Lib.hid (as_step b t w.heap.size old _ hA ht' hf')
  clear ht' hf' hf hg
  go_enter Tryz.func131, Tryz.ntmps131
  set_option maxRecDepth 4000 in go_wp2_with (go_at_call 226; refine HC.out.mono ?_; rintro e w2 ⟨rfl, hx, hy, hz⟩)
  go_ret
  exact ⟨rfl, hx, hy, kept_thru (Kept.of_below HB.out) hz⟩
set_option maxHeartbeats 2000000 in
theorem As_nostep (c : Int) (t : Nat) (w : World) (hg : ErrTyped w) :
    Calls Tryz.prog 131 #[.iface 46 (.int .i64 c), .iface 298 (.pointer (some ⟨t, 0, none⟩))] w fun e w' => e = .returned (.bool false) ∧ Below w.heap.size w w' := by
  have f223 := @run_callFunc_extern Tryz.prog 223 _ (fun args => ReflectliteValue.unpack (args.getD 0 (.tuple #[]))) Tryz.func223 (by kernel_rfl) (by kernel_rfl) (by kernel_rfl) (by kernel_rfl)
  have f224 := @run_callFunc_extern Tryz.prog 224 _ (ReflectliteValue.methodAny (ReflectliteValue.valueError "reflectlite.Value.Type" 0) (fun t _ _ _ => ReflectliteType.toType t)) Tryz.func224 (by kernel_rfl) (by kernel_rfl) (by kernel_rfl) (by kernel_rfl)
  have f225 := @run_callFunc_extern Tryz.prog 225 _ (ReflectliteValue.method (ReflectliteValue.valueError "reflectlite.Value.IsNil" 0) ReflectliteValue.isNil) Tryz.func225 (by kernel_rfl) (by kernel_rfl) (by kernel_rfl) (by kernel_rfl)
  have f333 := @run_callFunc_extern Tryz.prog 333 _ (ReflectliteType.abiMethod fun t => do pure (.int .u8 (← Rtype.kind t))) Tryz.func333 (by kernel_rfl) (by kernel_rfl) (by kernel_rfl) (by kernel_rfl)
  have f346 := @run_callFunc_extern Tryz.prog 346 _ (ReflectliteType.method ReflectliteType.elem) Tryz.func346 (by kernel_rfl) (by kernel_rfl) (by kernel_rfl) (by kernel_rfl)
  have f347 := @run_callFunc_extern Tryz.prog 347 _ (ReflectliteType.relation "Implements" ReflectliteType.implements_) Tryz.func347 (by kernel_rfl) (by kernel_rfl) (by kernel_rfl) (by kernel_rfl)
  have mK := rMethodKind
  have mE := rMethodElem
  have mI := rMethodImplements
  have f1 := rValueOf298
  have f2 := rType298
  have k1 := rKind298
  have k2 := rKind297
  have e1 := rElem298
  have i1 := rImplements297
  have HB : Hid (Below w.heap.size w ((w.alloc (.cells #[.pointer (some ⟨t, 0, none⟩)] 298)).alloc (.cells #[.pointer (some ⟨7, 298, none⟩), .pointer (some ⟨w.heap.size, 0, none⟩), .int .u64 150] 276))) := ((Below.refl _ _).alloc (Nat.le_refl _) _).alloc (by simp) _
  have hA : ((w.alloc (.cells #[.pointer (some ⟨t, 0, none⟩)] 298)).alloc (.cells #[.pointer (some ⟨7, 298, none⟩), .pointer (some ⟨w.heap.size, 0, none⟩), .int .u64 150] 276)).cell? ⟨w.heap.size, 0, none⟩ = some (.pointer (some ⟨t, 0, none⟩)) := by simp
  have n8 := rIsNil298 ⟨w.heap.size, 0, none⟩ ⟨t, 0, none⟩ ((w.alloc (.cells #[.pointer (some ⟨t, 0, none⟩)] 298)).alloc (.cells #[.pointer (some ⟨7, 298, none⟩), .pointer (some ⟨w.heap.size, 0, none⟩), .int .u64 150] 276)) hA
  have hg2 : ((w.alloc (.cells #[.pointer (some ⟨t, 0, none⟩)] 298)).alloc (.cells #[.pointer (some ⟨7, 298, none⟩), .pointer (some ⟨w.heap.size, 0, none⟩), .int .u64 150] 276)).cell? ⟨1, 0, none⟩ = some (.iface 335 (.agg #[.pointer (some ⟨7, 36, none⟩)])) := cell_push (cell_push hg)
  clear hg
  go_enter Tryz.func131, Tryz.ntmps131
  set_option maxRecDepth 4000 in go_wp2_with (go_at_call 226; refine (as_nostep _ _ _ _).mono ?_; rintro e w2 ⟨rfl, hz⟩)
  go_ret
  exact ⟨rfl, HB.out.trans (hz.mono HB.out.size)⟩
theorem As_nil (x : Value) (w : World) : Calls Tryz.prog 131 #[.nilIface, x] w fun e w' => e = .returned (.bool false) ∧ w' = w := by
  go_enter Tryz.func131, Tryz.ntmps131
  go_wp2
  go_ret
  exact ⟨rfl, rfl⟩

end Go.Proofs.YtgelbkgkjkeccaaGreatDoor
