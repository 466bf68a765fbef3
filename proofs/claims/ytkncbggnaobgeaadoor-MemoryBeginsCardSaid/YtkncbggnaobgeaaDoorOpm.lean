/- An engine for walking a Go function, fourth part: the operations on memory, calls. Plain theorems over any program. -/
import Derived.Test.YtkncbggnaobgeaaDoorOps
namespace Go.Proofs.YtkncbggnaobgeaaDoor
open Go.RowKit
set_option linter.unusedVariables false
set_option linter.unusedSimpArgs false
set_option maxRecDepth 100000

section
variable {P : Program} {ops : Array Oper} {Q : Exit → Act → World → Prop} {n : Nat} {ds : List Deferred} {e e' : Env} {w w' w0 : World} {rest : List Oper} {S : List Nat} {H : Hp}
variable {d : Nat} {v : Value} {ty : TypeId} {pos : String} {af : Array Edge}

/-! ### Addresses -/
def fieldB (P : Program) (T : TypeId) (i off : Nat) : Bool :=
  match P.underlying T with
  | some (.struct fs) => match fs[i]? with
    | some f => f.offset == off && (match P.info? f.type with | some j => j.size != 0 | none => false)
    | none => false
  | _ => false
theorem run_fieldAt {T : TypeId} {i off : Nat} (h : fieldB P T i off = true) (b o : Nat) (w : World) : (Instr.fieldAt T (.pointer (some ⟨b, o, none⟩)) i).run P w = .ok (.pointer (some ⟨b, o + off, none⟩)) w := by
  unfold fieldB at h
  cases hu : P.underlying T with
  | none => simp [hu] at h
  | some dsc =>
    rw [hu] at h
    cases dsc with
    | struct fs =>
      simp only at h
      cases hf : fs[i]? with
      | none => simp [hf] at h
      | some f =>
        rw [hf] at h
        simp only [Bool.and_eq_true, beq_iff_eq] at h
        obtain ⟨h1, h2⟩ := h
        cases hi : P.info? f.type with
        | none => simp [hi] at h2
        | some j =>
          rw [hi] at h2
          have h3 : j.size ≠ 0 := by simpa using h2
          simp only [Instr.fieldAt, Sem.run_bind, run_underlying hu, Result.andThen_ok, hf, Instr.sureAddr, Sem.run_pure, fieldPlace, sizeOf, typeInfo, run_program, hi, h3, if_false, h1, addr_add]
    | _ => simp at h
theorem WL.fieldAddr {T : TypeId} {i off b o : Nat} {x : Operand} (hT : fieldB P T i off = true) (hx : ev e x = some (.pointer (some ⟨b, o, none⟩))) (hdn : Nat.blt d n = true)
    (h : WL P ops Q n ds rest ((d, .pointer (some ⟨b, o + off, none⟩)) :: e) w) : WL P ops Q n ds ({ dst := some d, op := .fieldAddr T x i, type := ty, pos, after := af, guard := none } :: rest) e w :=
  WL.op rfl rfl hdn (fun a ha => by simp only [execOp, ha.ev hx, Sem.run_bind, run_fieldAt hT, Result.andThen_ok, Sem.run_pure]) h

def arrB (P : Program) (T : TypeId) (len sz : Nat) : Bool :=
  match P.underlying T with
  | some (.array l el) => l == len && (match P.info? el with | some j => j.size == sz | none => false)
  | _ => false
def slcB (P : Program) (T : TypeId) (sz : Nat) : Bool :=
  match P.underlying T with
  | some (.slice el) => (match P.info? el with | some j => j.size == sz | none => false)
  | _ => false
theorem arrB_out {T : TypeId} {len sz : Nat} (h : arrB P T len sz = true) : ∃ el i, P.underlying T = some (.array len el) ∧ P.info? el = some i ∧ i.size = sz := by
  unfold arrB at h
  cases hu : P.underlying T with
  | none => simp [hu] at h
  | some dsc =>
    rw [hu] at h
    cases dsc with
    | array l el =>
      simp only [Bool.and_eq_true, beq_iff_eq] at h
      obtain ⟨h1, h2⟩ := h
      cases hi : P.info? el with
      | none => simp [hi] at h2
      | some j => rw [hi] at h2; simp only [beq_iff_eq] at h2; exact ⟨el, j, by rw [h1], hi, h2⟩
    | _ => simp at h
theorem slcB_out {T : TypeId} {sz : Nat} (h : slcB P T sz = true) : ∃ el i, P.underlying T = some (.slice el) ∧ P.info? el = some i ∧ i.size = sz := by
  unfold slcB at h
  cases hu : P.underlying T with
  | none => simp [hu] at h
  | some dsc =>
    rw [hu] at h
    cases dsc with
    | slice el =>
      simp only at h
      cases hi : P.info? el with
      | none => simp [hi] at h
      | some j => rw [hi] at h; simp only [beq_iff_eq] at h; exact ⟨el, j, rfl, hi, h⟩
    | _ => simp at h
theorem WL.idxArr {T : TypeId} {len sz b o k : Nat} {x y : Operand} {kd : IntKind} {z : Int} (hT : arrB P T len sz = true) (hx : ev e x = some (.pointer (some ⟨b, o, none⟩))) (hy : ev e y = some (.int kd z)) (hz : z = (k : Int)) (hk : k < len) (hdn : Nat.blt d n = true)
    (h : WL P ops Q n ds rest ((d, .pointer (some ⟨b, o + k * sz, none⟩)) :: e) w) : WL P ops Q n ds ({ dst := some d, op := .indexAddr T x y, type := ty, pos, after := af, guard := none } :: rest) e w := by
  subst hz
  obtain ⟨el, i, hu, hi, hs⟩ := arrB_out hT
  refine WL.op rfl rfl hdn (fun a ha => ?_) h
  have h1 : (0 : Int) ≤ (k : Int) ∧ (k : Int) < (len : Int) := by omega
  simp only [execOp, ha.ev hx, ha.ev hy, Instr.indexAt, asIntOf, Sem.run_bind, Sem.run_pure, Result.andThen_ok, run_underlying hu, Instr.sureAddr, h1, and_self, if_true, sizeOf, typeInfo, run_program, hi, hs, Int.toNat_natCast, addr_add]
theorem WL.idxSlc {T : TypeId} {sz b o k len cap : Nat} {x y : Operand} {kd : IntKind} {z : Int} (hT : slcB P T sz = true) (hx : ev e x = some (.slice (some ⟨b, o, none⟩) len cap)) (hy : ev e y = some (.int kd z)) (hz : z = (k : Int)) (hk : k < len) (hdn : Nat.blt d n = true)
    (h : WL P ops Q n ds rest ((d, .pointer (some ⟨b, o + k * sz, none⟩)) :: e) w) : WL P ops Q n ds ({ dst := some d, op := .indexAddr T x y, type := ty, pos, after := af, guard := none } :: rest) e w := by
  subst hz
  obtain ⟨el, i, hu, hi, hs⟩ := slcB_out hT
  refine WL.op rfl rfl hdn (fun a ha => ?_) h
  have h1 : (0 : Int) ≤ (k : Int) ∧ (k : Int) < (len : Int) := by omega
  simp only [execOp, ha.ev hx, ha.ev hy, Instr.indexAt, asIntOf, Sem.run_bind, Sem.run_pure, Result.andThen_ok, run_underlying hu, h1, and_self, if_true, sizeOf, typeInfo, run_program, hi, hs, Int.toNat_natCast, addr_add]

/-! ### Loads and stores -/
theorem WL.load {T : TypeId} {x : Operand} {ad : Addr} (hx : ev e x = some (.pointer (some ad))) (hr : Rd P w T ad v) (hdn : Nat.blt d n = true)
    (h : WL P ops Q n ds rest ((d, v) :: e) w) : WL P ops Q n ds ({ dst := some d, op := .load T x, type := ty, pos, after := af, guard := none } :: rest) e w :=
  WL.op rfl rfl hdn (fun a ha => by
    unfold Rd at hr
    simp only [execOp, ha.ev hx, Instr.loadAt, Instr.sureAddr, Sem.run_bind, Sem.run_pure, Result.andThen_ok, hr]) h
theorem WL.store {T : TypeId} {x y : Operand} {ad : Addr} (hx : ev e x = some (.pointer (some ad))) (hy : ev e y = some v) (hr : Wrt P w T ad v w')
    (h : WL P ops Q n ds rest e w') : WL P ops Q n ds ({ dst := none, op := .store T x y, type := ty, pos, after := af, guard := none } :: rest) e w :=
  WL.opSkip rfl rfl (fun a ha => by
    unfold Wrt at hr
    simp only [execOp, ha.ev hx, ha.ev hy, Instr.storeAt, Instr.sureAddr, Sem.run_bind, Sem.run_pure, Result.andThen_ok, hr]) h
/-- A load out of the i-th known block. -/
theorem St.rd1 (hS : St w0 S w H) {T : TypeId} {k : Nat} (hT : tyB P T false k = true) (i : Nat) {b o : Nat} {cs : Array Value} {t : TypeId} (hi : H[i]? = some (b, .cells cs t)) (hc : cs[o]? = some v) : Rd P w T ⟨b, o, none⟩ v :=
  Rd.one hT (by rw [cell_of (hS.sat _ (List.mem_of_getElem? hi))]; exact hc)
theorem St.rdA (hS : St w0 S w H) {T : TypeId} {k : Nat} (hT : tyB P T true k = true) (i : Nat) {b o : Nat} {cs : Array Value} {t : TypeId} (hi : H[i]? = some (b, .cells cs t)) (hk : o + k ≤ cs.size) : Rd P w T ⟨b, o, none⟩ (.agg (cs.extract o (o + k))) :=
  Rd.agg hT (hS.sat _ (List.mem_of_getElem? hi)) hk
/-- A store into the i-th known block. -/
theorem WL.storeAt (hS : St w0 S w H) {T : TypeId} {agg : Bool} {k : Nat} (hT : tyB P T agg k = true) (i : Nat) {b o : Nat} {cs : Array Value} {t : TypeId} {x y : Operand} (hx : ev e x = some (.pointer (some ⟨b, o, none⟩))) (hy : ev e y = some v)
    (hi : H[i]? = some (b, .cells cs t)) (hv : v.cells.size = k) (h1 : ∀ u ∈ v.cells.toList, u.oneCell' = true) (hk : o + k ≤ cs.size)
    (h : ∀ w', St w0 S w' (H.set i (b, .cells (wr cs o v.cells.toList) t)) → WL P ops Q n ds rest e w') : WL P ops Q n ds ({ dst := none, op := .store T x y, type := ty, pos, after := af, guard := none } :: rest) e w := by
  obtain ⟨w', hw, hU⟩ := storeVar_blk (P := P) (w := w) hT hv h1 (hS.sat _ (List.mem_of_getElem? hi)) hk
  exact WL.store hx hy hw (h w' (hS.upd hi hU))

/-! ### New blocks -/
def zeroB (P : Program) (T : TypeId) (z : List Value) : Prop := ∀ w : World, (zeroValue T).run P w = .ok (match z with | [] => .agg #[] | [u] => u | _ => .agg z.toArray) w
/-- What the zero of a type is, its cells written out. -/
def ZeroIs (P : Program) (T : TypeId) (z : Array Value) : Prop := ∃ u, u.cells = z ∧ ∀ w : World, (zeroValue T).run P w = .ok u w
theorem zeroIs_of {T : TypeId} {z : Array Value} {u : Value} (h : (P.info? T).map (·.zero) = some (some u)) (hz : u.cells = z) : ZeroIs P T z := by
  refine ⟨u, hz, fun w => ?_⟩
  cases hi : P.info? T with
  | none => rw [hi] at h; cases h
  | some i =>
    rw [hi] at h
    simp only [Option.map_some, Option.some.injEq] at h
    simp [zeroValue, typeInfo, hi, h]
theorem WL.alloc (hS : St w0 S w H) {T : TypeId} {z : Array Value} (hz : ZeroIs P T z) (hdn : Nat.blt d n = true)
    (h : ∀ b w', w.heap.size = b → w0.heap.size ≤ b → St w0 S w' ((b, .cells z T) :: H) → WL P ops Q n ds rest ((d, .pointer (some ⟨b, 0, none⟩)) :: e) w') : WL P ops Q n ds ({ dst := some d, op := .alloc T, type := ty, pos, after := af, guard := none } :: rest) e w := by
  obtain ⟨u, hu, hrun⟩ := hz
  refine WL.op (w' := w.alloc (.cells z T)) (v := .pointer (some ⟨w.heap.size, 0, none⟩)) rfl rfl hdn (fun a ha => ?_) (h _ _ rfl hS.size (hS.alloc _))
  simp only [execOp, Instr.alloc, Sem.run_bind, hrun, Result.andThen_ok, newVar, newRow, run_newObj, Sem.run_pure, hu, World.alloc]
theorem WL.box (hS : St w0 S w H) {T : TypeId} {x : Operand} (hx : ev e x = some v) (hdn : Nat.blt d n = true)
    (h : ∀ b w', w.heap.size = b → w0.heap.size ≤ b → St w0 S w' ((b, .cells v.cells T) :: H) → WL P ops Q n ds rest ((d, .pointer (some ⟨b, 0, none⟩)) :: e) w') : WL P ops Q n ds ({ dst := some d, op := .box T x, type := ty, pos, after := af, guard := none } :: rest) e w := by
  refine WL.op (w' := w.alloc (.cells v.cells T)) (v := .pointer (some ⟨w.heap.size, 0, none⟩)) rfl rfl hdn (fun a ha => ?_) (h _ _ rfl hS.size (hS.alloc _))
  simp only [execOp, Instr.box, ha.ev hx, Sem.run_bind, Result.andThen_ok, newVar, newRow, run_newObj, Sem.run_pure, World.alloc]

/-! ### Calls -/
def callB (P : Program) (f : FuncId) : Bool :=
  match P.funcs[f]? with
  | some fn => fn.name != "runtime.NumGoroutine" && fn.body.isSome
  | none => false
theorem run_callFunc_body {f : FuncId} (h : callB P f = true) (args : Array Value) (w : World) : (callFunc f args).run P w = .ok (.enter f args) w := by
  unfold callB at h
  cases hf : P.funcs[f]? with
  | none => simp [hf] at h
  | some fn =>
    rw [hf] at h
    simp only [Bool.and_eq_true, bne_iff_ne, ne_eq] at h
    have h1 : (fn.name == "runtime.NumGoroutine") = false := by simpa using h.1
    have h2 : fn.body.isNone = false := by cases hb : fn.body <;> simp_all
    simp only [callFunc, Sem.run_bind, run_program, Result.andThen_ok, hf, h1, h2, Bool.false_eq_true, if_false, Sem.run_pure]
theorem WL.call {f : FuncId} {xs : List Operand} {vs : List Value} {ats : Array TypeId} (hf : callB P f = true) (hxs : evs e xs = some vs) (hdn : Nat.blt d n = true)
    (h : Calls P f vs.toArray w fun ed w'' => ∃ v, ed = .returned v ∧ WL P ops Q n ds rest ((d, v) :: e) w'') :
    WL P ops Q n ds ({ dst := some d, op := .call { callee := .value (.func f), args := xs.toArray, argTypes := ats }, type := ty, pos, after := af, guard := none } :: rest) e w := by
  refine WL.opEnter rfl rfl hdn (fun a ha => ?_) h
  have := ha.evs hxs
  simp only [execOp, resolve, Act.eval, Deferred.ofValue, Sem.run_bind, Sem.run_pure, Result.andThen_ok, invoke]
  rw [show (#[] ++ xs.toArray.map a.eval ++ #[] : Array Value) = vs.toArray by simp [this]]
  exact run_callFunc_body hf _ _
theorem WL.callVal {f : FuncId} {x : Operand} {fi ca : List Value} {xs : List Operand} {vs : List Value} {ats : Array TypeId} (hf : callB P f = true) (hx : ev e x = some (.func (.func f) fi.toArray ca.toArray)) (hxs : evs e xs = some vs) (hdn : Nat.blt d n = true)
    (h : Calls P f (fi ++ vs ++ ca).toArray w fun ed w'' => ∃ v, ed = .returned v ∧ WL P ops Q n ds rest ((d, v) :: e) w'') :
    WL P ops Q n ds ({ dst := some d, op := .call { callee := .value x, args := xs.toArray, argTypes := ats }, type := ty, pos, after := af, guard := none } :: rest) e w := by
  refine WL.opEnter rfl rfl hdn (fun a ha => ?_) h
  have := ha.evs hxs
  simp only [execOp, resolve, ha.ev hx, Deferred.ofValue, Sem.run_bind, Sem.run_pure, Result.andThen_ok, invoke]
  rw [show (fi.toArray ++ xs.toArray.map a.eval ++ ca.toArray : Array Value) = (fi ++ vs ++ ca).toArray by simp [this]]
  exact run_callFunc_body hf _ _
theorem WL.makeFunc {fn : Fn} {xs ys : List Operand} {us vs : List Value} (hxs : evs e xs = some us) (hys : evs e ys = some vs) (hdn : Nat.blt d n = true)
    (h : WL P ops Q n ds rest ((d, .func fn us.toArray vs.toArray) :: e) w) : WL P ops Q n ds ({ dst := some d, op := .makeFunc fn xs.toArray ys.toArray, type := ty, pos, after := af, guard := none } :: rest) e w :=
  WL.op rfl rfl hdn (fun a ha => by
    simp only [execOp, Instr.makeFunc, Sem.run_bind, Sem.run_pure, Result.andThen_ok, List.map_toArray, ha.evs hxs, ha.evs hys]) h

/-! ### Builtins -/
theorem WL.builtin {b : Builtin} {xs : List Operand} {vs : List Value} {ats : Array TypeId} (hxs : evs e xs = some vs) (hdn : Nat.blt d n = true)
    (hrun : ∀ cs, (Go.builtin b ats ty cs vs.toArray).run P w = .ok (.value v) w')
    (h : WL P ops Q n ds rest ((d, v) :: e) w') : WL P ops Q n ds ({ dst := some d, op := .call { callee := .builtin b, args := xs.toArray, argTypes := ats }, type := ty, pos, after := af, guard := none } :: rest) e w :=
  WL.op rfl rfl hdn (fun a ha => by
    rw [BigFrame.execOp_builtin, List.map_toArray, List.map_toArray, ha.evs hxs]
    exact hrun _) h
def isSlcB (P : Program) (T : TypeId) : Bool := match P.underlying T with | some (.slice _) => true | _ => false
theorem isSlcB_out {T : TypeId} (h : isSlcB P T = true) : ∃ el, P.underlying T = some (.slice el) := by
  unfold isSlcB at h
  cases hu : P.underlying T with
  | none => simp [hu] at h
  | some dsc => rw [hu] at h; cases dsc <;> simp_all
theorem WL.lenSlc {x : Operand} {T : TypeId} {A : Option Addr} {len cap : Nat} (hT : isSlcB P T = true) (hx : ev e x = some (.slice A len cap)) (hdn : Nat.blt d n = true)
    (h : WL P ops Q n ds rest ((d, .int .i64 (len : Int)) :: e) w) : WL P ops Q n ds ({ dst := some d, op := .call { callee := .builtin .len, args := #[x], argTypes := #[T] }, type := ty, pos, after := af, guard := none } :: rest) e w := by
  obtain ⟨el, hu⟩ := isSlcB_out hT
  refine WL.builtin (xs := [x]) (vs := [.slice A len cap]) (by simp [evs, hx]) hdn (fun cs => ?_) h
  simp [BigFrame.builtin_len, Builtin.len_, run_underlying hu, goInt]
theorem WL.max2 {x y : Operand} {k k' : IntKind} {a b : Int} {ats : Array TypeId} (hx : ev e x = some (.int k a)) (hy : ev e y = some (.int k' b)) (hdn : Nat.blt d n = true)
    (h : WL P ops Q n ds rest ((d, .int k (if b > a then b else a)) :: e) w) : WL P ops Q n ds ({ dst := some d, op := .call { callee := .builtin .max, args := #[x, y], argTypes := ats }, type := ty, pos, after := af, guard := none } :: rest) e w := by
  refine WL.builtin (xs := [x, y]) (vs := [.int k a, .int k' b]) (by simp [evs, hx, hy]) hdn (fun cs => ?_) h
  simp [BigFrame.builtin_max, Builtin.max_, Builtin.max2]
theorem WL.min2 {x y : Operand} {k k' : IntKind} {a b : Int} {ats : Array TypeId} (hx : ev e x = some (.int k a)) (hy : ev e y = some (.int k' b)) (hdn : Nat.blt d n = true)
    (h : WL P ops Q n ds rest ((d, .int k (if b < a then b else a)) :: e) w) : WL P ops Q n ds ({ dst := some d, op := .call { callee := .builtin .min, args := #[x, y], argTypes := ats }, type := ty, pos, after := af, guard := none } :: rest) e w := by
  refine WL.builtin (xs := [x, y]) (vs := [.int k a, .int k' b]) (by simp [evs, hx, hy]) hdn (fun cs => ?_) h
  simp [BigFrame.builtin_min, Builtin.min_, Builtin.min2]

/-! ### Conversions between integers; elements of array values; slices -/
def intB (P : Program) (T : TypeId) (k : IntKind) : Bool := match P.underlying T with | some (.int k') => k == k' | _ => false
theorem intB_out {T : TypeId} {k : IntKind} (h : intB P T k = true) : P.underlying T = some (.int k) := by
  unfold intB at h
  cases hu : P.underlying T with
  | none => simp [hu] at h
  | some dsc => rw [hu] at h; cases dsc <;> simp_all
theorem WL.convert {src dst : TypeId} {x : Operand} {k k' k'' : IntKind} {z r : Int} (hsrc : intB P src k'' = true) (hdst : intB P dst k = true) (hx : ev e x = some (.int k' z)) (hr : k.wrap z = r) (hdn : Nat.blt d n = true)
    (h : WL P ops Q n ds rest ((d, .int k r) :: e) w) : WL P ops Q n ds ({ dst := some d, op := .convert src dst x, type := ty, pos, after := af, guard := none } :: rest) e w :=
  WL.op rfl rfl hdn (fun a ha => by
    simp only [execOp, ha.ev hx, Go.convert, Sem.run_bind, run_underlying (intB_out hsrc), run_underlying (intB_out hdst), Result.andThen_ok, Conv.intToInt, Sem.run_pure, hr]) h
/-- A byte of a constant string, by a function of the index. -/
theorem WL.indexStr {T : TypeId} {x y : Operand} {s : ByteArray} {k m : Nat} {g : Nat → Nat} {kd : IntKind} {z : Int} (hT : P.underlying T = some .string) (hx : ev e x = some (.string s)) (hy : ev e y = some (.int kd z)) (hz : z = (k : Int))
    (hb : ∀ i, i < m → (s[i]?).map (·.toNat) = some (g i)) (hk : k < m) (hdn : Nat.blt d n = true)
    (h : WL P ops Q n ds rest ((d, .int .u8 (g k : Int)) :: e) w) : WL P ops Q n ds ({ dst := some d, op := .index T x y, type := ty, pos, after := af, guard := none } :: rest) e w := by
  subst hz
  refine WL.op rfl rfl hdn (fun a ha => ?_) h
  have hb' := hb k hk
  cases hs : s[k]? with
  | none => rw [hs] at hb'; cases hb'
  | some b =>
    rw [hs] at hb'
    simp only [Option.map_some, Option.some.injEq] at hb'
    have h1 : (0 : Int) ≤ (k : Int) := by omega
    simp only [execOp, ha.ev hx, ha.ev hy, Instr.index, asIntOf, Sem.run_bind, Sem.run_pure, Result.andThen_ok, run_underlying hT, h1, if_true, Int.toNat_natCast, hs, hb']
end
end Go.Proofs.YtkncbggnaobgeaaDoor
