/- An engine for walking a Go function, third part: one theorem an operation. Plain theorems over any program. -/
import Derived.Test.YtkncbggnaobgeaaDoorMem
namespace Go.Proofs.YtkncbggnaobgeaaDoor
open Go.RowKit
set_option linter.unusedVariables false
set_option linter.unusedSimpArgs false
set_option maxRecDepth 100000

section
variable {P : Program} {ops : Array Oper} {Q : Exit → Act → World → Prop} {n : Nat} {ds : List Deferred} {e e' : Env} {w w' : World} {rest : List Oper}
variable {d : Nat} {v : Value} {ty : TypeId} {pos : String} {af : Array Edge}

theorem WL.op {o : Oper} (hg : o.guard = none) (hd : o.dst = some d) (hdn : Nat.blt d n = true) (hrun : ∀ a, Holds a n ds e → (execOp a.eval o).run P w = .ok (.value v) w')
    (h : WL P ops Q n ds rest ((d, v) :: e) w') : WL P ops Q n ds (o :: rest) e w := fun a ha => wpList_plain hg fun K hK => by
  unfold Oper.wp
  rw [hrun a ha, Oper.upon_value, hd]
  exact hK _ _ (h _ (ha.put (by simpa using hdn)))

theorem WL.opNone {o : Oper} (hg : o.guard = none) (hd : o.dst = none) (hrun : ∀ a, Holds a n ds e → (execOp a.eval o).run P w = .ok (.value v) w')
    (h : WL P ops Q n ds rest e w') : WL P ops Q n ds (o :: rest) e w := fun a ha => wpList_plain hg fun K hK => by
  unfold Oper.wp
  rw [hrun a ha, Oper.upon_value, hd]
  exact hK _ _ (h _ ha)

theorem WL.opSkip {o : Oper} (hg : o.guard = none) (hd : o.dst = none) (hrun : ∀ a, Holds a n ds e → (execOp a.eval o).run P w = .ok .skip w')
    (h : WL P ops Q n ds rest e w') : WL P ops Q n ds (o :: rest) e w := fun a ha => wpList_plain hg fun K hK => by
  unfold Oper.wp
  rw [hrun a ha, Oper.upon_skip, hd]
  exact hK _ _ (h _ ha)

theorem WL.opEnter {o : Oper} {f : FuncId} {args : Array Value} (hg : o.guard = none) (hd : o.dst = some d) (hdn : Nat.blt d n = true)
    (hrun : ∀ a, Holds a n ds e → (execOp a.eval o).run P w = .ok (.enter f args) w')
    (h : Calls P f args w' fun ed w'' => ∃ v, ed = .returned v ∧ WL P ops Q n ds rest ((d, v) :: e) w'') : WL P ops Q n ds (o :: rest) e w := fun a ha => wpList_plain hg fun K hK => by
  unfold Oper.wp
  rw [hrun a ha, Oper.upon_enter]
  refine h.mono ?_
  rintro ed w'' ⟨v, rfl, h'⟩
  rw [hd]
  exact hK _ _ (h' _ (ha.put (by simpa using hdn)))

/-! ### Guards -/
theorem getD_bool {tmps : Array Value} {t : Nat} {b : Bool} (h : tmps.getD t undef = .bool b) : tmps[t]? = some (.bool b) := by
  rcases Nat.lt_or_ge t tmps.size with hl | hg
  · simp only [Array.getD_eq_getD_getElem?] at h
    rw [Array.getElem?_eq_getElem hl] at h ⊢
    simpa using h
  · simp only [Array.getD_eq_getD_getElem?, Array.getElem?_eq_none hg, Option.getD_none] at h
    cases h
theorem yielded_of {a : Act} (ha : Holds a n ds e) {j t : Nat} {b : Bool} (hj : (ops[j]?).bind (·.dst) = some t) (ht : e.lookup t = some (.bool b)) : yielded ops a.tmps j = some b := by
  unfold yielded
  rw [hj]
  simp only [Option.bind_some, getD_bool (ha.get t _ ht)]
/-- The guard says yes. -/
theorem WL.yes {dst : Option Tmp} {op : Op} {j t : Nat} {b : Bool} (hj : (ops[j]?).bind (·.dst) = some t) (ht : e.lookup t = some (.bool b))
    (h : WL P ops Q n ds ({ dst, op, type := ty, pos, after := af, guard := none } :: rest) e w) : WL P ops Q n ds ({ dst, op, type := ty, pos, after := af, guard := some (j, b) } :: rest) e w := fun a ha => by
  have h' := h a ha
  unfold wpList at h' ⊢
  have hw : Region.wanted ({ dst, op, type := ty, pos, after := af, guard := some (j, b) } : Oper) (yielded ops a.tmps) = true := by simp [Region.wanted, yielded_of ha hj ht]
  rw [if_pos (by simp [Region.wanted])] at h'
  rw [if_pos hw]
  exact h'
/-- The guard says no. -/
theorem WL.no {op : Op} {j t : Nat} {b : Bool} (hj : (ops[j]?).bind (·.dst) = some t) (ht : e.lookup t = some (.bool !b)) (hdn : Nat.blt d n = true)
    (h : WL P ops Q n ds rest ((d, undef) :: e) w) : WL P ops Q n ds ({ dst := some d, op, type := ty, pos, after := af, guard := some (j, b) } :: rest) e w := fun a ha => by
  unfold wpList
  have hw : ¬ Region.wanted ({ dst := some d, op, type := ty, pos, after := af, guard := some (j, b) } : Oper) (yielded ops a.tmps) = true := by simp [Region.wanted, yielded_of ha hj ht]
  rw [if_neg hw]
  exact h _ (ha.put (by simpa using hdn))
/-- The guard itself was passed over. -/
theorem WL.noU {op : Op} {j t : Nat} {b : Bool} (hj : (ops[j]?).bind (·.dst) = some t) (ht : e.lookup t = some undef) (htn : Nat.blt t n = true) (hdn : Nat.blt d n = true)
    (h : WL P ops Q n ds rest ((d, undef) :: e) w) : WL P ops Q n ds ({ dst := some d, op, type := ty, pos, after := af, guard := some (j, b) } :: rest) e w := fun a ha => by
  unfold wpList
  have hy : yielded ops a.tmps j = none := by
    unfold yielded
    rw [hj]
    have h1 := ha.get t _ ht
    have hl : t < a.tmps.size := by rw [ha.size]; simpa using htn
    simp only [Array.getD_eq_getD_getElem?, Array.getElem?_eq_getElem hl, Option.getD_some] at h1
    simp only [Option.bind_some, Array.getElem?_eq_getElem hl, h1, undef]
  have hw : ¬ Region.wanted ({ dst := some d, op, type := ty, pos, after := af, guard := some (j, b) } : Oper) (yielded ops a.tmps) = true := by simp [Region.wanted, hy]
  rw [if_neg hw]
  exact h _ (ha.put (by simpa using hdn))
/-- A Bool's two ways; a Bool that is decided. -/
theorem WL.split {l : List Oper} {t : Nat} {b : Bool} (ht : e.lookup t = some (.bool b)) (hT : b = true → WL P ops Q n ds l ((t, .bool true) :: e) w) (hF : b = false → WL P ops Q n ds l ((t, .bool false) :: e) w) : WL P ops Q n ds l e w := by
  cases b with
  | true => exact (hT rfl).sub (Sub.cons ht (Sub.refl _))
  | false => exact (hF rfl).sub (Sub.cons ht (Sub.refl _))
theorem WL.splitD {l : List Oper} {t : Nat} {p : Prop} [Decidable p] (ht : e.lookup t = some (.bool (decide p))) (hT : p → WL P ops Q n ds l ((t, .bool true) :: e) w) (hF : ¬ p → WL P ops Q n ds l ((t, .bool false) :: e) w) : WL P ops Q n ds l e w :=
  WL.split ht (fun h => hT (of_decide_eq_true h)) (fun h => hF (of_decide_eq_false h))
theorem WL.known {l : List Oper} {t : Nat} {b b' : Bool} (ht : e.lookup t = some (.bool b')) (hb : b' = b) (h : WL P ops Q n ds l ((t, .bool b) :: e) w) : WL P ops Q n ds l e w :=
  h.sub (Sub.cons (hb ▸ ht) (Sub.refl _))

/-! ### Copies -/
theorem WL.move {x : Operand} (hx : ev e x = some v) (hdn : Nat.blt d n = true) (h : WL P ops Q n ds rest ((d, v) :: e) w) : WL P ops Q n ds ({ dst := some d, op := .move x, type := ty, pos, after := af, guard := none } :: rest) e w :=
  WL.op rfl rfl hdn (fun a ha => by simp only [execOp, ha.ev hx, Sem.run_pure]) h
theorem WL.assign {x : Operand} (hx : ev e x = some v) (hdn : Nat.blt d n = true) (h : WL P ops Q n ds rest ((d, v) :: e) w) : WL P ops Q n ds ({ dst := some d, op := .assign x, type := ty, pos, after := af, guard := none } :: rest) e w :=
  WL.op rfl rfl hdn (fun a ha => by simp only [execOp, ha.ev hx, Sem.run_pure]) h
theorem WL.pickT {c x y : Operand} (hc : ev e c = some (.bool true)) (hx : ev e x = some v) (hdn : Nat.blt d n = true) (h : WL P ops Q n ds rest ((d, v) :: e) w) : WL P ops Q n ds ({ dst := some d, op := .pick c x y, type := ty, pos, after := af, guard := none } :: rest) e w :=
  WL.op rfl rfl hdn (fun a ha => by simp only [execOp, ha.ev hc, ha.ev hx, Sem.run_pure, Sem.run_bind, asBool, Result.andThen_ok, if_true]) h
theorem WL.pickF {c x y : Operand} (hc : ev e c = some (.bool false)) (hy : ev e y = some v) (hdn : Nat.blt d n = true) (h : WL P ops Q n ds rest ((d, v) :: e) w) : WL P ops Q n ds ({ dst := some d, op := .pick c x y, type := ty, pos, after := af, guard := none } :: rest) e w :=
  WL.op rfl rfl hdn (fun a ha => by simp only [execOp, ha.ev hc, ha.ev hy, Sem.run_pure, Sem.run_bind, asBool, Result.andThen_ok, Bool.false_eq_true, if_false]) h
theorem WL.extract {x : Operand} {vs : List Value} {i : Nat} (hx : ev e x = some (.tuple vs.toArray)) (hi : vs[i]? = some v) (hdn : Nat.blt d n = true) (h : WL P ops Q n ds rest ((d, v) :: e) w) : WL P ops Q n ds ({ dst := some d, op := .extract x i, type := ty, pos, after := af, guard := none } :: rest) e w :=
  WL.op rfl rfl hdn (fun a ha => by simp [execOp, ha.ev hx, Instr.extract, hi]) h
theorem WL.nilCheck {x : Operand} {ad : Addr} (hx : ev e x = some (.pointer (some ad))) (hdn : Nat.blt d n = true) (h : WL P ops Q n ds rest ((d, .pointer (some ad)) :: e) w) : WL P ops Q n ds ({ dst := some d, op := .nilCheck x, type := ty, pos, after := af, guard := none } :: rest) e w :=
  WL.op rfl rfl hdn (fun a ha => by simp only [execOp, ha.ev hx, Sem.run_pure]) h
theorem WL.nilCheckFn {x : Operand} {f : FuncId} {fi ca : Array Value} (hx : ev e x = some (.func (.func f) fi ca)) (hdn : Nat.blt d n = true) (h : WL P ops Q n ds rest ((d, .func (.func f) fi ca) :: e) w) : WL P ops Q n ds ({ dst := some d, op := .nilCheck x, type := ty, pos, after := af, guard := none } :: rest) e w :=
  WL.op rfl rfl hdn (fun a ha => by simp only [execOp, ha.ev hx, Sem.run_pure]) h

/-! ### Arithmetic -/
/-- A binary operation's value, whatever the operands' spelling. -/
def BinV (P : Program) (op : BinOp) (t : TypeId) (u v r : Value) : Prop := ∀ (x y : Operand) (w : World), (do eqGuard op t x y u v; binOp op t u v : Sem Value).run P w = .ok r w
theorem WL.bin {op : BinOp} {t yt : TypeId} {x y : Operand} {u u' r : Value} (hx : ev e x = some u) (hy : ev e y = some u') (hr : BinV P op t u u' r) (hdn : Nat.blt d n = true)
    (h : WL P ops Q n ds rest ((d, r) :: e) w) : WL P ops Q n ds ({ dst := some d, op := .binOp op t x y yt, type := ty, pos, after := af, guard := none } :: rest) e w :=
  WL.op rfl rfl hdn (fun a ha => by
    have := hr x y w
    simp only [Sem.run_bind] at this
    simp only [execOp, ha.ev hx, ha.ev hy, Sem.run_bind, this, Result.andThen_ok, Sem.run_pure]) h
theorem WL.notOp {t : TypeId} {x : Operand} {b : Bool} (hx : ev e x = some (.bool b)) (hdn : Nat.blt d n = true)
    (h : WL P ops Q n ds rest ((d, .bool (!b)) :: e) w) : WL P ops Q n ds ({ dst := some d, op := .unOp .not t x, type := ty, pos, after := af, guard := none } :: rest) e w :=
  WL.op rfl rfl hdn (fun a ha => by simp only [execOp, ha.ev hx, Op.unary, Sem.run_bind, Sem.run_pure, Result.andThen_ok]) h
theorem WL.negOp {t : TypeId} {x : Operand} {k : IntKind} {z : Int} (hx : ev e x = some (.int k z)) (hdn : Nat.blt d n = true)
    (h : WL P ops Q n ds rest ((d, .int k (k.wrap (0 - z))) :: e) w) : WL P ops Q n ds ({ dst := some d, op := .unOp .neg t x, type := ty, pos, after := af, guard := none } :: rest) e w :=
  WL.op rfl rfl hdn (fun a ha => by simp only [execOp, ha.ev hx, Op.unary, Op.intArith, Sem.run_bind, Sem.run_pure, Result.andThen_ok]) h

section
variable {t : TypeId} {k : IntKind} {x y r : Int}
theorem beq_dec (x y : Int) : (x == y) = decide (x = y) := by by_cases h : x = y <;> simp [h]
theorem eqGuard_int (op : BinOp) (t : TypeId) (a b : Operand) (k k' : IntKind) (x y : Int) (w : World) : (eqGuard op t a b (.int k x) (.int k' y)).run P w = .ok () w := by
  cases op <;> rfl
theorem binv_add (hr : k.wrap (x + y) = r) : BinV P .add t (.int k x) (.int k y) (.int k r) := fun a b w => by
  simp [eqGuard_int, binOp, Op.intArith, hr]
theorem binv_sub (hr : k.wrap (x - y) = r) : BinV P .sub t (.int k x) (.int k y) (.int k r) := fun a b w => by
  simp [eqGuard_int, binOp, Op.intArith, hr]
theorem binv_mul (hr : k.wrap (x * y) = r) : BinV P .mul t (.int k x) (.int k y) (.int k r) := fun a b w => by
  simp [eqGuard_int, binOp, Op.intArith, hr]
theorem binv_quo (hy : y ≠ 0) (hr : k.wrap (x.tdiv y) = r) : BinV P .quo t (.int k x) (.int k y) (.int k r) := fun a b w => by
  simp [eqGuard_int, binOp, Op.intDiv, hr, hy]
theorem binv_rem (hy : y ≠ 0) (hr : x.tmod y = r) : BinV P .rem t (.int k x) (.int k y) (.int k r) := fun a b w => by
  simp [eqGuard_int, binOp, Op.intDiv, hr, hy]
theorem binv_eql : BinV P .eql t (.int k x) (.int k y) (.bool (decide (x = y))) := fun a b w => by
  simp [eqGuard_int, binOp, Op.intCmp, beq_dec]
theorem binv_neq : BinV P .neq t (.int k x) (.int k y) (.bool (decide (x ≠ y))) := fun a b w => by
  simp [eqGuard_int, binOp, Op.intCmp, bne, beq_dec]
theorem binv_lss : BinV P .lss t (.int k x) (.int k y) (.bool (decide (x < y))) := fun a b w => by
  simp [eqGuard_int, binOp, Op.intCmp]
theorem binv_leq : BinV P .leq t (.int k x) (.int k y) (.bool (decide (x ≤ y))) := fun a b w => by
  simp [eqGuard_int, binOp, Op.intCmp]
theorem binv_gtr : BinV P .gtr t (.int k x) (.int k y) (.bool (decide (x > y))) := fun a b w => by
  simp [eqGuard_int, binOp, Op.intCmp]
theorem binv_geq : BinV P .geq t (.int k x) (.int k y) (.bool (decide (x ≥ y))) := fun a b w => by
  simp [eqGuard_int, binOp, Op.intCmp]
theorem binv_and (hr : k.wrap (BitVec.ofInt k.bits x &&& BitVec.ofInt k.bits y).toNat = r) : BinV P .and t (.int k x) (.int k y) (.int k r) := fun a b w => by
  simp only [Sem.run_bind, eqGuard_int, Result.andThen_ok, binOp, Op.intBits, ne_eq, not_true_eq_false, if_false, Sem.run_pure, hr]
theorem binv_or (hr : k.wrap (BitVec.ofInt k.bits x ||| BitVec.ofInt k.bits y).toNat = r) : BinV P .or t (.int k x) (.int k y) (.int k r) := fun a b w => by
  simp only [Sem.run_bind, eqGuard_int, Result.andThen_ok, binOp, Op.intBits, ne_eq, not_true_eq_false, if_false, Sem.run_pure, hr]
theorem binv_xor (hr : k.wrap (BitVec.ofInt k.bits x ^^^ BitVec.ofInt k.bits y).toNat = r) : BinV P .xor t (.int k x) (.int k y) (.int k r) := fun a b w => by
  simp only [Sem.run_bind, eqGuard_int, Result.andThen_ok, binOp, Op.intBits, ne_eq, not_true_eq_false, if_false, Sem.run_pure, hr]
theorem binv_shl {k' : IntKind} (hy : 0 ≤ y) (hr : k.wrap (x * 2 ^ (min y.toNat k.bits)) = r) : BinV P .shl t (.int k x) (.int k' y) (.int k r) := fun a b w => by
  have hn : ¬ y < 0 := by omega
  simp only [Sem.run_bind, eqGuard_int, Result.andThen_ok, binOp, Op.shift, hn, if_false, Sem.run_pure, hr]
theorem binv_shr {k' : IntKind} (hy : 0 ≤ y) (hr : x.fdiv (2 ^ (min y.toNat k.bits)) = r) : BinV P .shr t (.int k x) (.int k' y) (.int k r) := fun a b w => by
  have hn : ¬ y < 0 := by omega
  simp only [Sem.run_bind, eqGuard_int, Result.andThen_ok, binOp, Op.shift, hn, if_false, Sem.run_pure, hr]
end

theorem wrap_i64 {x : Int} (h : -9223372036854775808 ≤ x) (h' : x ≤ 9223372036854775807) : IntKind.i64.wrap x = x := by
  rw [IntKind.wrap_i64]; omega
theorem wrap_u64 {x : Int} (h : 0 ≤ x) (h' : x ≤ 18446744073709551615) : IntKind.u64.wrap x = x := by
  simp only [IntKind.wrap, IntKind.bits, IntKind.signed, Bool.false_and, Bool.false_eq_true, if_false]
  omega

/-! ### int's arithmetic where nothing wraps -/
section
variable {t : TypeId} {x y : Int}
theorem iadd (h : -9223372036854775808 ≤ x + y) (h' : x + y ≤ 9223372036854775807) : BinV P .add t (.int .i64 x) (.int .i64 y) (.int .i64 (x + y)) := binv_add (wrap_i64 h h')
theorem isub (h : -9223372036854775808 ≤ x - y) (h' : x - y ≤ 9223372036854775807) : BinV P .sub t (.int .i64 x) (.int .i64 y) (.int .i64 (x - y)) := binv_sub (wrap_i64 h h')
theorem imul (h : -9223372036854775808 ≤ x * y) (h' : x * y ≤ 9223372036854775807) : BinV P .mul t (.int .i64 x) (.int .i64 y) (.int .i64 (x * y)) := binv_mul (wrap_i64 h h')
theorem iquo (h : 0 ≤ x) (h' : x ≤ 9223372036854775807) (hy : 0 < y) : BinV P .quo t (.int .i64 x) (.int .i64 y) (.int .i64 (x / y)) :=
  binv_quo (by omega) (by
    rw [Int.tdiv_eq_ediv_of_nonneg h]
    have h1 : x / y ≤ x := Int.ediv_le_self _ h
    have h2 : 0 ≤ x / y := Int.ediv_nonneg h (by omega)
    exact wrap_i64 (by omega) (by omega))
theorem iquoT (h : -9223372036854775808 ≤ x) (h' : x ≤ 9223372036854775807) (hy : 2 ≤ y) : BinV P .quo t (.int .i64 x) (.int .i64 y) (.int .i64 (x.tdiv y)) :=
  binv_quo (by omega) (by
    have h1 : (x.tdiv y).natAbs = x.natAbs / y.natAbs := Int.natAbs_tdiv x y
    have h2 : x.natAbs / y.natAbs ≤ x.natAbs / 2 := Nat.div_le_div_left (by omega) (by omega)
    generalize x.tdiv y = q at *
    exact wrap_i64 (by omega) (by omega))
theorem irem (h : 0 ≤ x) (hy : 0 < y) : BinV P .rem t (.int .i64 x) (.int .i64 y) (.int .i64 (x % y)) :=
  binv_rem (by omega) (by rw [Int.tmod_eq_emod_of_nonneg h])
theorem iremT (hy : y ≠ 0) : BinV P .rem t (.int .i64 x) (.int .i64 y) (.int .i64 (x.tmod y)) := binv_rem hy rfl
theorem ofInt_toNat (h : 0 ≤ x) (h' : x ≤ 9223372036854775807) : (BitVec.ofInt 64 x).toNat = x.toNat := by
  rw [BitVec.toNat_ofInt]; omega
theorem iand (h : 0 ≤ x) (h' : x ≤ 9223372036854775807) (k : 0 ≤ y) (k' : y ≤ 9223372036854775807) : BinV P .and t (.int .i64 x) (.int .i64 y) (.int .i64 ((x.toNat &&& y.toNat : Nat) : Int)) :=
  binv_and (by
    have e1 : (BitVec.ofInt IntKind.i64.bits x &&& BitVec.ofInt IntKind.i64.bits y).toNat = x.toNat &&& y.toNat := by
      show (BitVec.ofInt 64 x &&& BitVec.ofInt 64 y).toNat = _
      rw [BitVec.toNat_and, ofInt_toNat h h', ofInt_toNat k k']
    rw [e1]
    have : x.toNat &&& y.toNat ≤ x.toNat := Nat.and_le_left
    exact wrap_i64 (x := ((x.toNat &&& y.toNat : Nat) : Int)) (by omega) (by omega))
theorem ior (h : 0 ≤ x) (h' : x ≤ 9223372036854775807) (k : 0 ≤ y) (k' : y ≤ 9223372036854775807) : BinV P .or t (.int .i64 x) (.int .i64 y) (.int .i64 ((x.toNat ||| y.toNat : Nat) : Int)) :=
  binv_or (by
    have e1 : (BitVec.ofInt IntKind.i64.bits x ||| BitVec.ofInt IntKind.i64.bits y).toNat = x.toNat ||| y.toNat := by
      show (BitVec.ofInt 64 x ||| BitVec.ofInt 64 y).toNat = _
      rw [BitVec.toNat_or, ofInt_toNat h h', ofInt_toNat k k']
    rw [e1]
    have : x.toNat ||| y.toNat < 2 ^ 63 := Nat.or_lt_two_pow (by omega) (by omega)
    exact wrap_i64 (x := ((x.toNat ||| y.toNat : Nat) : Int)) (by omega) (by omega))
theorem ixor (h : 0 ≤ x) (h' : x ≤ 9223372036854775807) (k : 0 ≤ y) (k' : y ≤ 9223372036854775807) : BinV P .xor t (.int .i64 x) (.int .i64 y) (.int .i64 ((x.toNat ^^^ y.toNat : Nat) : Int)) :=
  binv_xor (by
    have e1 : (BitVec.ofInt IntKind.i64.bits x ^^^ BitVec.ofInt IntKind.i64.bits y).toNat = x.toNat ^^^ y.toNat := by
      show (BitVec.ofInt 64 x ^^^ BitVec.ofInt 64 y).toNat = _
      rw [BitVec.toNat_xor, ofInt_toNat h h', ofInt_toNat k k']
    rw [e1]
    have : x.toNat ^^^ y.toNat < 2 ^ 63 := Nat.xor_lt_two_pow (by omega) (by omega)
    exact wrap_i64 (x := ((x.toNat ^^^ y.toNat : Nat) : Int)) (by omega) (by omega))
theorem ishl {k' : IntKind} {m : Nat} (hm : y = (m : Int)) (hm' : m < 64) (h : 0 ≤ x) (h' : x * 2 ^ m ≤ 9223372036854775807) : BinV P .shl t (.int .i64 x) (.int k' y) (.int .i64 (x * 2 ^ m)) :=
  binv_shl (by omega) (by
    subst hm
    have e : min (m : Int).toNat IntKind.i64.bits = m := by simp [IntKind.bits]; omega
    rw [e]
    have : 0 ≤ x * 2 ^ m := Int.mul_nonneg h (Int.pow_nonneg (by omega))
    exact wrap_i64 (by omega) h')
theorem ishr {k k' : IntKind} {m : Nat} (hm : y = (m : Int)) (hm' : m ≤ k.bits) (h : 0 ≤ x) : BinV P .shr t (.int k x) (.int k' y) (.int k (x / 2 ^ m)) :=
  binv_shr (by omega) (by
    subst hm
    have e : min (m : Int).toNat k.bits = m := by simp; omega
    rw [e, Int.fdiv_eq_ediv_of_nonneg _ (Int.pow_nonneg (by omega))])
end
section
variable {t : TypeId} {x y : Int}
theorem ofInt_toNat_u (h : 0 ≤ x) (h' : x ≤ 18446744073709551615) : (BitVec.ofInt 64 x).toNat = x.toNat := by
  rw [BitVec.toNat_ofInt]; omega
theorem uand (h : 0 ≤ x) (h' : x ≤ 18446744073709551615) (k : 0 ≤ y) (k' : y ≤ 18446744073709551615) : BinV P .and t (.int .u64 x) (.int .u64 y) (.int .u64 ((x.toNat &&& y.toNat : Nat) : Int)) :=
  binv_and (by
    have e1 : (BitVec.ofInt IntKind.u64.bits x &&& BitVec.ofInt IntKind.u64.bits y).toNat = x.toNat &&& y.toNat := by
      show (BitVec.ofInt 64 x &&& BitVec.ofInt 64 y).toNat = _
      rw [BitVec.toNat_and, ofInt_toNat_u h h', ofInt_toNat_u k k']
    rw [e1]
    have : x.toNat &&& y.toNat ≤ x.toNat := Nat.and_le_left
    exact wrap_u64 (x := ((x.toNat &&& y.toNat : Nat) : Int)) (by omega) (by omega))
theorem uxor (h : 0 ≤ x) (h' : x ≤ 18446744073709551615) (k : 0 ≤ y) (k' : y ≤ 18446744073709551615) : BinV P .xor t (.int .u64 x) (.int .u64 y) (.int .u64 ((x.toNat ^^^ y.toNat : Nat) : Int)) :=
  binv_xor (by
    have e1 : (BitVec.ofInt IntKind.u64.bits x ^^^ BitVec.ofInt IntKind.u64.bits y).toNat = x.toNat ^^^ y.toNat := by
      show (BitVec.ofInt 64 x ^^^ BitVec.ofInt 64 y).toNat = _
      rw [BitVec.toNat_xor, ofInt_toNat_u h h', ofInt_toNat_u k k']
    rw [e1]
    have : x.toNat ^^^ y.toNat < 2 ^ 64 := Nat.xor_lt_two_pow (by omega) (by omega)
    exact wrap_u64 (x := ((x.toNat ^^^ y.toNat : Nat) : Int)) (by omega) (by omega))
theorem uadd (h : 0 ≤ x + y) (h' : x + y ≤ 18446744073709551615) : BinV P .add t (.int .u64 x) (.int .u64 y) (.int .u64 (x + y)) := binv_add (wrap_u64 h h')
theorem umul (h : 0 ≤ x) (k : 0 ≤ y) : BinV P .mul t (.int .u64 x) (.int .u64 y) (.int .u64 (x * y % 18446744073709551616)) :=
  binv_mul (by simp only [IntKind.wrap, IntKind.bits, IntKind.signed, Bool.false_and, Bool.false_eq_true, if_false]; rfl)
end
section
variable {t : TypeId} {x y : Int} {a b : Nat}
/-- The same where the operands are natural numbers. -/
theorem uandN (hx : x = (a : Int)) (hy : y = (b : Int)) (ha : a < 18446744073709551616) (hb : b < 18446744073709551616) : BinV P .and t (.int .u64 x) (.int .u64 y) (.int .u64 ((a &&& b : Nat) : Int)) := by
  subst hx hy; exact uand (x := (a : Int)) (y := (b : Int)) (by omega) (by omega) (by omega) (by omega)
theorem uxorN (hx : x = (a : Int)) (hy : y = (b : Int)) (ha : a < 18446744073709551616) (hb : b < 18446744073709551616) : BinV P .xor t (.int .u64 x) (.int .u64 y) (.int .u64 ((a ^^^ b : Nat) : Int)) := by
  subst hx hy; exact uxor (x := (a : Int)) (y := (b : Int)) (by omega) (by omega) (by omega) (by omega)
theorem uaddN (hx : x = (a : Int)) (hy : y = (b : Int)) (ha : a + b < 18446744073709551616) : BinV P .add t (.int .u64 x) (.int .u64 y) (.int .u64 ((a + b : Nat) : Int)) := by
  subst hx hy; exact uadd (x := (a : Int)) (y := (b : Int)) (by omega) (by omega)
theorem shrN {k k' : IntKind} {m : Nat} (hx : x = (a : Int)) (hm : y = (m : Int)) (hm' : m ≤ k.bits) : BinV P .shr t (.int k x) (.int k' y) (.int k ((a / 2 ^ m : Nat) : Int)) := by
  subst hx
  have h := ishr (P := P) (t := t) (k := k) (k' := k') (x := (a : Int)) hm hm' (by omega)
  rw [show ((a / 2 ^ m : Nat) : Int) = (a : Int) / 2 ^ m from by rw [Int.natCast_ediv, Int.natCast_pow]; rfl]
  exact h
theorem iandN (hx : x = (a : Int)) (hy : y = (b : Int)) (ha : a < 9223372036854775808) (hb : b < 9223372036854775808) : BinV P .and t (.int .i64 x) (.int .i64 y) (.int .i64 ((a &&& b : Nat) : Int)) := by
  subst hx hy; exact iand (x := (a : Int)) (y := (b : Int)) (by omega) (by omega) (by omega) (by omega)
theorem iorN (hx : x = (a : Int)) (hy : y = (b : Int)) (ha : a < 9223372036854775808) (hb : b < 9223372036854775808) : BinV P .or t (.int .i64 x) (.int .i64 y) (.int .i64 ((a ||| b : Nat) : Int)) := by
  subst hx hy; exact ior (x := (a : Int)) (y := (b : Int)) (by omega) (by omega) (by omega) (by omega)
theorem ixorN (hx : x = (a : Int)) (hy : y = (b : Int)) (ha : a < 9223372036854775808) (hb : b < 9223372036854775808) : BinV P .xor t (.int .i64 x) (.int .i64 y) (.int .i64 ((a ^^^ b : Nat) : Int)) := by
  subst hx hy; exact ixor (x := (a : Int)) (y := (b : Int)) (by omega) (by omega) (by omega) (by omega)
theorem iaddN (hx : x = (a : Int)) (hy : y = (b : Int)) (ha : a + b < 9223372036854775808) : BinV P .add t (.int .i64 x) (.int .i64 y) (.int .i64 ((a + b : Nat) : Int)) := by
  subst hx hy; exact iadd (x := (a : Int)) (y := (b : Int)) (by omega) (by omega)
end
/-- Comparisons of a pointer with nil; of bools. -/
def ptrB (P : Program) (t : TypeId) : Bool := match P.underlying t with | some (.pointer _) => true | _ => false
theorem ptrB_out {t : TypeId} (h : ptrB P t = true) : ∃ el, P.underlying t = some (.pointer el) := by
  unfold ptrB at h
  cases hu : P.underlying t with
  | none => simp [hu] at h
  | some dsc => rw [hu] at h; cases dsc <;> simp_all
theorem run_equal_ptr_nil {t : TypeId} (h : ptrB P t = true) (a : Option Addr) (w : World) : (Op.equal t (.pointer a) (.pointer none)).run P w = .ok a.isNone w := by
  obtain ⟨el, hu⟩ := ptrB_out h
  exact run_equal_pointer_nil w t a (by simp [Program.pointee, hu])
theorem binv_ptr_eql {t : TypeId} (h : ptrB P t = true) (a : Option Addr) : BinV P .eql t (.pointer a) (.pointer none) (.bool a.isNone) := fun x y w => by
  have : (eqGuard .eql t x y (.pointer a) (.pointer none)).run P w = .ok () w := by cases a <;> rfl
  simp [this, binOp, run_equal_ptr_nil h]
theorem binv_ptr_neq {t : TypeId} (h : ptrB P t = true) (a : Option Addr) : BinV P .neq t (.pointer a) (.pointer none) (.bool (!a.isNone)) := fun x y w => by
  have : (eqGuard .neq t x y (.pointer a) (.pointer none)).run P w = .ok () w := by cases a <;> rfl
  simp [this, binOp, run_equal_ptr_nil h]
def boolB (P : Program) (t : TypeId) : Bool := match P.underlying t with | some .bool => true | _ => false
theorem boolB_out {t : TypeId} (h : boolB P t = true) : P.underlying t = some .bool := by
  unfold boolB at h
  cases hu : P.underlying t with
  | none => simp [hu] at h
  | some dsc => rw [hu] at h; cases dsc <;> simp_all
theorem binv_bool_eql {t : TypeId} (h : boolB P t = true) (a b : Bool) : BinV P .eql t (.bool a) (.bool b) (.bool (a == b)) := fun x y w => by
  have : (eqGuard .eql t x y (.bool a) (.bool b)).run P w = .ok () w := by rfl
  simp [this, run_eql_bool w t a b (boolB_out h)]
theorem binv_bool_neq {t : TypeId} (h : boolB P t = true) (a b : Bool) : BinV P .neq t (.bool a) (.bool b) (.bool (a != b)) := fun x y w => by
  have : (eqGuard .neq t x y (.bool a) (.bool b)).run P w = .ok () w := by rfl
  simp [this, binOp, run_equal_bool w t a b (boolB_out h), bne]
end
end Go.Proofs.YtkncbggnaobgeaaDoor
