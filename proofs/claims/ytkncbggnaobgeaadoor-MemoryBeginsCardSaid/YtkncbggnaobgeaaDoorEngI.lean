/- The engine inside a fence without bounds: for a function that ranges over a function, for the loop's body and for the iterator. Printed by a program of this session (geni.py) out of the engine's texts. -/
import Derived.Test.YtkncbggnaobgeaaDoorEx
import Derived.RangeFuncNested
import Derived.RangeFuncBound
import Derived.RangeFuncCalls
import Derived.RangeFuncLeaves
import Derived.OwnWalkIn
import Derived.TacticsInMore
import Derived.LoopIn
namespace Go.Proofs.YtkncbggnaobgeaaDoor
open Go.RowKit
set_option linter.unusedVariables false
set_option linter.unusedSimpArgs false
set_option linter.unusedSectionVars false
set_option maxRecDepth 100000

/-- A fence that lets everything in: at the outermost, or in a round. -/
class AnyF (F : Fence) : Prop where
  fn : ∀ f, F.fn f
  depth : F.depth = none
  call : ∀ {n : Nat} {P : Program} {f : FuncId} {args : Array Value} {w : World} {R : Ending → World → Prop}, Calls P f args w R → CallsIn F n P f args w R
instance : AnyF Fence.wide := ⟨fun _ => trivial, rfl, fun h => callsIn_wide.2 h⟩
instance (l : Nat) : AnyF (Fence.wide.inRound l) := ⟨fun _ => trivial, rfl, fun h => CallsIn.inRound l (callsIn_wide.2 h)⟩

namespace I
def WL (F : Fence) (m : Nat) (P : Program) (ops : Array Oper) (Q : Exit → Act → World → Prop) (n : Nat) (ds : List Deferred) (l : List Oper) (e : Env) (w : World) : Prop :=
  ∀ a, Holds a n ds e → wpListIn F m P ops Q l a w
def WC (F : Fence) (m : Nat) (P : Program) (c : Code) (Q : Exit → Act → World → Prop) (n : Nat) (ds : List Deferred) (e : Env) (w : World) : Prop :=
  ∀ a, Holds a n ds e → c.wpIn F m P Q a w

section
variable {F : Fence} {m : Nat} [AnyF F] {P : Program} {ops : Array Oper} {Q : Exit → Act → World → Prop} {n : Nat} {ds : List Deferred} {e e' : Env} {w w' w0 : World} {rest : List Oper} {S : List Nat} {H : Hp}
variable {d : Nat} {v : Value} {ty : TypeId} {pos : String} {af : Array Edge} {ws ws' : List Int}

theorem WL.sub {l : List Oper} (hs : Sub e e') (h : WL F m P ops Q n ds l e' w) : WL F m P ops Q n ds l e w := fun a ha => h a (ha.sub hs)
theorem WC.sub {c : Code} (hs : Sub e e') (h : WC F m P c Q n ds e' w) : WC F m P c Q n ds e w := fun a ha => h a (ha.sub hs)
theorem WC.region {id : Nat} {l : List Oper} (h : WL F m P l.toArray Q n ds l e w) : WC F m P (.region id l.toArray false) Q n ds e w :=
  fun a ha => wpIn_region_lit (h a ha)
theorem WL.done (h : WX Q .normal n ds e w) : WL F m P ops Q n ds [] e w := fun a ha => wpListIn_nil (h a ha)
theorem WC.seq {x y : Code} (h : WC F m P x (Exit.then (y.wpIn F m P Q) Q) n ds e w) : WC F m P (.seq x y) Q n ds e w := fun a ha => wpIn_seq (h a ha)
theorem WX.next {y : Code} (h : WC F m P y Q n ds e w) : WX (Exit.then (y.wpIn F m P Q) Q) .normal n ds e w := h
theorem WC.skip (h : WX Q .normal n ds e w) : WC F m P .skip Q n ds e w := fun a ha => wpIn_skip (h a ha)
theorem WC.ret (h : WX Q .ret n ds e w) : WC F m P .ret Q n ds e w := fun a ha => wpIn_ret (h a ha)
theorem WC.exit {id : Nat} (h : WX Q (.exit id) n ds e w) : WC F m P (.exit id) Q n ds e w := fun a ha => wpIn_exit (h a ha)
theorem WC.block {id : Nat} {c : Code} (h : WC F m P c (Exit.inBlock id Q) n ds e w) : WC F m P (.block id c) Q n ds e w := fun a ha => wpIn_block (h a ha)
theorem WC.cond {c : Operand} {x y : Code} {b : Bool} (hc : ev e c = some (.bool b)) (ht : b = true → WC F m P x Q n ds e w) (hf : b = false → WC F m P y Q n ds e w) : WC F m P (.cond c x y) Q n ds e w :=
  fun a ha => wpIn_cond_split (ha.ev hc) (fun h => ht h a ha) (fun h => hf h a ha)
theorem exists_least {p : Nat → Prop} (h : ∃ k, p k) : ∃ k, p k ∧ ∀ j, p j → k ≤ j := by
  obtain ⟨k, hk⟩ := h
  induction k using Nat.strongRecOn with
  | _ k ih =>
    by_cases hh : ∃ j, j < k ∧ p j
    · obtain ⟨j, hj, hp⟩ := hh; exact ih j hj hp
    · exact ⟨k, hk, fun j hp => Nat.le_of_not_lt fun hlt => hh ⟨j, hlt, hp⟩⟩
theorem wpIn_loop_least {c : Code} {a : Act} (J : Nat → Act → World → Prop) (k₀ : Nat) (h₀ : J k₀ a w)
    (round : ∀ k a w, J k a w → c.wpIn F m P (Exit.then (fun a' w' => ∃ k', k' < k ∧ J k' a' w') Q) a w) : (Code.loop c).wpIn F m P Q a w := by
  classical
  refine wpIn_loop (fun a w => ∃ k, J k a w) (fun a w => if h : ∃ k, J k a w then (exists_least h).choose else 0) ⟨k₀, h₀⟩ ?_
  intro a w hex
  have hm : J (exists_least hex).choose a w := (exists_least hex).choose_spec.1
  refine wpIn_mono (round _ a w hm) ?_
  intro x a' w' hq
  cases x with
  | normal =>
    obtain ⟨k', hk, hJ⟩ := hq
    have hex' : ∃ k, J k a' w' := ⟨k', hJ⟩
    refine ⟨hex', ?_⟩
    rw [dif_pos hex', dif_pos hex]
    exact Nat.lt_of_le_of_lt ((exists_least hex').choose_spec.2 _ hJ) hk
  | _ => exact hq
theorem WC.loop {c : Code} {G : Type} {e₀ : Env} (hs₀ : Sub e e₀) (f : G → Env) (I : Nat → G → World → Prop) (k₀ : Nat) (g₀ : G) (hs : Sub e (f g₀)) (h₀ : I k₀ g₀ w)
    (round : ∀ k g w, I k g w → ∀ (N : Act → World → Prop), (∀ k' g' w' e', k' < k → I k' g' w' → Sub e' (f g') → Sub e' e₀ → WX (fun _ => N) .normal n ds e' w') → WC F m P c (Exit.then N Q) n ds (f g ++ e₀) w) :
    WC F m P (.loop c) Q n ds e w := by
  intro a ha
  refine wpIn_loop_least (fun k a w => ∃ g, I k g w ∧ Holds a n ds (f g ++ e₀)) k₀ ⟨g₀, h₀, ha.sub (hs.append hs₀)⟩ ?_
  rintro k a w ⟨g, hI, ha⟩
  refine round k g w hI _ ?_ a ha
  intro k' g' w' e' hk hI' hs1 hs2 a' ha'
  exact ⟨k', hk, g', hI', ha'.sub (hs1.append hs2)⟩
theorem WC.seqJ {x y : Code} {G : Type} {e₀ : Env} (hs₀ : Sub e e₀) (f : G → Env) (I : G → World → Prop)
    (hx : ∀ (N : Act → World → Prop), (∀ g' w' e', I g' w' → Sub e' (f g') → Sub e' e₀ → WX (fun _ => N) .normal n ds e' w') → WC F m P x (Exit.then N Q) n ds e w)
    (hy : ∀ g w, I g w → WC F m P y Q n ds (f g ++ e₀) w) : WC F m P (.seq x y) Q n ds e w := by
  intro a ha
  refine wpIn_seq ?_
  refine wpIn_mono (hx (fun a' w' => ∃ g, I g w' ∧ Holds a' n ds (f g ++ e₀)) (fun g' w' e' hI hs1 hs2 a' ha' => ⟨g', hI, ha'.sub (hs1.append hs2)⟩) a ha) ?_
  intro x' a' w' hq
  cases x' with
  | normal => obtain ⟨g, hI, hh⟩ := hq; exact hy g w' hI a' hh
  | _ => exact hq

theorem not_defer {o : Oper} {a : Act} (h : (execOp a.eval o).run P w = .ok (.value v) w') : ∀ c, o.op ≠ .defer c := by
  intro c hc
  simp only [execOp, hc, Sem.run_bind] at h
  cases hr : (resolve a.eval c o.type).run P w with
  | ok x u => rw [hr] at h; simp at h
  | halt x u => rw [hr] at h; simp at h
theorem not_defer_skip {o : Oper} {a : Act} (h : (execOp a.eval o).run P w = .ok .skip w') : ∀ c, o.op ≠ .defer c := by
  intro c hc
  simp only [execOp, hc, Sem.run_bind] at h
  cases hr : (resolve a.eval c o.type).run P w with
  | ok x u => rw [hr] at h; simp at h
  | halt x u => rw [hr] at h; simp at h
theorem not_defer_enter {o : Oper} {a : Act} {f : FuncId} {args : Array Value} (h : (execOp a.eval o).run P w = .ok (.enter f args) w') : ∀ c, o.op ≠ .defer c := by
  intro c hc
  simp only [execOp, hc, Sem.run_bind] at h
  cases hr : (resolve a.eval c o.type).run P w with
  | ok x u => rw [hr] at h; simp at h
  | halt x u => rw [hr] at h; simp at h
theorem not_defer_round {o : Oper} {a : Act} {l : Nat} {f : FuncId} {t : Array Value} {x y : Code} (h : (execOp a.eval o).run P w = .ok (.round l f t x y) w') : ∀ c, o.op ≠ .defer c := by
  intro c hc
  simp only [execOp, hc, Sem.run_bind] at h
  cases hr : (resolve a.eval c o.type).run P w with
  | ok x u => rw [hr] at h; simp at h
  | halt x u => rw [hr] at h; simp at h
theorem WL.op {o : Oper} (hg : o.guard = none) (hd : o.dst = some d) (hdn : Nat.blt d n = true) (hrun : ∀ a, Holds a n ds e → (execOp a.eval o).run P w = .ok (.value v) w')
    (h : WL F m P ops Q n ds rest ((d, v) :: e) w') : WL F m P ops Q n ds (o :: rest) e w := fun a ha => wpListIn_plain hg fun K hK => by
  refine ⟨fun f _ => AnyF.fn f, ?_⟩
  rw [Oper.semAt_plain F _ _ (not_defer (hrun a ha)), hrun a ha, Oper.uponIn_value, hd]
  exact hK _ _ (h _ (ha.put (by simpa using hdn)))
theorem WL.opSkip {o : Oper} (hg : o.guard = none) (hd : o.dst = none) (hrun : ∀ a, Holds a n ds e → (execOp a.eval o).run P w = .ok .skip w')
    (h : WL F m P ops Q n ds rest e w') : WL F m P ops Q n ds (o :: rest) e w := fun a ha => wpListIn_plain hg fun K hK => by
  refine ⟨fun f _ => AnyF.fn f, ?_⟩
  rw [Oper.semAt_plain F _ _ (not_defer_skip (hrun a ha)), hrun a ha, Oper.uponIn_skip, hd]
  exact hK _ _ (h _ ha)
theorem WL.opEnter {o : Oper} {f : FuncId} {args : Array Value} (hg : o.guard = none) (hd : o.dst = some d) (hdn : Nat.blt d n = true)
    (hrun : ∀ a, Holds a n ds e → (execOp a.eval o).run P w = .ok (.enter f args) w')
    (h : Calls P f args w' fun ed w'' => ∃ v, ed = .returned v ∧ WL F m P ops Q n ds rest ((d, v) :: e) w'') : WL F m P ops Q n ds (o :: rest) e w := fun a ha => wpListIn_plain hg fun K hK => by
  refine ⟨fun f _ => AnyF.fn f, ?_⟩
  rw [Oper.semAt_plain F _ _ (not_defer_enter (hrun a ha)), hrun a ha, Oper.uponIn_enter]
  refine ⟨fun hd => (by rw [AnyF.depth] at hd; cases hd), AnyF.call (h.mono ?_)⟩
  rintro ed w'' ⟨v, rfl, h'⟩
  rw [hd]
  exact hK _ _ (h' _ (ha.put (by simpa using hdn)))
/-- A call of yield. -/
theorem WL.yield {x : Operand} {l : Nat} {xs : List Operand} {vs : List Value} {ats : Array TypeId} {R : Ending → World → Prop} (hx : ev e x = some (.func (.yield l) #[] #[])) (hxs : evs e xs = some vs) (hdn : Nat.blt d n = true)
    (hY : YieldAt F (m - 1) P l vs.toArray w R)
    (h : ∀ ed w'', R ed w'' → ∃ v, ed = .returned v ∧ WL F m P ops Q n ds rest ((d, v) :: e) w'') :
    WL F m P ops Q n ds ({ dst := some d, op := .call { callee := .value x, args := xs.toArray, argTypes := ats }, type := ty, pos, after := af, guard := none } :: rest) e w := fun a ha => wpListIn_plain rfl fun K hK => by
  obtain ⟨fn, tmps, assign, body, hy, hR⟩ := hY
  have hrun : (execOp a.eval { dst := some d, op := .call { callee := .value x, args := xs.toArray, argTypes := ats }, type := ty, pos, after := af, guard := none }).run P w = .ok (.round l fn tmps assign body) w := by
    simp only [execOp, resolve, ha.ev hx, Deferred.ofValue, Sem.run_bind, Sem.run_pure, Result.andThen_ok, invoke]
    rw [show (#[] ++ xs.toArray.map a.eval : Array Value) = vs.toArray by simp [ha.evs hxs]]
    exact hy
  refine ⟨fun f _ => AnyF.fn f, ?_⟩
  rw [Oper.semAt_plain F _ _ (not_defer_round hrun), hrun, Oper.uponIn_round]
  refine ⟨fun hd => (by rw [AnyF.depth] at hd; cases hd), hR.mono ?_⟩
  intro ed w'' hr
  obtain ⟨v, rfl, h'⟩ := h ed w'' hr
  exact hK _ _ (h' _ (ha.put (by simpa using hdn)))
theorem WL.yes {dst : Option Tmp} {op : Op} {j t : Nat} {b : Bool} (hj : (ops[j]?).bind (·.dst) = some t) (ht : e.lookup t = some (.bool b))
    (h : WL F m P ops Q n ds ({ dst, op, type := ty, pos, after := af, guard := none } :: rest) e w) : WL F m P ops Q n ds ({ dst, op, type := ty, pos, after := af, guard := some (j, b) } :: rest) e w := fun a ha => by
  have h' := h a ha
  unfold wpListIn at h' ⊢
  have hw : Region.wanted ({ dst, op, type := ty, pos, after := af, guard := some (j, b) } : Oper) (yielded ops a.tmps) = true := by simp [Region.wanted, yielded_of ha hj ht]
  rw [if_pos (by simp [Region.wanted])] at h'
  rw [if_pos hw]
  exact h'
theorem WL.no {op : Op} {j t : Nat} {b : Bool} (hj : (ops[j]?).bind (·.dst) = some t) (ht : e.lookup t = some (.bool !b)) (hdn : Nat.blt d n = true)
    (h : WL F m P ops Q n ds rest ((d, undef) :: e) w) : WL F m P ops Q n ds ({ dst := some d, op, type := ty, pos, after := af, guard := some (j, b) } :: rest) e w := fun a ha => by
  unfold wpListIn
  have hw : ¬ Region.wanted ({ dst := some d, op, type := ty, pos, after := af, guard := some (j, b) } : Oper) (yielded ops a.tmps) = true := by simp [Region.wanted, yielded_of ha hj ht]
  rw [if_neg hw]
  exact ⟨fun f _ => AnyF.fn f, h _ (ha.put (by simpa using hdn))⟩
theorem WL.noU {op : Op} {j t : Nat} {b : Bool} (hj : (ops[j]?).bind (·.dst) = some t) (ht : e.lookup t = some undef) (htn : Nat.blt t n = true) (hdn : Nat.blt d n = true)
    (h : WL F m P ops Q n ds rest ((d, undef) :: e) w) : WL F m P ops Q n ds ({ dst := some d, op, type := ty, pos, after := af, guard := some (j, b) } :: rest) e w := fun a ha => by
  unfold wpListIn
  have hy : yielded ops a.tmps j = none := by
    unfold yielded
    rw [hj]
    have h1 := ha.get t _ ht
    have hl : t < a.tmps.size := by rw [ha.size]; simpa using htn
    simp only [Array.getD_eq_getD_getElem?, Array.getElem?_eq_getElem hl, Option.getD_some] at h1
    simp only [Option.bind_some, Array.getElem?_eq_getElem hl, h1, undef]
  have hw : ¬ Region.wanted ({ dst := some d, op, type := ty, pos, after := af, guard := some (j, b) } : Oper) (yielded ops a.tmps) = true := by simp [Region.wanted, hy]
  rw [if_neg hw]
  exact ⟨fun f _ => AnyF.fn f, h _ (ha.put (by simpa using hdn))⟩

theorem WC.cond_dec {c : Operand} {x y : Code} {p : Prop} [Decidable p] (hc : ev e c = some (.bool (decide p))) (ht : p → WC F m P x Q n ds e w) (hf : ¬ p → WC F m P y Q n ds e w) : WC F m P (.cond c x y) Q n ds e w :=
  WC.cond hc (fun h => ht (of_decide_eq_true h)) (fun h => hf (of_decide_eq_false h))

theorem WC.cond_true {c : Operand} {x y : Code} {b : Bool} (hc : ev e c = some (.bool b)) (hb : b = true) (h : WC F m P x Q n ds e w) : WC F m P (.cond c x y) Q n ds e w :=
  WC.cond hc (fun _ => h) (fun h' => by rw [hb] at h'; cases h')

theorem WC.cond_false {c : Operand} {x y : Code} {b : Bool} (hc : ev e c = some (.bool b)) (hb : b = false) (h : WC F m P y Q n ds e w) : WC F m P (.cond c x y) Q n ds e w :=
  WC.cond hc (fun h' => by rw [hb] at h'; cases h') (fun _ => h)

theorem WL.split {l : List Oper} {t : Nat} {b : Bool} (ht : e.lookup t = some (.bool b)) (hT : b = true → WL F m P ops Q n ds l ((t, .bool true) :: e) w) (hF : b = false → WL F m P ops Q n ds l ((t, .bool false) :: e) w) : WL F m P ops Q n ds l e w := by
  cases b with
  | true => exact (hT rfl).sub (Sub.cons ht (Sub.refl _))
  | false => exact (hF rfl).sub (Sub.cons ht (Sub.refl _))

theorem WL.splitD {l : List Oper} {t : Nat} {p : Prop} [Decidable p] (ht : e.lookup t = some (.bool (decide p))) (hT : p → WL F m P ops Q n ds l ((t, .bool true) :: e) w) (hF : ¬ p → WL F m P ops Q n ds l ((t, .bool false) :: e) w) : WL F m P ops Q n ds l e w :=
  WL.split ht (fun h => hT (of_decide_eq_true h)) (fun h => hF (of_decide_eq_false h))

theorem WL.known {l : List Oper} {t : Nat} {b b' : Bool} (ht : e.lookup t = some (.bool b')) (hb : b' = b) (h : WL F m P ops Q n ds l ((t, .bool b) :: e) w) : WL F m P ops Q n ds l e w :=
  h.sub (Sub.cons (hb ▸ ht) (Sub.refl _))

theorem WL.move {x : Operand} (hx : ev e x = some v) (hdn : Nat.blt d n = true) (h : WL F m P ops Q n ds rest ((d, v) :: e) w) : WL F m P ops Q n ds ({ dst := some d, op := .move x, type := ty, pos, after := af, guard := none } :: rest) e w :=
  WL.op rfl rfl hdn (fun a ha => by simp only [execOp, ha.ev hx, Sem.run_pure]) h

theorem WL.assign {x : Operand} (hx : ev e x = some v) (hdn : Nat.blt d n = true) (h : WL F m P ops Q n ds rest ((d, v) :: e) w) : WL F m P ops Q n ds ({ dst := some d, op := .assign x, type := ty, pos, after := af, guard := none } :: rest) e w :=
  WL.op rfl rfl hdn (fun a ha => by simp only [execOp, ha.ev hx, Sem.run_pure]) h

theorem WL.pickT {c x y : Operand} (hc : ev e c = some (.bool true)) (hx : ev e x = some v) (hdn : Nat.blt d n = true) (h : WL F m P ops Q n ds rest ((d, v) :: e) w) : WL F m P ops Q n ds ({ dst := some d, op := .pick c x y, type := ty, pos, after := af, guard := none } :: rest) e w :=
  WL.op rfl rfl hdn (fun a ha => by simp only [execOp, ha.ev hc, ha.ev hx, Sem.run_pure, Sem.run_bind, asBool, Result.andThen_ok, if_true]) h

theorem WL.pickF {c x y : Operand} (hc : ev e c = some (.bool false)) (hy : ev e y = some v) (hdn : Nat.blt d n = true) (h : WL F m P ops Q n ds rest ((d, v) :: e) w) : WL F m P ops Q n ds ({ dst := some d, op := .pick c x y, type := ty, pos, after := af, guard := none } :: rest) e w :=
  WL.op rfl rfl hdn (fun a ha => by simp only [execOp, ha.ev hc, ha.ev hy, Sem.run_pure, Sem.run_bind, asBool, Result.andThen_ok, Bool.false_eq_true, if_false]) h

theorem WL.extract {x : Operand} {vs : List Value} {i : Nat} (hx : ev e x = some (.tuple vs.toArray)) (hi : vs[i]? = some v) (hdn : Nat.blt d n = true) (h : WL F m P ops Q n ds rest ((d, v) :: e) w) : WL F m P ops Q n ds ({ dst := some d, op := .extract x i, type := ty, pos, after := af, guard := none } :: rest) e w :=
  WL.op rfl rfl hdn (fun a ha => by simp [execOp, ha.ev hx, Instr.extract, hi]) h

theorem WL.nilCheck {x : Operand} {ad : Addr} (hx : ev e x = some (.pointer (some ad))) (hdn : Nat.blt d n = true) (h : WL F m P ops Q n ds rest ((d, .pointer (some ad)) :: e) w) : WL F m P ops Q n ds ({ dst := some d, op := .nilCheck x, type := ty, pos, after := af, guard := none } :: rest) e w :=
  WL.op rfl rfl hdn (fun a ha => by simp only [execOp, ha.ev hx, Sem.run_pure]) h

theorem WL.nilCheckFn {x : Operand} {f : FuncId} {fi ca : Array Value} (hx : ev e x = some (.func (.func f) fi ca)) (hdn : Nat.blt d n = true) (h : WL F m P ops Q n ds rest ((d, .func (.func f) fi ca) :: e) w) : WL F m P ops Q n ds ({ dst := some d, op := .nilCheck x, type := ty, pos, after := af, guard := none } :: rest) e w :=
  WL.op rfl rfl hdn (fun a ha => by simp only [execOp, ha.ev hx, Sem.run_pure]) h

theorem WL.bin {op : BinOp} {t yt : TypeId} {x y : Operand} {u u' r : Value} (hx : ev e x = some u) (hy : ev e y = some u') (hr : BinV P op t u u' r) (hdn : Nat.blt d n = true)
    (h : WL F m P ops Q n ds rest ((d, r) :: e) w) : WL F m P ops Q n ds ({ dst := some d, op := .binOp op t x y yt, type := ty, pos, after := af, guard := none } :: rest) e w :=
  WL.op rfl rfl hdn (fun a ha => by
    have := hr x y w
    simp only [Sem.run_bind] at this
    simp only [execOp, ha.ev hx, ha.ev hy, Sem.run_bind, this, Result.andThen_ok, Sem.run_pure]) h

theorem WL.notOp {t : TypeId} {x : Operand} {b : Bool} (hx : ev e x = some (.bool b)) (hdn : Nat.blt d n = true)
    (h : WL F m P ops Q n ds rest ((d, .bool (!b)) :: e) w) : WL F m P ops Q n ds ({ dst := some d, op := .unOp .not t x, type := ty, pos, after := af, guard := none } :: rest) e w :=
  WL.op rfl rfl hdn (fun a ha => by simp only [execOp, ha.ev hx, Op.unary, Sem.run_bind, Sem.run_pure, Result.andThen_ok]) h

theorem WL.negOp {t : TypeId} {x : Operand} {k : IntKind} {z : Int} (hx : ev e x = some (.int k z)) (hdn : Nat.blt d n = true)
    (h : WL F m P ops Q n ds rest ((d, .int k (k.wrap (0 - z))) :: e) w) : WL F m P ops Q n ds ({ dst := some d, op := .unOp .neg t x, type := ty, pos, after := af, guard := none } :: rest) e w :=
  WL.op rfl rfl hdn (fun a ha => by simp only [execOp, ha.ev hx, Op.unary, Op.intArith, Sem.run_bind, Sem.run_pure, Result.andThen_ok]) h

theorem WL.fieldAddr {T : TypeId} {i off b o : Nat} {x : Operand} (hT : fieldB P T i off = true) (hx : ev e x = some (.pointer (some ⟨b, o, none⟩))) (hdn : Nat.blt d n = true)
    (h : WL F m P ops Q n ds rest ((d, .pointer (some ⟨b, o + off, none⟩)) :: e) w) : WL F m P ops Q n ds ({ dst := some d, op := .fieldAddr T x i, type := ty, pos, after := af, guard := none } :: rest) e w :=
  WL.op rfl rfl hdn (fun a ha => by simp only [execOp, ha.ev hx, Sem.run_bind, run_fieldAt hT, Result.andThen_ok, Sem.run_pure]) h

theorem WL.idxArr {T : TypeId} {len sz b o k : Nat} {x y : Operand} {kd : IntKind} {z : Int} (hT : arrB P T len sz = true) (hx : ev e x = some (.pointer (some ⟨b, o, none⟩))) (hy : ev e y = some (.int kd z)) (hz : z = (k : Int)) (hk : k < len) (hdn : Nat.blt d n = true)
    (h : WL F m P ops Q n ds rest ((d, .pointer (some ⟨b, o + k * sz, none⟩)) :: e) w) : WL F m P ops Q n ds ({ dst := some d, op := .indexAddr T x y, type := ty, pos, after := af, guard := none } :: rest) e w := by
  subst hz
  obtain ⟨el, i, hu, hi, hs⟩ := arrB_out hT
  refine WL.op rfl rfl hdn (fun a ha => ?_) h
  have h1 : (0 : Int) ≤ (k : Int) ∧ (k : Int) < (len : Int) := by omega
  simp only [execOp, ha.ev hx, ha.ev hy, Instr.indexAt, asIntOf, Sem.run_bind, Sem.run_pure, Result.andThen_ok, run_underlying hu, Instr.sureAddr, h1, and_self, if_true, sizeOf, typeInfo, run_program, hi, hs, Int.toNat_natCast, addr_add]

theorem WL.idxSlc {T : TypeId} {sz b o k len cap : Nat} {x y : Operand} {kd : IntKind} {z : Int} (hT : slcB P T sz = true) (hx : ev e x = some (.slice (some ⟨b, o, none⟩) len cap)) (hy : ev e y = some (.int kd z)) (hz : z = (k : Int)) (hk : k < len) (hdn : Nat.blt d n = true)
    (h : WL F m P ops Q n ds rest ((d, .pointer (some ⟨b, o + k * sz, none⟩)) :: e) w) : WL F m P ops Q n ds ({ dst := some d, op := .indexAddr T x y, type := ty, pos, after := af, guard := none } :: rest) e w := by
  subst hz
  obtain ⟨el, i, hu, hi, hs⟩ := slcB_out hT
  refine WL.op rfl rfl hdn (fun a ha => ?_) h
  have h1 : (0 : Int) ≤ (k : Int) ∧ (k : Int) < (len : Int) := by omega
  simp only [execOp, ha.ev hx, ha.ev hy, Instr.indexAt, asIntOf, Sem.run_bind, Sem.run_pure, Result.andThen_ok, run_underlying hu, h1, and_self, if_true, sizeOf, typeInfo, run_program, hi, hs, Int.toNat_natCast, addr_add]

theorem WL.load {T : TypeId} {x : Operand} {ad : Addr} (hx : ev e x = some (.pointer (some ad))) (hr : Rd P w T ad v) (hdn : Nat.blt d n = true)
    (h : WL F m P ops Q n ds rest ((d, v) :: e) w) : WL F m P ops Q n ds ({ dst := some d, op := .load T x, type := ty, pos, after := af, guard := none } :: rest) e w :=
  WL.op rfl rfl hdn (fun a ha => by
    unfold Rd at hr
    simp only [execOp, ha.ev hx, Instr.loadAt, Instr.sureAddr, Sem.run_bind, Sem.run_pure, Result.andThen_ok, hr]) h

theorem WL.store {T : TypeId} {x y : Operand} {ad : Addr} (hx : ev e x = some (.pointer (some ad))) (hy : ev e y = some v) (hr : Wrt P w T ad v w')
    (h : WL F m P ops Q n ds rest e w') : WL F m P ops Q n ds ({ dst := none, op := .store T x y, type := ty, pos, after := af, guard := none } :: rest) e w :=
  WL.opSkip rfl rfl (fun a ha => by
    unfold Wrt at hr
    simp only [execOp, ha.ev hx, ha.ev hy, Instr.storeAt, Instr.sureAddr, Sem.run_bind, Sem.run_pure, Result.andThen_ok, hr]) h

theorem WL.storeAt (hS : St w0 S w H) {T : TypeId} {agg : Bool} {k : Nat} (hT : tyB P T agg k = true) (i : Nat) {b o : Nat} {cs : Array Value} {t : TypeId} {x y : Operand} (hx : ev e x = some (.pointer (some ⟨b, o, none⟩))) (hy : ev e y = some v)
    (hi : H[i]? = some (b, .cells cs t)) (hv : v.cells.size = k) (h1 : ∀ u ∈ v.cells.toList, u.oneCell' = true) (hk : o + k ≤ cs.size)
    (h : ∀ w', St w0 S w' (H.set i (b, .cells (wr cs o v.cells.toList) t)) → WL F m P ops Q n ds rest e w') : WL F m P ops Q n ds ({ dst := none, op := .store T x y, type := ty, pos, after := af, guard := none } :: rest) e w := by
  obtain ⟨w', hw, hU⟩ := storeVar_blk (P := P) (w := w) hT hv h1 (hS.sat _ (List.mem_of_getElem? hi)) hk
  exact WL.store hx hy hw (h w' (hS.upd hi hU))

theorem WL.alloc (hS : St w0 S w H) {T : TypeId} {z : Array Value} (hz : ZeroIs P T z) (hdn : Nat.blt d n = true)
    (h : ∀ b w', w.heap.size = b → w0.heap.size ≤ b → St w0 S w' ((b, .cells z T) :: H) → WL F m P ops Q n ds rest ((d, .pointer (some ⟨b, 0, none⟩)) :: e) w') : WL F m P ops Q n ds ({ dst := some d, op := .alloc T, type := ty, pos, after := af, guard := none } :: rest) e w := by
  obtain ⟨u, hu, hrun⟩ := hz
  refine WL.op (w' := w.alloc (.cells z T)) (v := .pointer (some ⟨w.heap.size, 0, none⟩)) rfl rfl hdn (fun a ha => ?_) (h _ _ rfl hS.size (hS.alloc _))
  simp only [execOp, Instr.alloc, Sem.run_bind, hrun, Result.andThen_ok, newVar, newRow, run_newObj, Sem.run_pure, hu, World.alloc]

theorem WL.box (hS : St w0 S w H) {T : TypeId} {x : Operand} (hx : ev e x = some v) (hdn : Nat.blt d n = true)
    (h : ∀ b w', w.heap.size = b → w0.heap.size ≤ b → St w0 S w' ((b, .cells v.cells T) :: H) → WL F m P ops Q n ds rest ((d, .pointer (some ⟨b, 0, none⟩)) :: e) w') : WL F m P ops Q n ds ({ dst := some d, op := .box T x, type := ty, pos, after := af, guard := none } :: rest) e w := by
  refine WL.op (w' := w.alloc (.cells v.cells T)) (v := .pointer (some ⟨w.heap.size, 0, none⟩)) rfl rfl hdn (fun a ha => ?_) (h _ _ rfl hS.size (hS.alloc _))
  simp only [execOp, Instr.box, ha.ev hx, Sem.run_bind, Result.andThen_ok, newVar, newRow, run_newObj, Sem.run_pure, World.alloc]

theorem WL.call {f : FuncId} {xs : List Operand} {vs : List Value} {ats : Array TypeId} (hf : callB P f = true) (hxs : evs e xs = some vs) (hdn : Nat.blt d n = true)
    (h : Calls P f vs.toArray w fun ed w'' => ∃ v, ed = .returned v ∧ WL F m P ops Q n ds rest ((d, v) :: e) w'') :
    WL F m P ops Q n ds ({ dst := some d, op := .call { callee := .value (.func f), args := xs.toArray, argTypes := ats }, type := ty, pos, after := af, guard := none } :: rest) e w := by
  refine WL.opEnter rfl rfl hdn (fun a ha => ?_) h
  have := ha.evs hxs
  simp only [execOp, resolve, Act.eval, Deferred.ofValue, Sem.run_bind, Sem.run_pure, Result.andThen_ok, invoke]
  rw [show (#[] ++ xs.toArray.map a.eval ++ #[] : Array Value) = vs.toArray by simp [this]]
  exact run_callFunc_body hf _ _

theorem WL.callVal {f : FuncId} {x : Operand} {fi ca : List Value} {xs : List Operand} {vs : List Value} {ats : Array TypeId} (hf : callB P f = true) (hx : ev e x = some (.func (.func f) fi.toArray ca.toArray)) (hxs : evs e xs = some vs) (hdn : Nat.blt d n = true)
    (h : Calls P f (fi ++ vs ++ ca).toArray w fun ed w'' => ∃ v, ed = .returned v ∧ WL F m P ops Q n ds rest ((d, v) :: e) w'') :
    WL F m P ops Q n ds ({ dst := some d, op := .call { callee := .value x, args := xs.toArray, argTypes := ats }, type := ty, pos, after := af, guard := none } :: rest) e w := by
  refine WL.opEnter rfl rfl hdn (fun a ha => ?_) h
  have := ha.evs hxs
  simp only [execOp, resolve, ha.ev hx, Deferred.ofValue, Sem.run_bind, Sem.run_pure, Result.andThen_ok, invoke]
  rw [show (fi.toArray ++ xs.toArray.map a.eval ++ ca.toArray : Array Value) = (fi ++ vs ++ ca).toArray by simp [this]]
  exact run_callFunc_body hf _ _

theorem WL.makeFunc {fn : Fn} {xs ys : List Operand} {us vs : List Value} (hxs : evs e xs = some us) (hys : evs e ys = some vs) (hdn : Nat.blt d n = true)
    (h : WL F m P ops Q n ds rest ((d, .func fn us.toArray vs.toArray) :: e) w) : WL F m P ops Q n ds ({ dst := some d, op := .makeFunc fn xs.toArray ys.toArray, type := ty, pos, after := af, guard := none } :: rest) e w :=
  WL.op rfl rfl hdn (fun a ha => by
    simp only [execOp, Instr.makeFunc, Sem.run_bind, Sem.run_pure, Result.andThen_ok, List.map_toArray, ha.evs hxs, ha.evs hys]) h

theorem WL.builtin {b : Builtin} {xs : List Operand} {vs : List Value} {ats : Array TypeId} (hxs : evs e xs = some vs) (hdn : Nat.blt d n = true)
    (hrun : ∀ cs, (Go.builtin b ats ty cs vs.toArray).run P w = .ok (.value v) w')
    (h : WL F m P ops Q n ds rest ((d, v) :: e) w') : WL F m P ops Q n ds ({ dst := some d, op := .call { callee := .builtin b, args := xs.toArray, argTypes := ats }, type := ty, pos, after := af, guard := none } :: rest) e w :=
  WL.op rfl rfl hdn (fun a ha => by
    rw [BigFrame.execOp_builtin, List.map_toArray, List.map_toArray, ha.evs hxs]
    exact hrun _) h

theorem WL.lenSlc {x : Operand} {T : TypeId} {A : Option Addr} {len cap : Nat} (hT : isSlcB P T = true) (hx : ev e x = some (.slice A len cap)) (hdn : Nat.blt d n = true)
    (h : WL F m P ops Q n ds rest ((d, .int .i64 (len : Int)) :: e) w) : WL F m P ops Q n ds ({ dst := some d, op := .call { callee := .builtin .len, args := #[x], argTypes := #[T] }, type := ty, pos, after := af, guard := none } :: rest) e w := by
  obtain ⟨el, hu⟩ := isSlcB_out hT
  refine WL.builtin (xs := [x]) (vs := [.slice A len cap]) (by simp [evs, hx]) hdn (fun cs => ?_) h
  simp [BigFrame.builtin_len, Builtin.len_, run_underlying hu, goInt]

theorem WL.max2 {x y : Operand} {k k' : IntKind} {a b : Int} {ats : Array TypeId} (hx : ev e x = some (.int k a)) (hy : ev e y = some (.int k' b)) (hdn : Nat.blt d n = true)
    (h : WL F m P ops Q n ds rest ((d, .int k (if b > a then b else a)) :: e) w) : WL F m P ops Q n ds ({ dst := some d, op := .call { callee := .builtin .max, args := #[x, y], argTypes := ats }, type := ty, pos, after := af, guard := none } :: rest) e w := by
  refine WL.builtin (xs := [x, y]) (vs := [.int k a, .int k' b]) (by simp [evs, hx, hy]) hdn (fun cs => ?_) h
  simp [BigFrame.builtin_max, Builtin.max_, Builtin.max2]

theorem WL.min2 {x y : Operand} {k k' : IntKind} {a b : Int} {ats : Array TypeId} (hx : ev e x = some (.int k a)) (hy : ev e y = some (.int k' b)) (hdn : Nat.blt d n = true)
    (h : WL F m P ops Q n ds rest ((d, .int k (if b < a then b else a)) :: e) w) : WL F m P ops Q n ds ({ dst := some d, op := .call { callee := .builtin .min, args := #[x, y], argTypes := ats }, type := ty, pos, after := af, guard := none } :: rest) e w := by
  refine WL.builtin (xs := [x, y]) (vs := [.int k a, .int k' b]) (by simp [evs, hx, hy]) hdn (fun cs => ?_) h
  simp [BigFrame.builtin_min, Builtin.min_, Builtin.min2]

theorem WL.convert {src dst : TypeId} {x : Operand} {k k' k'' : IntKind} {z r : Int} (hsrc : intB P src k'' = true) (hdst : intB P dst k = true) (hx : ev e x = some (.int k' z)) (hr : k.wrap z = r) (hdn : Nat.blt d n = true)
    (h : WL F m P ops Q n ds rest ((d, .int k r) :: e) w) : WL F m P ops Q n ds ({ dst := some d, op := .convert src dst x, type := ty, pos, after := af, guard := none } :: rest) e w :=
  WL.op rfl rfl hdn (fun a ha => by
    simp only [execOp, ha.ev hx, Go.convert, Sem.run_bind, run_underlying (intB_out hsrc), run_underlying (intB_out hdst), Result.andThen_ok, Conv.intToInt, Sem.run_pure, hr]) h

theorem WL.indexStr {T : TypeId} {x y : Operand} {s : ByteArray} {k m₁ : Nat} {g : Nat → Nat} {kd : IntKind} {z : Int} (hT : P.underlying T = some .string) (hx : ev e x = some (.string s)) (hy : ev e y = some (.int kd z)) (hz : z = (k : Int))
    (hb : ∀ i, i < m₁ → (s[i]?).map (·.toNat) = some (g i)) (hk : k < m₁) (hdn : Nat.blt d n = true)
    (h : WL F m P ops Q n ds rest ((d, .int .u8 (g k : Int)) :: e) w) : WL F m P ops Q n ds ({ dst := some d, op := .index T x y, type := ty, pos, after := af, guard := none } :: rest) e w := by
  subst hz
  refine WL.op rfl rfl hdn (fun a ha => ?_) h
  have hb' := hb k hk
  cases hs : s[k]? with
  | none => rw [hs] at hb'; cases hb'
  | some b =>
    rw [hs] at hb'
    simp only [Option.map_some, Option.some.injEq] at hb'
    have h1 : (0 : Int) ≤ (k : Int) := by omega
    simp only [execOp, ha.ev hx, ha.ev hy, Instr.index, asIntOf, Sem.run_bind, Sem.run_pure, Result.andThen_ok, run_underlying hT, h1, if_true, Int.toNat_natCast, hs, hb']

theorem WL.boxArr (hS : St w0 S w H) {T : TypeId} {x : Operand} (hx : ev e x = some (arr ws)) (hdn : Nat.blt d n = true)
    (h : ∀ b w', w.heap.size = b → w0.heap.size ≤ b → St w0 S w' ((b, .cells (arrC ws) T) :: H) → WL F m P ops Q n ds rest ((d, .pointer (some ⟨b, 0, none⟩)) :: e) w') : WL F m P ops Q n ds ({ dst := some d, op := .box T x, type := ty, pos, after := af, guard := none } :: rest) e w :=
  WL.box hS hx hdn h

theorem WL.allocArr (hS : St w0 S w H) {T : TypeId} {z : Array Value} (hz : ZeroIs P T z) (hz' : z = arrC ws) (hdn : Nat.blt d n = true)
    (h : ∀ b w', w.heap.size = b → w0.heap.size ≤ b → St w0 S w' ((b, .cells (arrC ws) T) :: H) → WL F m P ops Q n ds rest ((d, .pointer (some ⟨b, 0, none⟩)) :: e) w') : WL F m P ops Q n ds ({ dst := some d, op := .alloc T, type := ty, pos, after := af, guard := none } :: rest) e w := by
  subst hz'
  exact WL.alloc hS hz hdn h

theorem WL.indexArr {T : TypeId} {len k : Nat} {x y : Operand} {kd : IntKind} {z : Int} (hT : arrB P T len 1 = true) (hl : ws.length = len) (hx : ev e x = some (arr ws)) (hy : ev e y = some (.int kd z)) (hz : z = (k : Int)) (hk : k < len) (hdn : Nat.blt d n = true)
    (h : WL F m P ops Q n ds rest ((d, .int .i64 (ws.getD k 0)) :: e) w) (hp : ∀ el, P.underlying T = some (.array len el) → tyB P el false 1 = true := by intro el h; rw [show P.underlying T = _ from h] at *; simp_all) : WL F m P ops Q n ds ({ dst := some d, op := .index T x y, type := ty, pos, after := af, guard := none } :: rest) e w := by
  subst hz
  obtain ⟨el, i, hu, hi, hs⟩ := arrB_out hT
  refine WL.op rfl rfl hdn (fun a ha => ?_) h
  have h1 : (0 : Int) ≤ (k : Int) ∧ (k : Int) < (len : Int) := by omega
  have hg := arrC_get_lt (ws := ws) (i := k) (by omega)
  simp only [execOp, ha.ev hx, ha.ev hy, arr, Instr.index, asIntOf, Sem.run_bind, Sem.run_pure, Result.andThen_ok, run_underlying hu, h1, and_self, if_true, sizeOf, typeInfo, run_program, hi, hs, Int.toNat_natCast, part, tyB_isAgg (hp el hu), Nat.mul_one, hg, Bool.false_eq_true, if_false]

theorem WL.storeArr (hS : St w0 S w H) {T : TypeId} {k : Nat} (hT : tyB P T true k = true) (i : Nat) {b : Nat} {cs : Array Value} {t : TypeId} {x y : Operand} (hx : ev e x = some (.pointer (some ⟨b, 0, none⟩))) (hy : ev e y = some (arr ws'))
    (hi : H[i]? = some (b, .cells cs t)) (hc : cs.size = k) (hl' : ws'.length = k)
    (h : ∀ w', St w0 S w' (H.set i (b, .cells (arrC ws') t)) → WL F m P ops Q n ds rest e w') : WL F m P ops Q n ds ({ dst := none, op := .store T x y, type := ty, pos, after := af, guard := none } :: rest) e w := by
  refine WL.storeAt hS hT i hx hy hi (by rw [arr_cells, arrC_size]; exact hl') (arrC_one _) (by omega) (fun w' hw' => h w' ?_)
  rw [arr_cells, wr_all (by omega)] at hw'
  exact hw'

theorem WL.storeElt (hS : St w0 S w H) {T : TypeId} {o : Nat} (hT : tyB P T false 1 = true) (i : Nat) {b : Nat} {t : TypeId} {x y : Operand} {z : Int} (hx : ev e x = some (.pointer (some ⟨b, o, none⟩))) (hy : ev e y = some (.int .i64 z))
    (hi : H[i]? = some (b, .cells (arrC ws) t)) (hl : o < ws.length)
    (h : ∀ w', St w0 S w' (H.set i (b, .cells (arrC (ws.set o z)) t)) → WL F m P ops Q n ds rest e w') : WL F m P ops Q n ds ({ dst := none, op := .store T x y, type := ty, pos, after := af, guard := none } :: rest) e w := by
  refine WL.storeAt hS hT i hx hy hi rfl (by simp [Value.cells, Value.oneCell']) (by rw [arrC_size]; omega) (fun w' hw' => h w' ?_)
  rw [show (Value.int IntKind.i64 z).cells.toList = [.int .i64 z] from rfl, wr_elt _ hl] at hw'
  exact hw'

theorem WL.build {T : TypeId} {pl : List (Nat × Nat)} {z cells : Array Value} {ps : List (Nat × Operand)} {vs : List (Nat × Value)} (hpl : placesOf P T = some pl) (hz : ZeroIs P T z) (hvs : evp e ps = some vs) (hdn : Nat.blt d n = true)
    (hf : Instr.fill (pl[·]?) z vs = some cells)
    (h : WL F m P ops Q n ds rest ((d, .agg cells) :: e) w) : WL F m P ops Q n ds ({ dst := some d, op := .build T ps.toArray, type := ty, pos, after := af, guard := none } :: rest) e w := by
  obtain ⟨u, hu, hrun⟩ := hz
  unfold placesOf at hpl
  cases hT : P.underlying T with
  | none => simp [hT] at hpl
  | some dsc =>
    rw [hT] at hpl
    cases dsc with
    | struct fs =>
      simp only at hpl
      refine WL.op rfl rfl hdn (fun a ha => ?_) h
      have hp := run_places (P := P) w hpl
      have hmap : (fs.mapM fun f => (do pure (f.offset, ← sizeOf f.type) : Sem (Nat × Nat))).run P w = .ok pl.toArray w := by
        rw [← Array.toArray_toList (xs := fs), List.mapM_toArray, Sem.run_map]
        rw [hp]; rfl
      simp only [execOp, Instr.build, Sem.run_bind, hrun, Result.andThen_ok, run_underlying hT, hmap, List.map_toArray, ha.evp hvs, hu]
      have e2 : (fun x : Nat => pl.toArray[x]?) = (fun x : Nat => pl[x]?) := by funext x; simp
      rw [e2, hf]
      rfl
    | _ => simp at hpl

theorem WL.buildA {T : TypeId} {len sz : Nat} {z cells : Array Value} {ps : List (Nat × Operand)} {vs : List (Nat × Value)} (hT : arrB P T len sz = true) (hz : ZeroIs P T z) (hvs : evp e ps = some vs) (hdn : Nat.blt d n = true)
    (hf : Instr.fill (fun i => some (i * sz, sz)) z vs = some cells)
    (h : WL F m P ops Q n ds rest ((d, .agg cells) :: e) w) : WL F m P ops Q n ds ({ dst := some d, op := .build T ps.toArray, type := ty, pos, after := af, guard := none } :: rest) e w := by
  obtain ⟨u, hu, hrun⟩ := hz
  obtain ⟨el, i, hu', hi, hs⟩ := arrB_out hT
  refine WL.op rfl rfl hdn (fun a ha => ?_) h
  simp only [execOp, Instr.build, Sem.run_bind, hrun, Result.andThen_ok, run_underlying hu', sizeOf, typeInfo, run_program, hi, hs, Sem.run_pure, List.map_toArray, ha.evp hvs, hu, hf]

theorem WL.buildSlice1 (hS : St w0 S w H) {T el : TypeId} {sz : Nat} {x : Operand} (hT : P.underlying T = some (.slice el)) (hel : tyB P el (match P.underlying el with | some (.struct _) | some (.array _ _) => true | _ => false) sz = true) (hsz : 0 < sz ∧ sz ≤ 100) {z : Array Value} (hz : ZeroIs P el z) (hzs : z.size = sz)
    (hx : ev e x = some v) (hv : v.cells.size = sz) (hdn : Nat.blt d n = true)
    (h : ∀ b w', w.heap.size = b → w0.heap.size ≤ b → St w0 S w' ((b, .cells v.cells el) :: H) → WL F m P ops Q n ds rest ((d, .slice (some ⟨b, 0, none⟩) 1 1) :: e) w') : WL F m P ops Q n ds ({ dst := some d, op := .buildSlice T 1 #[(0, x)], type := ty, pos, after := af, guard := none } :: rest) e w := by
  obtain ⟨u, hu, hrun⟩ := hz
  refine WL.op (w' := w.alloc (.cells v.cells el)) (v := .slice (some ⟨w.heap.size, 0, none⟩) 1 1) rfl rfl hdn (fun a ha => ?_) (h _ _ rfl hS.size (hS.alloc _))
  have h1 : ¬ (1 * sz > 2 ^ 24) := by omega
  have h2 : ¬ (1 * sz = 0) := by omega
  have hfill : Instr.fill (fun i => some (i * sz, sz)) ((Array.range (1 * sz)).map (z[· % z.size]!)) [(0, v)] = some v.cells := by
    have hs0 : ((Array.range (1 * sz)).map (z[· % z.size]!)).size = sz := by simp
    simp only [Instr.fill, hv, ne_eq, not_true_eq_false, decide_false, Nat.zero_mul, Nat.zero_add, Bool.false_or, hs0, gt_iff_lt, Nat.lt_irrefl, Bool.false_eq_true, if_false, Option.some.injEq]
    generalize (Array.range (1 * sz)).map (z[· % z.size]!) = c0 at hs0
    have key : ∀ (l : List Value) (k : Nat) (c : Array Value), c.size = k + l.length → (l.zipIdx k).foldl (fun cs (x : Value × Nat) => cs.setIfInBounds x.2 x.1) c = wr c k l := by
      intro l
      induction l with
      | nil => intro k c _; rfl
      | cons y l ih => intro k c hc; simp only [List.zipIdx_cons, List.foldl_cons, wr]; exact ih (k + 1) _ (by simp at hc ⊢; omega)
    have e1 : v.cells.zipIdx.foldl (fun cs (x : Value × Nat) => cs.setIfInBounds x.2 x.1) c0 = wr c0 0 v.cells.toList := by
      rw [← Array.foldl_toList, Array.toList_zipIdx]
      exact key _ 0 _ (by simp [hs0, hv])
    refine Eq.trans e1 ?_
    apply Array.ext_getElem?
    intro i
    rw [wr_get _ _ _ _ (by simp [hs0, hv])]
    by_cases hi : i < sz
    · rw [if_pos (by simp [hv, hi])]; simp
    · rw [if_neg (by simp [hv]; omega), Array.getElem?_eq_none (by omega), Array.getElem?_eq_none (by omega)]
  simp only [execOp, Instr.buildSlice, Sem.run_bind, run_underlying hT, Result.andThen_ok, tyB_size hel, h1, h2, if_false, hrun, hu, Sem.run_pure, newRow, run_newObj, World.alloc, List.map_toArray, List.map_cons, List.map_nil, ha.ev hx, hfill]

end
end I
end Go.Proofs.YtkncbggnaobgeaaDoor
