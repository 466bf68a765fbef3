/- Texts of this session, laid together: EngI, EngR, Code4, Code5. -/
import Derived.Test.YtkncbggnaobgeaaDoorGb
import Derived.RangeFuncNested
import Derived.RangeFuncBound
import Derived.RangeFuncCalls
import Derived.RangeFuncLeaves
import Derived.OwnWalkIn
import Derived.TacticsInMore
import Derived.LoopIn

/- The engine inside a fence without bounds: for a function that ranges over a function, for the loop's body and for the iterator. Printed by a program of this session (geni.py) out of the engine's texts. -/
namespace Go.Proofs.YtkncbggnaobgeaaDoor
open Go.RowKit
set_option linter.unusedVariables false
set_option linter.unusedSimpArgs false
set_option linter.unusedSectionVars false
set_option maxRecDepth 100000

/-- A fence that lets everything in: at the outermost, or in a round. -/
class AnyF (F : Fence) : Prop where
  fn : ∀ f, F.fn f
  depth : F.depth = none
  call : ∀ {n : Nat} {P : Program} {f : FuncId} {args : Array Value} {w : World} {R : Ending → World → Prop}, Calls P f args w R → CallsIn F n P f args w R
instance : AnyF Fence.wide := ⟨fun _ => trivial, rfl, fun h => callsIn_wide.2 h⟩
instance (l : Nat) : AnyF (Fence.wide.inRound l) := ⟨fun _ => trivial, rfl, fun h => CallsIn.inRound l (callsIn_wide.2 h)⟩

namespace I
def WL (F : Fence) (m : Nat) (P : Program) (ops : Array Oper) (Q : Exit → Act → World → Prop) (n : Nat) (ds : List Deferred) (l : List Oper) (e : Env) (w : World) : Prop :=
  ∀ a, Holds a n ds e → wpListIn F m P ops Q l a w
def WC (F : Fence) (m : Nat) (P : Program) (c : Code) (Q : Exit → Act → World → Prop) (n : Nat) (ds : List Deferred) (e : Env) (w : World) : Prop :=
  ∀ a, Holds a n ds e → c.wpIn F m P Q a w

section
variable {F : Fence} {m : Nat} [AnyF F] {P : Program} {ops : Array Oper} {Q : Exit → Act → World → Prop} {n : Nat} {ds : List Deferred} {e e' : Env} {w w' w0 : World} {rest : List Oper} {S : List Nat} {H : Hp}
variable {d : Nat} {v : Value} {ty : TypeId} {pos : String} {af : Array Edge} {ws ws' : List Int}

theorem WL.sub {l : List Oper} (hs : Sub e e') (h : WL F m P ops Q n ds l e' w) : WL F m P ops Q n ds l e w := fun a ha => h a (ha.sub hs)
theorem WC.sub {c : Code} (hs : Sub e e') (h : WC F m P c Q n ds e' w) : WC F m P c Q n ds e w := fun a ha => h a (ha.sub hs)
theorem WC.region {id : Nat} {l : List Oper} (h : WL F m P l.toArray Q n ds l e w) : WC F m P (.region id l.toArray false) Q n ds e w :=
  fun a ha => wpIn_region_lit (h a ha)
theorem WL.done (h : WX Q .normal n ds e w) : WL F m P ops Q n ds [] e w := fun a ha => wpListIn_nil (h a ha)
theorem WC.seq {x y : Code} (h : WC F m P x (Exit.then (y.wpIn F m P Q) Q) n ds e w) : WC F m P (.seq x y) Q n ds e w := fun a ha => wpIn_seq (h a ha)
theorem WX.next {y : Code} (h : WC F m P y Q n ds e w) : WX (Exit.then (y.wpIn F m P Q) Q) .normal n ds e w := h
theorem WC.skip (h : WX Q .normal n ds e w) : WC F m P .skip Q n ds e w := fun a ha => wpIn_skip (h a ha)
theorem WC.ret (h : WX Q .ret n ds e w) : WC F m P .ret Q n ds e w := fun a ha => wpIn_ret (h a ha)
theorem WC.exit {id : Nat} (h : WX Q (.exit id) n ds e w) : WC F m P (.exit id) Q n ds e w := fun a ha => wpIn_exit (h a ha)
theorem WC.block {id : Nat} {c : Code} (h : WC F m P c (Exit.inBlock id Q) n ds e w) : WC F m P (.block id c) Q n ds e w := fun a ha => wpIn_block (h a ha)
theorem WC.cond {c : Operand} {x y : Code} {b : Bool} (hc : ev e c = some (.bool b)) (ht : b = true → WC F m P x Q n ds e w) (hf : b = false → WC F m P y Q n ds e w) : WC F m P (.cond c x y) Q n ds e w :=
  fun a ha => wpIn_cond_split (ha.ev hc) (fun h => ht h a ha) (fun h => hf h a ha)
theorem exists_least {p : Nat → Prop} (h : ∃ k, p k) : ∃ k, p k ∧ ∀ j, p j → k ≤ j := by
  obtain ⟨k, hk⟩ := h
  induction k using Nat.strongRecOn with
  | _ k ih =>
    by_cases hh : ∃ j, j < k ∧ p j
    · obtain ⟨j, hj, hp⟩ := hh; exact ih j hj hp
    · exact ⟨k, hk, fun j hp => Nat.le_of_not_lt fun hlt => hh ⟨j, hlt, hp⟩⟩
theorem wpIn_loop_least {c : Code} {a : Act} (J : Nat → Act → World → Prop) (k₀ : Nat) (h₀ : J k₀ a w)
    (round : ∀ k a w, J k a w → c.wpIn F m P (Exit.then (fun a' w' => ∃ k', k' < k ∧ J k' a' w') Q) a w) : (Code.loop c).wpIn F m P Q a w := by
  classical
  refine wpIn_loop (fun a w => ∃ k, J k a w) (fun a w => if h : ∃ k, J k a w then (exists_least h).choose else 0) ⟨k₀, h₀⟩ ?_
  intro a w hex
  have hm : J (exists_least hex).choose a w := (exists_least hex).choose_spec.1
  refine wpIn_mono (round _ a w hm) ?_
  intro x a' w' hq
  cases x with
  | normal =>
    obtain ⟨k', hk, hJ⟩ := hq
    have hex' : ∃ k, J k a' w' := ⟨k', hJ⟩
    refine ⟨hex', ?_⟩
    rw [dif_pos hex', dif_pos hex]
    exact Nat.lt_of_le_of_lt ((exists_least hex').choose_spec.2 _ hJ) hk
  | _ => exact hq
theorem WC.loop {c : Code} {G : Type} {e₀ : Env} (hs₀ : Sub e e₀) (f : G → Env) (I : Nat → G → World → Prop) (k₀ : Nat) (g₀ : G) (hs : Sub e (f g₀)) (h₀ : I k₀ g₀ w)
    (round : ∀ k g w, I k g w → ∀ (N : Act → World → Prop), (∀ k' g' w' e', k' < k → I k' g' w' → Sub e' (f g') → Sub e' e₀ → WX (fun _ => N) .normal n ds e' w') → WC F m P c (Exit.then N Q) n ds (f g ++ e₀) w) :
    WC F m P (.loop c) Q n ds e w := by
  intro a ha
  refine wpIn_loop_least (fun k a w => ∃ g, I k g w ∧ Holds a n ds (f g ++ e₀)) k₀ ⟨g₀, h₀, ha.sub (hs.append hs₀)⟩ ?_
  rintro k a w ⟨g, hI, ha⟩
  refine round k g w hI _ ?_ a ha
  intro k' g' w' e' hk hI' hs1 hs2 a' ha'
  exact ⟨k', hk, g', hI', ha'.sub (hs1.append hs2)⟩
theorem WC.seqJ {x y : Code} {G : Type} {e₀ : Env} (hs₀ : Sub e e₀) (f : G → Env) (I : G → World → Prop)
    (hx : ∀ (N : Act → World → Prop), (∀ g' w' e', I g' w' → Sub e' (f g') → Sub e' e₀ → WX (fun _ => N) .normal n ds e' w') → WC F m P x (Exit.then N Q) n ds e w)
    (hy : ∀ g w, I g w → WC F m P y Q n ds (f g ++ e₀) w) : WC F m P (.seq x y) Q n ds e w := by
  intro a ha
  refine wpIn_seq ?_
  refine wpIn_mono (hx (fun a' w' => ∃ g, I g w' ∧ Holds a' n ds (f g ++ e₀)) (fun g' w' e' hI hs1 hs2 a' ha' => ⟨g', hI, ha'.sub (hs1.append hs2)⟩) a ha) ?_
  intro x' a' w' hq
  cases x' with
  | normal => obtain ⟨g, hI, hh⟩ := hq; exact hy g w' hI a' hh
  | _ => exact hq

theorem not_defer {o : Oper} {a : Act} (h : (execOp a.eval o).run P w = .ok (.value v) w') : ∀ c, o.op ≠ .defer c := by
  intro c hc
  simp only [execOp, hc, Sem.run_bind] at h
  cases hr : (resolve a.eval c o.type).run P w with
  | ok x u => rw [hr] at h; simp at h
  | halt x u => rw [hr] at h; simp at h
theorem not_defer_skip {o : Oper} {a : Act} (h : (execOp a.eval o).run P w = .ok .skip w') : ∀ c, o.op ≠ .defer c := by
  intro c hc
  simp only [execOp, hc, Sem.run_bind] at h
  cases hr : (resolve a.eval c o.type).run P w with
  | ok x u => rw [hr] at h; simp at h
  | halt x u => rw [hr] at h; simp at h
theorem not_defer_enter {o : Oper} {a : Act} {f : FuncId} {args : Array Value} (h : (execOp a.eval o).run P w = .ok (.enter f args) w') : ∀ c, o.op ≠ .defer c := by
  intro c hc
  simp only [execOp, hc, Sem.run_bind] at h
  cases hr : (resolve a.eval c o.type).run P w with
  | ok x u => rw [hr] at h; simp at h
  | halt x u => rw [hr] at h; simp at h
theorem not_defer_round {o : Oper} {a : Act} {l : Nat} {f : FuncId} {t : Array Value} {x y : Code} (h : (execOp a.eval o).run P w = .ok (.round l f t x y) w') : ∀ c, o.op ≠ .defer c := by
  intro c hc
  simp only [execOp, hc, Sem.run_bind] at h
  cases hr : (resolve a.eval c o.type).run P w with
  | ok x u => rw [hr] at h; simp at h
  | halt x u => rw [hr] at h; simp at h
theorem WL.op {o : Oper} (hg : o.guard = none) (hd : o.dst = some d) (hdn : Nat.blt d n = true) (hrun : ∀ a, Holds a n ds e → (execOp a.eval o).run P w = .ok (.value v) w')
    (h : WL F m P ops Q n ds rest ((d, v) :: e) w') : WL F m P ops Q n ds (o :: rest) e w := fun a ha => wpListIn_plain hg fun K hK => by
  refine ⟨fun f _ => AnyF.fn f, ?_⟩
  rw [Oper.semAt_plain F _ _ (not_defer (hrun a ha)), hrun a ha, Oper.uponIn_value, hd]
  exact hK _ _ (h _ (ha.put (by simpa using hdn)))
theorem WL.opSkip {o : Oper} (hg : o.guard = none) (hd : o.dst = none) (hrun : ∀ a, Holds a n ds e → (execOp a.eval o).run P w = .ok .skip w')
    (h : WL F m P ops Q n ds rest e w') : WL F m P ops Q n ds (o :: rest) e w := fun a ha => wpListIn_plain hg fun K hK => by
  refine ⟨fun f _ => AnyF.fn f, ?_⟩
  rw [Oper.semAt_plain F _ _ (not_defer_skip (hrun a ha)), hrun a ha, Oper.uponIn_skip, hd]
  exact hK _ _ (h _ ha)
theorem WL.opEnter {o : Oper} {f : FuncId} {args : Array Value} (hg : o.guard = none) (hd : o.dst = some d) (hdn : Nat.blt d n = true)
    (hrun : ∀ a, Holds a n ds e → (execOp a.eval o).run P w = .ok (.enter f args) w')
    (h : Calls P f args w' fun ed w'' => ∃ v, ed = .returned v ∧ WL F m P ops Q n ds rest ((d, v) :: e) w'') : WL F m P ops Q n ds (o :: rest) e w := fun a ha => wpListIn_plain hg fun K hK => by
  refine ⟨fun f _ => AnyF.fn f, ?_⟩
  rw [Oper.semAt_plain F _ _ (not_defer_enter (hrun a ha)), hrun a ha, Oper.uponIn_enter]
  refine ⟨fun hd => (by rw [AnyF.depth] at hd; cases hd), AnyF.call (h.mono ?_)⟩
  rintro ed w'' ⟨v, rfl, h'⟩
  rw [hd]
  exact hK _ _ (h' _ (ha.put (by simpa using hdn)))
/-- A call of yield. -/
theorem WL.yield {x : Operand} {l : Nat} {xs : List Operand} {vs : List Value} {ats : Array TypeId} {R : Ending → World → Prop} (hx : ev e x = some (.func (.yield l) #[] #[])) (hxs : evs e xs = some vs) (hdn : Nat.blt d n = true)
    (hY : YieldAt F (m - 1) P l vs.toArray w R)
    (h : ∀ ed w'', R ed w'' → ∃ v, ed = .returned v ∧ WL F m P ops Q n ds rest ((d, v) :: e) w'') :
    WL F m P ops Q n ds ({ dst := some d, op := .call { callee := .value x, args := xs.toArray, argTypes := ats }, type := ty, pos, after := af, guard := none } :: rest) e w := fun a ha => wpListIn_plain rfl fun K hK => by
  obtain ⟨fn, tmps, assign, body, hy, hR⟩ := hY
  have hrun : (execOp a.eval { dst := some d, op := .call { callee := .value x, args := xs.toArray, argTypes := ats }, type := ty, pos, after := af, guard := none }).run P w = .ok (.round l fn tmps assign body) w := by
    simp only [execOp, resolve, ha.ev hx, Deferred.ofValue, Sem.run_bind, Sem.run_pure, Result.andThen_ok, invoke]
    rw [show (#[] ++ xs.toArray.map a.eval : Array Value) = vs.toArray by simp [ha.evs hxs]]
    exact hy
  refine ⟨fun f _ => AnyF.fn f, ?_⟩
  rw [Oper.semAt_plain F _ _ (not_defer_round hrun), hrun, Oper.uponIn_round]
  refine ⟨fun hd => (by rw [AnyF.depth] at hd; cases hd), hR.mono ?_⟩
  intro ed w'' hr
  obtain ⟨v, rfl, h'⟩ := h ed w'' hr
  exact hK _ _ (h' _ (ha.put (by simpa using hdn)))
theorem WL.yes {dst : Option Tmp} {op : Op} {j t : Nat} {b : Bool} (hj : (ops[j]?).bind (·.dst) = some t) (ht : e.lookup t = some (.bool b))
    (h : WL F m P ops Q n ds ({ dst, op, type := ty, pos, after := af, guard := none } :: rest) e w) : WL F m P ops Q n ds ({ dst, op, type := ty, pos, after := af, guard := some (j, b) } :: rest) e w := fun a ha => by
  have h' := h a ha
  unfold wpListIn at h' ⊢
  have hw : Region.wanted ({ dst, op, type := ty, pos, after := af, guard := some (j, b) } : Oper) (yielded ops a.tmps) = true := by simp [Region.wanted, yielded_of ha hj ht]
  rw [if_pos (by simp [Region.wanted])] at h'
  rw [if_pos hw]
  exact h'
theorem WL.no {op : Op} {j t : Nat} {b : Bool} (hj : (ops[j]?).bind (·.dst) = some t) (ht : e.lookup t = some (.bool !b)) (hdn : Nat.blt d n = true)
    (h : WL F m P ops Q n ds rest ((d, undef) :: e) w) : WL F m P ops Q n ds ({ dst := some d, op, type := ty, pos, after := af, guard := some (j, b) } :: rest) e w := fun a ha => by
  unfold wpListIn
  have hw : ¬ Region.wanted ({ dst := some d, op, type := ty, pos, after := af, guard := some (j, b) } : Oper) (yielded ops a.tmps) = true := by simp [Region.wanted, yielded_of ha hj ht]
  rw [if_neg hw]
  exact ⟨fun f _ => AnyF.fn f, h _ (ha.put (by simpa using hdn))⟩
theorem WL.noU {op : Op} {j t : Nat} {b : Bool} (hj : (ops[j]?).bind (·.dst) = some t) (ht : e.lookup t = some undef) (htn : Nat.blt t n = true) (hdn : Nat.blt d n = true)
    (h : WL F m P ops Q n ds rest ((d, undef) :: e) w) : WL F m P ops Q n ds ({ dst := some d, op, type := ty, pos, after := af, guard := some (j, b) } :: rest) e w := fun a ha => by
  unfold wpListIn
  have hy : yielded ops a.tmps j = none := by
    unfold yielded
    rw [hj]
    have h1 := ha.get t _ ht
    have hl : t < a.tmps.size := by rw [ha.size]; simpa using htn
    simp only [Array.getD_eq_getD_getElem?, Array.getElem?_eq_getElem hl, Option.getD_some] at h1
    simp only [Option.bind_some, Array.getElem?_eq_getElem hl, h1, undef]
  have hw : ¬ Region.wanted ({ dst := some d, op, type := ty, pos, after := af, guard := some (j, b) } : Oper) (yielded ops a.tmps) = true := by simp [Region.wanted, hy]
  rw [if_neg hw]
  exact ⟨fun f _ => AnyF.fn f, h _ (ha.put (by simpa using hdn))⟩

theorem WC.cond_dec {c : Operand} {x y : Code} {p : Prop} [Decidable p] (hc : ev e c = some (.bool (decide p))) (ht : p → WC F m P x Q n ds e w) (hf : ¬ p → WC F m P y Q n ds e w) : WC F m P (.cond c x y) Q n ds e w :=
  WC.cond hc (fun h => ht (of_decide_eq_true h)) (fun h => hf (of_decide_eq_false h))

theorem WC.cond_true {c : Operand} {x y : Code} {b : Bool} (hc : ev e c = some (.bool b)) (hb : b = true) (h : WC F m P x Q n ds e w) : WC F m P (.cond c x y) Q n ds e w :=
  WC.cond hc (fun _ => h) (fun h' => by rw [hb] at h'; cases h')

theorem WC.cond_false {c : Operand} {x y : Code} {b : Bool} (hc : ev e c = some (.bool b)) (hb : b = false) (h : WC F m P y Q n ds e w) : WC F m P (.cond c x y) Q n ds e w :=
  WC.cond hc (fun h' => by rw [hb] at h'; cases h') (fun _ => h)

theorem WL.split {l : List Oper} {t : Nat} {b : Bool} (ht : e.lookup t = some (.bool b)) (hT : b = true → WL F m P ops Q n ds l ((t, .bool true) :: e) w) (hF : b = false → WL F m P ops Q n ds l ((t, .bool false) :: e) w) : WL F m P ops Q n ds l e w := by
  cases b with
  | true => exact (hT rfl).sub (Sub.cons ht (Sub.refl _))
  | false => exact (hF rfl).sub (Sub.cons ht (Sub.refl _))

theorem WL.splitD {l : List Oper} {t : Nat} {p : Prop} [Decidable p] (ht : e.lookup t = some (.bool (decide p))) (hT : p → WL F m P ops Q n ds l ((t, .bool true) :: e) w) (hF : ¬ p → WL F m P ops Q n ds l ((t, .bool false) :: e) w) : WL F m P ops Q n ds l e w :=
  WL.split ht (fun h => hT (of_decide_eq_true h)) (fun h => hF (of_decide_eq_false h))

theorem WL.known {l : List Oper} {t : Nat} {b b' : Bool} (ht : e.lookup t = some (.bool b')) (hb : b' = b) (h : WL F m P ops Q n ds l ((t, .bool b) :: e) w) : WL F m P ops Q n ds l e w :=
  h.sub (Sub.cons (hb ▸ ht) (Sub.refl _))

theorem WL.move {x : Operand} (hx : ev e x = some v) (hdn : Nat.blt d n = true) (h : WL F m P ops Q n ds rest ((d, v) :: e) w) : WL F m P ops Q n ds ({ dst := some d, op := .move x, type := ty, pos, after := af, guard := none } :: rest) e w :=
  WL.op rfl rfl hdn (fun a ha => by simp only [execOp, ha.ev hx, Sem.run_pure]) h

theorem WL.assign {x : Operand} (hx : ev e x = some v) (hdn : Nat.blt d n = true) (h : WL F m P ops Q n ds rest ((d, v) :: e) w) : WL F m P ops Q n ds ({ dst := some d, op := .assign x, type := ty, pos, after := af, guard := none } :: rest) e w :=
  WL.op rfl rfl hdn (fun a ha => by simp only [execOp, ha.ev hx, Sem.run_pure]) h

theorem WL.pickT {c x y : Operand} (hc : ev e c = some (.bool true)) (hx : ev e x = some v) (hdn : Nat.blt d n = true) (h : WL F m P ops Q n ds rest ((d, v) :: e) w) : WL F m P ops Q n ds ({ dst := some d, op := .pick c x y, type := ty, pos, after := af, guard := none } :: rest) e w :=
  WL.op rfl rfl hdn (fun a ha => by simp only [execOp, ha.ev hc, ha.ev hx, Sem.run_pure, Sem.run_bind, asBool, Result.andThen_ok, if_true]) h

theorem WL.pickF {c x y : Operand} (hc : ev e c = some (.bool false)) (hy : ev e y = some v) (hdn : Nat.blt d n = true) (h : WL F m P ops Q n ds rest ((d, v) :: e) w) : WL F m P ops Q n ds ({ dst := some d, op := .pick c x y, type := ty, pos, after := af, guard := none } :: rest) e w :=
  WL.op rfl rfl hdn (fun a ha => by simp only [execOp, ha.ev hc, ha.ev hy, Sem.run_pure, Sem.run_bind, asBool, Result.andThen_ok, Bool.false_eq_true, if_false]) h

theorem WL.extract {x : Operand} {vs : List Value} {i : Nat} (hx : ev e x = some (.tuple vs.toArray)) (hi : vs[i]? = some v) (hdn : Nat.blt d n = true) (h : WL F m P ops Q n ds rest ((d, v) :: e) w) : WL F m P ops Q n ds ({ dst := some d, op := .extract x i, type := ty, pos, after := af, guard := none } :: rest) e w :=
  WL.op rfl rfl hdn (fun a ha => by simp [execOp, ha.ev hx, Instr.extract, hi]) h

theorem WL.nilCheck {x : Operand} {ad : Addr} (hx : ev e x = some (.pointer (some ad))) (hdn : Nat.blt d n = true) (h : WL F m P ops Q n ds rest ((d, .pointer (some ad)) :: e) w) : WL F m P ops Q n ds ({ dst := some d, op := .nilCheck x, type := ty, pos, after := af, guard := none } :: rest) e w :=
  WL.op rfl rfl hdn (fun a ha => by simp only [execOp, ha.ev hx, Sem.run_pure]) h

theorem WL.nilCheckFn {x : Operand} {f : FuncId} {fi ca : Array Value} (hx : ev e x = some (.func (.func f) fi ca)) (hdn : Nat.blt d n = true) (h : WL F m P ops Q n ds rest ((d, .func (.func f) fi ca) :: e) w) : WL F m P ops Q n ds ({ dst := some d, op := .nilCheck x, type := ty, pos, after := af, guard := none } :: rest) e w :=
  WL.op rfl rfl hdn (fun a ha => by simp only [execOp, ha.ev hx, Sem.run_pure]) h

theorem WL.bin {op : BinOp} {t yt : TypeId} {x y : Operand} {u u' r : Value} (hx : ev e x = some u) (hy : ev e y = some u') (hr : BinV P op t u u' r) (hdn : Nat.blt d n = true)
    (h : WL F m P ops Q n ds rest ((d, r) :: e) w) : WL F m P ops Q n ds ({ dst := some d, op := .binOp op t x y yt, type := ty, pos, after := af, guard := none } :: rest) e w :=
  WL.op rfl rfl hdn (fun a ha => by
    have := hr x y w
    simp only [Sem.run_bind] at this
    simp only [execOp, ha.ev hx, ha.ev hy, Sem.run_bind, this, Result.andThen_ok, Sem.run_pure]) h

theorem WL.notOp {t : TypeId} {x : Operand} {b : Bool} (hx : ev e x = some (.bool b)) (hdn : Nat.blt d n = true)
    (h : WL F m P ops Q n ds rest ((d, .bool (!b)) :: e) w) : WL F m P ops Q n ds ({ dst := some d, op := .unOp .not t x, type := ty, pos, after := af, guard := none } :: rest) e w :=
  WL.op rfl rfl hdn (fun a ha => by simp only [execOp, ha.ev hx, Op.unary, Sem.run_bind, Sem.run_pure, Result.andThen_ok]) h

theorem WL.negOp {t : TypeId} {x : Operand} {k : IntKind} {z : Int} (hx : ev e x = some (.int k z)) (hdn : Nat.blt d n = true)
    (h : WL F m P ops Q n ds rest ((d, .int k (k.wrap (0 - z))) :: e) w) : WL F m P ops Q n ds ({ dst := some d, op := .unOp .neg t x, type := ty, pos, after := af, guard := none } :: rest) e w :=
  WL.op rfl rfl hdn (fun a ha => by simp only [execOp, ha.ev hx, Op.unary, Op.intArith, Sem.run_bind, Sem.run_pure, Result.andThen_ok]) h

theorem WL.fieldAddr {T : TypeId} {i off b o : Nat} {x : Operand} (hT : fieldB P T i off = true) (hx : ev e x = some (.pointer (some ⟨b, o, none⟩))) (hdn : Nat.blt d n = true)
    (h : WL F m P ops Q n ds rest ((d, .pointer (some ⟨b, o + off, none⟩)) :: e) w) : WL F m P ops Q n ds ({ dst := some d, op := .fieldAddr T x i, type := ty, pos, after := af, guard := none } :: rest) e w :=
  WL.op rfl rfl hdn (fun a ha => by simp only [execOp, ha.ev hx, Sem.run_bind, run_fieldAt hT, Result.andThen_ok, Sem.run_pure]) h

theorem WL.idxArr {T : TypeId} {len sz b o k : Nat} {x y : Operand} {kd : IntKind} {z : Int} (hT : arrB P T len sz = true) (hx : ev e x = some (.pointer (some ⟨b, o, none⟩))) (hy : ev e y = some (.int kd z)) (hz : z = (k : Int)) (hk : k < len) (hdn : Nat.blt d n = true)
    (h : WL F m P ops Q n ds rest ((d, .pointer (some ⟨b, o + k * sz, none⟩)) :: e) w) : WL F m P ops Q n ds ({ dst := some d, op := .indexAddr T x y, type := ty, pos, after := af, guard := none } :: rest) e w := by
  subst hz
  obtain ⟨el, i, hu, hi, hs⟩ := arrB_out hT
  refine WL.op rfl rfl hdn (fun a ha => ?_) h
  have h1 : (0 : Int) ≤ (k : Int) ∧ (k : Int) < (len : Int) := by omega
  simp only [execOp, ha.ev hx, ha.ev hy, Instr.indexAt, asIntOf, Sem.run_bind, Sem.run_pure, Result.andThen_ok, run_underlying hu, Instr.sureAddr, h1, and_self, if_true, sizeOf, typeInfo, run_program, hi, hs, Int.toNat_natCast, addr_add]

theorem WL.idxSlc {T : TypeId} {sz b o k len cap : Nat} {x y : Operand} {kd : IntKind} {z : Int} (hT : slcB P T sz = true) (hx : ev e x = some (.slice (some ⟨b, o, none⟩) len cap)) (hy : ev e y = some (.int kd z)) (hz : z = (k : Int)) (hk : k < len) (hdn : Nat.blt d n = true)
    (h : WL F m P ops Q n ds rest ((d, .pointer (some ⟨b, o + k * sz, none⟩)) :: e) w) : WL F m P ops Q n ds ({ dst := some d, op := .indexAddr T x y, type := ty, pos, after := af, guard := none } :: rest) e w := by
  subst hz
  obtain ⟨el, i, hu, hi, hs⟩ := slcB_out hT
  refine WL.op rfl rfl hdn (fun a ha => ?_) h
  have h1 : (0 : Int) ≤ (k : Int) ∧ (k : Int) < (len : Int) := by omega
  simp only [execOp, ha.ev hx, ha.ev hy, Instr.indexAt, asIntOf, Sem.run_bind, Sem.run_pure, Result.andThen_ok, run_underlying hu, h1, and_self, if_true, sizeOf, typeInfo, run_program, hi, hs, Int.toNat_natCast, addr_add]

theorem WL.load {T : TypeId} {x : Operand} {ad : Addr} (hx : ev e x = some (.pointer (some ad))) (hr : Rd P w T ad v) (hdn : Nat.blt d n = true)
    (h : WL F m P ops Q n ds rest ((d, v) :: e) w) : WL F m P ops Q n ds ({ dst := some d, op := .load T x, type := ty, pos, after := af, guard := none } :: rest) e w :=
  WL.op rfl rfl hdn (fun a ha => by
    unfold Rd at hr
    simp only [execOp, ha.ev hx, Instr.loadAt, Instr.sureAddr, Sem.run_bind, Sem.run_pure, Result.andThen_ok, hr]) h

theorem WL.store {T : TypeId} {x y : Operand} {ad : Addr} (hx : ev e x = some (.pointer (some ad))) (hy : ev e y = some v) (hr : Wrt P w T ad v w')
    (h : WL F m P ops Q n ds rest e w') : WL F m P ops Q n ds ({ dst := none, op := .store T x y, type := ty, pos, after := af, guard := none } :: rest) e w :=
  WL.opSkip rfl rfl (fun a ha => by
    unfold Wrt at hr
    simp only [execOp, ha.ev hx, ha.ev hy, Instr.storeAt, Instr.sureAddr, Sem.run_bind, Sem.run_pure, Result.andThen_ok, hr]) h

theorem WL.storeAt (hS : St w0 S w H) {T : TypeId} {agg : Bool} {k : Nat} (hT : tyB P T agg k = true) (i : Nat) {b o : Nat} {cs : Array Value} {t : TypeId} {x y : Operand} (hx : ev e x = some (.pointer (some ⟨b, o, none⟩))) (hy : ev e y = some v)
    (hi : H[i]? = some (b, .cells cs t)) (hv : v.cells.size = k) (h1 : ∀ u ∈ v.cells.toList, u.oneCell' = true) (hk : o + k ≤ cs.size)
    (h : ∀ w', St w0 S w' (H.set i (b, .cells (wr cs o v.cells.toList) t)) → WL F m P ops Q n ds rest e w') : WL F m P ops Q n ds ({ dst := none, op := .store T x y, type := ty, pos, after := af, guard := none } :: rest) e w := by
  obtain ⟨w', hw, hU⟩ := storeVar_blk (P := P) (w := w) hT hv h1 (hS.sat _ (List.mem_of_getElem? hi)) hk
  exact WL.store hx hy hw (h w' (hS.upd hi hU))

theorem WL.alloc (hS : St w0 S w H) {T : TypeId} {z : Array Value} (hz : ZeroIs P T z) (hdn : Nat.blt d n = true)
    (h : ∀ b w', w.heap.size = b → w0.heap.size ≤ b → St w0 S w' ((b, .cells z T) :: H) → WL F m P ops Q n ds rest ((d, .pointer (some ⟨b, 0, none⟩)) :: e) w') : WL F m P ops Q n ds ({ dst := some d, op := .alloc T, type := ty, pos, after := af, guard := none } :: rest) e w := by
  obtain ⟨u, hu, hrun⟩ := hz
  refine WL.op (w' := w.alloc (.cells z T)) (v := .pointer (some ⟨w.heap.size, 0, none⟩)) rfl rfl hdn (fun a ha => ?_) (h _ _ rfl hS.size (hS.alloc _))
  simp only [execOp, Instr.alloc, Sem.run_bind, hrun, Result.andThen_ok, newVar, newRow, run_newObj, Sem.run_pure, hu, World.alloc]

theorem WL.box (hS : St w0 S w H) {T : TypeId} {x : Operand} (hx : ev e x = some v) (hdn : Nat.blt d n = true)
    (h : ∀ b w', w.heap.size = b → w0.heap.size ≤ b → St w0 S w' ((b, .cells v.cells T) :: H) → WL F m P ops Q n ds rest ((d, .pointer (some ⟨b, 0, none⟩)) :: e) w') : WL F m P ops Q n ds ({ dst := some d, op := .box T x, type := ty, pos, after := af, guard := none } :: rest) e w := by
  refine WL.op (w' := w.alloc (.cells v.cells T)) (v := .pointer (some ⟨w.heap.size, 0, none⟩)) rfl rfl hdn (fun a ha => ?_) (h _ _ rfl hS.size (hS.alloc _))
  simp only [execOp, Instr.box, ha.ev hx, Sem.run_bind, Result.andThen_ok, newVar, newRow, run_newObj, Sem.run_pure, World.alloc]

theorem WL.call {f : FuncId} {xs : List Operand} {vs : List Value} {ats : Array TypeId} (hf : callB P f = true) (hxs : evs e xs = some vs) (hdn : Nat.blt d n = true)
    (h : Calls P f vs.toArray w fun ed w'' => ∃ v, ed = .returned v ∧ WL F m P ops Q n ds rest ((d, v) :: e) w'') :
    WL F m P ops Q n ds ({ dst := some d, op := .call { callee := .value (.func f), args := xs.toArray, argTypes := ats }, type := ty, pos, after := af, guard := none } :: rest) e w := by
  refine WL.opEnter rfl rfl hdn (fun a ha => ?_) h
  have := ha.evs hxs
  simp only [execOp, resolve, Act.eval, Deferred.ofValue, Sem.run_bind, Sem.run_pure, Result.andThen_ok, invoke]
  rw [show (#[] ++ xs.toArray.map a.eval ++ #[] : Array Value) = vs.toArray by simp [this]]
  exact run_callFunc_body hf _ _

theorem WL.callVal {f : FuncId} {x : Operand} {fi ca : List Value} {xs : List Operand} {vs : List Value} {ats : Array TypeId} (hf : callB P f = true) (hx : ev e x = some (.func (.func f) fi.toArray ca.toArray)) (hxs : evs e xs = some vs) (hdn : Nat.blt d n = true)
    (h : Calls P f (fi ++ vs ++ ca).toArray w fun ed w'' => ∃ v, ed = .returned v ∧ WL F m P ops Q n ds rest ((d, v) :: e) w'') :
    WL F m P ops Q n ds ({ dst := some d, op := .call { callee := .value x, args := xs.toArray, argTypes := ats }, type := ty, pos, after := af, guard := none } :: rest) e w := by
  refine WL.opEnter rfl rfl hdn (fun a ha => ?_) h
  have := ha.evs hxs
  simp only [execOp, resolve, ha.ev hx, Deferred.ofValue, Sem.run_bind, Sem.run_pure, Result.andThen_ok, invoke]
  rw [show (fi.toArray ++ xs.toArray.map a.eval ++ ca.toArray : Array Value) = (fi ++ vs ++ ca).toArray by simp [this]]
  exact run_callFunc_body hf _ _

theorem WL.makeFunc {fn : Fn} {xs ys : List Operand} {us vs : List Value} (hxs : evs e xs = some us) (hys : evs e ys = some vs) (hdn : Nat.blt d n = true)
    (h : WL F m P ops Q n ds rest ((d, .func fn us.toArray vs.toArray) :: e) w) : WL F m P ops Q n ds ({ dst := some d, op := .makeFunc fn xs.toArray ys.toArray, type := ty, pos, after := af, guard := none } :: rest) e w :=
  WL.op rfl rfl hdn (fun a ha => by
    simp only [execOp, Instr.makeFunc, Sem.run_bind, Sem.run_pure, Result.andThen_ok, List.map_toArray, ha.evs hxs, ha.evs hys]) h

theorem WL.builtin {b : Builtin} {xs : List Operand} {vs : List Value} {ats : Array TypeId} (hxs : evs e xs = some vs) (hdn : Nat.blt d n = true)
    (hrun : ∀ cs, (Go.builtin b ats ty cs vs.toArray).run P w = .ok (.value v) w')
    (h : WL F m P ops Q n ds rest ((d, v) :: e) w') : WL F m P ops Q n ds ({ dst := some d, op := .call { callee := .builtin b, args := xs.toArray, argTypes := ats }, type := ty, pos, after := af, guard := none } :: rest) e w :=
  WL.op rfl rfl hdn (fun a ha => by
    rw [BigFrame.execOp_builtin, List.map_toArray, List.map_toArray, ha.evs hxs]
    exact hrun _) h

theorem WL.lenSlc {x : Operand} {T : TypeId} {A : Option Addr} {len cap : Nat} (hT : isSlcB P T = true) (hx : ev e x = some (.slice A len cap)) (hdn : Nat.blt d n = true)
    (h : WL F m P ops Q n ds rest ((d, .int .i64 (len : Int)) :: e) w) : WL F m P ops Q n ds ({ dst := some d, op := .call { callee := .builtin .len, args := #[x], argTypes := #[T] }, type := ty, pos, after := af, guard := none } :: rest) e w := by
  obtain ⟨el, hu⟩ := isSlcB_out hT
  refine WL.builtin (xs := [x]) (vs := [.slice A len cap]) (by simp [evs, hx]) hdn (fun cs => ?_) h
  simp [BigFrame.builtin_len, Builtin.len_, run_underlying hu, goInt]

theorem WL.max2 {x y : Operand} {k k' : IntKind} {a b : Int} {ats : Array TypeId} (hx : ev e x = some (.int k a)) (hy : ev e y = some (.int k' b)) (hdn : Nat.blt d n = true)
    (h : WL F m P ops Q n ds rest ((d, .int k (if b > a then b else a)) :: e) w) : WL F m P ops Q n ds ({ dst := some d, op := .call { callee := .builtin .max, args := #[x, y], argTypes := ats }, type := ty, pos, after := af, guard := none } :: rest) e w := by
  refine WL.builtin (xs := [x, y]) (vs := [.int k a, .int k' b]) (by simp [evs, hx, hy]) hdn (fun cs => ?_) h
  simp [BigFrame.builtin_max, Builtin.max_, Builtin.max2]

theorem WL.min2 {x y : Operand} {k k' : IntKind} {a b : Int} {ats : Array TypeId} (hx : ev e x = some (.int k a)) (hy : ev e y = some (.int k' b)) (hdn : Nat.blt d n = true)
    (h : WL F m P ops Q n ds rest ((d, .int k (if b < a then b else a)) :: e) w) : WL F m P ops Q n ds ({ dst := some d, op := .call { callee := .builtin .min, args := #[x, y], argTypes := ats }, type := ty, pos, after := af, guard := none } :: rest) e w := by
  refine WL.builtin (xs := [x, y]) (vs := [.int k a, .int k' b]) (by simp [evs, hx, hy]) hdn (fun cs => ?_) h
  simp [BigFrame.builtin_min, Builtin.min_, Builtin.min2]

theorem WL.convert {src dst : TypeId} {x : Operand} {k k' k'' : IntKind} {z r : Int} (hsrc : intB P src k'' = true) (hdst : intB P dst k = true) (hx : ev e x = some (.int k' z)) (hr : k.wrap z = r) (hdn : Nat.blt d n = true)
    (h : WL F m P ops Q n ds rest ((d, .int k r) :: e) w) : WL F m P ops Q n ds ({ dst := some d, op := .convert src dst x, type := ty, pos, after := af, guard := none } :: rest) e w :=
  WL.op rfl rfl hdn (fun a ha => by
    simp only [execOp, ha.ev hx, Go.convert, Sem.run_bind, run_underlying (intB_out hsrc), run_underlying (intB_out hdst), Result.andThen_ok, Conv.intToInt, Sem.run_pure, hr]) h

theorem WL.indexStr {T : TypeId} {x y : Operand} {s : ByteArray} {k m₁ : Nat} {g : Nat → Nat} {kd : IntKind} {z : Int} (hT : P.underlying T = some .string) (hx : ev e x = some (.string s)) (hy : ev e y = some (.int kd z)) (hz : z = (k : Int))
    (hb : ∀ i, i < m₁ → (s[i]?).map (·.toNat) = some (g i)) (hk : k < m₁) (hdn : Nat.blt d n = true)
    (h : WL F m P ops Q n ds rest ((d, .int .u8 (g k : Int)) :: e) w) : WL F m P ops Q n ds ({ dst := some d, op := .index T x y, type := ty, pos, after := af, guard := none } :: rest) e w := by
  subst hz
  refine WL.op rfl rfl hdn (fun a ha => ?_) h
  have hb' := hb k hk
  cases hs : s[k]? with
  | none => rw [hs] at hb'; cases hb'
  | some b =>
    rw [hs] at hb'
    simp only [Option.map_some, Option.some.injEq] at hb'
    have h1 : (0 : Int) ≤ (k : Int) := by omega
    simp only [execOp, ha.ev hx, ha.ev hy, Instr.index, asIntOf, Sem.run_bind, Sem.run_pure, Result.andThen_ok, run_underlying hT, h1, if_true, Int.toNat_natCast, hs, hb']

theorem WL.boxArr (hS : St w0 S w H) {T : TypeId} {x : Operand} (hx : ev e x = some (arr ws)) (hdn : Nat.blt d n = true)
    (h : ∀ b w', w.heap.size = b → w0.heap.size ≤ b → St w0 S w' ((b, .cells (arrC ws) T) :: H) → WL F m P ops Q n ds rest ((d, .pointer (some ⟨b, 0, none⟩)) :: e) w') : WL F m P ops Q n ds ({ dst := some d, op := .box T x, type := ty, pos, after := af, guard := none } :: rest) e w :=
  WL.box hS hx hdn h

theorem WL.allocArr (hS : St w0 S w H) {T : TypeId} {z : Array Value} (hz : ZeroIs P T z) (hz' : z = arrC ws) (hdn : Nat.blt d n = true)
    (h : ∀ b w', w.heap.size = b → w0.heap.size ≤ b → St w0 S w' ((b, .cells (arrC ws) T) :: H) → WL F m P ops Q n ds rest ((d, .pointer (some ⟨b, 0, none⟩)) :: e) w') : WL F m P ops Q n ds ({ dst := some d, op := .alloc T, type := ty, pos, after := af, guard := none } :: rest) e w := by
  subst hz'
  exact WL.alloc hS hz hdn h

theorem WL.indexArr {T : TypeId} {len k : Nat} {x y : Operand} {kd : IntKind} {z : Int} (hT : arrB P T len 1 = true) (hl : ws.length = len) (hx : ev e x = some (arr ws)) (hy : ev e y = some (.int kd z)) (hz : z = (k : Int)) (hk : k < len) (hdn : Nat.blt d n = true)
    (h : WL F m P ops Q n ds rest ((d, .int .i64 (ws.getD k 0)) :: e) w) (hp : ∀ el, P.underlying T = some (.array len el) → tyB P el false 1 = true := by intro el h; rw [show P.underlying T = _ from h] at *; simp_all) : WL F m P ops Q n ds ({ dst := some d, op := .index T x y, type := ty, pos, after := af, guard := none } :: rest) e w := by
  subst hz
  obtain ⟨el, i, hu, hi, hs⟩ := arrB_out hT
  refine WL.op rfl rfl hdn (fun a ha => ?_) h
  have h1 : (0 : Int) ≤ (k : Int) ∧ (k : Int) < (len : Int) := by omega
  have hg := arrC_get_lt (ws := ws) (i := k) (by omega)
  simp only [execOp, ha.ev hx, ha.ev hy, arr, Instr.index, asIntOf, Sem.run_bind, Sem.run_pure, Result.andThen_ok, run_underlying hu, h1, and_self, if_true, sizeOf, typeInfo, run_program, hi, hs, Int.toNat_natCast, part, tyB_isAgg (hp el hu), Nat.mul_one, hg, Bool.false_eq_true, if_false]

theorem WL.storeArr (hS : St w0 S w H) {T : TypeId} {k : Nat} (hT : tyB P T true k = true) (i : Nat) {b : Nat} {cs : Array Value} {t : TypeId} {x y : Operand} (hx : ev e x = some (.pointer (some ⟨b, 0, none⟩))) (hy : ev e y = some (arr ws'))
    (hi : H[i]? = some (b, .cells cs t)) (hc : cs.size = k) (hl' : ws'.length = k)
    (h : ∀ w', St w0 S w' (H.set i (b, .cells (arrC ws') t)) → WL F m P ops Q n ds rest e w') : WL F m P ops Q n ds ({ dst := none, op := .store T x y, type := ty, pos, after := af, guard := none } :: rest) e w := by
  refine WL.storeAt hS hT i hx hy hi (by rw [arr_cells, arrC_size]; exact hl') (arrC_one _) (by omega) (fun w' hw' => h w' ?_)
  rw [arr_cells, wr_all (by omega)] at hw'
  exact hw'

theorem WL.storeElt (hS : St w0 S w H) {T : TypeId} {o : Nat} (hT : tyB P T false 1 = true) (i : Nat) {b : Nat} {t : TypeId} {x y : Operand} {z : Int} (hx : ev e x = some (.pointer (some ⟨b, o, none⟩))) (hy : ev e y = some (.int .i64 z))
    (hi : H[i]? = some (b, .cells (arrC ws) t)) (hl : o < ws.length)
    (h : ∀ w', St w0 S w' (H.set i (b, .cells (arrC (ws.set o z)) t)) → WL F m P ops Q n ds rest e w') : WL F m P ops Q n ds ({ dst := none, op := .store T x y, type := ty, pos, after := af, guard := none } :: rest) e w := by
  refine WL.storeAt hS hT i hx hy hi rfl (by simp [Value.cells, Value.oneCell']) (by rw [arrC_size]; omega) (fun w' hw' => h w' ?_)
  rw [show (Value.int IntKind.i64 z).cells.toList = [.int .i64 z] from rfl, wr_elt _ hl] at hw'
  exact hw'

theorem WL.build {T : TypeId} {pl : List (Nat × Nat)} {z cells : Array Value} {ps : List (Nat × Operand)} {vs : List (Nat × Value)} (hpl : placesOf P T = some pl) (hz : ZeroIs P T z) (hvs : evp e ps = some vs) (hdn : Nat.blt d n = true)
    (hf : Instr.fill (pl[·]?) z vs = some cells)
    (h : WL F m P ops Q n ds rest ((d, .agg cells) :: e) w) : WL F m P ops Q n ds ({ dst := some d, op := .build T ps.toArray, type := ty, pos, after := af, guard := none } :: rest) e w := by
  obtain ⟨u, hu, hrun⟩ := hz
  unfold placesOf at hpl
  cases hT : P.underlying T with
  | none => simp [hT] at hpl
  | some dsc =>
    rw [hT] at hpl
    cases dsc with
    | struct fs =>
      simp only at hpl
      refine WL.op rfl rfl hdn (fun a ha => ?_) h
      have hp := run_places (P := P) w hpl
      have hmap : (fs.mapM fun f => (do pure (f.offset, ← sizeOf f.type) : Sem (Nat × Nat))).run P w = .ok pl.toArray w := by
        rw [← Array.toArray_toList (xs := fs), List.mapM_toArray, Sem.run_map]
        rw [hp]; rfl
      simp only [execOp, Instr.build, Sem.run_bind, hrun, Result.andThen_ok, run_underlying hT, hmap, List.map_toArray, ha.evp hvs, hu]
      have e2 : (fun x : Nat => pl.toArray[x]?) = (fun x : Nat => pl[x]?) := by funext x; simp
      rw [e2, hf]
      rfl
    | _ => simp at hpl

theorem WL.buildA {T : TypeId} {len sz : Nat} {z cells : Array Value} {ps : List (Nat × Operand)} {vs : List (Nat × Value)} (hT : arrB P T len sz = true) (hz : ZeroIs P T z) (hvs : evp e ps = some vs) (hdn : Nat.blt d n = true)
    (hf : Instr.fill (fun i => some (i * sz, sz)) z vs = some cells)
    (h : WL F m P ops Q n ds rest ((d, .agg cells) :: e) w) : WL F m P ops Q n ds ({ dst := some d, op := .build T ps.toArray, type := ty, pos, after := af, guard := none } :: rest) e w := by
  obtain ⟨u, hu, hrun⟩ := hz
  obtain ⟨el, i, hu', hi, hs⟩ := arrB_out hT
  refine WL.op rfl rfl hdn (fun a ha => ?_) h
  simp only [execOp, Instr.build, Sem.run_bind, hrun, Result.andThen_ok, run_underlying hu', sizeOf, typeInfo, run_program, hi, hs, Sem.run_pure, List.map_toArray, ha.evp hvs, hu, hf]

theorem WL.buildSlice1 (hS : St w0 S w H) {T el : TypeId} {sz : Nat} {x : Operand} (hT : P.underlying T = some (.slice el)) (hel : tyB P el (match P.underlying el with | some (.struct _) | some (.array _ _) => true | _ => false) sz = true) (hsz : 0 < sz ∧ sz ≤ 100) {z : Array Value} (hz : ZeroIs P el z) (hzs : z.size = sz)
    (hx : ev e x = some v) (hv : v.cells.size = sz) (hdn : Nat.blt d n = true)
    (h : ∀ b w', w.heap.size = b → w0.heap.size ≤ b → St w0 S w' ((b, .cells v.cells el) :: H) → WL F m P ops Q n ds rest ((d, .slice (some ⟨b, 0, none⟩) 1 1) :: e) w') : WL F m P ops Q n ds ({ dst := some d, op := .buildSlice T 1 #[(0, x)], type := ty, pos, after := af, guard := none } :: rest) e w := by
  obtain ⟨u, hu, hrun⟩ := hz
  refine WL.op (w' := w.alloc (.cells v.cells el)) (v := .slice (some ⟨w.heap.size, 0, none⟩) 1 1) rfl rfl hdn (fun a ha => ?_) (h _ _ rfl hS.size (hS.alloc _))
  have h1 : ¬ (1 * sz > 2 ^ 24) := by omega
  have h2 : ¬ (1 * sz = 0) := by omega
  have hfill : Instr.fill (fun i => some (i * sz, sz)) ((Array.range (1 * sz)).map (z[· % z.size]!)) [(0, v)] = some v.cells := by
    have hs0 : ((Array.range (1 * sz)).map (z[· % z.size]!)).size = sz := by simp
    simp only [Instr.fill, hv, ne_eq, not_true_eq_false, decide_false, Nat.zero_mul, Nat.zero_add, Bool.false_or, hs0, gt_iff_lt, Nat.lt_irrefl, Bool.false_eq_true, if_false, Option.some.injEq]
    generalize (Array.range (1 * sz)).map (z[· % z.size]!) = c0 at hs0
    have key : ∀ (l : List Value) (k : Nat) (c : Array Value), c.size = k + l.length → (l.zipIdx k).foldl (fun cs (x : Value × Nat) => cs.setIfInBounds x.2 x.1) c = wr c k l := by
      intro l
      induction l with
      | nil => intro k c _; rfl
      | cons y l ih => intro k c hc; simp only [List.zipIdx_cons, List.foldl_cons, wr]; exact ih (k + 1) _ (by simp at hc ⊢; omega)
    have e1 : v.cells.zipIdx.foldl (fun cs (x : Value × Nat) => cs.setIfInBounds x.2 x.1) c0 = wr c0 0 v.cells.toList := by
      rw [← Array.foldl_toList, Array.toList_zipIdx]
      exact key _ 0 _ (by simp [hs0, hv])
    refine Eq.trans e1 ?_
    apply Array.ext_getElem?
    intro i
    rw [wr_get _ _ _ _ (by simp [hs0, hv])]
    by_cases hi : i < sz
    · rw [if_pos (by simp [hv, hi])]; simp
    · rw [if_neg (by simp [hv]; omega), Array.getElem?_eq_none (by omega), Array.getElem?_eq_none (by omega)]
  simp only [execOp, Instr.buildSlice, Sem.run_bind, run_underlying hT, Result.andThen_ok, tyB_size hel, h1, h2, if_false, hrun, hu, Sem.run_pure, newRow, run_newObj, World.alloc, List.map_toArray, List.map_cons, List.map_nil, ha.ev hx, hfill]

end
end I
end Go.Proofs.YtkncbggnaobgeaaDoor

/- The engine, sixth part: ranges over functions. -/
namespace Go.Proofs.YtkncbggnaobgeaaDoor
open Go.RowKit
set_option linter.unusedVariables false
set_option linter.unusedSimpArgs false
set_option linter.unusedSectionVars false
set_option maxRecDepth 100000

/-! ### A region that draws its order, inside a fence -/
section
variable {F : Fence} {m : Nat} [AnyF F] {P : Program} {ops : Array Oper} {Q : Exit → Act → World → Prop}
/-- The operation hands nothing to a row of the machine's own. -/
def NoRow (P : Program) (o : Oper) : Prop := ∀ ρ w row args w', (execOp ρ o).run P w ≠ .ok (.row row args) w'
theorem upon_in {o : Oper} {a : Act} {K K' : Act → World → Prop} {r : Result Next} (hn : ∀ row args w', r ≠ .ok (.row row args) w') (hK : ∀ a w, K a w → K' a w) (h : o.upon P a K Q r) : o.uponIn F m P a K' Q r := by
  cases r with
  | ok x w' =>
    cases x with
    | value v => exact hK _ _ h
    | skip => exact hK _ _ h
    | defer d => exact hK _ _ h
    | enter f args =>
      refine ⟨fun hd => (by rw [AnyF.depth] at hd; cases hd), AnyF.call (Calls.mono h ?_)⟩
      intro e w'' he
      cases e <;> first | exact hK _ _ he | exact he
    | row row args => exact absurd rfl (hn row args w')
    | _ => exact h.elim
  | halt x w' =>
    cases x <;> first | exact h | exact h.elim
theorem wpAny_in (hL : ¬ LetsOut Q) (hn : ∀ (i : Nat) o, ops[i]? = some o → NoRow P o) (hd : ∀ (i : Nat) o, ops[i]? = some o → ∀ c, o.op ≠ .defer c) {md : Region.Mode} : ∀ (fuel : Nat) (listed : Array Bool) (a : Act) (w : World), wpAny P md ops Q fuel listed a w → wpAnyIn F m P md ops Q fuel listed a w
  | 0, _, _, _, h => h
  | fuel + 1, listed, a, w, h => by
    refine ⟨h.1, fun i hi => ?_⟩
    have h2 := h.2 i hi
    unfold wpOp at h2
    unfold wpOpIn
    split
    · rename_i ho
      simp only [ho] at h2
      exact wpAny_in hL hn hd fuel _ _ _ h2
    · rename_i o ho
      simp only [ho] at h2
      by_cases hw : Region.wanted o (yielded ops a.tmps) = true
      · rw [if_pos hw] at h2 ⊢
        rcases h2 with h2 | h2
        · refine ⟨fun f _ => AnyF.fn f, ?_⟩
          rw [Oper.semAt_plain F _ _ (hd i o ho)]
          exact upon_in (fun row args w' => hn i o ho _ _ _ _ _) (fun a w hk => wpAny_in hL hn hd fuel _ _ _ hk) h2
        · exact absurd h2.2 hL
      · rw [if_neg hw] at h2 ⊢
        exact ⟨fun f _ => AnyF.fn f, wpAny_in hL hn hd fuel _ _ _ h2⟩
end

/-- Operations that hand nothing to a row, and put nothing off. -/
def plainOp : Op → Bool
  | .move _ | .assign _ | .load _ _ | .store _ _ _ | .fieldAddr _ _ _ | .indexAddr _ _ _ | .binOp _ _ _ _ _ | .unOp _ _ _ | .convert _ _ _ => true
  | _ => false
theorem run_v {P : Program} {s : Sem Value} {w w' : World} {row : String} {args : Array Value} : ((do pure (Next.value (← s))) : Sem Next).run P w ≠ .ok (.row row args) w' := by
  rw [Sem.run_bind]
  cases s.run P w <;> simp [Result.andThen]
theorem run_u {P : Program} {s : Sem Unit} {w w' : World} {row : String} {args : Array Value} : ((do s; pure .skip) : Sem Next).run P w ≠ .ok (.row row args) w' := by
  rw [Sem.run_bind]
  cases s.run P w <;> simp [Result.andThen]
theorem plain_ok {P : Program} {l : List Oper} (h : l.all (fun o => plainOp o.op) = true) : (∀ o ∈ l, NoRow P o) ∧ (∀ o ∈ l, ∀ c, o.op ≠ .defer c) := by
  rw [List.all_eq_true] at h
  refine ⟨fun o ho ρ w row args w' he => ?_, fun o ho c he => ?_⟩
  · have := h o ho
    unfold execOp at he
    cases hop : o.op <;> rw [hop] at this he <;> first | (cases this; done) | exact absurd he run_v | exact absurd he run_u | (simp at he; done)
  · have := h o ho
    rw [he] at this
    cases this

section
variable {F : Fence} {m : Nat} [AnyF F] {P : Program} {ops : Array Oper} {Q : Exit → Act → World → Prop}
theorem I.WC.held {n : Nat} {ds : List Deferred} {e : Env} {w : World} {id : Nat} {l : List Oper} (S : World → Prop) (hm : P.follows .mixedOrders = true) (hL : ¬ LetsOut Q) (hp : l.all (fun o => plainOp o.op) = true)
    (h : WH P l.toArray Q n ds S l.length (Array.replicate l.length false) e w.drew) : I.WC F m P (.region id l.toArray true) Q n ds e w := fun a ha =>
  wpIn_region_any hm (wpAny_in hL (fun i o hi => (plain_ok (P := P) hp).1 o (List.mem_of_getElem? (by simpa using hi))) (fun i o hi => (plain_ok (P := P) hp).2 o (List.mem_of_getElem? (by simpa using hi))) _ _ _ _ (wpAny_of_held _ _ _ _ (by simpa using h a ha)))
end

/-! ### Ways in and out -/
section
variable {P : Program} {f : FuncId} {fn : Func} {c : Code} {args : List Value} {R : Ending → World → Prop} {k n : Nat} {w w0 : World} {S : List Nat} {H : Hp} {e : Env}
theorem calls_walk_marks (hf : P.funcs[f]? = some fn) (hn : fn.ntmps = k) (hb : fn.body = some c) (hk : Nat.ble args.length k = true)
    (h : WC P c (bodyPostM Fence.wide 9 P fn R) k [] (envFrom 0 args) w) : Calls P f args.toArray w R := by
  subst hn
  exact (callsIn_wide (n := 9)).1 (callsIn_of_wp_marks hf hb trivial (wpIn_wide.2 (h _ (holds_enter args _ (Nat.le_of_ble_eq_true hk)))))
theorem I.callsIn_walk_n {F : Fence} {m : Nat} (hf : P.funcs[f]? = some fn) (hn : fn.ntmps = k) (hb : fn.body = some c) (hk : Nat.ble args.length k = true) (hF : F.fn f) (hro : F.round = none)
    (h : I.WC F m P c (bodyPost P fn R) k [] (envFrom 0 args) w) : CallsIn F m P f args.toArray w R := by
  subst hn
  exact callsIn_of_wp hf hb hF (h _ (holds_enter args _ (Nat.le_of_ble_eq_true hk))) hro
theorem WX.retM (h : WX (bodyPost P fn R) .ret n [] e w) : WX (bodyPostM Fence.wide 9 P fn R) .ret n [] e w := fun a ha => by
  obtain ⟨_, v, hv, hR⟩ := h a ha
  show LeavesInM Fence.wide 9 P fn a.tmps R a.defers .returning w
  rw [ha.defers]
  exact ⟨v, hv, hR⟩
theorem WX.retD {D : Nat} (hS : St w0 S w ((D, .deferred (some [])) :: H)) (h : ∀ w', St w0 S w' H → WX (bodyPost P fn R) .ret n [] e w') : WX (bodyPostM Fence.wide 9 P fn R) .ret n [{ target := .collected D, args := #[] }] e w := fun a ha => by
  show LeavesInM Fence.wide 9 P fn a.tmps R a.defers .returning w
  rw [ha.defers]
  have hD : w.heap[D]? = some (.deferred (some [])) := hS.sat _ List.mem_cons_self
  refine ⟨by simp, .inl ⟨D, _, rfl, run_takeDeferred hD, ?_⟩⟩
  have hS' : St w0 S (w.putObj D (.deferred none)) H := (hS.upd (w' := w.putObj D (.deferred none)) (i := 0) (b := D) (o := .deferred (some [])) (o' := .deferred none) rfl
    ⟨rfl, rfl, rfl, by simp [World.putObj], by simp [World.putObj, lt_of_some hD], fun j hj => by simp [World.putObj, Array.getElem?_setIfInBounds, Ne.symm hj]⟩).tail
  obtain ⟨_, v, hv, hR⟩ := h _ hS' { a with defers := [] } ⟨ha.size, rfl, ha.get⟩
  exact ⟨v, hv, hR⟩
end

/-! ### The range itself -/
/-- Every known block holds cells, or lay ahead of B. -/
def CellsH (B : Nat) (H : Hp) : Prop := ∀ p ∈ H, p.2.isCells = true ∨ p.1 < B
theorem cellsH_nil {B : Nat} : CellsH B [] := fun _ h => by cases h
theorem cellsH_cons {B b : Nat} {cs : Array Value} {t : TypeId} {H : Hp} (h : CellsH B H) : CellsH B ((b, .cells cs t) :: H) := fun p hp => by
  rcases List.mem_cons.1 hp with rfl | hp
  · exact .inl rfl
  · exact h p hp
theorem cellsH_old {B b : Nat} {o : Obj} {H : Hp} (hb : b < B) (h : CellsH B H) : CellsH B ((b, o) :: H) := fun p hp => by
  rcases List.mem_cons.1 hp with rfl | hp
  · exact .inr hb
  · exact h p hp
theorem cellsH_append {B : Nat} {H H' : Hp} (h : CellsH B H) (h' : CellsH B H') : CellsH B (H ++ H') := fun p hp => (List.mem_append.1 hp).elim (h p) (h' p)

theorem St.rebase {w0 w w' : World} {S : List Nat} {H H' : Hp} (h : St w0 S w H) (h' : St w (H.map Prod.fst) w' H') : St w0 S w' H' := by
  have := St.callM (L := []) h h'
  simpa using this
theorem St.grown {w0 w w' : World} {S : List Nat} {H : Hp} {row : Option Nat} {B : Nat} (h : St w0 S w H) (hB : w0.heap.size ≤ B) (hC : CellsH B H) (hg : w.grownBy w' row) (hr : ∀ r, row = some r → B ≤ r ∧ ∃ o : Obj, w.heap[r]? = some o ∧ o.isCells = false) : St w0 S w' H := by
  have key : ∀ k, k < w.heap.size → (k < B ∨ ∃ o : Obj, w.heap[k]? = some o ∧ o.isCells = true) → w'.heap[k]? = w.heap[k]? := fun k hk hh => hg.block k hk (fun e => by
    obtain ⟨hB', o, ho, hc⟩ := hr k e.symm
    rcases hh with hh | ⟨o', ho', hc'⟩
    · omega
    · rw [ho] at ho'; cases ho'; rw [hc] at hc'; cases hc')
  refine ⟨hg.os.trans h.os, hg.tape.trans h.tape, hg.output.trans h.output, Nat.le_trans h.size hg.size, fun k hk hS => ?_, h.nd, fun p hp => ?_, h.own⟩
  · rw [key k (Nat.lt_of_lt_of_le hk h.size) (.inl (by omega))]; exact h.old k hk hS
  · have hs := h.sat p hp
    rw [key p.1 (lt_of_some hs) ((hC p hp).elim (fun hc => .inr ⟨_, hs, hc⟩) .inl)]; exact hs
theorem St.withNew {w0 w : World} {S : List Nat} {H : Hp} {D : Nat} {o : Obj} (h : St w0 S w H) (hD : w0.heap.size ≤ D) (ho : w.heap[D]? = some o) (hne : ∀ p ∈ H, p.1 ≠ D) : St w0 S w ((D, o) :: H) :=
  ⟨h.os, h.tape, h.output, h.size, h.old, by
    simp only [List.map_cons, List.nodup_cons]
    exact ⟨fun hm => by obtain ⟨p, hp, he⟩ := List.mem_map.1 hm; exact hne p hp he, h.nd⟩,
   fun p hp => by
    rcases List.mem_cons.1 hp with rfl | hp
    · exact ho
    · exact h.sat p hp,
   fun p hp => by
    rcases List.mem_cons.1 hp with rfl | hp
    · exact .inr hD
    · exact h.own p hp⟩
theorem St.join {w0 w : World} {S : List Nat} {H L : Hp} (h : St w0 S w L) (h' : St w0 S w H) (hd : ∀ p ∈ L, ∀ q ∈ H, p.2 ≠ q.2) : St w0 S w (L ++ H) :=
  ⟨h.os, h.tape, h.output, h.size, h.old, by
    rw [List.map_append, List.nodup_append]
    refine ⟨h.nd, h'.nd, ?_⟩
    intro a ha b hb hab
    obtain ⟨p, hp, rfl⟩ := List.mem_map.1 ha
    obtain ⟨q, hq, hqe⟩ := List.mem_map.1 hb
    have e1 := h.sat p hp
    have e2 := h'.sat q hq
    rw [hqe, ← hab, e1] at e2
    exact hd p hp q hq (Option.some.inj e2),
   fun p hp => (List.mem_append.1 hp).elim (h.sat p) (h'.sat p), fun p hp => (List.mem_append.1 hp).elim (h.own p) (h'.own p)⟩
theorem St.keepsFrom {w w' : World} {H H' : Hp} {B : Nat} (hC : CellsH B H) (hs : ∀ p ∈ H, w.heap[p.1]? = some p.2) (h : St w (H.map Prod.fst) w' H') : KeepsFrom B w w' :=
  ⟨h.size, fun k o hB ho hc => (h.old k (lt_of_some ho) (fun hm => by
    obtain ⟨p, hp, rfl⟩ := List.mem_map.1 hm
    have := hs p hp
    rw [ho] at this; cases this
    rcases hC p hp with hcc | hlt
    · rw [hc] at hcc; cases hcc
    · omega)).trans ho⟩

section
variable {P : Program}
/-- How a round of the body ends: at a world that the invariant holds of. -/
def roundPost {α : Type} (B : Nat) (Il : List α → Hp → Prop) (Ixl : Code → List α → Hp → Prop) (W : World) (HA : Hp) (pre : List α) : Exit → Act → World → Prop
  | .normal, _, W' => ∃ H', Il pre H' ∧ CellsH B H' ∧ St W (HA.map Prod.fst) W' H'
  | .ret, _, W' => ∃ H', Ixl .ret pre H' ∧ CellsH B H' ∧ St W (HA.map Prod.fst) W' H'
  | .exit id, _, W' => ∃ H', Ixl (.exit id) pre H' ∧ CellsH B H' ∧ St W (HA.map Prod.fst) W' H'
  | _, _, _ => False
theorem roundPost_kept {α : Type} {B : Nat} {Il : List α → Hp → Prop} {Ixl : Code → List α → Hp → Prop} {W : World} {HA : Hp} {pre : List α} : ¬ LetsOut (roundPost B Il Ixl W HA pre) := fun ⟨_, _, h⟩ => h

/-- The parameters' temporaries, set. -/
def envPs : List Nat → List Value → Env → Env
  | p :: ps, v :: vs, e => envPs ps vs ((p, v) :: e)
  | _, _, e => e
theorem holds_params {n : Nat} : ∀ (ps : List Nat) (vs : List Value) (a : Act) (e : Env), Holds a n [] e → (∀ p ∈ ps, p < n) → Holds { tmps := (ps.zip vs).foldl (fun t (p, v) => t.setIfInBounds p v) a.tmps, defers := [] } n [] (envPs ps vs e)
  | [], vs, a, e, h, _ => ⟨h.size, rfl, h.get⟩
  | p :: ps, [], a, e, h, _ => ⟨h.size, rfl, h.get⟩
  | p :: ps, v :: vs, a, e, h, hp => by
    have h1 := h.put (d := p) (v := v) (hp p List.mem_cons_self)
    exact holds_params ps vs (a.put (some p) v) ((p, v) :: e) h1 (fun q hq => hp q (List.mem_cons_of_mem _ hq))

theorem WC.rangeFunc {α G : Type} {g : Operand} {ps : List Tmp} {assign body : Code} {Q : Exit → Act → World → Prop} {n : Nat} {ds : List Deferred} {e : Env} {w w0 : World} {S : List Nat} {H : Hp}
    {gf : Nat} {lb : Array Value} {fg : Func} {encs : α → List Value} {Ss Sp : List α → Prop} {N : Nat}
    (hS : St w0 S w H) (hC : CellsH w.heap.size H) (hg : ev e g = some (.func (.func gf) #[] lb)) (hfg : P.funcs[gf]? = some fg) (hfn : (fg.name == "runtime.NumGoroutine") = false) {cg : Code} (hfb : fg.body = some cg)
    (hps : ∀ x, (encs x).length = ps.length) (hpn : ∀ p ∈ ps, p < n)
    (hseq : SeqStopsK Fence.wide 8 P gf lb (fun x => (encs x).toArray) (fun _ _ => True) Ss Sp N w)
    (Il : List α → Hp → Prop) (Ixl : Code → List α → Hp → Prop) (fA : α → G → Env) (LA : α → G → Hp) {e₀ : Env} (hs₀ : Sub e e₀) (hLA : ∀ x g B, CellsH B (LA x g)) (hdis : ∀ x g pre H, Il pre H → ∀ p ∈ LA x g, ∀ q ∈ H, p.2 ≠ q.2)
    (h0 : Il [] H)
    (hassign : ∀ (l : Nat) pre (x : α) W H, Il pre H → CellsH w.heap.size H → St W (H.map Prod.fst) W H →
      ∀ (N : Act → World → Prop), (∀ g W' e', St W (H.map Prod.fst) W' (LA x g ++ H) → Sub e' (fA x g) → Sub e' e₀ → WX (fun _ => N) .normal n [] e' W') → I.WC (Fence.wide.inRound l) 7 P assign (Exit.then N (fun _ _ _ => False)) n [] (envPs ps (encs x) e) W)
    (hbody : ∀ (l : Nat) pre (x : α) g W H, Il pre H → CellsH w.heap.size H → pre.length < N → St W ((LA x g ++ H).map Prod.fst) W (LA x g ++ H) →
      I.WC (Fence.wide.inRound l) 7 P body (roundPost w.heap.size Il Ixl W (LA x g ++ H) (pre ++ [x])) n [] (fA x g ++ e₀) W)
    (hdone : ∀ D xs W H, Ss xs → Il xs H → St w0 S W ((D, .deferred (some [])) :: H) → WX Q .normal n ({ target := .collected D, args := #[] } :: ds) e W)
    (hstop : ∀ D c pre W H, Sp pre → Ixl c pre H → St w0 S W ((D, .deferred (some [])) :: H) → WC P c Q n ({ target := .collected D, args := #[] } :: ds) e W) :
    WC P (.rangeFunc g ps.toArray assign body) Q n ds e w := by
  intro a ha
  refine (wpIn_wide (n := 9)).1 ?_
  have hgv : a.eval g = .func (.func gf) #[] lb := ha.ev hg
  have eg : ∀ args w, (callFunc gf args).run P w = .ok (.enter gf args) w := fun args w => by
    have h1 : fg.name ≠ "runtime.NumGoroutine" := by simpa using hfn
    simp [callFunc, hfg, h1, hfb, mark]
  refine wpIn_rangeFunc_ownH (F := Fence.wide) (n := 9) rfl (by omega) hgv trivial eg (encs := fun x => (encs x).toArray) (Kp := fun _ _ => True) hseq (fun _ _ => trivial) (fun _ _ _ _ _ _ _ _ => trivial)
    (Below.refl _ _) (fun x => by simp [hps x])
    (fun pre W => ∃ H, Il pre H ∧ CellsH w.heap.size H ∧ St w0 S W H) (fun c pre W => ∃ H, Ixl c pre H ∧ CellsH w.heap.size H ∧ St w0 S W H)
    ?hI ?hIx ⟨H, h0, hC, hS⟩ (fun x a' W => ∃ g, St w0 S W (LA x g) ∧ Holds a' n [] (fA x g ++ e₀)) ?hAx ?avs ?bo ?dn ?st
  case hI => rintro pre W W' row ⟨H, h1, h2, h3⟩ hgr hr; exact ⟨H, h1, h2, h3.grown hS.size h2 hgr hr⟩
  case hIx => rintro c pre W W' row ⟨H, h1, h2, h3⟩ hgr hr; exact ⟨H, h1, h2, h3.grown hS.size h2 hgr hr⟩
  case hAx => rintro x a' _ W W' row ⟨g, h1, h4⟩ hgr hr; exact ⟨g, h1.grown hS.size (hLA x g _) hgr hr, h4⟩
  case avs =>
    rintro l pre x W K ⟨H', h1, h2, h3⟩ hK
    have hst : St W (H'.map Prod.fst) W H' := St.start h3.nd h3.sat
    have hp := holds_params ps (encs x) { a with defers := [] } e ⟨ha.size, rfl, ha.get⟩ hpn
    have := hassign l pre x W H' h1 h2 hst K (fun g W' e' hw' hs1 hs2 a' ha' =>
      hK a' W' (St.keepsFrom h2 h3.sat hw') trivial ⟨H', h1, h2, (h3.rebase hw').weaken (List.sublist_append_right _ _)⟩ ⟨g, (h3.rebase hw').weaken (List.sublist_append_left _ _), ha'.sub (hs1.append hs2)⟩) _ hp
    simpa using this
  case bo =>
    rintro l pre x a' W hl hrec ⟨H', h1, h2, h3⟩ ⟨g, h4, h5⟩ hlt
    have h6 : St w0 S W (LA x g ++ H') := h4.join h3 (hdis x g pre H' h1)
    refine wpIn_mono (hbody l pre x g W H' h1 h2 hlt (St.start h6.nd h6.sat) a' h5) ?_
    intro ex a'' W' hq
    have hcc := cellsH_append (hLA x g w.heap.size) h2
    cases ex with
    | normal => obtain ⟨H2, q1, q2, q3⟩ := hq; exact ⟨St.keepsFrom hcc h6.sat q3, trivial, H2, q1, q2, h6.rebase q3⟩
    | ret => obtain ⟨H2, q1, q2, q3⟩ := hq; exact ⟨St.keepsFrom hcc h6.sat q3, H2, q1, q2, h6.rebase q3⟩
    | exit id => obtain ⟨H2, q1, q2, q3⟩ := hq; exact ⟨St.keepsFrom hcc h6.sat q3, H2, q1, q2, h6.rebase q3⟩
    | _ => exact hq.elim
  case dn =>
    rintro D xs W hD hxs ⟨H', h1, h2, h3⟩ hdef
    refine hdone D xs W H' hxs h1 (h3.withNew (Nat.le_trans hS.size hD) hdef (fun p hp hpe => ?_)) _ ⟨ha.size, by rw [ha.defers], ha.get⟩
    have hsat := h3.sat p hp
    rw [hpe, hdef] at hsat
    rcases h2 p hp with hc | hlt
    · rw [← Option.some.inj hsat] at hc; cases hc
    · omega
  case st =>
    rintro D c pre W hD hxs ⟨H', h1, h2, h3⟩ hdef
    refine wpIn_wide.2 (hstop D c pre W H' hxs h1 (h3.withNew (Nat.le_trans hS.size hD) hdef (fun p hp hpe => ?_)) _ ⟨ha.size, by rw [ha.defers], ha.get⟩)
    have hsat := h3.sat p hp
    rw [hpe, hdef] at hsat
    rcases h2 p hp with hc | hlt
    · rw [← Option.some.inj hsat] at hc; cases hc
    · omega
end
end Go.Proofs.YtkncbggnaobgeaaDoor

/- Walks of functions of the program; printed by a program of this session (walk.py) out of hand-written hints. -/
namespace Go.Proofs.YtkncbggnaobgeaaDoor
open Go.RowKit
set_option linter.unusedVariables false
set_option linter.unusedSimpArgs false
set_option maxRecDepth 100000

/-- Where the search for the i-th position begins. -/
def pst : Nat → Nat
  | 0 => 3
  | i + 1 => posn i + 1
theorem pst_facts : ∀ i, i < 320 → 3 ≤ pst i ∧ pst i ≤ posn i ∧ posn i ≤ pst i + 1 ∧ posn i < 512 ∧ (posn i &&& (posn i - 1)) ≠ 0 ∧ (pst i < posn i → (pst i &&& (pst i - 1)) = 0) := by decide +kernel
theorem pow2_log : ∀ x, x < 512 → x ≠ 0 → (x &&& (x - 1)) = 0 → x = 2 ^ log2 x * (2 * 0 + 1) ∧ log2 x < 9 ∧ isPow2 x = true := by decide +kernel
/-- What the iterator hands to a round. -/
def posEnc (x : Nat) : List Value := [.agg #[.int .i64 ((x / 40 : Nat) : Int), .int .i64 ((x % 40 : Nat) : Int)], .int .i64 (posn x : Int)]
theorem findPos_some {s g : Nat} (hg : g < 320) (he : posn g = s) (hn : ∀ x, x < g → posn x ≠ s) : findPos s = some g := by
  unfold findPos
  rw [List.find?_range_eq_some]
  exact ⟨by simp [he], by simpa using hg, fun j hj => by simpa using hn j hj⟩
theorem findPos_none {s : Nat} (hn : ∀ x, x < 320 → posn x ≠ s) : findPos s = none := by
  unfold findPos
  rw [List.find?_eq_none]
  intro x hx
  simpa using hn x (by simpa using hx)
theorem last_of {x : Nat} {pre : List Nat} {g : Nat} (h : pre ++ [x] = List.range (g + 1)) : pre = List.range g ∧ x = g := by
  rw [List.range_succ] at h
  have := List.append_inj' h rfl
  exact ⟨this.1, by simpa using this.2⟩

theorem I.posit_seq (w : World) : SeqStopsK Fence.wide 8 Tryd.prog 203 #[] (fun x : Nat => (posEnc x).toArray) (fun _ _ => True) (fun xs => xs = List.range 320) (fun pre => ∃ g, g < 320 ∧ pre = List.range (g + 1)) 320 w := by
  intro l J Jx W _ _ _ hY h0
  refine I.callsIn_walk_n (args := [.func (.yield l) #[] #[]]) Tryd.func203 rfl rfl rfl trivial rfl ?_
  refine I.WC.seq ?_
  refine I.WC.region ?_
  refine I.WL.assign rfl rfl ?_
  refine (I.WL.done (I.WX.next ?_))
  refine I.WC.seq ?_
  refine I.WC.region ?_
  refine I.WL.move rfl rfl ?_
  refine (I.WL.done (I.WX.next ?_))
  refine I.WC.block ?_
  -- loop 1: changed [2, 4] kept [0]
  refine I.WC.loop (Sub.cons (t := 0) rfl (Sub.nil _)) (fun g : Nat => [(2, .int .i64 (pst g : Int)), (4, .int .i64 (g : Int))]) (fun k g wx => k = 320 - g ∧ g ≤ 320 ∧ J (List.range g) wx) (320) (0) (Sub.cons (t := 2) (by rfl) (Sub.cons (t := 4) (by rfl) (Sub.nil _))) (⟨rfl, by omega, h0⟩) ?_
  rintro k g wx hI N hN
  obtain ⟨rfl, hg, hJ⟩ := hI
  refine I.WC.seq ?_
  refine I.WC.region ?_
  refine I.WL.bin rfl rfl binv_lss rfl ?_
  refine (I.WL.done (I.WX.next ?_))
  refine I.WC.seq ?_
  refine I.WC.cond_dec rfl (fun c1 => ?_) (fun c1 => ?_)
  ·
    refine (I.WC.skip (I.WX.next ?_))
    refine I.WC.seq ?_
    refine I.WC.block ?_
    refine I.WC.seq ?_
    refine I.WC.region ?_
    obtain ⟨w1, hw1⟩ : ∃ w1, w1 = wx := ⟨_, rfl⟩
    subst hw1
    refine I.WL.move rfl rfl ?_
    refine I.WL.assign rfl rfl ?_
    refine (I.WL.done (I.WX.next ?_))
    refine I.WC.seq ?_
    refine I.WC.block ?_
    -- loop 2: changed [2] kept [0, 3, 4]
    have hlt : g < 320 := by omega
    obtain ⟨g0, hg0⟩ : ∃ g0, g0 = g := ⟨_, rfl⟩
    subst hg0
    have hN0 := hN
    clear hN
    have hp := pst_facts g0 hlt
    refine I.WC.loop (Sub.cons (t := 0) rfl (Sub.cons (t := 3) rfl (Sub.cons (t := 4) rfl (Sub.nil _)))) (fun t : Nat => [(2, .int .i64 (t : Int))]) (fun k t wx => k = posn g0 - t ∧ pst g0 ≤ t ∧ t ≤ posn g0 ∧ wx = w1) (posn g0 - pst g0) (pst g0) (Sub.cons (t := 2) (by rfl) (Sub.nil _)) (⟨rfl, by omega, by omega, rfl⟩) ?_
    rintro k g wx hI N hN
    obtain ⟨rfl, ht1, ht2, rfl⟩ := hI
    refine I.WC.seq ?_
    refine I.WC.seq ?_
    refine I.WC.region ?_
    refine I.WL.move rfl rfl ?_
    refine I.WL.move rfl rfl ?_
    refine I.WL.bin rfl rfl (isub (by omega) (by omega)) rfl ?_
    refine I.WL.bin rfl rfl (iandN (a := g) (b := g - 1) rfl (by omega) (by omega) (by omega)) rfl ?_
    refine I.WL.bin rfl rfl binv_eql rfl ?_
    refine (I.WL.done (I.WX.next ?_))
    refine I.WC.cond_dec rfl (fun c2 => ?_) (fun c2 => ?_)
    ·
      have hne : g ≠ posn g0 := fun e => by subst e; exact hp.2.2.2.2.1 (by omega)
      refine (I.WC.skip (I.WX.next ?_))
      refine I.WC.block ?_
      refine I.WC.region ?_
      refine I.WL.move rfl rfl ?_
      refine I.WL.bin rfl rfl (iadd (by omega) (by omega)) rfl ?_
      refine I.WL.assign rfl rfl ?_
      refine (I.WL.done (WX.block_normal (WX.round ?_)))
      exact hN _ (g+1) _ _ (by omega) ⟨rfl, by omega, by omega, rfl⟩ (Sub.cons (t := 2) (by rfl) (Sub.nil _)) (Sub.cons (t := 0) rfl (Sub.cons (t := 3) rfl (Sub.cons (t := 4) rfl (Sub.nil _))))
    ·
      have hge : g = posn g0 := by
        rcases Nat.lt_or_ge g (posn g0) with hl | hl
        · exact absurd (by rw [show g = pst g0 from by omega]; rw [hp.2.2.2.2.2 (by omega)]; rfl) c2
        · omega
      subst hge
      refine (I.WC.exit (WX.then_exit (WX.then_exit (WX.block_exit (I.WX.next ?_)))))
      refine I.WC.seq ?_
      refine I.WC.seq ?_
      refine I.WC.region ?_
      refine I.WL.move rfl rfl ?_
      refine I.WL.move rfl rfl ?_
      refine I.WL.bin rfl rfl (iquo (by omega) (by omega) (by omega)) rfl ?_
      refine I.WL.move rfl rfl ?_
      refine I.WL.bin rfl rfl (irem (by omega) (by omega)) rfl ?_
      refine I.WL.build pla230 zer230 rfl rfl rfl ?_
      refine I.WL.move rfl rfl ?_
      refine I.WL.yield (vs := posEnc g0) rfl rfl rfl (hY (List.range g0) g0 _ hJ (by simp; omega)) ?_
      intro ed wy hR
      obtain ⟨bb, rfl, hT, hF⟩ : ∃ bb, ed = .returned (.bool bb) ∧ (bb = true → J (List.range g0 ++ [g0]) wy) ∧ (bb = false → Jx (List.range g0 ++ [g0]) wy) := by
        rcases hR with ⟨rfl, h1, _⟩ | ⟨rfl, h1⟩
        · exact ⟨true, rfl, fun _ => h1, fun h => by cases h⟩
        · exact ⟨false, rfl, fun h => by (cases h), fun _ => h1⟩
      refine ⟨_, rfl, ?_⟩
      refine I.WL.notOp rfl rfl ?_
      refine (I.WL.done (I.WX.next ?_))
      refine I.WC.cond rfl (fun c3 => ?_) (fun c3 => ?_)
      ·
        refine (I.WC.ret (WX.then_ret (WX.block_ret (WX.then_ret (WX.then_ret (WX.block_ret ?_))))))
        refine ret_none rfl ?_
        exact ⟨⟨_, rfl⟩, .inr ⟨_, ⟨g0, by omega, rfl⟩, by rw [List.range_succ]; exact hF (by simpa using c3)⟩⟩
      ·
        have ht : bb = true := by simpa using c3
        refine (I.WC.skip (I.WX.next ?_))
        refine I.WC.region ?_
        refine I.WL.move rfl rfl ?_
        refine I.WL.bin rfl rfl (iadd (by omega) (by omega)) rfl ?_
        refine I.WL.assign rfl rfl ?_
        refine (I.WL.done (WX.block_normal (I.WX.next ?_)))
        refine I.WC.region ?_
        refine I.WL.bin rfl rfl (iadd (by omega) (by omega)) rfl ?_
        refine I.WL.move rfl rfl ?_
        refine (I.WL.done (WX.round ?_))
        exact hN0 _ (g0+1) _ _ (by omega) ⟨rfl, by omega, by rw [List.range_succ]; exact hT ht⟩ (Sub.cons (t := 2) rfl (Sub.cons (t := 4) rfl (Sub.nil _))) (Sub.cons rfl (Sub.nil _))
  ·
    refine (I.WC.exit (WX.then_exit (WX.then_exit (WX.block_exit ?_))))
    refine end_none rfl ?_
    exact ⟨⟨_, rfl⟩, .inl ⟨_, rfl, by rw [show (320 : Nat) = g from by omega]; exact hJ⟩⟩

theorem positions_any (w : World) : Calls Tryd.prog 169 #[] w fun e w' => e = .returned (.func (.func 203) #[] #[]) ∧ w' = w := by
  refine calls_walk_n (args := []) Tryd.func169 rfl rfl rfl ?_
  refine WC.seq ?_
  refine WC.region ?_
  refine WL.assign rfl rfl ?_
  refine (WL.done (WX.next ?_))
  refine WC.seq ?_
  refine WC.region ?_
  refine WL.assign rfl rfl ?_
  refine (WL.done (WX.next ?_))
  refine (WC.ret ?_)
  refine ret_one rfl rfl ?_
  exact ⟨rfl, rfl⟩

theorem chk_any (ws : List Int) (h8 : ws.length = 8) (c : Int) (w : World) (hL : L64 w) : Calls Tryd.prog 102 #[arr ws, .int .i64 c] w fun e w' => e = .returned (.tuple #[.int .i64 (chk ws c).1, .int .i64 (chk ws c).2.1, .int .i64 (chk ws c).2.2]) ∧ St w [] w' [] := by
  refine calls_walk_marks (args := [arr ws, .int .i64 c]) Tryd.func102 rfl rfl rfl ?_
  have H := St.refl w
  refine WC.seq ?_
  refine WC.region ?_
  refine WL.boxArr H rfl rfl ?_
  intro b2 wx hb2 hge2 H
  refine WL.alloc H zer3 rfl ?_
  intro b4 wx hb4 hge4 H
  refine WL.alloc H zer3 rfl ?_
  intro b5 wx hb5 hge5 H
  refine WL.alloc H zer3 rfl ?_
  intro b6 wx hb6 hge6 H
  refine (WL.done (WX.next ?_))
  refine WC.seq ?_
  refine WC.seq ?_
  refine WC.region ?_
  refine WL.load rfl (H.rdArr ty38 3 rfl h8) rfl ?_
  refine WL.move rfl rfl ?_
  refine WL.call call161 rfl rfl ?_
  refine Calls.mono (valid_any ws c h8 _) ?_
  rintro _ wx ⟨rfl, Hc⟩
  refine ⟨_, rfl, ?_⟩
  replace H := H.call0 Hc
  refine WL.notOp rfl rfl ?_
  refine (WL.done (WX.next ?_))
  refine WC.cond rfl (fun c1 => ?_) (fun c1 => ?_)
  ·
    have hv : (isWords ws && isCode c) = false := by cases hh : (isWords ws && isCode c) <;> simp [hh] at c1 ⊢
    refine WC.seq ?_
    refine WC.region ?_
    (refine WL.storeAt H ty3 2 rfl rfl rfl rfl (by simp [Value.cells, Value.oneCell']) (by first | decide | (simp only [wr_size]; decide) | simp [wr_size]) ?_)
    intro wx H
    (refine WL.storeAt H ty3 1 rfl rfl rfl rfl (by simp [Value.cells, Value.oneCell']) (by first | decide | (simp only [wr_size]; decide) | simp [wr_size]) ?_)
    intro wx H
    (refine WL.storeAt H ty3 0 rfl rfl rfl rfl (by simp [Value.cells, Value.oneCell']) (by first | decide | (simp only [wr_size]; decide) | simp [wr_size]) ?_)
    intro wx H
    refine (WL.done (WX.next ?_))
    refine (WC.ret (WX.then_ret ?_))
    refine WX.retM ?_
    refine ret_three rfl ⟨_, rfl, by exact H.rd1 ty3 2 rfl rfl⟩ ⟨_, rfl, by exact H.rd1 ty3 1 rfl rfl⟩ ⟨_, rfl, by exact H.rd1 ty3 0 rfl rfl⟩ ?_
    have e : chk ws c = (2, 0, 0) := by unfold chk; rw [hv]; rfl
    rw [e]
    exact ⟨rfl, H.weaken (List.nil_sublist _)⟩
  ·
    have hv : (isWords ws && isCode c) = true := by cases hh : (isWords ws && isCode c) <;> simp [hh] at c1 ⊢
    have hw : isWords ws = true := by rw [Bool.and_eq_true] at hv; exact hv.1
    have hcc := isCode_iff.1 (by rw [Bool.and_eq_true] at hv; exact hv.2)
    obtain ⟨c, rfl⟩ : ∃ n : Nat, c = (n : Int) := ⟨c.toNat, by omega⟩
    have hc : c < 1024 := by omega
    have hsl := syn_lt ws
    have hcl := cnt_le ws
    have hpl : popc c ≤ 10 := by unfold popc; omega
    have hmask : c &&& 511 < 512 := Nat.lt_of_le_of_lt Nat.and_le_right (by omega)
    have hxor : syn ws ^^^ (c &&& 511) < 512 := Nat.xor_lt_two_pow (n := 9) hsl hmask
    refine (WC.skip (WX.next ?_))
    refine WC.seq ?_
    refine WC.region ?_
    refine WL.load rfl (H.rdArr ty38 3 rfl h8) rfl ?_
    refine WL.call call162 rfl rfl ?_
    refine Calls.mono (sum_any ws h8 hw _ (hL.of0 H)) ?_
    rintro _ wx ⟨rfl, Hc⟩
    refine ⟨_, rfl, ?_⟩
    replace H := H.call0 Hc
    refine WL.move rfl rfl ?_
    refine WL.extract rfl rfl rfl ?_
    refine WL.extract rfl rfl rfl ?_
    refine WL.alloc H zer3 rfl ?_
    intro b7 wx hb7 hge7 H
    (refine WL.storeAt H ty3 0 rfl rfl rfl rfl (by simp [Value.cells, Value.oneCell']) (by first | decide | (simp only [wr_size]; decide) | simp [wr_size]) ?_)
    intro wx H
    refine WL.assign rfl rfl ?_
    refine (WL.done (WX.next ?_))
    refine WC.seq ?_
    refine WC.region ?_
    refine WL.load rfl (H.rd1 ty3 0 rfl rfl) rfl ?_
    refine WL.move rfl rfl ?_
    refine WL.bin rfl rfl (iandN (a := c) (b := 511) rfl rfl (by omega) (by omega)) rfl ?_
    refine WL.bin rfl rfl (ixorN (a := syn ws) rfl rfl (by omega) (by omega)) rfl ?_
    (refine WL.storeAt H ty3 0 rfl rfl rfl rfl (by simp [Value.cells, Value.oneCell']) (by first | decide | (simp only [wr_size]; decide) | simp [wr_size]) ?_)
    intro wx H
    refine (WL.done (WX.next ?_))
    refine WC.seq ?_
    refine WC.region ?_
    refine WL.move rfl rfl ?_
    refine WL.move rfl rfl ?_
    refine WL.convert int3 int214 rfl (by exact wrap_u64 (by omega) (by omega)) rfl ?_
    refine WL.call call163 rfl rfl ?_
    refine Calls.mono (oc_any c hc _) ?_
    rintro _ wx ⟨rfl, rfl⟩
    refine ⟨_, rfl, ?_⟩
    refine WL.bin rfl rfl (iadd (by omega) (by omega)) rfl ?_
    refine WL.bin rfl rfl (irem (by omega) (by omega)) rfl ?_
    refine WL.bin rfl rfl binv_eql rfl ?_
    refine WL.assign rfl rfl ?_
    refine (WL.done (WX.next ?_))
    refine WC.seq ?_
    refine WC.block ?_
    refine WC.seq ?_
    refine WC.region ?_
    refine WL.move rfl rfl ?_
    refine WL.notOp rfl rfl ?_
    refine WL.move rfl rfl ?_
    refine WL.split (t := 35) rfl (fun g1 => ?_) (fun g1 => ?_)
    ·
      refine WL.yes rfl rfl ?_
      refine WL.load rfl (H.rd1 ty3 0 rfl rfl) rfl ?_
      refine WL.yes rfl rfl ?_
      refine WL.bin rfl rfl binv_eql rfl ?_
      refine WL.pickT rfl rfl rfl ?_
      refine WL.assign rfl rfl ?_
      refine (WL.done (WX.next ?_))
      refine WC.cond_dec rfl (fun c2 => ?_) (fun c2 => ?_)
      ·
        refine WC.seq ?_
        refine WC.region ?_
        (refine WL.storeAt H ty3 3 rfl rfl rfl rfl (by simp [Value.cells, Value.oneCell']) (by first | decide | (simp only [wr_size]; decide) | simp [wr_size]) ?_)
        intro wx H
        (refine WL.storeAt H ty3 2 rfl rfl rfl rfl (by simp [Value.cells, Value.oneCell']) (by first | decide | (simp only [wr_size]; decide) | simp [wr_size]) ?_)
        intro wx H
        (refine WL.storeAt H ty3 1 rfl rfl rfl rfl (by simp [Value.cells, Value.oneCell']) (by first | decide | (simp only [wr_size]; decide) | simp [wr_size]) ?_)
        intro wx H
        refine (WL.done (WX.next ?_))
        refine (WC.ret (WX.block_ret (WX.then_ret ?_)))
        refine WX.retM ?_
        refine ret_three rfl ⟨_, rfl, by exact H.rd1 ty3 3 rfl rfl⟩ ⟨_, rfl, by exact H.rd1 ty3 2 rfl rfl⟩ ⟨_, rfl, by exact H.rd1 ty3 1 rfl rfl⟩ ?_
        have hev : ¬ (cnt ws + popc c) % 2 = 1 := by have := g1; simp at this; omega
        have e : chk ws c = (0, 0, 0) := by unfold chk; simp only [hv, if_true, Int.toNat_natCast]; rw [if_neg hev, if_pos (by omega)]
        rw [e]
        exact ⟨rfl, H.weaken (List.nil_sublist _)⟩
      ·
        refine WC.seq ?_
        refine WC.region ?_
        refine WL.move rfl rfl ?_
        refine WL.notOp rfl rfl ?_
        refine WL.assign rfl rfl ?_
        refine (WL.done (WX.next ?_))
        refine WC.cond rfl (fun c3 => ?_) (fun c3 => ?_)
        ·
          refine WC.seq ?_
          refine WC.region ?_
          (refine WL.storeAt H ty3 3 rfl rfl rfl rfl (by simp [Value.cells, Value.oneCell']) (by first | decide | (simp only [wr_size]; decide) | simp [wr_size]) ?_)
          intro wx H
          (refine WL.storeAt H ty3 2 rfl rfl rfl rfl (by simp [Value.cells, Value.oneCell']) (by first | decide | (simp only [wr_size]; decide) | simp [wr_size]) ?_)
          intro wx H
          (refine WL.storeAt H ty3 1 rfl rfl rfl rfl (by simp [Value.cells, Value.oneCell']) (by first | decide | (simp only [wr_size]; decide) | simp [wr_size]) ?_)
          intro wx H
          refine (WL.done (WX.next ?_))
          refine (WC.ret (WX.block_ret (WX.then_ret ?_)))
          refine WX.retM ?_
          refine ret_three rfl ⟨_, rfl, by exact H.rd1 ty3 3 rfl rfl⟩ ⟨_, rfl, by exact H.rd1 ty3 2 rfl rfl⟩ ⟨_, rfl, by exact H.rd1 ty3 1 rfl rfl⟩ ?_
          have hev : ¬ (cnt ws + popc c) % 2 = 1 := by have := g1; simp at this; omega
          have e : chk ws c = (2, 0, 0) := by unfold chk; simp only [hv, if_true, Int.toNat_natCast]; rw [if_neg hev, if_neg (by omega)]
          rw [e]
          exact ⟨rfl, H.weaken (List.nil_sublist _)⟩
        ·
          exact absurd (g1.symm.trans c3) (by decide)
    ·
      refine WL.no rfl rfl rfl ?_
      refine WL.no rfl rfl rfl ?_
      refine WL.pickF rfl rfl rfl ?_
      refine WL.assign rfl rfl ?_
      refine (WL.done (WX.next ?_))
      refine WC.cond_false rfl (rfl) ?_
      refine WC.seq ?_
      refine WC.region ?_
      refine WL.move rfl rfl ?_
      refine WL.notOp rfl rfl ?_
      refine WL.assign rfl rfl ?_
      refine (WL.done (WX.next ?_))
      refine WC.cond rfl (fun c5 => ?_) (fun c5 => ?_)
      ·
        exact absurd (g1.symm.trans c5) (by decide)
      ·
        have hodd : (cnt ws + popc c) % 2 = 1 := by have := g1; simp at this; omega
        refine WC.seq ?_
        refine WC.region ?_
        refine WL.load rfl (H.rd1 ty3 0 rfl rfl) rfl ?_
        refine WL.bin rfl rfl binv_eql rfl ?_
        refine WL.assign rfl rfl ?_
        refine (WL.done (WX.next ?_))
        refine WC.cond_dec rfl (fun c6 => ?_) (fun c6 => ?_)
        ·
          refine WC.seq ?_
          refine WC.region ?_
          (refine WL.storeAt H ty3 3 rfl rfl rfl rfl (by simp [Value.cells, Value.oneCell']) (by first | decide | (simp only [wr_size]; decide) | simp [wr_size]) ?_)
          intro wx H
          (refine WL.storeAt H ty3 2 rfl rfl rfl rfl (by simp [Value.cells, Value.oneCell']) (by first | decide | (simp only [wr_size]; decide) | simp [wr_size]) ?_)
          intro wx H
          (refine WL.storeAt H ty3 1 rfl rfl rfl rfl (by simp [Value.cells, Value.oneCell']) (by first | decide | (simp only [wr_size]; decide) | simp [wr_size]) ?_)
          intro wx H
          refine (WL.done (WX.next ?_))
          refine (WC.ret (WX.block_ret (WX.then_ret ?_)))
          refine WX.retM ?_
          refine ret_three rfl ⟨_, rfl, by exact H.rd1 ty3 3 rfl rfl⟩ ⟨_, rfl, by exact H.rd1 ty3 2 rfl rfl⟩ ⟨_, rfl, by exact H.rd1 ty3 1 rfl rfl⟩ ?_
          have e : chk ws c = (1, 8, 9) := by unfold chk; simp only [hv, if_true, Int.toNat_natCast]; rw [if_pos hodd, if_pos (by omega)]
          rw [e]
          exact ⟨rfl, H.weaken (List.nil_sublist _)⟩
        ·
          refine WC.seq ?_
          refine WC.region ?_
          refine WL.load rfl (H.rd1 ty3 0 rfl rfl) rfl ?_
          refine WL.load rfl (H.rd1 ty3 0 rfl rfl) rfl ?_
          refine WL.bin rfl rfl (isub (by omega) (by omega)) rfl ?_
          refine WL.bin rfl rfl (iandN (a := syn ws ^^^ (c &&& 511)) (b := (syn ws ^^^ (c &&& 511)) - 1) rfl (by omega) (by omega) (by omega)) rfl ?_
          refine WL.bin rfl rfl binv_eql rfl ?_
          refine WL.assign rfl rfl ?_
          refine (WL.done (WX.next ?_))
          refine WC.cond_dec rfl (fun c7 => ?_) (fun c7 => ?_)
          ·
            have hlog := pow2_log _ hxor (by omega) (by omega)
            refine WC.seq ?_
            refine WC.region ?_
            refine WL.load rfl (H.rd1 ty3 0 rfl rfl) rfl ?_
            refine WL.convert int3 int214 rfl (by exact wrap_u64 (by omega) (by omega)) rfl ?_
            refine WL.call call168 rfl rfl ?_
            refine Calls.mono (tz_any (log2 (syn ws ^^^ (c &&& 511))) 0 _ (by rw [← hlog.1]) (by rw [← hlog.1]; omega) _ (hL.of0 H)) ?_
            rintro _ wx ⟨rfl, rfl⟩
            refine ⟨_, rfl, ?_⟩
            (refine WL.storeAt H ty3 3 rfl rfl rfl rfl (by simp [Value.cells, Value.oneCell']) (by first | decide | (simp only [wr_size]; decide) | simp [wr_size]) ?_)
            intro wx H
            (refine WL.storeAt H ty3 2 rfl rfl rfl rfl (by simp [Value.cells, Value.oneCell']) (by first | decide | (simp only [wr_size]; decide) | simp [wr_size]) ?_)
            intro wx H
            (refine WL.storeAt H ty3 1 rfl rfl rfl rfl (by simp [Value.cells, Value.oneCell']) (by first | decide | (simp only [wr_size]; decide) | simp [wr_size]) ?_)
            intro wx H
            refine (WL.done (WX.next ?_))
            refine (WC.ret (WX.block_ret (WX.then_ret ?_)))
            refine WX.retM ?_
            refine ret_three rfl ⟨_, rfl, by exact H.rd1 ty3 3 rfl rfl⟩ ⟨_, rfl, by exact H.rd1 ty3 2 rfl rfl⟩ ⟨_, rfl, by exact H.rd1 ty3 1 rfl rfl⟩ ?_
            have e : chk ws c = (1, 8, (log2 (syn ws ^^^ (c &&& 511)) : Int)) := by unfold chk; simp only [hv, if_true, Int.toNat_natCast]; rw [if_pos hodd, if_neg (by omega), if_pos hlog.2.2]
            rw [e]
            exact ⟨rfl, H.weaken (List.nil_sublist _)⟩
          ·
            have hnp : ¬ isPow2 (syn ws ^^^ (c &&& 511)) = true := by unfold isPow2; simp only [beq_iff_eq]; omega
            refine (WC.skip (WX.block_normal (WX.next ?_)))
            refine WC.seq ?_
            refine WC.seq ?_
            refine WC.region ?_
            refine WL.call call169 rfl rfl ?_
            refine Calls.mono (positions_any _) ?_
            rintro _ wx ⟨rfl, rfl⟩
            refine ⟨_, rfl, ?_⟩
            refine (WL.done (WX.next ?_))
            refine WC.block ?_
            -- range 1: assigned [10, 11] kept [4, 5, 6, 7]
            refine WC.rangeFunc (ps := [55, 56]) (α := Nat) (G := Nat) (encs := posEnc) (N := 320) (Ss := fun xs => xs = List.range 320) (Sp := fun pre => ∃ g, g < 320 ∧ pre = List.range (g + 1)) H (cellsH_cons (cellsH_cons (cellsH_cons (cellsH_cons (cellsH_cons cellsH_nil))))) rfl Tryd.func203 rfl rfl (fun _ => rfl) (by decide) (I.posit_seq _) (fun pre H => H = [(b7, .cells #[.int .i64 ((syn ws ^^^ (c &&& 511) : Nat) : Int)] 3), (b6, .cells #[.int .i64 0] 3), (b5, .cells #[.int .i64 0] 3), (b4, .cells #[.int .i64 0] 3), (b2, .cells (arrC ws) 38)] ∧ ∀ y ∈ pre, posn y ≠ syn ws ^^^ (c &&& 511)) (fun c0 pre H => c0 = .ret ∧ ∃ p1 x, pre = p1 ++ [x] ∧ (∀ y ∈ p1, posn y ≠ syn ws ^^^ (c &&& 511)) ∧ posn x = syn ws ^^^ (c &&& 511) ∧ H = [(b7, .cells #[.int .i64 ((syn ws ^^^ (c &&& 511) : Nat) : Int)] 3), (b6, .cells #[.int .i64 ((x % 40 : Nat) : Int)] 3), (b5, .cells #[.int .i64 ((x / 40 : Nat) : Int)] 3), (b4, .cells #[.int .i64 1] 3), (b2, .cells (arrC ws) 38)]) (fun x g => [(10, .pointer (some ⟨g, 0, none⟩)), (11, .int .i64 (posn x : Int))]) (fun x g => [(g, .cells #[.int .i64 ((x / 40 : Nat) : Int), .int .i64 ((x % 40 : Nat) : Int)] 230)]) (Sub.cons (t := 4) rfl (Sub.cons (t := 5) rfl (Sub.cons (t := 6) rfl (Sub.cons (t := 7) rfl (Sub.nil _))))) (fun _ _ _ => cellsH_cons cellsH_nil) (by rintro x g pre Hq ⟨rfl, _⟩ p hp q hq; simp only [List.mem_cons, List.not_mem_nil, or_false] at hp hq; subst hp; rcases hq with rfl | rfl | rfl | rfl | rfl <;> simp) (⟨rfl, by simp⟩) ?_ ?_ ?_ ?_
            · -- assign
              intro l pre x wx Hq hI hC H N hN
              obtain ⟨rfl, hno⟩ := hI
              refine I.WC.seq ?_
              refine I.WC.region ?_
              refine I.WL.alloc H zer230 rfl ?_
              intro b10 wx hb10 hge10 H
              (refine I.WL.storeAt H ty230 0 rfl rfl rfl rfl (by simp [Value.cells, Value.oneCell']) (by first | decide | (simp only [wr_size]; decide) | simp [wr_size]) ?_)
              intro wx H
              refine (I.WL.done (I.WX.next ?_))
              refine I.WC.region ?_
              refine I.WL.assign rfl rfl ?_
              refine (I.WL.done (WX.round ?_))
              exact hN b10 _ _ H (Sub.cons (t := 10) (by rfl) (Sub.cons (t := 11) (by rfl) (Sub.nil _))) (Sub.cons (t := 4) rfl (Sub.cons (t := 5) rfl (Sub.cons (t := 6) rfl (Sub.cons (t := 7) rfl (Sub.nil _)))))
            · -- body
              intro l pre x g wx Hq hI hC hlen H
              obtain ⟨rfl, hno⟩ := hI
              refine I.WC.block ?_
              refine I.WC.seq ?_
              refine I.WC.region ?_
              refine I.WL.move rfl rfl ?_
              refine I.WL.load rfl (H.rd1 ty3 1 rfl rfl) rfl ?_
              refine I.WL.bin rfl rfl binv_eql rfl ?_
              refine (I.WL.done (I.WX.next ?_))
              refine I.WC.cond_dec rfl (fun c8 => ?_) (fun c8 => ?_)
              ·
                refine I.WC.seq ?_
                replace H := H.drew
                refine I.WC.held (fun w' => ∃ H', St (World.drew wx) [g, b7, b6, b5, b4, b2] w' ((g, .cells #[.int .i64 ((x / 40 : Nat) : Int), .int .i64 ((x % 40 : Nat) : Int)] 230) :: H')) (by kernel_rfl) (fun ⟨_, _, h⟩ => h) (by rfl) ?_
                generalize World.drew wx = wb at H ⊢
                have HB : St wb [g, b7, b6, b5, b4, b2] wb _ := St.start H.nd H.sat
                refine WH.take 0 rfl (by kernel_rfl) (by kernel_rfl) (by kernel_rfl) (fun _ _ _ h => h) ⟨_, HB⟩ (fun w' hS => EX.fieldAddr fld230_0 rfl) rfl ?_
                refine WH.take 1 rfl (by kernel_rfl) (by kernel_rfl) (by kernel_rfl) (fun _ _ _ h => h) ⟨_, HB⟩ (fun w' hS => EX.load rfl (hS.choose_spec.rd1 ty3 0 rfl rfl)) rfl ?_
                refine WH.take 2 rfl (by kernel_rfl) (by kernel_rfl) (by kernel_rfl) (fun _ _ _ h => h) ⟨_, HB⟩ (fun w' hS => EX.fieldAddr fld230_1 rfl) rfl ?_
                refine WH.take 3 rfl (by kernel_rfl) (by kernel_rfl) (by kernel_rfl) (fun _ _ _ h => h) ⟨_, HB⟩ (fun w' hS => EX.load rfl (hS.choose_spec.rd1 ty3 0 rfl rfl)) rfl ?_
                refine WH.hard 4 rfl (by kernel_rfl) ?_
                (refine WL.storeAt HB ty3 4 rfl rfl rfl rfl (by simp [Value.cells, Value.oneCell']) (by first | decide | (simp only [wr_size]; decide) | simp [wr_size]) ?_)
                intro wx HB
                refine WL.done (WX.heldOn ⟨_, HB⟩ ?_)
                refine WH.hard 5 rfl (by kernel_rfl) ?_
                (refine WL.storeAt HB ty3 3 rfl rfl rfl rfl (by simp [Value.cells, Value.oneCell']) (by first | decide | (simp only [wr_size]; decide) | simp [wr_size]) ?_)
                intro wx HB
                refine WL.done (WX.heldOn ⟨_, HB⟩ ?_)
                refine WH.hard 6 rfl (by kernel_rfl) ?_
                (refine WL.storeAt HB ty3 2 rfl rfl rfl rfl (by simp [Value.cells, Value.oneCell']) (by first | decide | (simp only [wr_size]; decide) | simp [wr_size]) ?_)
                intro wx HB
                refine WL.done (WX.heldOn ⟨_, HB⟩ ?_)
                refine WH.done (by kernel_rfl) ?_
                replace H := H.rebase HB
                refine I.WX.next ?_
                refine (I.WC.ret (WX.block_ret ?_))
                exact fun a ha => ⟨_, ⟨rfl, pre, x, rfl, hno, by omega, rfl⟩, cellsH_cons (cellsH_cons (cellsH_cons (cellsH_cons (cellsH_cons cellsH_nil)))), H.tail⟩
              ·
                refine (I.WC.skip (WX.block_normal ?_))
                exact fun a ha => ⟨_, ⟨rfl, fun y hy => (List.mem_append.1 hy).elim (hno y) (fun hy => by simp only [List.mem_singleton] at hy; subst hy; omega)⟩, cellsH_cons (cellsH_cons (cellsH_cons (cellsH_cons (cellsH_cons cellsH_nil)))), H.tail⟩
            · -- done
              intro D xs wx Hq hxs hI H
              obtain ⟨rfl, hno⟩ := hI
              subst hxs
              refine (WX.block_normal (WX.next ?_))
              refine WC.seq ?_
              refine WC.region ?_
              (refine WL.storeAt H ty3 4 rfl rfl rfl rfl (by simp [Value.cells, Value.oneCell']) (by first | decide | (simp only [wr_size]; decide) | simp [wr_size]) ?_)
              intro wx H
              (refine WL.storeAt H ty3 3 rfl rfl rfl rfl (by simp [Value.cells, Value.oneCell']) (by first | decide | (simp only [wr_size]; decide) | simp [wr_size]) ?_)
              intro wx H
              (refine WL.storeAt H ty3 2 rfl rfl rfl rfl (by simp [Value.cells, Value.oneCell']) (by first | decide | (simp only [wr_size]; decide) | simp [wr_size]) ?_)
              intro wx H
              refine (WL.done (WX.next ?_))
              refine (WC.ret ?_)
              refine WX.retD H (fun wy H => ?_)
              refine ret_three rfl ⟨_, rfl, by exact H.rd1 ty3 3 rfl rfl⟩ ⟨_, rfl, by exact H.rd1 ty3 2 rfl rfl⟩ ⟨_, rfl, by exact H.rd1 ty3 1 rfl rfl⟩ ?_
              have e : chk ws c = (2, 0, 0) := by unfold chk; simp only [hv, if_true, Int.toNat_natCast]; rw [if_pos hodd, if_neg (by omega), if_neg hnp, findPos_none (fun y hy => hno y (by simpa using hy))]
              rw [e]
              exact ⟨rfl, H.weaken (List.nil_sublist _)⟩
            · -- stop
              intro D c pre wx Hq hxs hI H
              obtain ⟨rfl, p1, x, rfl, hno, hx, rfl⟩ := hI
              obtain ⟨g, hg, hpre⟩ := hxs
              obtain ⟨rfl, rfl⟩ := last_of hpre
              refine (WC.ret (WX.block_ret (WX.then_ret ?_)))
              refine WX.retD H (fun wy H => ?_)
              refine ret_three rfl ⟨_, rfl, by exact H.rd1 ty3 3 rfl rfl⟩ ⟨_, rfl, by exact H.rd1 ty3 2 rfl rfl⟩ ⟨_, rfl, by exact H.rd1 ty3 1 rfl rfl⟩ ?_
              have e : chk ws c = (1, ((x / 40 : Nat) : Int), ((x % 40 : Nat) : Int)) := by unfold chk; simp only [hv, if_true, Int.toNat_natCast]; rw [if_pos hodd, if_neg (by omega), if_neg hnp, findPos_some hg hx (fun y hy => hno y (by simpa using hy))]
              rw [e]
              exact ⟨rfl, H.weaken (List.nil_sublist _)⟩

end Go.Proofs.YtkncbggnaobgeaaDoor

/- Walks of functions of the program; printed by a program of this session (walk.py) out of hand-written hints. -/
namespace Go.Proofs.YtkncbggnaobgeaaDoor
open Go.RowKit
set_option linter.unusedVariables false
set_option linter.unusedSimpArgs false
set_option maxRecDepth 100000

theorem chk_cases {ws : List Int} {c : Int} (hc : isCode c = true) : chk ws c = (0, 0, 0) ∨ chk ws c = (2, 0, 0) ∨ ∃ x y : Nat, chk ws c = (1, (x : Int), (y : Int)) ∧ ((x < 8 ∧ y < 40) ∨ (x = 8 ∧ y < 10)) := by
  have hsl := syn_lt ws
  have hmask : c.toNat &&& 511 < 512 := Nat.lt_of_le_of_lt Nat.and_le_right (by omega)
  have hxor : syn ws ^^^ (c.toNat &&& 511) < 512 := Nat.xor_lt_two_pow (n := 9) hsl hmask
  unfold chk
  split
  · simp only []
    split
    · split
      · exact .inr (.inr ⟨8, 9, rfl, by omega⟩)
      · rename_i hs0
        split
        · rename_i hp
          have h1 : (syn ws ^^^ (c.toNat &&& 511)) &&& ((syn ws ^^^ (c.toNat &&& 511)) - 1) = 0 := by simpa [isPow2] using hp
          have := pow2_log _ hxor hs0 h1
          exact .inr (.inr ⟨8, _, rfl, by omega⟩)
        · split
          · rename_i j hj
            have : j < 320 := by simpa using List.mem_of_find?_eq_some hj
            exact .inr (.inr ⟨j / 40, j % 40, rfl, by omega⟩)
          · exact .inr (.inl rfl)
    · split
      · exact .inl rfl
      · exact .inr (.inl rfl)
  · exact .inr (.inl rfl)

theorem fix_any (ws : List Int) (h8 : ws.length = 8) (c : Int) (w : World) (hL : L64 w) : Calls Tryd.prog 172 #[arr ws, .int .i64 c] w fun e w' => e = .returned (.tuple #[arr (fix ws c).1, .int .i64 (fix ws c).2.1, .int .i64 (fix ws c).2.2]) ∧ St w [] w' [] := by
  refine calls_walk_n (args := [arr ws, .int .i64 c]) Tryd.func172 rfl rfl rfl ?_
  have H := St.refl w
  refine WC.seq ?_
  refine WC.region ?_
  refine WL.boxArr H rfl rfl ?_
  intro b2 wx hb2 hge2 H
  refine WL.allocArr (ws := zeros8) H zer38 rfl rfl ?_
  intro b4 wx hb4 hge4 H
  refine WL.assign rfl rfl ?_
  refine WL.assign rfl rfl ?_
  refine (WL.done (WX.next ?_))
  refine WC.seq ?_
  refine WC.seq ?_
  refine WC.region ?_
  refine WL.load rfl (H.rdArr ty38 1 rfl (by first | exact h8 | (rw [flipBit]; split <;> simp [h8]))) rfl ?_
  refine WL.move rfl rfl ?_
  refine WL.call call161 rfl rfl ?_
  refine Calls.mono (valid_any ws c h8 _) ?_
  rintro _ wx ⟨rfl, Hc⟩
  refine ⟨_, rfl, ?_⟩
  replace H := H.call0 Hc
  refine WL.notOp rfl rfl ?_
  refine (WL.done (WX.next ?_))
  refine WC.cond rfl (fun c1 => ?_) (fun c1 => ?_)
  ·
    have hv : (isWords ws && isCode c) = false := by cases hh : (isWords ws && isCode c) <;> simp [hh] at c1 ⊢
    refine WC.seq ?_
    refine WC.region ?_
    refine WL.buildA (z := arrC zeros8) arr38 zer38 rfl rfl rfl ?_
    refine WL.storeArr (ws' := zeros8) H ty38 0 rfl rfl rfl (by rw [arrC_size]; rfl) rfl ?_
    intro wx H
    refine WL.assign rfl rfl ?_
    refine WL.assign rfl rfl ?_
    refine (WL.done (WX.next ?_))
    refine (WC.ret (WX.then_ret ?_))
    refine ret_three rfl ⟨_, rfl, by exact H.rdArr ty38 0 rfl (by first | rfl | exact h8 | (rw [flipBit]; split <;> simp [h8]))⟩ rfl rfl ?_
    have e1 : fix ws c = (zeros8, 0, 1) := by unfold fix; rw [hv]; rfl
    rw [e1]
    exact ⟨rfl, H.weaken (List.nil_sublist _)⟩
  ·
    have hv : (isWords ws && isCode c) = true := by cases hh : (isWords ws && isCode c) <;> simp [hh] at c1 ⊢
    have hw : isWords ws = true := by rw [Bool.and_eq_true] at hv; exact hv.1
    have hcc : isCode c = true := by rw [Bool.and_eq_true] at hv; exact hv.2
    refine (WC.skip (WX.next ?_))
    refine WC.seq ?_
    refine WC.region ?_
    refine WL.load rfl (H.rdArr ty38 1 rfl (by first | exact h8 | (rw [flipBit]; split <;> simp [h8]))) rfl ?_
    refine WL.move rfl rfl ?_
    refine WL.call call102 rfl rfl ?_
    refine Calls.mono (chk_any ws h8 c _ (hL.of0 H)) ?_
    rintro _ wx ⟨rfl, Hc⟩
    refine ⟨_, rfl, ?_⟩
    replace H := H.call0 Hc
    refine WL.move rfl rfl ?_
    refine WL.extract rfl rfl rfl ?_
    refine WL.extract rfl rfl rfl ?_
    refine WL.extract rfl rfl rfl ?_
    refine WL.assign rfl rfl ?_
    refine WL.assign rfl rfl ?_
    refine WL.assign rfl rfl ?_
    refine (WL.done (WX.next ?_))
    refine WC.seq ?_
    refine WC.seq ?_
    refine WC.region ?_
    refine WL.move rfl rfl ?_
    refine (WL.done (WX.next ?_))
    refine WC.block ?_
    refine WC.seq ?_
    refine WC.region ?_
    refine WL.bin rfl rfl binv_eql rfl ?_
    refine WL.assign rfl rfl ?_
    refine (WL.done (WX.next ?_))
    refine WC.cond_dec rfl (fun c2 => ?_) (fun c2 => ?_)
    ·
      refine WC.seq ?_
      refine WC.region ?_
      refine WL.buildA (z := arrC zeros8) arr38 zer38 rfl rfl rfl ?_
      refine WL.storeArr (ws' := zeros8) H ty38 0 rfl rfl rfl (by rw [arrC_size]; rfl) rfl ?_
      intro wx H
      refine WL.assign rfl rfl ?_
      refine WL.assign rfl rfl ?_
      refine (WL.done (WX.next ?_))
      refine (WC.ret (WX.block_ret (WX.then_ret ?_)))
      refine ret_three rfl ⟨_, rfl, by exact H.rdArr ty38 0 rfl (by first | rfl | exact h8 | (rw [flipBit]; split <;> simp [h8]))⟩ rfl rfl ?_
      have e1 : fix ws c = (zeros8, 0, 9) := by
        rcases chk_cases (ws := ws) hcc with h | h | ⟨x, y, h, _⟩
        · rw [h] at c2; exact absurd c2 (by decide)
        · unfold fix; rw [hv, h]; rfl
        · rw [h] at c2; simp at c2
      rw [e1]
      exact ⟨rfl, H.weaken (List.nil_sublist _)⟩
    ·
      refine WC.seq ?_
      refine WC.region ?_
      refine WL.bin rfl rfl binv_eql rfl ?_
      refine WL.assign rfl rfl ?_
      refine (WL.done (WX.next ?_))
      refine WC.cond_dec rfl (fun c3 => ?_) (fun c3 => ?_)
      ·
        obtain ⟨x, y, hxe, hxy⟩ : ∃ x y : Nat, chk ws c = (1, (x : Int), (y : Int)) ∧ ((x < 8 ∧ y < 40) ∨ (x = 8 ∧ y < 10)) := by
          rcases chk_cases (ws := ws) hcc with h | h | h
          · rw [h] at c3; exact absurd c3 (by decide)
          · rw [h] at c3; exact absurd c3 (by decide)
          · exact h
        rw [hxe]
        refine WC.region ?_
        refine WL.load rfl (H.rdArr ty38 1 rfl (by first | exact h8 | (rw [flipBit]; split <;> simp [h8]))) rfl ?_
        refine WL.move rfl rfl ?_
        refine WL.move rfl rfl ?_
        refine WL.move rfl rfl ?_
        refine WL.call call204 rfl rfl ?_
        refine Calls.mono (flip_any ws h8 hw c hcc x y hxy _) ?_
        rintro _ wx ⟨rfl, Hc⟩
        refine ⟨_, rfl, ?_⟩
        replace H := H.call0 Hc
        refine WL.move rfl rfl ?_
        refine WL.extract rfl rfl rfl ?_
        refine WL.extract rfl rfl rfl ?_
        refine WL.storeArr (ws' := (flipBit ws c x y).1) H ty38 1 rfl rfl rfl (by rw [arrC_size]; exact h8) (by rw [flipBit]; split <;> simp [h8]) ?_
        intro wx H
        refine WL.assign rfl rfl ?_
        refine (WL.done (WX.block_normal (WX.next ?_)))
        refine WC.seq ?_
        refine WC.region ?_
        refine WL.load rfl (H.rdArr ty38 1 rfl (by first | exact h8 | (rw [flipBit]; split <;> simp [h8]))) rfl ?_
        refine WL.move rfl rfl ?_
        (refine WL.storeArr (ws' := (flipBit ws c x y).1) H ty38 0 rfl rfl rfl (by rw [arrC_size]; rfl) (by rw [flipBit]; split <;> simp [h8]) ?_)
        intro wx H
        refine WL.assign rfl rfl ?_
        refine WL.assign rfl rfl ?_
        refine (WL.done (WX.next ?_))
        refine (WC.ret ?_)
        refine ret_three rfl ⟨_, rfl, by exact H.rdArr ty38 0 rfl (by first | rfl | exact h8 | (rw [flipBit]; split <;> simp [h8]))⟩ rfl rfl ?_
        have e1 : fix ws c = ((flipBit ws c x y).1, (flipBit ws c x y).2, 0) := by unfold fix; rw [hv, hxe]; rfl
        rw [e1]
        exact ⟨rfl, H.weaken (List.nil_sublist _)⟩
      ·
        refine (WC.skip (WX.block_normal (WX.next ?_)))
        refine WC.seq ?_
        refine WC.region ?_
        refine WL.load rfl (H.rdArr ty38 1 rfl (by first | exact h8 | (rw [flipBit]; split <;> simp [h8]))) rfl ?_
        refine WL.move rfl rfl ?_
        (refine WL.storeArr (ws' := ws) H ty38 0 rfl rfl rfl (by rw [arrC_size]; rfl) h8 ?_)
        intro wx H
        refine WL.assign rfl rfl ?_
        refine WL.assign rfl rfl ?_
        refine (WL.done (WX.next ?_))
        refine (WC.ret ?_)
        refine ret_three rfl ⟨_, rfl, by exact H.rdArr ty38 0 rfl (by first | rfl | exact h8 | (rw [flipBit]; split <;> simp [h8]))⟩ rfl rfl ?_
        have e1 : fix ws c = (ws, c, 0) := by
          rcases chk_cases (ws := ws) hcc with h | h | ⟨x, y, h, _⟩
          · unfold fix; rw [hv, h]; rfl
          · rw [h] at c2; exact absurd rfl c2
          · rw [h] at c3; exact absurd rfl c3
        rw [e1]
        exact ⟨rfl, H.weaken (List.nil_sublist _)⟩

end Go.Proofs.YtkncbggnaobgeaaDoor
