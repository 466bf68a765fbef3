/- An engine for walking a Go function: the temporaries as an association list, the call's own memory as a list of blocks. Plain theorems over any program. -/
import Derived.WalkKit
import Derived.Deep.LoopGhost
import Derived.Deep.Quiet
import Derived.OrdersHeld
namespace Go.Proofs.YtkncbggnaobgeaaDoor
open Go.RowKit
set_option linter.unusedVariables false
set_option linter.unusedSimpArgs false
set_option maxRecDepth 100000

abbrev Env := List (Nat × Value)

def ev (e : Env) : Operand → Option Value
  | .tmp t => e.lookup t
  | .const v => some v
  | .global g => some (.pointer (some ⟨g, 0, none⟩))
  | .func f => some (.func (.func f) #[] #[])

def evs (e : Env) : List Operand → Option (List Value)
  | [] => some []
  | x :: xs => match ev e x, evs e xs with
    | some v, some vs => some (v :: vs)
    | _, _ => none

structure Holds (a : Act) (n : Nat) (ds : List Deferred) (e : Env) : Prop where
  size : a.tmps.size = n
  defers : a.defers = ds
  get : ∀ t v, e.lookup t = some v → a.tmps.getD t undef = v

section
variable {a : Act} {n : Nat} {ds : List Deferred} {e e' : Env}

theorem Holds.ev (h : Holds a n ds e) {x : Operand} {v : Value} (hx : YtkncbggnaobgeaaDoor.ev e x = some v) : a.eval x = v := by
  cases x with
  | tmp t => exact h.get t v hx
  | const c => simpa [YtkncbggnaobgeaaDoor.ev, Act.eval] using hx
  | global g => simpa [YtkncbggnaobgeaaDoor.ev, Act.eval] using hx
  | func f => simpa [YtkncbggnaobgeaaDoor.ev, Act.eval] using hx

theorem Holds.evs (h : Holds a n ds e) : ∀ {xs : List Operand} {vs : List Value}, YtkncbggnaobgeaaDoor.evs e xs = some vs → xs.map a.eval = vs
  | [], vs, hx => by simp [YtkncbggnaobgeaaDoor.evs] at hx; simp [hx]
  | x :: xs, vs, hx => by
    simp only [YtkncbggnaobgeaaDoor.evs] at hx
    split at hx
    · rename_i v vs' h1 h2
      simp only [Option.some.injEq] at hx
      subst hx
      simp [h.ev h1, h.evs h2]
    · cases hx

theorem Holds.put (h : Holds a n ds e) {d : Nat} {v : Value} (hd : d < n) : Holds (a.put (some d) v) n ds ((d, v) :: e) := by
  refine ⟨by simp [Act.put, h.size], by simp [Act.put, h.defers], fun t u ht => ?_⟩
  simp only [List.lookup_cons] at ht
  by_cases htd : t = d
  · subst htd
    simp at ht
    subst ht
    simp [Act.put, Array.getD, h.size, hd]
  · have hb : (t == d) = false := by simpa using htd
    rw [hb] at ht
    have := h.get t u ht
    simp only [Act.put]
    rw [← this]
    simp [Array.getD_eq_getD_getElem?, Array.getElem?_setIfInBounds, Ne.symm htd]

theorem Holds.put_none (h : Holds a n ds e) {v : Value} : Holds (a.put none v) n ds e := h

/-- Fewer temporaries are known. -/
def Sub (e e' : Env) : Prop := ∀ t v, e'.lookup t = some v → e.lookup t = some v
theorem Sub.refl (e : Env) : Sub e e := fun _ _ h => h
theorem Sub.nil (e : Env) : Sub e [] := fun _ _ h => by simp at h
theorem Sub.cons {t : Nat} {v : Value} (h : e.lookup t = some v) (h' : Sub e e') : Sub e ((t, v) :: e') := by
  intro u x hu
  simp only [List.lookup_cons] at hu
  by_cases hut : u = t
  · subst hut; simp at hu; subst hu; exact h
  · have hb : (u == t) = false := by simpa using hut
    rw [hb] at hu; exact h' u x hu
theorem Sub.append {e'' : Env} (h : Sub e e') (h' : Sub e e'') : Sub e (e' ++ e'') := by
  intro t v ht
  rw [List.lookup_append] at ht
  cases hl : e'.lookup t with
  | none => rw [hl] at ht; exact h' t v (by simpa using ht)
  | some u => rw [hl] at ht; exact h t v (by rw [hl]; simpa using ht)
theorem Sub.trans {e'' : Env} (h : Sub e e') (h' : Sub e' e'') : Sub e e'' := fun t v x => h t v (h' t v x)
theorem Holds.sub (h : Holds a n ds e) (hs : Sub e e') : Holds a n ds e' := ⟨h.size, h.defers, fun t v ht => h.get t v (hs t v ht)⟩

end

/-- A piece of a region's list; a piece of code: from every frame that holds e. -/
def WL (P : Program) (ops : Array Oper) (Q : Exit → Act → World → Prop) (n : Nat) (ds : List Deferred) (l : List Oper) (e : Env) (w : World) : Prop :=
  ∀ a, Holds a n ds e → wpList P ops Q l a w
def WC (P : Program) (c : Code) (Q : Exit → Act → World → Prop) (n : Nat) (ds : List Deferred) (e : Env) (w : World) : Prop :=
  ∀ a, Holds a n ds e → c.wp P Q a w
/-- A way out. -/
def WX (Q : Exit → Act → World → Prop) (x : Exit) (n : Nat) (ds : List Deferred) (e : Env) (w : World) : Prop :=
  ∀ a, Holds a n ds e → Q x a w

section
variable {P : Program} {ops : Array Oper} {Q : Exit → Act → World → Prop} {n : Nat} {ds : List Deferred} {e e' : Env} {w : World} {rest : List Oper}

theorem WL.sub {l : List Oper} (hs : Sub e e') (h : WL P ops Q n ds l e' w) : WL P ops Q n ds l e w := fun a ha => h a (ha.sub hs)
theorem WC.sub {c : Code} (hs : Sub e e') (h : WC P c Q n ds e' w) : WC P c Q n ds e w := fun a ha => h a (ha.sub hs)
theorem WX.sub {x : Exit} (hs : Sub e e') (h : WX Q x n ds e' w) : WX Q x n ds e w := fun a ha => h a (ha.sub hs)

/-! ### Code -/
theorem WC.region {id : Nat} {l : List Oper} (h : WL P l.toArray Q n ds l e w) : WC P (.region id l.toArray false) Q n ds e w :=
  fun a ha => wp_region_lit (h a ha)
theorem WL.done (h : WX Q .normal n ds e w) : WL P ops Q n ds [] e w := fun a ha => wpList_nil (h a ha)
theorem WC.seq {x y : Code} (h : WC P x (Exit.then (y.wp P Q) Q) n ds e w) : WC P (.seq x y) Q n ds e w := fun a ha => wp_seq (h a ha)
theorem WX.next {y : Code} (h : WC P y Q n ds e w) : WX (Exit.then (y.wp P Q) Q) .normal n ds e w := h
theorem WX.then_ret {N : Act → World → Prop} (h : WX Q .ret n ds e w) : WX (Exit.then N Q) .ret n ds e w := h
theorem WX.then_exit {N : Act → World → Prop} {id : Nat} (h : WX Q (.exit id) n ds e w) : WX (Exit.then N Q) (.exit id) n ds e w := h
theorem WC.skip (h : WX Q .normal n ds e w) : WC P .skip Q n ds e w := fun a ha => wp_skip (h a ha)
theorem WC.ret (h : WX Q .ret n ds e w) : WC P .ret Q n ds e w := fun a ha => wp_ret (h a ha)
theorem WC.exit {id : Nat} (h : WX Q (.exit id) n ds e w) : WC P (.exit id) Q n ds e w := fun a ha => wp_exit (h a ha)
theorem WC.block {id : Nat} {c : Code} (h : WC P c (Exit.inBlock id Q) n ds e w) : WC P (.block id c) Q n ds e w := fun a ha => wp_block (h a ha)
theorem WX.block_normal {id : Nat} (h : WX Q .normal n ds e w) : WX (Exit.inBlock id Q) .normal n ds e w := h
theorem WX.block_ret {id : Nat} (h : WX Q .ret n ds e w) : WX (Exit.inBlock id Q) .ret n ds e w := h
theorem WX.block_exit {id : Nat} (h : WX Q .normal n ds e w) : WX (Exit.inBlock id Q) (.exit id) n ds e w := fun a ha => by
  simp only [Exit.inBlock, if_true]; exact h a ha
theorem WX.block_exit_other {id id' : Nat} (hne : (id' == id) = false) (h : WX Q (.exit id') n ds e w) : WX (Exit.inBlock id Q) (.exit id') n ds e w := fun a ha => by
  have hne' : ¬ id' = id := by simpa using hne
  simp only [Exit.inBlock, hne', if_false]; exact h a ha
theorem WC.cond {c : Operand} {x y : Code} {b : Bool} (hc : ev e c = some (.bool b)) (ht : b = true → WC P x Q n ds e w) (hf : b = false → WC P y Q n ds e w) : WC P (.cond c x y) Q n ds e w :=
  fun a ha => wp_cond_split (ha.ev hc) (fun h => ht h a ha) (fun h => hf h a ha)
theorem WC.cond_dec {c : Operand} {x y : Code} {p : Prop} [Decidable p] (hc : ev e c = some (.bool (decide p))) (ht : p → WC P x Q n ds e w) (hf : ¬ p → WC P y Q n ds e w) : WC P (.cond c x y) Q n ds e w :=
  WC.cond hc (fun h => ht (of_decide_eq_true h)) (fun h => hf (of_decide_eq_false h))
theorem WC.cond_true {c : Operand} {x y : Code} {b : Bool} (hc : ev e c = some (.bool b)) (hb : b = true) (h : WC P x Q n ds e w) : WC P (.cond c x y) Q n ds e w :=
  WC.cond hc (fun _ => h) (fun h' => by rw [hb] at h'; cases h')
theorem WC.cond_false {c : Operand} {x y : Code} {b : Bool} (hc : ev e c = some (.bool b)) (hb : b = false) (h : WC P y Q n ds e w) : WC P (.cond c x y) Q n ds e w :=
  WC.cond hc (fun h' => by rw [hb] at h'; cases h') (fun _ => h)

/-- A loop: 'f g' is what the changed slots hold at the head of a round, k how many rounds are still to come at most; 'e₀': what the loop leaves alone. -/
theorem WC.loop {c : Code} {G : Type} {e₀ : Env} (hs₀ : Sub e e₀) (f : G → Env) (I : Nat → G → World → Prop) (k₀ : Nat) (g₀ : G) (hs : Sub e (f g₀)) (h₀ : I k₀ g₀ w)
    (round : ∀ k g w, I k g w → ∀ (N : Act → World → Prop), (∀ k' g' w' e', k' < k → I k' g' w' → Sub e' (f g') → Sub e' e₀ → WX (fun _ => N) .normal n ds e' w') → WC P c (Exit.then N Q) n ds (f g ++ e₀) w) :
    WC P (.loop c) Q n ds e w := by
  intro a ha
  refine wp_loop_ghost (fun k a w => ∃ g, I k g w ∧ Holds a n ds (f g ++ e₀)) k₀ ⟨g₀, h₀, ha.sub (hs.append hs₀)⟩ ?_
  rintro k a w ⟨g, hI, ha⟩
  refine round k g w hI _ ?_ a ha
  intro k' g' w' e' hk hI' hs1 hs2 a' ha'
  exact ⟨k', hk, g', hI', ha'.sub (hs1.append hs2)⟩
/-- Where ways meet again. -/
theorem WC.seqJ {x y : Code} {G : Type} {e₀ : Env} (hs₀ : Sub e e₀) (f : G → Env) (I : G → World → Prop)
    (hx : ∀ (N : Act → World → Prop), (∀ g' w' e', I g' w' → Sub e' (f g') → Sub e' e₀ → WX (fun _ => N) .normal n ds e' w') → WC P x (Exit.then N Q) n ds e w)
    (hy : ∀ g w, I g w → WC P y Q n ds (f g ++ e₀) w) : WC P (.seq x y) Q n ds e w := by
  intro a ha
  refine wp_seq ?_
  refine Code.wp_mono ?_ (hx (fun a' w' => ∃ g, I g w' ∧ Holds a' n ds (f g ++ e₀)) (fun g' w' e' hI hs1 hs2 a' ha' => ⟨g', hI, ha'.sub (hs1.append hs2)⟩) a ha)
  intro x' a' w' hq
  cases x' with
  | normal => obtain ⟨g, hI, hh⟩ := hq; exact hy g w' hI a' hh
  | _ => exact hq
theorem WX.round {N : Act → World → Prop} (h : WX (fun _ => N) .normal n ds e w) : WX (Exit.then N Q) .normal n ds e w := h

/-! ### The function's head and its end -/
def envFrom : Nat → List Value → Env
  | _, [] => []
  | i, v :: vs => (i, v) :: envFrom (i + 1) vs

theorem lookup_envFrom : ∀ (vs : List Value) (i t : Nat) (v : Value), (envFrom i vs).lookup t = some v → i ≤ t ∧ vs[t - i]? = some v
  | [], _, _, _, h => by simp [envFrom] at h
  | u :: vs, i, t, v, h => by
    simp only [envFrom, List.lookup_cons] at h
    by_cases hti : t = i
    · subst hti; simp at h; subst h; simp
    · have hb : (t == i) = false := by simpa using hti
      rw [hb] at h
      obtain ⟨h1, h2⟩ := lookup_envFrom vs (i + 1) t v h
      refine ⟨by omega, ?_⟩
      have : t - i = (t - (i + 1)) + 1 := by omega
      rw [this]; simpa using h2

theorem holds_enter (args : List Value) (k : Nat) (hk : args.length ≤ k) : Holds { tmps := args.toArray ++ Array.replicate (k - args.toArray.size) undef, defers := [] } k [] (envFrom 0 args) := by
  refine ⟨by simp; omega, rfl, fun t v h => ?_⟩
  obtain ⟨_, h2⟩ := lookup_envFrom args 0 t v h
  simp only [Nat.sub_zero] at h2
  have ht : t < args.length := by
    rcases Nat.lt_or_ge t args.length with h | h
    · exact h
    · rw [List.getElem?_eq_none h] at h2; cases h2
  have h3 : args[t] = v := by rw [List.getElem?_eq_getElem ht] at h2; exact Option.some.inj h2
  simp [Array.getD_eq_getD_getElem?, Array.getElem?_append, ht, h3]

theorem calls_walk {f : FuncId} {fn : Func} {c : Code} {args : List Value} {R : Ending → World → Prop} (hf : P.funcs[f]? = some fn) (hb : fn.body = some c) (hk : Nat.ble args.length fn.ntmps = true)
    (h : WC P c (bodyPost P fn R) fn.ntmps [] (envFrom 0 args) w) : Calls P f args.toArray w R :=
  calls_of_wp hf hb (h _ (holds_enter args _ (Nat.le_of_ble_eq_true hk)))

theorem calls_walk_n {f : FuncId} {fn : Func} {c : Code} {args : List Value} {R : Ending → World → Prop} {k : Nat} (hf : P.funcs[f]? = some fn) (hn : fn.ntmps = k) (hb : fn.body = some c) (hk : Nat.ble args.length k = true)
    (h : WC P c (bodyPost P fn R) k [] (envFrom 0 args) w) : Calls P f args.toArray w R := by
  subst hn; exact calls_walk hf hb hk h

theorem ret_none {fn : Func} {R : Ending → World → Prop} (hr : fn.results = #[]) (hR : R (.returned (.tuple #[])) w) : WX (bodyPost P fn R) .ret n [] e w :=
  fun a ha => ⟨ha.defers, _, results_none hr _ _ _, hR⟩
theorem end_none {fn : Func} {R : Ending → World → Prop} (hr : fn.results = #[]) (hR : R (.returned (.tuple #[])) w) : WX (bodyPost P fn R) .normal n [] e w :=
  fun a ha => ⟨ha.defers, _, results_none hr _ _ _, hR⟩
theorem ret_one {fn : Func} {R : Ending → World → Prop} {t : Nat} {v : Value} (hr : fn.results = #[.tmp t]) (ht : e.lookup t = some v) (hR : R (.returned v) w) : WX (bodyPost P fn R) .ret n [] e w :=
  fun a ha => ⟨ha.defers, _, results_tmp hr _ _ _, by rw [ha.get t v ht]; exact hR⟩

/-- One result: a temporary, or a variable in memory. -/
def Res (P : Program) (e : Env) (w : World) : ResultVar → Value → Prop
  | .tmp t, v => e.lookup t = some v
  | .cell a t, v => ∃ b, e.lookup a = some (.pointer (some b)) ∧ (loadVar t b).run P w = .ok v w

def resSem (tmps : Array Value) : ResultVar → Sem Value
  | .tmp t => pure (tmps.getD t undef)
  | .cell x t => do loadVar t (← asAddr (tmps.getD x undef))
theorem results_eq (fn : Func) (tmps : Array Value) : results fn tmps = (do
    let vs ← fn.results.mapM (resSem tmps)
    pure (if h : vs.size = 1 then vs[0] else .tuple vs)) := by
  simp only [results]
  congr 1
theorem Res.run {a : Act} (ha : Holds a n ds e) {r : ResultVar} {v : Value} (h : Res P e w r v) : (resSem a.tmps r).run P w = .ok v w := by
  cases r with
  | tmp t => simp only [resSem, Sem.run_pure]; rw [ha.get t v h]
  | cell x t =>
    obtain ⟨b, h1, h2⟩ := h
    simp only [resSem, ha.get x _ h1, asAddr, Sem.run_bind, Sem.run_pure, Result.andThen_ok, h2]

theorem ret_cell {fn : Func} {R : Ending → World → Prop} {r : ResultVar} {v : Value} (hr : fn.results = #[r]) (h : Res P e w r v) (hR : R (.returned v) w) : WX (bodyPost P fn R) .ret n [] e w :=
  fun a ha => ⟨ha.defers, v, by
    have := Res.run ha h
    simp only [results_eq, hr, Sem.run_bind]
    simp only [List.mapM_toArray, List.mapM_cons, List.mapM_nil, Sem.run_bind, Sem.run_map, this, Result.andThen_ok, Sem.run_pure]
    simp, hR⟩
theorem ret_two {fn : Func} {R : Ending → World → Prop} {r r' : ResultVar} {v v' : Value} (hr : fn.results = #[r, r']) (h : Res P e w r v) (h' : Res P e w r' v') (hR : R (.returned (.tuple #[v, v'])) w) : WX (bodyPost P fn R) .ret n [] e w :=
  fun a ha => ⟨ha.defers, _, by
    have h1 := Res.run ha h
    have h2 := Res.run ha h'
    simp only [results_eq, hr, Sem.run_bind]
    simp only [List.mapM_toArray, List.mapM_cons, List.mapM_nil, Sem.run_bind, Sem.run_map, h1, h2, Result.andThen_ok, Sem.run_pure]
    simp, hR⟩
theorem ret_three {fn : Func} {R : Ending → World → Prop} {r r' r'' : ResultVar} {v v' v'' : Value} (hr : fn.results = #[r, r', r'']) (h : Res P e w r v) (h' : Res P e w r' v') (h'' : Res P e w r'' v'') (hR : R (.returned (.tuple #[v, v', v''])) w) : WX (bodyPost P fn R) .ret n [] e w :=
  fun a ha => ⟨ha.defers, _, by
    have h1 := Res.run ha h
    have h2 := Res.run ha h'
    have h3 := Res.run ha h''
    simp only [results_eq, hr, Sem.run_bind]
    simp only [List.mapM_toArray, List.mapM_cons, List.mapM_nil, Sem.run_bind, Sem.run_map, h1, h2, h3, Result.andThen_ok, Sem.run_pure]
    simp, hR⟩

end
end Go.Proofs.YtkncbggnaobgeaaDoor
