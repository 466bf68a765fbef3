/- Texts of this session, laid together: Eng, Mem, Ops, Opm, Dfr, Arr, Slc. -/
import Derived.WalkKit
import Derived.Deep.LoopGhost
import Derived.Deep.Quiet
import Derived.OrdersHeld
import Derived.Defers
import Derived.Laws.AppendOwn
import Derived.ArgAppend
import Derived.Maps.RangeRun
import Derived.Laws.Slices
import Derived.Laws.OwnMore
import Derived.MapKept

/- An engine for walking a Go function: the temporaries as an association list, the call's own memory as a list of blocks. Plain theorems over any program. -/
namespace Go.Proofs.YtkncbggnaobgeaaDoor
open Go.RowKit
set_option linter.unusedVariables false
set_option linter.unusedSimpArgs false
set_option maxRecDepth 100000

abbrev Env := List (Nat × Value)

def ev (e : Env) : Operand → Option Value
  | .tmp t => e.lookup t
  | .const v => some v
  | .global g => some (.pointer (some ⟨g, 0, none⟩))
  | .func f => some (.func (.func f) #[] #[])

def evs (e : Env) : List Operand → Option (List Value)
  | [] => some []
  | x :: xs => match ev e x, evs e xs with
    | some v, some vs => some (v :: vs)
    | _, _ => none

structure Holds (a : Act) (n : Nat) (ds : List Deferred) (e : Env) : Prop where
  size : a.tmps.size = n
  defers : a.defers = ds
  get : ∀ t v, e.lookup t = some v → a.tmps.getD t undef = v

section
variable {a : Act} {n : Nat} {ds : List Deferred} {e e' : Env}

theorem Holds.ev (h : Holds a n ds e) {x : Operand} {v : Value} (hx : YtkncbggnaobgeaaDoor.ev e x = some v) : a.eval x = v := by
  cases x with
  | tmp t => exact h.get t v hx
  | const c => simpa [YtkncbggnaobgeaaDoor.ev, Act.eval] using hx
  | global g => simpa [YtkncbggnaobgeaaDoor.ev, Act.eval] using hx
  | func f => simpa [YtkncbggnaobgeaaDoor.ev, Act.eval] using hx

theorem Holds.evs (h : Holds a n ds e) : ∀ {xs : List Operand} {vs : List Value}, YtkncbggnaobgeaaDoor.evs e xs = some vs → xs.map a.eval = vs
  | [], vs, hx => by simp [YtkncbggnaobgeaaDoor.evs] at hx; simp [hx]
  | x :: xs, vs, hx => by
    simp only [YtkncbggnaobgeaaDoor.evs] at hx
    split at hx
    · rename_i v vs' h1 h2
      simp only [Option.some.injEq] at hx
      subst hx
      simp [h.ev h1, h.evs h2]
    · cases hx

theorem Holds.put (h : Holds a n ds e) {d : Nat} {v : Value} (hd : d < n) : Holds (a.put (some d) v) n ds ((d, v) :: e) := by
  refine ⟨by simp [Act.put, h.size], by simp [Act.put, h.defers], fun t u ht => ?_⟩
  simp only [List.lookup_cons] at ht
  by_cases htd : t = d
  · subst htd
    simp at ht
    subst ht
    simp [Act.put, Array.getD, h.size, hd]
  · have hb : (t == d) = false := by simpa using htd
    rw [hb] at ht
    have := h.get t u ht
    simp only [Act.put]
    rw [← this]
    simp [Array.getD_eq_getD_getElem?, Array.getElem?_setIfInBounds, Ne.symm htd]

theorem Holds.put_none (h : Holds a n ds e) {v : Value} : Holds (a.put none v) n ds e := h

/-- Fewer temporaries are known. -/
def Sub (e e' : Env) : Prop := ∀ t v, e'.lookup t = some v → e.lookup t = some v
theorem Sub.refl (e : Env) : Sub e e := fun _ _ h => h
theorem Sub.nil (e : Env) : Sub e [] := fun _ _ h => by simp at h
theorem Sub.cons {t : Nat} {v : Value} (h : e.lookup t = some v) (h' : Sub e e') : Sub e ((t, v) :: e') := by
  intro u x hu
  simp only [List.lookup_cons] at hu
  by_cases hut : u = t
  · subst hut; simp at hu; subst hu; exact h
  · have hb : (u == t) = false := by simpa using hut
    rw [hb] at hu; exact h' u x hu
theorem Sub.append {e'' : Env} (h : Sub e e') (h' : Sub e e'') : Sub e (e' ++ e'') := by
  intro t v ht
  rw [List.lookup_append] at ht
  cases hl : e'.lookup t with
  | none => rw [hl] at ht; exact h' t v (by simpa using ht)
  | some u => rw [hl] at ht; exact h t v (by rw [hl]; simpa using ht)
theorem Sub.trans {e'' : Env} (h : Sub e e') (h' : Sub e' e'') : Sub e e'' := fun t v x => h t v (h' t v x)
theorem Holds.sub (h : Holds a n ds e) (hs : Sub e e') : Holds a n ds e' := ⟨h.size, h.defers, fun t v ht => h.get t v (hs t v ht)⟩

end

/-- A piece of a region's list; a piece of code: from every frame that holds e. -/
def WL (P : Program) (ops : Array Oper) (Q : Exit → Act → World → Prop) (n : Nat) (ds : List Deferred) (l : List Oper) (e : Env) (w : World) : Prop :=
  ∀ a, Holds a n ds e → wpList P ops Q l a w
def WC (P : Program) (c : Code) (Q : Exit → Act → World → Prop) (n : Nat) (ds : List Deferred) (e : Env) (w : World) : Prop :=
  ∀ a, Holds a n ds e → c.wp P Q a w
/-- A way out. -/
def WX (Q : Exit → Act → World → Prop) (x : Exit) (n : Nat) (ds : List Deferred) (e : Env) (w : World) : Prop :=
  ∀ a, Holds a n ds e → Q x a w

section
variable {P : Program} {ops : Array Oper} {Q : Exit → Act → World → Prop} {n : Nat} {ds : List Deferred} {e e' : Env} {w : World} {rest : List Oper}

theorem WL.sub {l : List Oper} (hs : Sub e e') (h : WL P ops Q n ds l e' w) : WL P ops Q n ds l e w := fun a ha => h a (ha.sub hs)
theorem WC.sub {c : Code} (hs : Sub e e') (h : WC P c Q n ds e' w) : WC P c Q n ds e w := fun a ha => h a (ha.sub hs)
theorem WX.sub {x : Exit} (hs : Sub e e') (h : WX Q x n ds e' w) : WX Q x n ds e w := fun a ha => h a (ha.sub hs)

/-! ### Code -/
theorem WC.region {id : Nat} {l : List Oper} (h : WL P l.toArray Q n ds l e w) : WC P (.region id l.toArray false) Q n ds e w :=
  fun a ha => wp_region_lit (h a ha)
theorem WL.done (h : WX Q .normal n ds e w) : WL P ops Q n ds [] e w := fun a ha => wpList_nil (h a ha)
theorem WC.seq {x y : Code} (h : WC P x (Exit.then (y.wp P Q) Q) n ds e w) : WC P (.seq x y) Q n ds e w := fun a ha => wp_seq (h a ha)
theorem WX.next {y : Code} (h : WC P y Q n ds e w) : WX (Exit.then (y.wp P Q) Q) .normal n ds e w := h
theorem WX.then_ret {N : Act → World → Prop} (h : WX Q .ret n ds e w) : WX (Exit.then N Q) .ret n ds e w := h
theorem WX.then_exit {N : Act → World → Prop} {id : Nat} (h : WX Q (.exit id) n ds e w) : WX (Exit.then N Q) (.exit id) n ds e w := h
theorem WC.skip (h : WX Q .normal n ds e w) : WC P .skip Q n ds e w := fun a ha => wp_skip (h a ha)
theorem WC.ret (h : WX Q .ret n ds e w) : WC P .ret Q n ds e w := fun a ha => wp_ret (h a ha)
theorem WC.exit {id : Nat} (h : WX Q (.exit id) n ds e w) : WC P (.exit id) Q n ds e w := fun a ha => wp_exit (h a ha)
theorem WC.block {id : Nat} {c : Code} (h : WC P c (Exit.inBlock id Q) n ds e w) : WC P (.block id c) Q n ds e w := fun a ha => wp_block (h a ha)
theorem WX.block_normal {id : Nat} (h : WX Q .normal n ds e w) : WX (Exit.inBlock id Q) .normal n ds e w := h
theorem WX.block_ret {id : Nat} (h : WX Q .ret n ds e w) : WX (Exit.inBlock id Q) .ret n ds e w := h
theorem WX.block_exit {id : Nat} (h : WX Q .normal n ds e w) : WX (Exit.inBlock id Q) (.exit id) n ds e w := fun a ha => by
  simp only [Exit.inBlock, if_true]; exact h a ha
theorem WX.block_exit_other {id id' : Nat} (hne : (id' == id) = false) (h : WX Q (.exit id') n ds e w) : WX (Exit.inBlock id Q) (.exit id') n ds e w := fun a ha => by
  have hne' : ¬ id' = id := by simpa using hne
  simp only [Exit.inBlock, hne', if_false]; exact h a ha
theorem WC.cond {c : Operand} {x y : Code} {b : Bool} (hc : ev e c = some (.bool b)) (ht : b = true → WC P x Q n ds e w) (hf : b = false → WC P y Q n ds e w) : WC P (.cond c x y) Q n ds e w :=
  fun a ha => wp_cond_split (ha.ev hc) (fun h => ht h a ha) (fun h => hf h a ha)
theorem WC.cond_dec {c : Operand} {x y : Code} {p : Prop} [Decidable p] (hc : ev e c = some (.bool (decide p))) (ht : p → WC P x Q n ds e w) (hf : ¬ p → WC P y Q n ds e w) : WC P (.cond c x y) Q n ds e w :=
  WC.cond hc (fun h => ht (of_decide_eq_true h)) (fun h => hf (of_decide_eq_false h))
theorem WC.cond_true {c : Operand} {x y : Code} {b : Bool} (hc : ev e c = some (.bool b)) (hb : b = true) (h : WC P x Q n ds e w) : WC P (.cond c x y) Q n ds e w :=
  WC.cond hc (fun _ => h) (fun h' => by rw [hb] at h'; cases h')
theorem WC.cond_false {c : Operand} {x y : Code} {b : Bool} (hc : ev e c = some (.bool b)) (hb : b = false) (h : WC P y Q n ds e w) : WC P (.cond c x y) Q n ds e w :=
  WC.cond hc (fun h' => by rw [hb] at h'; cases h') (fun _ => h)

/-- A loop: 'f g' is what the changed slots hold at the head of a round, k how many rounds are still to come at most; 'e₀': what the loop leaves alone. -/
theorem WC.loop {c : Code} {G : Type} {e₀ : Env} (hs₀ : Sub e e₀) (f : G → Env) (I : Nat → G → World → Prop) (k₀ : Nat) (g₀ : G) (hs : Sub e (f g₀)) (h₀ : I k₀ g₀ w)
    (round : ∀ k g w, I k g w → ∀ (N : Act → World → Prop), (∀ k' g' w' e', k' < k → I k' g' w' → Sub e' (f g') → Sub e' e₀ → WX (fun _ => N) .normal n ds e' w') → WC P c (Exit.then N Q) n ds (f g ++ e₀) w) :
    WC P (.loop c) Q n ds e w := by
  intro a ha
  refine wp_loop_ghost (fun k a w => ∃ g, I k g w ∧ Holds a n ds (f g ++ e₀)) k₀ ⟨g₀, h₀, ha.sub (hs.append hs₀)⟩ ?_
  rintro k a w ⟨g, hI, ha⟩
  refine round k g w hI _ ?_ a ha
  intro k' g' w' e' hk hI' hs1 hs2 a' ha'
  exact ⟨k', hk, g', hI', ha'.sub (hs1.append hs2)⟩
/-- Where ways meet again. -/
theorem WC.seqJ {x y : Code} {G : Type} {e₀ : Env} (hs₀ : Sub e e₀) (f : G → Env) (I : G → World → Prop)
    (hx : ∀ (N : Act → World → Prop), (∀ g' w' e', I g' w' → Sub e' (f g') → Sub e' e₀ → WX (fun _ => N) .normal n ds e' w') → WC P x (Exit.then N Q) n ds e w)
    (hy : ∀ g w, I g w → WC P y Q n ds (f g ++ e₀) w) : WC P (.seq x y) Q n ds e w := by
  intro a ha
  refine wp_seq ?_
  refine Code.wp_mono ?_ (hx (fun a' w' => ∃ g, I g w' ∧ Holds a' n ds (f g ++ e₀)) (fun g' w' e' hI hs1 hs2 a' ha' => ⟨g', hI, ha'.sub (hs1.append hs2)⟩) a ha)
  intro x' a' w' hq
  cases x' with
  | normal => obtain ⟨g, hI, hh⟩ := hq; exact hy g w' hI a' hh
  | _ => exact hq
theorem WX.round {N : Act → World → Prop} (h : WX (fun _ => N) .normal n ds e w) : WX (Exit.then N Q) .normal n ds e w := h

/-! ### The function's head and its end -/
def envFrom : Nat → List Value → Env
  | _, [] => []
  | i, v :: vs => (i, v) :: envFrom (i + 1) vs

theorem lookup_envFrom : ∀ (vs : List Value) (i t : Nat) (v : Value), (envFrom i vs).lookup t = some v → i ≤ t ∧ vs[t - i]? = some v
  | [], _, _, _, h => by simp [envFrom] at h
  | u :: vs, i, t, v, h => by
    simp only [envFrom, List.lookup_cons] at h
    by_cases hti : t = i
    · subst hti; simp at h; subst h; simp
    · have hb : (t == i) = false := by simpa using hti
      rw [hb] at h
      obtain ⟨h1, h2⟩ := lookup_envFrom vs (i + 1) t v h
      refine ⟨by omega, ?_⟩
      have : t - i = (t - (i + 1)) + 1 := by omega
      rw [this]; simpa using h2

theorem holds_enter (args : List Value) (k : Nat) (hk : args.length ≤ k) : Holds { tmps := args.toArray ++ Array.replicate (k - args.toArray.size) undef, defers := [] } k [] (envFrom 0 args) := by
  refine ⟨by simp; omega, rfl, fun t v h => ?_⟩
  obtain ⟨_, h2⟩ := lookup_envFrom args 0 t v h
  simp only [Nat.sub_zero] at h2
  have ht : t < args.length := by
    rcases Nat.lt_or_ge t args.length with h | h
    · exact h
    · rw [List.getElem?_eq_none h] at h2; cases h2
  have h3 : args[t] = v := by rw [List.getElem?_eq_getElem ht] at h2; exact Option.some.inj h2
  simp [Array.getD_eq_getD_getElem?, Array.getElem?_append, ht, h3]

theorem calls_walk {f : FuncId} {fn : Func} {c : Code} {args : List Value} {R : Ending → World → Prop} (hf : P.funcs[f]? = some fn) (hb : fn.body = some c) (hk : Nat.ble args.length fn.ntmps = true)
    (h : WC P c (bodyPost P fn R) fn.ntmps [] (envFrom 0 args) w) : Calls P f args.toArray w R :=
  calls_of_wp hf hb (h _ (holds_enter args _ (Nat.le_of_ble_eq_true hk)))

theorem calls_walk_n {f : FuncId} {fn : Func} {c : Code} {args : List Value} {R : Ending → World → Prop} {k : Nat} (hf : P.funcs[f]? = some fn) (hn : fn.ntmps = k) (hb : fn.body = some c) (hk : Nat.ble args.length k = true)
    (h : WC P c (bodyPost P fn R) k [] (envFrom 0 args) w) : Calls P f args.toArray w R := by
  subst hn; exact calls_walk hf hb hk h

theorem ret_none {fn : Func} {R : Ending → World → Prop} (hr : fn.results = #[]) (hR : R (.returned (.tuple #[])) w) : WX (bodyPost P fn R) .ret n [] e w :=
  fun a ha => ⟨ha.defers, _, results_none hr _ _ _, hR⟩
theorem end_none {fn : Func} {R : Ending → World → Prop} (hr : fn.results = #[]) (hR : R (.returned (.tuple #[])) w) : WX (bodyPost P fn R) .normal n [] e w :=
  fun a ha => ⟨ha.defers, _, results_none hr _ _ _, hR⟩
theorem ret_one {fn : Func} {R : Ending → World → Prop} {t : Nat} {v : Value} (hr : fn.results = #[.tmp t]) (ht : e.lookup t = some v) (hR : R (.returned v) w) : WX (bodyPost P fn R) .ret n [] e w :=
  fun a ha => ⟨ha.defers, _, results_tmp hr _ _ _, by rw [ha.get t v ht]; exact hR⟩

/-- One result: a temporary, or a variable in memory. -/
def Res (P : Program) (e : Env) (w : World) : ResultVar → Value → Prop
  | .tmp t, v => e.lookup t = some v
  | .cell a t, v => ∃ b, e.lookup a = some (.pointer (some b)) ∧ (loadVar t b).run P w = .ok v w

def resSem (tmps : Array Value) : ResultVar → Sem Value
  | .tmp t => pure (tmps.getD t undef)
  | .cell x t => do loadVar t (← asAddr (tmps.getD x undef))
theorem results_eq (fn : Func) (tmps : Array Value) : results fn tmps = (do
    let vs ← fn.results.mapM (resSem tmps)
    pure (if h : vs.size = 1 then vs[0] else .tuple vs)) := by
  simp only [results]
  congr 1
theorem Res.run {a : Act} (ha : Holds a n ds e) {r : ResultVar} {v : Value} (h : Res P e w r v) : (resSem a.tmps r).run P w = .ok v w := by
  cases r with
  | tmp t => simp only [resSem, Sem.run_pure]; rw [ha.get t v h]
  | cell x t =>
    obtain ⟨b, h1, h2⟩ := h
    simp only [resSem, ha.get x _ h1, asAddr, Sem.run_bind, Sem.run_pure, Result.andThen_ok, h2]

theorem ret_cell {fn : Func} {R : Ending → World → Prop} {r : ResultVar} {v : Value} (hr : fn.results = #[r]) (h : Res P e w r v) (hR : R (.returned v) w) : WX (bodyPost P fn R) .ret n [] e w :=
  fun a ha => ⟨ha.defers, v, by
    have := Res.run ha h
    simp only [results_eq, hr, Sem.run_bind]
    simp only [List.mapM_toArray, List.mapM_cons, List.mapM_nil, Sem.run_bind, Sem.run_map, this, Result.andThen_ok, Sem.run_pure]
    simp, hR⟩
theorem ret_two {fn : Func} {R : Ending → World → Prop} {r r' : ResultVar} {v v' : Value} (hr : fn.results = #[r, r']) (h : Res P e w r v) (h' : Res P e w r' v') (hR : R (.returned (.tuple #[v, v'])) w) : WX (bodyPost P fn R) .ret n [] e w :=
  fun a ha => ⟨ha.defers, _, by
    have h1 := Res.run ha h
    have h2 := Res.run ha h'
    simp only [results_eq, hr, Sem.run_bind]
    simp only [List.mapM_toArray, List.mapM_cons, List.mapM_nil, Sem.run_bind, Sem.run_map, h1, h2, Result.andThen_ok, Sem.run_pure]
    simp, hR⟩
theorem ret_three {fn : Func} {R : Ending → World → Prop} {r r' r'' : ResultVar} {v v' v'' : Value} (hr : fn.results = #[r, r', r'']) (h : Res P e w r v) (h' : Res P e w r' v') (h'' : Res P e w r'' v'') (hR : R (.returned (.tuple #[v, v', v''])) w) : WX (bodyPost P fn R) .ret n [] e w :=
  fun a ha => ⟨ha.defers, _, by
    have h1 := Res.run ha h
    have h2 := Res.run ha h'
    have h3 := Res.run ha h''
    simp only [results_eq, hr, Sem.run_bind]
    simp only [List.mapM_toArray, List.mapM_cons, List.mapM_nil, Sem.run_bind, Sem.run_map, h1, h2, h3, Result.andThen_ok, Sem.run_pure]
    simp, hR⟩

end
end Go.Proofs.YtkncbggnaobgeaaDoor

/- An engine for walking a Go function, second part: the blocks of memory that a call knows. Plain theorems over any program. -/
namespace Go.Proofs.YtkncbggnaobgeaaDoor
open Go.RowKit
set_option linter.unusedVariables false
set_option linter.unusedSimpArgs false
set_option maxRecDepth 100000

abbrev Hp := List (Nat × Obj)

/-- 'w' was reached from 'w0'; of what lay there only the blocks of S may have changed; the blocks of H are as H says. -/
structure St (w0 : World) (S : List Nat) (w : World) (H : Hp) : Prop where
  os : w.os = w0.os
  tape : w.tape = w0.tape
  output : w.output = w0.output
  size : w0.heap.size ≤ w.heap.size
  old : ∀ k, k < w0.heap.size → k ∉ S → w.heap[k]? = w0.heap[k]?
  nd : (H.map Prod.fst).Nodup
  sat : ∀ p ∈ H, w.heap[p.1]? = some p.2
  own : ∀ p ∈ H, p.1 ∈ S ∨ w0.heap.size ≤ p.1

/-- Block b holds o now; all else is as it was. -/
structure Upd (w w' : World) (b : Nat) (o : Obj) : Prop where
  os : w'.os = w.os
  tape : w'.tape = w.tape
  output : w'.output = w.output
  size : w'.heap.size = w.heap.size
  at_ : w'.heap[b]? = some o
  far : ∀ k, k ≠ b → w'.heap[k]? = w.heap[k]?

theorem lt_of_some {w : World} {b : Nat} {o : Obj} (h : w.heap[b]? = some o) : b < w.heap.size := by
  rcases Nat.lt_or_ge b w.heap.size with hl | hg
  · exact hl
  · rw [Array.getElem?_eq_none hg] at h; cases h

theorem fst_ne : ∀ {H : Hp} {i j : Nat} {p q : Nat × Obj}, (H.map Prod.fst).Nodup → H[i]? = some p → H[j]? = some q → i ≠ j → p.1 ≠ q.1
  | [], i, j, p, q, _, hi, _, _ => by simp at hi
  | x :: H, 0, 0, p, q, _, _, _, hij => absurd rfl hij
  | x :: H, 0, j + 1, p, q, hn, hi, hj, _ => by
    simp only [List.map_cons, List.nodup_cons] at hn
    simp only [List.getElem?_cons_zero, Option.some.injEq] at hi
    simp only [List.getElem?_cons_succ] at hj
    subst hi
    intro he
    exact hn.1 (he ▸ List.mem_map_of_mem (List.mem_of_getElem? hj))
  | x :: H, i + 1, 0, p, q, hn, hi, hj, _ => by
    simp only [List.map_cons, List.nodup_cons] at hn
    simp only [List.getElem?_cons_zero, Option.some.injEq] at hj
    simp only [List.getElem?_cons_succ] at hi
    subst hj
    intro he
    exact hn.1 (he ▸ List.mem_map_of_mem (List.mem_of_getElem? hi))
  | x :: H, i + 1, j + 1, p, q, hn, hi, hj, hij => by
    simp only [List.map_cons, List.nodup_cons] at hn
    exact fst_ne hn.2 (by simpa using hi) (by simpa using hj) (by omega)

section
variable {w0 w w' : World} {S : List Nat} {H : Hp}

theorem St.refl (w : World) : St w [] w [] := ⟨rfl, rfl, rfl, Nat.le_refl _, fun _ _ _ => rfl, by simp, by simp, by simp⟩
theorem St.start {w : World} {H : Hp} (hnd : (H.map Prod.fst).Nodup) (hs : ∀ p ∈ H, w.heap[p.1]? = some p.2) : St w (H.map Prod.fst) w H :=
  ⟨rfl, rfl, rfl, Nat.le_refl _, fun _ _ _ => rfl, hnd, hs, fun p hp => .inl (List.mem_map_of_mem hp)⟩
theorem St.lt (h : St w0 S w H) {p : Nat × Obj} (hp : p ∈ H) : p.1 < w.heap.size := lt_of_some (h.sat p hp)
theorem St.below (h : St w0 [] w H) : Below w0.heap.size w0 w := ⟨h.os, h.tape, h.output, h.size, fun k hk => h.old k hk (by simp)⟩
theorem St.of_below (h : Below w0.heap.size w0 w) : St w0 [] w [] := ⟨h.os, h.tape, h.output, h.size, fun k hk _ => h.block k hk, by simp, by simp, by simp⟩
theorem St.drew (h : St w0 S w H) : St w0 S w.drew H := ⟨h.os, h.tape, h.output, h.size, h.old, h.nd, h.sat, h.own⟩
theorem St.drawn (h : St w0 S w H) (k : Nat) : St w0 S { w with drawn := k } H := ⟨h.os, h.tape, h.output, h.size, h.old, h.nd, h.sat, h.own⟩

theorem heap_push_lt (w : World) (o : Obj) {k : Nat} (hk : k < w.heap.size) : (w.alloc o).heap[k]? = w.heap[k]? := by
  show (w.heap.push o)[k]? = _
  rw [Array.getElem?_push, if_neg (by omega)]
theorem heap_push_new (w : World) (o : Obj) : (w.alloc o).heap[w.heap.size]? = some o := by
  show (w.heap.push o)[w.heap.size]? = _
  rw [Array.getElem?_push, if_pos rfl]

theorem St.alloc (h : St w0 S w H) (o : Obj) : St w0 S (w.alloc o) ((w.heap.size, o) :: H) := by
  refine ⟨h.os, h.tape, h.output, by have := h.size; simp; omega, fun k hk hS => ?_, ?_, ?_, ?_⟩
  · rw [heap_push_lt _ _ (by have := h.size; omega)]; exact h.old k hk hS
  · simp only [List.map_cons, List.nodup_cons]
    refine ⟨fun hm => ?_, h.nd⟩
    obtain ⟨p, hp, he⟩ := List.mem_map.1 hm
    have := h.lt hp
    omega
  · intro p hp
    rcases List.mem_cons.1 hp with rfl | hp
    · exact heap_push_new _ _
    · rw [heap_push_lt _ _ (h.lt hp)]; exact h.sat p hp
  · intro p hp
    rcases List.mem_cons.1 hp with rfl | hp
    · exact .inr h.size
    · exact h.own p hp

/-- Fewer blocks are known. -/
theorem St.weaken {H' : Hp} (h : St w0 S w H) (hs : H'.Sublist H) : St w0 S w H' :=
  ⟨h.os, h.tape, h.output, h.size, h.old, h.nd.sublist (hs.map _), fun p hp => h.sat p (hs.subset hp), fun p hp => h.own p (hs.subset hp)⟩
theorem St.tail {p : Nat × Obj} (h : St w0 S w (p :: H)) : St w0 S w H := h.weaken (List.sublist_cons_self _ _)
/-- In another order. -/
theorem St.perm {H' : Hp} (h : St w0 S w H) (hs : H.Perm H') : St w0 S w H' :=
  ⟨h.os, h.tape, h.output, h.size, h.old, (hs.map _).nodup_iff.1 h.nd, fun p hp => h.sat p (hs.mem_iff.2 hp), fun p hp => h.own p (hs.mem_iff.2 hp)⟩
theorem St.moreS {S' : List Nat} (h : St w0 S w H) (hs : ∀ k ∈ S, k ∈ S') : St w0 S' w H :=
  ⟨h.os, h.tape, h.output, h.size, fun k hk hn => h.old k hk (fun hh => hn (hs k hh)), h.nd, h.sat, fun p hp => (h.own p hp).imp (hs _) id⟩

theorem St.upd (h : St w0 S w H) {i b : Nat} {o o' : Obj} (hi : H[i]? = some (b, o)) (hu : Upd w w' b o') : St w0 S w' (H.set i (b, o')) := by
  have hmem : (b, o) ∈ H := List.mem_of_getElem? hi
  have hil : i < H.length := by
    rcases Nat.lt_or_ge i H.length with hl | hg
    · exact hl
    · rw [List.getElem?_eq_none hg] at hi; cases hi
  have hmap : (H.set i (b, o')).map Prod.fst = H.map Prod.fst := by
    rw [List.map_set]
    apply List.ext_getElem?
    intro j
    rw [List.getElem?_set]
    split
    · rename_i hij
      subst hij
      simp only [List.length_map, hil, if_true, List.getElem?_map, hi, Option.map]
    · rfl
  refine ⟨hu.os.trans h.os, hu.tape.trans h.tape, hu.output.trans h.output, by rw [hu.size]; exact h.size, fun k hk hS => ?_, by rw [hmap]; exact h.nd, ?_, ?_⟩
  · by_cases hkb : k = b
    · subst hkb
      rcases h.own _ hmem with hS' | hge
      · exact absurd hS' hS
      · simp only at hge; omega
    · rw [hu.far k hkb]; exact h.old k hk hS
  · intro p hp
    obtain ⟨j, hj⟩ := List.getElem?_of_mem hp
    rw [List.getElem?_set] at hj
    split at hj
    · rename_i hij
      cases hj
      exact hu.at_
    · rename_i hij
      have hpm : p ∈ H := List.mem_of_getElem? hj
      rw [hu.far _ (fst_ne h.nd hj hi (Ne.symm hij))]; exact h.sat p hpm
  · intro p hp
    rcases List.mem_or_eq_of_mem_set hp with hp | rfl
    · exact h.own p hp
    · exact h.own (b, o) hmem

/-- Behind a call that has changed no old block. -/
theorem St.call (h : St w0 S w H) {H' : Hp} (hc : St w [] w' H') : St w0 S w' (H' ++ H) := by
  refine ⟨hc.os.trans h.os, hc.tape.trans h.tape, hc.output.trans h.output, Nat.le_trans h.size hc.size, fun k hk hS => ?_, ?_, ?_, ?_⟩
  · rw [hc.old k (Nat.lt_of_lt_of_le hk h.size) (by simp)]; exact h.old k hk hS
  · rw [List.map_append, List.nodup_append]
    refine ⟨hc.nd, h.nd, ?_⟩
    intro x hx y hy hxy
    obtain ⟨p, hp, rfl⟩ := List.mem_map.1 hx
    obtain ⟨q, hq, rfl⟩ := List.mem_map.1 hy
    rcases hc.own p hp with hh | hh
    · simp at hh
    · have := h.lt hq; omega
  · intro p hp
    rcases List.mem_append.1 hp with hp | hp
    · exact hc.sat p hp
    · rw [hc.old _ (h.lt hp) (by simp)]; exact h.sat p hp
  · intro p hp
    rcases List.mem_append.1 hp with hp | hp
    · rcases hc.own p hp with hh | hh
      · simp at hh
      · exact .inr (Nat.le_trans h.size hh)
    · exact h.own p hp
theorem St.call0 (h : St w0 S w H) (hc : St w [] w' []) : St w0 S w' H := h.call hc

/-- Behind a call that was handed the blocks M. -/
theorem St.callM {L M M' : Hp} (h : St w0 S w (L ++ M)) (hc : St w (M.map Prod.fst) w' M') : St w0 S w' (L ++ M') := by
  have hndL : (L.map Prod.fst).Nodup ∧ (M.map Prod.fst).Nodup ∧ ∀ x ∈ L.map Prod.fst, ∀ y ∈ M.map Prod.fst, x ≠ y := by
    have := h.nd; rw [List.map_append, List.nodup_append] at this; exact this
  have hLM : ∀ p ∈ L, p.1 ∉ M.map Prod.fst := fun p hp hm => hndL.2.2 _ (List.mem_map_of_mem hp) _ hm rfl
  refine ⟨hc.os.trans h.os, hc.tape.trans h.tape, hc.output.trans h.output, Nat.le_trans h.size hc.size, fun k hk hS => ?_, ?_, ?_, ?_⟩
  · rw [hc.old k (Nat.lt_of_lt_of_le hk h.size) ?_]
    · exact h.old k hk hS
    · intro hm
      obtain ⟨p, hp, rfl⟩ := List.mem_map.1 hm
      rcases h.own p (List.mem_append_right _ hp) with hh | hh
      · exact hS hh
      · omega
  · rw [List.map_append, List.nodup_append]
    refine ⟨hndL.1, hc.nd, ?_⟩
    intro x hx y hy hxy
    obtain ⟨p, hp, rfl⟩ := List.mem_map.1 hx
    obtain ⟨q, hq, rfl⟩ := List.mem_map.1 hy
    rcases hc.own q hq with hh | hh
    · exact hLM p hp (hxy ▸ hh)
    · have := h.lt (List.mem_append_left M hp); omega
  · intro p hp
    rcases List.mem_append.1 hp with hp | hp
    · rw [hc.old _ (h.lt (List.mem_append_left M hp)) (hLM p hp)]; exact h.sat p (List.mem_append_left M hp)
    · exact hc.sat p hp
  · intro p hp
    rcases List.mem_append.1 hp with hp | hp
    · exact h.own p (List.mem_append_left M hp)
    · rcases hc.own p hp with hh | hh
      · obtain ⟨q, hq, hqp⟩ := List.mem_map.1 hh
        rw [← hqp]; exact h.own q (List.mem_append_right _ hq)
      · exact .inr (Nat.le_trans h.size hh)

/-- An old block that the call leaves alone. -/
theorem St.oldBlock (h : St w0 S w H) {b : Nat} {o : Obj} (hb : w0.heap[b]? = some o) (hS : b ∉ S) : w.heap[b]? = some o :=
  (h.old b (lt_of_some hb) hS).trans hb
end

/-! ### Cells -/
section
variable {P : Program} {w w' : World} {b : Nat} {cs : Array Value} {t : TypeId}

theorem cell_of {fr : Nat × Nat} (h : w.heap[b]? = some (.cells cs t fr)) (i : Nat) : w.cell? ⟨b, i, none⟩ = cs[i]? := by
  simp [World.cell?, h]

theorem addr_add (b o j : Nat) : (⟨b, o, none⟩ : Addr).add j = ⟨b, o + j, none⟩ := by
  unfold Addr.add; split <;> simp_all

/-- What a variable of type T at that place reads as. -/
def Rd (P : Program) (w : World) (T : TypeId) (a : Addr) (v : Value) : Prop := (loadVar T a).run P w = .ok v w

/-- A type: is it a struct or an array? how many cells? -/
def tyB (P : Program) (T : TypeId) (agg : Bool) (k : Nat) : Bool :=
  (match P.underlying T with
    | some (.struct _) | some (.array _ _) => agg
    | some _ => !agg
    | none => false) &&
  (match P.info? T with
    | some i => i.size == k
    | none => false)

theorem tyB_isAgg {T : TypeId} {agg : Bool} {k : Nat} (h : tyB P T agg k = true) (w : World) : (isAgg T).run P w = .ok agg w := by
  simp only [tyB, Bool.and_eq_true] at h
  have h1 := h.1
  cases hu : P.underlying T with
  | none => simp [hu] at h1
  | some d =>
    simp only [isAgg, Sem.run_bind, run_underlying hu, Result.andThen_ok]
    rw [hu] at h1
    cases d <;> simp_all

theorem tyB_size {T : TypeId} {agg : Bool} {k : Nat} (h : tyB P T agg k = true) (w : World) : (sizeOf T).run P w = .ok k w := by
  simp only [tyB, Bool.and_eq_true] at h
  have h2 := h.2
  cases hi : P.info? T with
  | none => simp [hi] at h2
  | some i =>
    rw [hi] at h2
    simp only [beq_iff_eq] at h2
    simp [sizeOf, typeInfo, hi, h2]

theorem Rd.one {T : TypeId} {k : Nat} (hT : tyB P T false k = true) {a : Addr} {v : Value} (h : w.cell? a = some v) : Rd P w T a v := by
  unfold Rd loadVar
  simp [tyB_isAgg hT, h]

theorem Rd.agg {T : TypeId} {k : Nat} (hT : tyB P T true k = true) {o : Nat} {fr : Nat × Nat} (h : w.heap[b]? = some (.cells cs t fr)) (hk : o + k ≤ cs.size) : Rd P w T ⟨b, o, none⟩ (.agg (cs.extract o (o + k))) := by
  unfold Rd loadVar
  have hl : ((cs.extract o (o + k)).toList).length = k := by simp; omega
  have hrun := run_loadCells_list (P := P) w ⟨b, o, none⟩ (cs.extract o (o + k)).toList (by
    intro j v hj
    rw [addr_add, cell_of h]
    rw [Array.getElem?_toList] at hj
    have hjl : j < (cs.extract o (o + k)).size := by
      rcases Nat.lt_or_ge j (cs.extract o (o + k)).size with h1 | h1
      · exact h1
      · rw [Array.getElem?_eq_none h1] at hj; cases hj
    rw [← hj, Array.getElem?_extract]
    simp at hjl
    rw [if_pos (by omega)])
  rw [hl] at hrun
  simp only [tyB_isAgg hT, tyB_size hT, hrun, Sem.run_bind, Result.andThen_ok, if_true, Sem.run_pure]

/-- Cells written from place o on. -/
def wr (cs : Array Value) (o : Nat) : List Value → Array Value
  | [] => cs
  | v :: vs => wr (cs.setIfInBounds o v) (o + 1) vs

theorem wr_size : ∀ (vs : List Value) (cs : Array Value) (o : Nat), (wr cs o vs).size = cs.size
  | [], _, _ => rfl
  | v :: vs, cs, o => by rw [wr, wr_size vs]; simp

theorem wr_get : ∀ (vs : List Value) (cs : Array Value) (o i : Nat), o + vs.length ≤ cs.size → (wr cs o vs)[i]? = if o ≤ i ∧ i < o + vs.length then vs[i - o]? else cs[i]?
  | [], cs, o, i, _ => by simp [wr]; intro h1 h2; omega
  | v :: vs, cs, o, i, h => by
    simp only [List.length_cons] at h
    rw [wr, wr_get vs _ _ _ (by simp; omega)]
    by_cases h1 : o + 1 ≤ i ∧ i < o + 1 + vs.length
    · rw [if_pos h1, if_pos (by simp; omega)]
      have : i - o = (i - (o + 1)) + 1 := by omega
      rw [this]; simp
    · rw [if_neg h1]
      by_cases h2 : o ≤ i ∧ i < o + (v :: vs).length
      · rw [if_pos h2]
        simp only [List.length_cons] at h2
        have : i = o := by omega
        subst this
        simp [Array.getElem?_setIfInBounds]; omega
      · rw [if_neg h2]
        simp only [List.length_cons] at h2
        rw [Array.getElem?_setIfInBounds, if_neg (by omega)]

theorem Upd.setCell (h : w.heap[b]? = some (.cells cs t)) (i : Nat) (v : Value) : Upd w (w.setCell ⟨b, i, none⟩ v) b (.cells (cs.setIfInBounds i v) t) := by
  refine ⟨rfl, rfl, rfl, by simp, ?_, fun k hk => Below.heap_setCell _ _ _ _ hk⟩
  simp [World.setCell, Array.getElem?_modify, h]

theorem Upd.trans {w'' : World} {o o' : Obj} (h : Upd w w' b o) (h' : Upd w' w'' b o') : Upd w w'' b o' :=
  ⟨h'.os.trans h.os, h'.tape.trans h.tape, h'.output.trans h.output, h'.size.trans h.size, h'.at_, fun k hk => (h'.far k hk).trans (h.far k hk)⟩

theorem run_storeCells : ∀ (vs : List Value) (i : Nat) (w : World) (cs : Array Value) (o : Nat), w.heap[b]? = some (.cells cs t) → (∀ v ∈ vs, v.oneCell' = true) → o + i + vs.length ≤ cs.size →
    ∃ w', (storeCells ⟨b, o, none⟩ vs i).run P w = .ok () w' ∧ Upd w w' b (.cells (wr cs (o + i) vs) t)
  | [], i, w, cs, o, h, _, _ => ⟨w, rfl, ⟨rfl, rfl, rfl, rfl, h, fun _ _ => rfl⟩⟩
  | v :: vs, i, w, cs, o, h, h1, hl => by
    simp only [List.length_cons] at hl
    have hc : w.cell? ⟨b, o + i, none⟩ = some (cs[o + i]'(by omega)) := by rw [cell_of h]; simp
    have hf : w.frozen? ⟨b, o + i, none⟩ = false := by simp [World.frozen?, h]
    have hU := Upd.setCell h (o + i) v
    obtain ⟨w', hrun, hU'⟩ := run_storeCells vs (i + 1) _ _ o hU.at_ (fun u hu => h1 u (by simp [hu])) (by simp; omega)
    refine ⟨w', ?_, ?_⟩
    · simp only [storeCells, Sem.run_bind, addr_add, run_store _ _ _ _ _ (h1 v (by simp)), hc, hf, Bool.false_eq_true, if_false, Result.andThen_ok]
      exact hrun
    · have := hU.trans hU'
      rw [wr]; rw [Nat.add_assoc]; exact this

/-- What a store to a variable makes of the world. -/
def Wrt (P : Program) (w : World) (T : TypeId) (a : Addr) (v : Value) (w' : World) : Prop := (storeVar T a v).run P w = .ok () w'

theorem storeVar_blk {T : TypeId} {agg : Bool} {k o : Nat} {v : Value} (hT : tyB P T agg k = true) (hv : v.cells.size = k) (h1 : ∀ u ∈ v.cells.toList, u.oneCell' = true) (h : w.heap[b]? = some (.cells cs t)) (hk : o + k ≤ cs.size) :
    ∃ w', Wrt P w T ⟨b, o, none⟩ v w' ∧ Upd w w' b (.cells (wr cs o v.cells.toList) t) := by
  obtain ⟨w', hrun, hU⟩ := run_storeCells (P := P) v.cells.toList 0 w cs o h h1 (by simp; omega)
  refine ⟨w', ?_, by simpa using hU⟩
  unfold Wrt storeVar
  simp [tyB_size hT, hv, hrun]
end
end Go.Proofs.YtkncbggnaobgeaaDoor

/- An engine for walking a Go function, third part: one theorem an operation. Plain theorems over any program. -/
namespace Go.Proofs.YtkncbggnaobgeaaDoor
open Go.RowKit
set_option linter.unusedVariables false
set_option linter.unusedSimpArgs false
set_option maxRecDepth 100000

section
variable {P : Program} {ops : Array Oper} {Q : Exit → Act → World → Prop} {n : Nat} {ds : List Deferred} {e e' : Env} {w w' : World} {rest : List Oper}
variable {d : Nat} {v : Value} {ty : TypeId} {pos : String} {af : Array Edge}

theorem WL.op {o : Oper} (hg : o.guard = none) (hd : o.dst = some d) (hdn : Nat.blt d n = true) (hrun : ∀ a, Holds a n ds e → (execOp a.eval o).run P w = .ok (.value v) w')
    (h : WL P ops Q n ds rest ((d, v) :: e) w') : WL P ops Q n ds (o :: rest) e w := fun a ha => wpList_plain hg fun K hK => by
  unfold Oper.wp
  rw [hrun a ha, Oper.upon_value, hd]
  exact hK _ _ (h _ (ha.put (by simpa using hdn)))

theorem WL.opNone {o : Oper} (hg : o.guard = none) (hd : o.dst = none) (hrun : ∀ a, Holds a n ds e → (execOp a.eval o).run P w = .ok (.value v) w')
    (h : WL P ops Q n ds rest e w') : WL P ops Q n ds (o :: rest) e w := fun a ha => wpList_plain hg fun K hK => by
  unfold Oper.wp
  rw [hrun a ha, Oper.upon_value, hd]
  exact hK _ _ (h _ ha)

theorem WL.opSkip {o : Oper} (hg : o.guard = none) (hd : o.dst = none) (hrun : ∀ a, Holds a n ds e → (execOp a.eval o).run P w = .ok .skip w')
    (h : WL P ops Q n ds rest e w') : WL P ops Q n ds (o :: rest) e w := fun a ha => wpList_plain hg fun K hK => by
  unfold Oper.wp
  rw [hrun a ha, Oper.upon_skip, hd]
  exact hK _ _ (h _ ha)

theorem WL.opEnter {o : Oper} {f : FuncId} {args : Array Value} (hg : o.guard = none) (hd : o.dst = some d) (hdn : Nat.blt d n = true)
    (hrun : ∀ a, Holds a n ds e → (execOp a.eval o).run P w = .ok (.enter f args) w')
    (h : Calls P f args w' fun ed w'' => ∃ v, ed = .returned v ∧ WL P ops Q n ds rest ((d, v) :: e) w'') : WL P ops Q n ds (o :: rest) e w := fun a ha => wpList_plain hg fun K hK => by
  unfold Oper.wp
  rw [hrun a ha, Oper.upon_enter]
  refine h.mono ?_
  rintro ed w'' ⟨v, rfl, h'⟩
  rw [hd]
  exact hK _ _ (h' _ (ha.put (by simpa using hdn)))

/-! ### Guards -/
theorem getD_bool {tmps : Array Value} {t : Nat} {b : Bool} (h : tmps.getD t undef = .bool b) : tmps[t]? = some (.bool b) := by
  rcases Nat.lt_or_ge t tmps.size with hl | hg
  · simp only [Array.getD_eq_getD_getElem?] at h
    rw [Array.getElem?_eq_getElem hl] at h ⊢
    simpa using h
  · simp only [Array.getD_eq_getD_getElem?, Array.getElem?_eq_none hg, Option.getD_none] at h
    cases h
theorem yielded_of {a : Act} (ha : Holds a n ds e) {j t : Nat} {b : Bool} (hj : (ops[j]?).bind (·.dst) = some t) (ht : e.lookup t = some (.bool b)) : yielded ops a.tmps j = some b := by
  unfold yielded
  rw [hj]
  simp only [Option.bind_some, getD_bool (ha.get t _ ht)]
/-- The guard says yes. -/
theorem WL.yes {dst : Option Tmp} {op : Op} {j t : Nat} {b : Bool} (hj : (ops[j]?).bind (·.dst) = some t) (ht : e.lookup t = some (.bool b))
    (h : WL P ops Q n ds ({ dst, op, type := ty, pos, after := af, guard := none } :: rest) e w) : WL P ops Q n ds ({ dst, op, type := ty, pos, after := af, guard := some (j, b) } :: rest) e w := fun a ha => by
  have h' := h a ha
  unfold wpList at h' ⊢
  have hw : Region.wanted ({ dst, op, type := ty, pos, after := af, guard := some (j, b) } : Oper) (yielded ops a.tmps) = true := by simp [Region.wanted, yielded_of ha hj ht]
  rw [if_pos (by simp [Region.wanted])] at h'
  rw [if_pos hw]
  exact h'
/-- The guard says no. -/
theorem WL.no {op : Op} {j t : Nat} {b : Bool} (hj : (ops[j]?).bind (·.dst) = some t) (ht : e.lookup t = some (.bool !b)) (hdn : Nat.blt d n = true)
    (h : WL P ops Q n ds rest ((d, undef) :: e) w) : WL P ops Q n ds ({ dst := some d, op, type := ty, pos, after := af, guard := some (j, b) } :: rest) e w := fun a ha => by
  unfold wpList
  have hw : ¬ Region.wanted ({ dst := some d, op, type := ty, pos, after := af, guard := some (j, b) } : Oper) (yielded ops a.tmps) = true := by simp [Region.wanted, yielded_of ha hj ht]
  rw [if_neg hw]
  exact h _ (ha.put (by simpa using hdn))
/-- The guard itself was passed over. -/
theorem WL.noU {op : Op} {j t : Nat} {b : Bool} (hj : (ops[j]?).bind (·.dst) = some t) (ht : e.lookup t = some undef) (htn : Nat.blt t n = true) (hdn : Nat.blt d n = true)
    (h : WL P ops Q n ds rest ((d, undef) :: e) w) : WL P ops Q n ds ({ dst := some d, op, type := ty, pos, after := af, guard := some (j, b) } :: rest) e w := fun a ha => by
  unfold wpList
  have hy : yielded ops a.tmps j = none := by
    unfold yielded
    rw [hj]
    have h1 := ha.get t _ ht
    have hl : t < a.tmps.size := by rw [ha.size]; simpa using htn
    simp only [Array.getD_eq_getD_getElem?, Array.getElem?_eq_getElem hl, Option.getD_some] at h1
    simp only [Option.bind_some, Array.getElem?_eq_getElem hl, h1, undef]
  have hw : ¬ Region.wanted ({ dst := some d, op, type := ty, pos, after := af, guard := some (j, b) } : Oper) (yielded ops a.tmps) = true := by simp [Region.wanted, hy]
  rw [if_neg hw]
  exact h _ (ha.put (by simpa using hdn))
/-- A Bool's two ways; a Bool that is decided. -/
theorem WL.split {l : List Oper} {t : Nat} {b : Bool} (ht : e.lookup t = some (.bool b)) (hT : b = true → WL P ops Q n ds l ((t, .bool true) :: e) w) (hF : b = false → WL P ops Q n ds l ((t, .bool false) :: e) w) : WL P ops Q n ds l e w := by
  cases b with
  | true => exact (hT rfl).sub (Sub.cons ht (Sub.refl _))
  | false => exact (hF rfl).sub (Sub.cons ht (Sub.refl _))
theorem WL.splitD {l : List Oper} {t : Nat} {p : Prop} [Decidable p] (ht : e.lookup t = some (.bool (decide p))) (hT : p → WL P ops Q n ds l ((t, .bool true) :: e) w) (hF : ¬ p → WL P ops Q n ds l ((t, .bool false) :: e) w) : WL P ops Q n ds l e w :=
  WL.split ht (fun h => hT (of_decide_eq_true h)) (fun h => hF (of_decide_eq_false h))
theorem WL.known {l : List Oper} {t : Nat} {b b' : Bool} (ht : e.lookup t = some (.bool b')) (hb : b' = b) (h : WL P ops Q n ds l ((t, .bool b) :: e) w) : WL P ops Q n ds l e w :=
  h.sub (Sub.cons (hb ▸ ht) (Sub.refl _))

/-! ### Copies -/
theorem WL.move {x : Operand} (hx : ev e x = some v) (hdn : Nat.blt d n = true) (h : WL P ops Q n ds rest ((d, v) :: e) w) : WL P ops Q n ds ({ dst := some d, op := .move x, type := ty, pos, after := af, guard := none } :: rest) e w :=
  WL.op rfl rfl hdn (fun a ha => by simp only [execOp, ha.ev hx, Sem.run_pure]) h
theorem WL.assign {x : Operand} (hx : ev e x = some v) (hdn : Nat.blt d n = true) (h : WL P ops Q n ds rest ((d, v) :: e) w) : WL P ops Q n ds ({ dst := some d, op := .assign x, type := ty, pos, after := af, guard := none } :: rest) e w :=
  WL.op rfl rfl hdn (fun a ha => by simp only [execOp, ha.ev hx, Sem.run_pure]) h
theorem WL.pickT {c x y : Operand} (hc : ev e c = some (.bool true)) (hx : ev e x = some v) (hdn : Nat.blt d n = true) (h : WL P ops Q n ds rest ((d, v) :: e) w) : WL P ops Q n ds ({ dst := some d, op := .pick c x y, type := ty, pos, after := af, guard := none } :: rest) e w :=
  WL.op rfl rfl hdn (fun a ha => by simp only [execOp, ha.ev hc, ha.ev hx, Sem.run_pure, Sem.run_bind, asBool, Result.andThen_ok, if_true]) h
theorem WL.pickF {c x y : Operand} (hc : ev e c = some (.bool false)) (hy : ev e y = some v) (hdn : Nat.blt d n = true) (h : WL P ops Q n ds rest ((d, v) :: e) w) : WL P ops Q n ds ({ dst := some d, op := .pick c x y, type := ty, pos, after := af, guard := none } :: rest) e w :=
  WL.op rfl rfl hdn (fun a ha => by simp only [execOp, ha.ev hc, ha.ev hy, Sem.run_pure, Sem.run_bind, asBool, Result.andThen_ok, Bool.false_eq_true, if_false]) h
theorem WL.extract {x : Operand} {vs : List Value} {i : Nat} (hx : ev e x = some (.tuple vs.toArray)) (hi : vs[i]? = some v) (hdn : Nat.blt d n = true) (h : WL P ops Q n ds rest ((d, v) :: e) w) : WL P ops Q n ds ({ dst := some d, op := .extract x i, type := ty, pos, after := af, guard := none } :: rest) e w :=
  WL.op rfl rfl hdn (fun a ha => by simp [execOp, ha.ev hx, Instr.extract, hi]) h
theorem WL.nilCheck {x : Operand} {ad : Addr} (hx : ev e x = some (.pointer (some ad))) (hdn : Nat.blt d n = true) (h : WL P ops Q n ds rest ((d, .pointer (some ad)) :: e) w) : WL P ops Q n ds ({ dst := some d, op := .nilCheck x, type := ty, pos, after := af, guard := none } :: rest) e w :=
  WL.op rfl rfl hdn (fun a ha => by simp only [execOp, ha.ev hx, Sem.run_pure]) h
theorem WL.nilCheckFn {x : Operand} {f : FuncId} {fi ca : Array Value} (hx : ev e x = some (.func (.func f) fi ca)) (hdn : Nat.blt d n = true) (h : WL P ops Q n ds rest ((d, .func (.func f) fi ca) :: e) w) : WL P ops Q n ds ({ dst := some d, op := .nilCheck x, type := ty, pos, after := af, guard := none } :: rest) e w :=
  WL.op rfl rfl hdn (fun a ha => by simp only [execOp, ha.ev hx, Sem.run_pure]) h

/-! ### Arithmetic -/
/-- A binary operation's value, whatever the operands' spelling. -/
def BinV (P : Program) (op : BinOp) (t : TypeId) (u v r : Value) : Prop := ∀ (x y : Operand) (w : World), (do eqGuard op t x y u v; binOp op t u v : Sem Value).run P w = .ok r w
theorem WL.bin {op : BinOp} {t yt : TypeId} {x y : Operand} {u u' r : Value} (hx : ev e x = some u) (hy : ev e y = some u') (hr : BinV P op t u u' r) (hdn : Nat.blt d n = true)
    (h : WL P ops Q n ds rest ((d, r) :: e) w) : WL P ops Q n ds ({ dst := some d, op := .binOp op t x y yt, type := ty, pos, after := af, guard := none } :: rest) e w :=
  WL.op rfl rfl hdn (fun a ha => by
    have := hr x y w
    simp only [Sem.run_bind] at this
    simp only [execOp, ha.ev hx, ha.ev hy, Sem.run_bind, this, Result.andThen_ok, Sem.run_pure]) h
theorem WL.notOp {t : TypeId} {x : Operand} {b : Bool} (hx : ev e x = some (.bool b)) (hdn : Nat.blt d n = true)
    (h : WL P ops Q n ds rest ((d, .bool (!b)) :: e) w) : WL P ops Q n ds ({ dst := some d, op := .unOp .not t x, type := ty, pos, after := af, guard := none } :: rest) e w :=
  WL.op rfl rfl hdn (fun a ha => by simp only [execOp, ha.ev hx, Op.unary, Sem.run_bind, Sem.run_pure, Result.andThen_ok]) h
theorem WL.negOp {t : TypeId} {x : Operand} {k : IntKind} {z : Int} (hx : ev e x = some (.int k z)) (hdn : Nat.blt d n = true)
    (h : WL P ops Q n ds rest ((d, .int k (k.wrap (0 - z))) :: e) w) : WL P ops Q n ds ({ dst := some d, op := .unOp .neg t x, type := ty, pos, after := af, guard := none } :: rest) e w :=
  WL.op rfl rfl hdn (fun a ha => by simp only [execOp, ha.ev hx, Op.unary, Op.intArith, Sem.run_bind, Sem.run_pure, Result.andThen_ok]) h

section
variable {t : TypeId} {k : IntKind} {x y r : Int}
theorem beq_dec (x y : Int) : (x == y) = decide (x = y) := by by_cases h : x = y <;> simp [h]
theorem eqGuard_int (op : BinOp) (t : TypeId) (a b : Operand) (k k' : IntKind) (x y : Int) (w : World) : (eqGuard op t a b (.int k x) (.int k' y)).run P w = .ok () w := by
  cases op <;> rfl
theorem binv_add (hr : k.wrap (x + y) = r) : BinV P .add t (.int k x) (.int k y) (.int k r) := fun a b w => by
  simp [eqGuard_int, binOp, Op.intArith, hr]
theorem binv_sub (hr : k.wrap (x - y) = r) : BinV P .sub t (.int k x) (.int k y) (.int k r) := fun a b w => by
  simp [eqGuard_int, binOp, Op.intArith, hr]
theorem binv_mul (hr : k.wrap (x * y) = r) : BinV P .mul t (.int k x) (.int k y) (.int k r) := fun a b w => by
  simp [eqGuard_int, binOp, Op.intArith, hr]
theorem binv_quo (hy : y ≠ 0) (hr : k.wrap (x.tdiv y) = r) : BinV P .quo t (.int k x) (.int k y) (.int k r) := fun a b w => by
  simp [eqGuard_int, binOp, Op.intDiv, hr, hy]
theorem binv_rem (hy : y ≠ 0) (hr : x.tmod y = r) : BinV P .rem t (.int k x) (.int k y) (.int k r) := fun a b w => by
  simp [eqGuard_int, binOp, Op.intDiv, hr, hy]
theorem binv_eql : BinV P .eql t (.int k x) (.int k y) (.bool (decide (x = y))) := fun a b w => by
  simp [eqGuard_int, binOp, Op.intCmp, beq_dec]
theorem binv_neq : BinV P .neq t (.int k x) (.int k y) (.bool (decide (x ≠ y))) := fun a b w => by
  simp [eqGuard_int, binOp, Op.intCmp, bne, beq_dec]
theorem binv_lss : BinV P .lss t (.int k x) (.int k y) (.bool (decide (x < y))) := fun a b w => by
  simp [eqGuard_int, binOp, Op.intCmp]
theorem binv_leq : BinV P .leq t (.int k x) (.int k y) (.bool (decide (x ≤ y))) := fun a b w => by
  simp [eqGuard_int, binOp, Op.intCmp]
theorem binv_gtr : BinV P .gtr t (.int k x) (.int k y) (.bool (decide (x > y))) := fun a b w => by
  simp [eqGuard_int, binOp, Op.intCmp]
theorem binv_geq : BinV P .geq t (.int k x) (.int k y) (.bool (decide (x ≥ y))) := fun a b w => by
  simp [eqGuard_int, binOp, Op.intCmp]
theorem binv_and (hr : k.wrap (BitVec.ofInt k.bits x &&& BitVec.ofInt k.bits y).toNat = r) : BinV P .and t (.int k x) (.int k y) (.int k r) := fun a b w => by
  simp only [Sem.run_bind, eqGuard_int, Result.andThen_ok, binOp, Op.intBits, ne_eq, not_true_eq_false, if_false, Sem.run_pure, hr]
theorem binv_or (hr : k.wrap (BitVec.ofInt k.bits x ||| BitVec.ofInt k.bits y).toNat = r) : BinV P .or t (.int k x) (.int k y) (.int k r) := fun a b w => by
  simp only [Sem.run_bind, eqGuard_int, Result.andThen_ok, binOp, Op.intBits, ne_eq, not_true_eq_false, if_false, Sem.run_pure, hr]
theorem binv_xor (hr : k.wrap (BitVec.ofInt k.bits x ^^^ BitVec.ofInt k.bits y).toNat = r) : BinV P .xor t (.int k x) (.int k y) (.int k r) := fun a b w => by
  simp only [Sem.run_bind, eqGuard_int, Result.andThen_ok, binOp, Op.intBits, ne_eq, not_true_eq_false, if_false, Sem.run_pure, hr]
theorem binv_shl {k' : IntKind} (hy : 0 ≤ y) (hr : k.wrap (x * 2 ^ (min y.toNat k.bits)) = r) : BinV P .shl t (.int k x) (.int k' y) (.int k r) := fun a b w => by
  have hn : ¬ y < 0 := by omega
  simp only [Sem.run_bind, eqGuard_int, Result.andThen_ok, binOp, Op.shift, hn, if_false, Sem.run_pure, hr]
theorem binv_shr {k' : IntKind} (hy : 0 ≤ y) (hr : x.fdiv (2 ^ (min y.toNat k.bits)) = r) : BinV P .shr t (.int k x) (.int k' y) (.int k r) := fun a b w => by
  have hn : ¬ y < 0 := by omega
  simp only [Sem.run_bind, eqGuard_int, Result.andThen_ok, binOp, Op.shift, hn, if_false, Sem.run_pure, hr]
end

theorem wrap_i64 {x : Int} (h : -9223372036854775808 ≤ x) (h' : x ≤ 9223372036854775807) : IntKind.i64.wrap x = x := by
  rw [IntKind.wrap_i64]; omega
theorem wrap_u64 {x : Int} (h : 0 ≤ x) (h' : x ≤ 18446744073709551615) : IntKind.u64.wrap x = x := by
  simp only [IntKind.wrap, IntKind.bits, IntKind.signed, Bool.false_and, Bool.false_eq_true, if_false]
  omega

/-! ### int's arithmetic where nothing wraps -/
section
variable {t : TypeId} {x y : Int}
theorem iadd (h : -9223372036854775808 ≤ x + y) (h' : x + y ≤ 9223372036854775807) : BinV P .add t (.int .i64 x) (.int .i64 y) (.int .i64 (x + y)) := binv_add (wrap_i64 h h')
theorem isub (h : -9223372036854775808 ≤ x - y) (h' : x - y ≤ 9223372036854775807) : BinV P .sub t (.int .i64 x) (.int .i64 y) (.int .i64 (x - y)) := binv_sub (wrap_i64 h h')
theorem imul (h : -9223372036854775808 ≤ x * y) (h' : x * y ≤ 9223372036854775807) : BinV P .mul t (.int .i64 x) (.int .i64 y) (.int .i64 (x * y)) := binv_mul (wrap_i64 h h')
theorem iquo (h : 0 ≤ x) (h' : x ≤ 9223372036854775807) (hy : 0 < y) : BinV P .quo t (.int .i64 x) (.int .i64 y) (.int .i64 (x / y)) :=
  binv_quo (by omega) (by
    rw [Int.tdiv_eq_ediv_of_nonneg h]
    have h1 : x / y ≤ x := Int.ediv_le_self _ h
    have h2 : 0 ≤ x / y := Int.ediv_nonneg h (by omega)
    exact wrap_i64 (by omega) (by omega))
theorem iquoT (h : -9223372036854775808 ≤ x) (h' : x ≤ 9223372036854775807) (hy : 2 ≤ y) : BinV P .quo t (.int .i64 x) (.int .i64 y) (.int .i64 (x.tdiv y)) :=
  binv_quo (by omega) (by
    have h1 : (x.tdiv y).natAbs = x.natAbs / y.natAbs := Int.natAbs_tdiv x y
    have h2 : x.natAbs / y.natAbs ≤ x.natAbs / 2 := Nat.div_le_div_left (by omega) (by omega)
    generalize x.tdiv y = q at *
    exact wrap_i64 (by omega) (by omega))
theorem irem (h : 0 ≤ x) (hy : 0 < y) : BinV P .rem t (.int .i64 x) (.int .i64 y) (.int .i64 (x % y)) :=
  binv_rem (by omega) (by rw [Int.tmod_eq_emod_of_nonneg h])
theorem iremT (hy : y ≠ 0) : BinV P .rem t (.int .i64 x) (.int .i64 y) (.int .i64 (x.tmod y)) := binv_rem hy rfl
theorem ofInt_toNat (h : 0 ≤ x) (h' : x ≤ 9223372036854775807) : (BitVec.ofInt 64 x).toNat = x.toNat := by
  rw [BitVec.toNat_ofInt]; omega
theorem iand (h : 0 ≤ x) (h' : x ≤ 9223372036854775807) (k : 0 ≤ y) (k' : y ≤ 9223372036854775807) : BinV P .and t (.int .i64 x) (.int .i64 y) (.int .i64 ((x.toNat &&& y.toNat : Nat) : Int)) :=
  binv_and (by
    have e1 : (BitVec.ofInt IntKind.i64.bits x &&& BitVec.ofInt IntKind.i64.bits y).toNat = x.toNat &&& y.toNat := by
      show (BitVec.ofInt 64 x &&& BitVec.ofInt 64 y).toNat = _
      rw [BitVec.toNat_and, ofInt_toNat h h', ofInt_toNat k k']
    rw [e1]
    have : x.toNat &&& y.toNat ≤ x.toNat := Nat.and_le_left
    exact wrap_i64 (x := ((x.toNat &&& y.toNat : Nat) : Int)) (by omega) (by omega))
theorem ior (h : 0 ≤ x) (h' : x ≤ 9223372036854775807) (k : 0 ≤ y) (k' : y ≤ 9223372036854775807) : BinV P .or t (.int .i64 x) (.int .i64 y) (.int .i64 ((x.toNat ||| y.toNat : Nat) : Int)) :=
  binv_or (by
    have e1 : (BitVec.ofInt IntKind.i64.bits x ||| BitVec.ofInt IntKind.i64.bits y).toNat = x.toNat ||| y.toNat := by
      show (BitVec.ofInt 64 x ||| BitVec.ofInt 64 y).toNat = _
      rw [BitVec.toNat_or, ofInt_toNat h h', ofInt_toNat k k']
    rw [e1]
    have : x.toNat ||| y.toNat < 2 ^ 63 := Nat.or_lt_two_pow (by omega) (by omega)
    exact wrap_i64 (x := ((x.toNat ||| y.toNat : Nat) : Int)) (by omega) (by omega))
theorem ixor (h : 0 ≤ x) (h' : x ≤ 9223372036854775807) (k : 0 ≤ y) (k' : y ≤ 9223372036854775807) : BinV P .xor t (.int .i64 x) (.int .i64 y) (.int .i64 ((x.toNat ^^^ y.toNat : Nat) : Int)) :=
  binv_xor (by
    have e1 : (BitVec.ofInt IntKind.i64.bits x ^^^ BitVec.ofInt IntKind.i64.bits y).toNat = x.toNat ^^^ y.toNat := by
      show (BitVec.ofInt 64 x ^^^ BitVec.ofInt 64 y).toNat = _
      rw [BitVec.toNat_xor, ofInt_toNat h h', ofInt_toNat k k']
    rw [e1]
    have : x.toNat ^^^ y.toNat < 2 ^ 63 := Nat.xor_lt_two_pow (by omega) (by omega)
    exact wrap_i64 (x := ((x.toNat ^^^ y.toNat : Nat) : Int)) (by omega) (by omega))
theorem ishl {k' : IntKind} {m : Nat} (hm : y = (m : Int)) (hm' : m < 64) (h : 0 ≤ x) (h' : x * 2 ^ m ≤ 9223372036854775807) : BinV P .shl t (.int .i64 x) (.int k' y) (.int .i64 (x * 2 ^ m)) :=
  binv_shl (by omega) (by
    subst hm
    have e : min (m : Int).toNat IntKind.i64.bits = m := by simp [IntKind.bits]; omega
    rw [e]
    have : 0 ≤ x * 2 ^ m := Int.mul_nonneg h (Int.pow_nonneg (by omega))
    exact wrap_i64 (by omega) h')
theorem ishr {k k' : IntKind} {m : Nat} (hm : y = (m : Int)) (hm' : m ≤ k.bits) (h : 0 ≤ x) : BinV P .shr t (.int k x) (.int k' y) (.int k (x / 2 ^ m)) :=
  binv_shr (by omega) (by
    subst hm
    have e : min (m : Int).toNat k.bits = m := by simp; omega
    rw [e, Int.fdiv_eq_ediv_of_nonneg _ (Int.pow_nonneg (by omega))])
end
section
variable {t : TypeId} {x y : Int}
theorem ofInt_toNat_u (h : 0 ≤ x) (h' : x ≤ 18446744073709551615) : (BitVec.ofInt 64 x).toNat = x.toNat := by
  rw [BitVec.toNat_ofInt]; omega
theorem uand (h : 0 ≤ x) (h' : x ≤ 18446744073709551615) (k : 0 ≤ y) (k' : y ≤ 18446744073709551615) : BinV P .and t (.int .u64 x) (.int .u64 y) (.int .u64 ((x.toNat &&& y.toNat : Nat) : Int)) :=
  binv_and (by
    have e1 : (BitVec.ofInt IntKind.u64.bits x &&& BitVec.ofInt IntKind.u64.bits y).toNat = x.toNat &&& y.toNat := by
      show (BitVec.ofInt 64 x &&& BitVec.ofInt 64 y).toNat = _
      rw [BitVec.toNat_and, ofInt_toNat_u h h', ofInt_toNat_u k k']
    rw [e1]
    have : x.toNat &&& y.toNat ≤ x.toNat := Nat.and_le_left
    exact wrap_u64 (x := ((x.toNat &&& y.toNat : Nat) : Int)) (by omega) (by omega))
theorem uxor (h : 0 ≤ x) (h' : x ≤ 18446744073709551615) (k : 0 ≤ y) (k' : y ≤ 18446744073709551615) : BinV P .xor t (.int .u64 x) (.int .u64 y) (.int .u64 ((x.toNat ^^^ y.toNat : Nat) : Int)) :=
  binv_xor (by
    have e1 : (BitVec.ofInt IntKind.u64.bits x ^^^ BitVec.ofInt IntKind.u64.bits y).toNat = x.toNat ^^^ y.toNat := by
      show (BitVec.ofInt 64 x ^^^ BitVec.ofInt 64 y).toNat = _
      rw [BitVec.toNat_xor, ofInt_toNat_u h h', ofInt_toNat_u k k']
    rw [e1]
    have : x.toNat ^^^ y.toNat < 2 ^ 64 := Nat.xor_lt_two_pow (by omega) (by omega)
    exact wrap_u64 (x := ((x.toNat ^^^ y.toNat : Nat) : Int)) (by omega) (by omega))
theorem uadd (h : 0 ≤ x + y) (h' : x + y ≤ 18446744073709551615) : BinV P .add t (.int .u64 x) (.int .u64 y) (.int .u64 (x + y)) := binv_add (wrap_u64 h h')
theorem umul (h : 0 ≤ x) (k : 0 ≤ y) : BinV P .mul t (.int .u64 x) (.int .u64 y) (.int .u64 (x * y % 18446744073709551616)) :=
  binv_mul (by simp only [IntKind.wrap, IntKind.bits, IntKind.signed, Bool.false_and, Bool.false_eq_true, if_false]; rfl)
end
section
variable {t : TypeId} {x y : Int} {a b : Nat}
/-- The same where the operands are natural numbers. -/
theorem uandN (hx : x = (a : Int)) (hy : y = (b : Int)) (ha : a < 18446744073709551616) (hb : b < 18446744073709551616) : BinV P .and t (.int .u64 x) (.int .u64 y) (.int .u64 ((a &&& b : Nat) : Int)) := by
  subst hx hy; exact uand (x := (a : Int)) (y := (b : Int)) (by omega) (by omega) (by omega) (by omega)
theorem uxorN (hx : x = (a : Int)) (hy : y = (b : Int)) (ha : a < 18446744073709551616) (hb : b < 18446744073709551616) : BinV P .xor t (.int .u64 x) (.int .u64 y) (.int .u64 ((a ^^^ b : Nat) : Int)) := by
  subst hx hy; exact uxor (x := (a : Int)) (y := (b : Int)) (by omega) (by omega) (by omega) (by omega)
theorem uaddN (hx : x = (a : Int)) (hy : y = (b : Int)) (ha : a + b < 18446744073709551616) : BinV P .add t (.int .u64 x) (.int .u64 y) (.int .u64 ((a + b : Nat) : Int)) := by
  subst hx hy; exact uadd (x := (a : Int)) (y := (b : Int)) (by omega) (by omega)
theorem shrN {k k' : IntKind} {m : Nat} (hx : x = (a : Int)) (hm : y = (m : Int)) (hm' : m ≤ k.bits) : BinV P .shr t (.int k x) (.int k' y) (.int k ((a / 2 ^ m : Nat) : Int)) := by
  subst hx
  have h := ishr (P := P) (t := t) (k := k) (k' := k') (x := (a : Int)) hm hm' (by omega)
  rw [show ((a / 2 ^ m : Nat) : Int) = (a : Int) / 2 ^ m from by rw [Int.natCast_ediv, Int.natCast_pow]; rfl]
  exact h
theorem iandN (hx : x = (a : Int)) (hy : y = (b : Int)) (ha : a < 9223372036854775808) (hb : b < 9223372036854775808) : BinV P .and t (.int .i64 x) (.int .i64 y) (.int .i64 ((a &&& b : Nat) : Int)) := by
  subst hx hy; exact iand (x := (a : Int)) (y := (b : Int)) (by omega) (by omega) (by omega) (by omega)
theorem iorN (hx : x = (a : Int)) (hy : y = (b : Int)) (ha : a < 9223372036854775808) (hb : b < 9223372036854775808) : BinV P .or t (.int .i64 x) (.int .i64 y) (.int .i64 ((a ||| b : Nat) : Int)) := by
  subst hx hy; exact ior (x := (a : Int)) (y := (b : Int)) (by omega) (by omega) (by omega) (by omega)
theorem ixorN (hx : x = (a : Int)) (hy : y = (b : Int)) (ha : a < 9223372036854775808) (hb : b < 9223372036854775808) : BinV P .xor t (.int .i64 x) (.int .i64 y) (.int .i64 ((a ^^^ b : Nat) : Int)) := by
  subst hx hy; exact ixor (x := (a : Int)) (y := (b : Int)) (by omega) (by omega) (by omega) (by omega)
theorem iaddN (hx : x = (a : Int)) (hy : y = (b : Int)) (ha : a + b < 9223372036854775808) : BinV P .add t (.int .i64 x) (.int .i64 y) (.int .i64 ((a + b : Nat) : Int)) := by
  subst hx hy; exact iadd (x := (a : Int)) (y := (b : Int)) (by omega) (by omega)
end
/-- Comparisons of a pointer with nil; of bools. -/
def ptrB (P : Program) (t : TypeId) : Bool := match P.underlying t with | some (.pointer _) => true | _ => false
theorem ptrB_out {t : TypeId} (h : ptrB P t = true) : ∃ el, P.underlying t = some (.pointer el) := by
  unfold ptrB at h
  cases hu : P.underlying t with
  | none => simp [hu] at h
  | some dsc => rw [hu] at h; cases dsc <;> simp_all
theorem run_equal_ptr_nil {t : TypeId} (h : ptrB P t = true) (a : Option Addr) (w : World) : (Op.equal t (.pointer a) (.pointer none)).run P w = .ok a.isNone w := by
  obtain ⟨el, hu⟩ := ptrB_out h
  exact run_equal_pointer_nil w t a (by simp [Program.pointee, hu])
theorem binv_ptr_eql {t : TypeId} (h : ptrB P t = true) (a : Option Addr) : BinV P .eql t (.pointer a) (.pointer none) (.bool a.isNone) := fun x y w => by
  have : (eqGuard .eql t x y (.pointer a) (.pointer none)).run P w = .ok () w := by cases a <;> rfl
  simp [this, binOp, run_equal_ptr_nil h]
theorem binv_ptr_neq {t : TypeId} (h : ptrB P t = true) (a : Option Addr) : BinV P .neq t (.pointer a) (.pointer none) (.bool (!a.isNone)) := fun x y w => by
  have : (eqGuard .neq t x y (.pointer a) (.pointer none)).run P w = .ok () w := by cases a <;> rfl
  simp [this, binOp, run_equal_ptr_nil h]
def boolB (P : Program) (t : TypeId) : Bool := match P.underlying t with | some .bool => true | _ => false
theorem boolB_out {t : TypeId} (h : boolB P t = true) : P.underlying t = some .bool := by
  unfold boolB at h
  cases hu : P.underlying t with
  | none => simp [hu] at h
  | some dsc => rw [hu] at h; cases dsc <;> simp_all
theorem binv_bool_eql {t : TypeId} (h : boolB P t = true) (a b : Bool) : BinV P .eql t (.bool a) (.bool b) (.bool (a == b)) := fun x y w => by
  have : (eqGuard .eql t x y (.bool a) (.bool b)).run P w = .ok () w := by rfl
  simp [this, run_eql_bool w t a b (boolB_out h)]
theorem binv_bool_neq {t : TypeId} (h : boolB P t = true) (a b : Bool) : BinV P .neq t (.bool a) (.bool b) (.bool (a != b)) := fun x y w => by
  have : (eqGuard .neq t x y (.bool a) (.bool b)).run P w = .ok () w := by rfl
  simp [this, binOp, run_equal_bool w t a b (boolB_out h), bne]
end
end Go.Proofs.YtkncbggnaobgeaaDoor

/- An engine for walking a Go function, fourth part: the operations on memory, calls. Plain theorems over any program. -/
namespace Go.Proofs.YtkncbggnaobgeaaDoor
open Go.RowKit
set_option linter.unusedVariables false
set_option linter.unusedSimpArgs false
set_option maxRecDepth 100000

section
variable {P : Program} {ops : Array Oper} {Q : Exit → Act → World → Prop} {n : Nat} {ds : List Deferred} {e e' : Env} {w w' w0 : World} {rest : List Oper} {S : List Nat} {H : Hp}
variable {d : Nat} {v : Value} {ty : TypeId} {pos : String} {af : Array Edge}

/-! ### Addresses -/
def fieldB (P : Program) (T : TypeId) (i off : Nat) : Bool :=
  match P.underlying T with
  | some (.struct fs) => match fs[i]? with
    | some f => f.offset == off && (match P.info? f.type with | some j => j.size != 0 | none => false)
    | none => false
  | _ => false
theorem run_fieldAt {T : TypeId} {i off : Nat} (h : fieldB P T i off = true) (b o : Nat) (w : World) : (Instr.fieldAt T (.pointer (some ⟨b, o, none⟩)) i).run P w = .ok (.pointer (some ⟨b, o + off, none⟩)) w := by
  unfold fieldB at h
  cases hu : P.underlying T with
  | none => simp [hu] at h
  | some dsc =>
    rw [hu] at h
    cases dsc with
    | struct fs =>
      simp only at h
      cases hf : fs[i]? with
      | none => simp [hf] at h
      | some f =>
        rw [hf] at h
        simp only [Bool.and_eq_true, beq_iff_eq] at h
        obtain ⟨h1, h2⟩ := h
        cases hi : P.info? f.type with
        | none => simp [hi] at h2
        | some j =>
          rw [hi] at h2
          have h3 : j.size ≠ 0 := by simpa using h2
          simp only [Instr.fieldAt, Sem.run_bind, run_underlying hu, Result.andThen_ok, hf, Instr.sureAddr, Sem.run_pure, fieldPlace, sizeOf, typeInfo, run_program, hi, h3, if_false, h1, addr_add]
    | _ => simp at h
theorem WL.fieldAddr {T : TypeId} {i off b o : Nat} {x : Operand} (hT : fieldB P T i off = true) (hx : ev e x = some (.pointer (some ⟨b, o, none⟩))) (hdn : Nat.blt d n = true)
    (h : WL P ops Q n ds rest ((d, .pointer (some ⟨b, o + off, none⟩)) :: e) w) : WL P ops Q n ds ({ dst := some d, op := .fieldAddr T x i, type := ty, pos, after := af, guard := none } :: rest) e w :=
  WL.op rfl rfl hdn (fun a ha => by simp only [execOp, ha.ev hx, Sem.run_bind, run_fieldAt hT, Result.andThen_ok, Sem.run_pure]) h

def arrB (P : Program) (T : TypeId) (len sz : Nat) : Bool :=
  match P.underlying T with
  | some (.array l el) => l == len && (match P.info? el with | some j => j.size == sz | none => false)
  | _ => false
def slcB (P : Program) (T : TypeId) (sz : Nat) : Bool :=
  match P.underlying T with
  | some (.slice el) => (match P.info? el with | some j => j.size == sz | none => false)
  | _ => false
theorem arrB_out {T : TypeId} {len sz : Nat} (h : arrB P T len sz = true) : ∃ el i, P.underlying T = some (.array len el) ∧ P.info? el = some i ∧ i.size = sz := by
  unfold arrB at h
  cases hu : P.underlying T with
  | none => simp [hu] at h
  | some dsc =>
    rw [hu] at h
    cases dsc with
    | array l el =>
      simp only [Bool.and_eq_true, beq_iff_eq] at h
      obtain ⟨h1, h2⟩ := h
      cases hi : P.info? el with
      | none => simp [hi] at h2
      | some j => rw [hi] at h2; simp only [beq_iff_eq] at h2; exact ⟨el, j, by rw [h1], hi, h2⟩
    | _ => simp at h
theorem slcB_out {T : TypeId} {sz : Nat} (h : slcB P T sz = true) : ∃ el i, P.underlying T = some (.slice el) ∧ P.info? el = some i ∧ i.size = sz := by
  unfold slcB at h
  cases hu : P.underlying T with
  | none => simp [hu] at h
  | some dsc =>
    rw [hu] at h
    cases dsc with
    | slice el =>
      simp only at h
      cases hi : P.info? el with
      | none => simp [hi] at h
      | some j => rw [hi] at h; simp only [beq_iff_eq] at h; exact ⟨el, j, rfl, hi, h⟩
    | _ => simp at h
theorem WL.idxArr {T : TypeId} {len sz b o k : Nat} {x y : Operand} {kd : IntKind} {z : Int} (hT : arrB P T len sz = true) (hx : ev e x = some (.pointer (some ⟨b, o, none⟩))) (hy : ev e y = some (.int kd z)) (hz : z = (k : Int)) (hk : k < len) (hdn : Nat.blt d n = true)
    (h : WL P ops Q n ds rest ((d, .pointer (some ⟨b, o + k * sz, none⟩)) :: e) w) : WL P ops Q n ds ({ dst := some d, op := .indexAddr T x y, type := ty, pos, after := af, guard := none } :: rest) e w := by
  subst hz
  obtain ⟨el, i, hu, hi, hs⟩ := arrB_out hT
  refine WL.op rfl rfl hdn (fun a ha => ?_) h
  have h1 : (0 : Int) ≤ (k : Int) ∧ (k : Int) < (len : Int) := by omega
  simp only [execOp, ha.ev hx, ha.ev hy, Instr.indexAt, asIntOf, Sem.run_bind, Sem.run_pure, Result.andThen_ok, run_underlying hu, Instr.sureAddr, h1, and_self, if_true, sizeOf, typeInfo, run_program, hi, hs, Int.toNat_natCast, addr_add]
theorem WL.idxSlc {T : TypeId} {sz b o k len cap : Nat} {x y : Operand} {kd : IntKind} {z : Int} (hT : slcB P T sz = true) (hx : ev e x = some (.slice (some ⟨b, o, none⟩) len cap)) (hy : ev e y = some (.int kd z)) (hz : z = (k : Int)) (hk : k < len) (hdn : Nat.blt d n = true)
    (h : WL P ops Q n ds rest ((d, .pointer (some ⟨b, o + k * sz, none⟩)) :: e) w) : WL P ops Q n ds ({ dst := some d, op := .indexAddr T x y, type := ty, pos, after := af, guard := none } :: rest) e w := by
  subst hz
  obtain ⟨el, i, hu, hi, hs⟩ := slcB_out hT
  refine WL.op rfl rfl hdn (fun a ha => ?_) h
  have h1 : (0 : Int) ≤ (k : Int) ∧ (k : Int) < (len : Int) := by omega
  simp only [execOp, ha.ev hx, ha.ev hy, Instr.indexAt, asIntOf, Sem.run_bind, Sem.run_pure, Result.andThen_ok, run_underlying hu, h1, and_self, if_true, sizeOf, typeInfo, run_program, hi, hs, Int.toNat_natCast, addr_add]

/-! ### Loads and stores -/
theorem WL.load {T : TypeId} {x : Operand} {ad : Addr} (hx : ev e x = some (.pointer (some ad))) (hr : Rd P w T ad v) (hdn : Nat.blt d n = true)
    (h : WL P ops Q n ds rest ((d, v) :: e) w) : WL P ops Q n ds ({ dst := some d, op := .load T x, type := ty, pos, after := af, guard := none } :: rest) e w :=
  WL.op rfl rfl hdn (fun a ha => by
    unfold Rd at hr
    simp only [execOp, ha.ev hx, Instr.loadAt, Instr.sureAddr, Sem.run_bind, Sem.run_pure, Result.andThen_ok, hr]) h
theorem WL.store {T : TypeId} {x y : Operand} {ad : Addr} (hx : ev e x = some (.pointer (some ad))) (hy : ev e y = some v) (hr : Wrt P w T ad v w')
    (h : WL P ops Q n ds rest e w') : WL P ops Q n ds ({ dst := none, op := .store T x y, type := ty, pos, after := af, guard := none } :: rest) e w :=
  WL.opSkip rfl rfl (fun a ha => by
    unfold Wrt at hr
    simp only [execOp, ha.ev hx, ha.ev hy, Instr.storeAt, Instr.sureAddr, Sem.run_bind, Sem.run_pure, Result.andThen_ok, hr]) h
/-- A load out of the i-th known block. -/
theorem St.rd1 (hS : St w0 S w H) {T : TypeId} {k : Nat} (hT : tyB P T false k = true) (i : Nat) {b o : Nat} {cs : Array Value} {t : TypeId} (hi : H[i]? = some (b, .cells cs t)) (hc : cs[o]? = some v) : Rd P w T ⟨b, o, none⟩ v :=
  Rd.one hT (by rw [cell_of (hS.sat _ (List.mem_of_getElem? hi))]; exact hc)
theorem St.rdA (hS : St w0 S w H) {T : TypeId} {k : Nat} (hT : tyB P T true k = true) (i : Nat) {b o : Nat} {cs : Array Value} {t : TypeId} (hi : H[i]? = some (b, .cells cs t)) (hk : o + k ≤ cs.size) : Rd P w T ⟨b, o, none⟩ (.agg (cs.extract o (o + k))) :=
  Rd.agg hT (hS.sat _ (List.mem_of_getElem? hi)) hk
/-- A store into the i-th known block. -/
theorem WL.storeAt (hS : St w0 S w H) {T : TypeId} {agg : Bool} {k : Nat} (hT : tyB P T agg k = true) (i : Nat) {b o : Nat} {cs : Array Value} {t : TypeId} {x y : Operand} (hx : ev e x = some (.pointer (some ⟨b, o, none⟩))) (hy : ev e y = some v)
    (hi : H[i]? = some (b, .cells cs t)) (hv : v.cells.size = k) (h1 : ∀ u ∈ v.cells.toList, u.oneCell' = true) (hk : o + k ≤ cs.size)
    (h : ∀ w', St w0 S w' (H.set i (b, .cells (wr cs o v.cells.toList) t)) → WL P ops Q n ds rest e w') : WL P ops Q n ds ({ dst := none, op := .store T x y, type := ty, pos, after := af, guard := none } :: rest) e w := by
  obtain ⟨w', hw, hU⟩ := storeVar_blk (P := P) (w := w) hT hv h1 (hS.sat _ (List.mem_of_getElem? hi)) hk
  exact WL.store hx hy hw (h w' (hS.upd hi hU))

/-! ### New blocks -/
def zeroB (P : Program) (T : TypeId) (z : List Value) : Prop := ∀ w : World, (zeroValue T).run P w = .ok (match z with | [] => .agg #[] | [u] => u | _ => .agg z.toArray) w
/-- What the zero of a type is, its cells written out. -/
def ZeroIs (P : Program) (T : TypeId) (z : Array Value) : Prop := ∃ u, u.cells = z ∧ ∀ w : World, (zeroValue T).run P w = .ok u w
theorem zeroIs_of {T : TypeId} {z : Array Value} {u : Value} (h : (P.info? T).map (·.zero) = some (some u)) (hz : u.cells = z) : ZeroIs P T z := by
  refine ⟨u, hz, fun w => ?_⟩
  cases hi : P.info? T with
  | none => rw [hi] at h; cases h
  | some i =>
    rw [hi] at h
    simp only [Option.map_some, Option.some.injEq] at h
    simp [zeroValue, typeInfo, hi, h]
theorem WL.alloc (hS : St w0 S w H) {T : TypeId} {z : Array Value} (hz : ZeroIs P T z) (hdn : Nat.blt d n = true)
    (h : ∀ b w', w.heap.size = b → w0.heap.size ≤ b → St w0 S w' ((b, .cells z T) :: H) → WL P ops Q n ds rest ((d, .pointer (some ⟨b, 0, none⟩)) :: e) w') : WL P ops Q n ds ({ dst := some d, op := .alloc T, type := ty, pos, after := af, guard := none } :: rest) e w := by
  obtain ⟨u, hu, hrun⟩ := hz
  refine WL.op (w' := w.alloc (.cells z T)) (v := .pointer (some ⟨w.heap.size, 0, none⟩)) rfl rfl hdn (fun a ha => ?_) (h _ _ rfl hS.size (hS.alloc _))
  simp only [execOp, Instr.alloc, Sem.run_bind, hrun, Result.andThen_ok, newVar, newRow, run_newObj, Sem.run_pure, hu, World.alloc]
theorem WL.box (hS : St w0 S w H) {T : TypeId} {x : Operand} (hx : ev e x = some v) (hdn : Nat.blt d n = true)
    (h : ∀ b w', w.heap.size = b → w0.heap.size ≤ b → St w0 S w' ((b, .cells v.cells T) :: H) → WL P ops Q n ds rest ((d, .pointer (some ⟨b, 0, none⟩)) :: e) w') : WL P ops Q n ds ({ dst := some d, op := .box T x, type := ty, pos, after := af, guard := none } :: rest) e w := by
  refine WL.op (w' := w.alloc (.cells v.cells T)) (v := .pointer (some ⟨w.heap.size, 0, none⟩)) rfl rfl hdn (fun a ha => ?_) (h _ _ rfl hS.size (hS.alloc _))
  simp only [execOp, Instr.box, ha.ev hx, Sem.run_bind, Result.andThen_ok, newVar, newRow, run_newObj, Sem.run_pure, World.alloc]

/-! ### Calls -/
def callB (P : Program) (f : FuncId) : Bool :=
  match P.funcs[f]? with
  | some fn => fn.name != "runtime.NumGoroutine" && fn.body.isSome
  | none => false
theorem run_callFunc_body {f : FuncId} (h : callB P f = true) (args : Array Value) (w : World) : (callFunc f args).run P w = .ok (.enter f args) w := by
  unfold callB at h
  cases hf : P.funcs[f]? with
  | none => simp [hf] at h
  | some fn =>
    rw [hf] at h
    simp only [Bool.and_eq_true, bne_iff_ne, ne_eq] at h
    have h1 : (fn.name == "runtime.NumGoroutine") = false := by simpa using h.1
    have h2 : fn.body.isNone = false := by cases hb : fn.body <;> simp_all
    simp only [callFunc, Sem.run_bind, run_program, Result.andThen_ok, hf, h1, h2, Bool.false_eq_true, if_false, Sem.run_pure]
theorem WL.call {f : FuncId} {xs : List Operand} {vs : List Value} {ats : Array TypeId} (hf : callB P f = true) (hxs : evs e xs = some vs) (hdn : Nat.blt d n = true)
    (h : Calls P f vs.toArray w fun ed w'' => ∃ v, ed = .returned v ∧ WL P ops Q n ds rest ((d, v) :: e) w'') :
    WL P ops Q n ds ({ dst := some d, op := .call { callee := .value (.func f), args := xs.toArray, argTypes := ats }, type := ty, pos, after := af, guard := none } :: rest) e w := by
  refine WL.opEnter rfl rfl hdn (fun a ha => ?_) h
  have := ha.evs hxs
  simp only [execOp, resolve, Act.eval, Deferred.ofValue, Sem.run_bind, Sem.run_pure, Result.andThen_ok, invoke]
  rw [show (#[] ++ xs.toArray.map a.eval ++ #[] : Array Value) = vs.toArray by simp [this]]
  exact run_callFunc_body hf _ _
theorem WL.callVal {f : FuncId} {x : Operand} {fi ca : List Value} {xs : List Operand} {vs : List Value} {ats : Array TypeId} (hf : callB P f = true) (hx : ev e x = some (.func (.func f) fi.toArray ca.toArray)) (hxs : evs e xs = some vs) (hdn : Nat.blt d n = true)
    (h : Calls P f (fi ++ vs ++ ca).toArray w fun ed w'' => ∃ v, ed = .returned v ∧ WL P ops Q n ds rest ((d, v) :: e) w'') :
    WL P ops Q n ds ({ dst := some d, op := .call { callee := .value x, args := xs.toArray, argTypes := ats }, type := ty, pos, after := af, guard := none } :: rest) e w := by
  refine WL.opEnter rfl rfl hdn (fun a ha => ?_) h
  have := ha.evs hxs
  simp only [execOp, resolve, ha.ev hx, Deferred.ofValue, Sem.run_bind, Sem.run_pure, Result.andThen_ok, invoke]
  rw [show (fi.toArray ++ xs.toArray.map a.eval ++ ca.toArray : Array Value) = (fi ++ vs ++ ca).toArray by simp [this]]
  exact run_callFunc_body hf _ _
theorem WL.makeFunc {fn : Fn} {xs ys : List Operand} {us vs : List Value} (hxs : evs e xs = some us) (hys : evs e ys = some vs) (hdn : Nat.blt d n = true)
    (h : WL P ops Q n ds rest ((d, .func fn us.toArray vs.toArray) :: e) w) : WL P ops Q n ds ({ dst := some d, op := .makeFunc fn xs.toArray ys.toArray, type := ty, pos, after := af, guard := none } :: rest) e w :=
  WL.op rfl rfl hdn (fun a ha => by
    simp only [execOp, Instr.makeFunc, Sem.run_bind, Sem.run_pure, Result.andThen_ok, List.map_toArray, ha.evs hxs, ha.evs hys]) h

/-! ### Builtins -/
theorem WL.builtin {b : Builtin} {xs : List Operand} {vs : List Value} {ats : Array TypeId} (hxs : evs e xs = some vs) (hdn : Nat.blt d n = true)
    (hrun : ∀ cs, (Go.builtin b ats ty cs vs.toArray).run P w = .ok (.value v) w')
    (h : WL P ops Q n ds rest ((d, v) :: e) w') : WL P ops Q n ds ({ dst := some d, op := .call { callee := .builtin b, args := xs.toArray, argTypes := ats }, type := ty, pos, after := af, guard := none } :: rest) e w :=
  WL.op rfl rfl hdn (fun a ha => by
    rw [BigFrame.execOp_builtin, List.map_toArray, List.map_toArray, ha.evs hxs]
    exact hrun _) h
def isSlcB (P : Program) (T : TypeId) : Bool := match P.underlying T with | some (.slice _) => true | _ => false
theorem isSlcB_out {T : TypeId} (h : isSlcB P T = true) : ∃ el, P.underlying T = some (.slice el) := by
  unfold isSlcB at h
  cases hu : P.underlying T with
  | none => simp [hu] at h
  | some dsc => rw [hu] at h; cases dsc <;> simp_all
theorem WL.lenSlc {x : Operand} {T : TypeId} {A : Option Addr} {len cap : Nat} (hT : isSlcB P T = true) (hx : ev e x = some (.slice A len cap)) (hdn : Nat.blt d n = true)
    (h : WL P ops Q n ds rest ((d, .int .i64 (len : Int)) :: e) w) : WL P ops Q n ds ({ dst := some d, op := .call { callee := .builtin .len, args := #[x], argTypes := #[T] }, type := ty, pos, after := af, guard := none } :: rest) e w := by
  obtain ⟨el, hu⟩ := isSlcB_out hT
  refine WL.builtin (xs := [x]) (vs := [.slice A len cap]) (by simp [evs, hx]) hdn (fun cs => ?_) h
  simp [BigFrame.builtin_len, Builtin.len_, run_underlying hu, goInt]
theorem WL.max2 {x y : Operand} {k k' : IntKind} {a b : Int} {ats : Array TypeId} (hx : ev e x = some (.int k a)) (hy : ev e y = some (.int k' b)) (hdn : Nat.blt d n = true)
    (h : WL P ops Q n ds rest ((d, .int k (if b > a then b else a)) :: e) w) : WL P ops Q n ds ({ dst := some d, op := .call { callee := .builtin .max, args := #[x, y], argTypes := ats }, type := ty, pos, after := af, guard := none } :: rest) e w := by
  refine WL.builtin (xs := [x, y]) (vs := [.int k a, .int k' b]) (by simp [evs, hx, hy]) hdn (fun cs => ?_) h
  simp [BigFrame.builtin_max, Builtin.max_, Builtin.max2]
theorem WL.min2 {x y : Operand} {k k' : IntKind} {a b : Int} {ats : Array TypeId} (hx : ev e x = some (.int k a)) (hy : ev e y = some (.int k' b)) (hdn : Nat.blt d n = true)
    (h : WL P ops Q n ds rest ((d, .int k (if b < a then b else a)) :: e) w) : WL P ops Q n ds ({ dst := some d, op := .call { callee := .builtin .min, args := #[x, y], argTypes := ats }, type := ty, pos, after := af, guard := none } :: rest) e w := by
  refine WL.builtin (xs := [x, y]) (vs := [.int k a, .int k' b]) (by simp [evs, hx, hy]) hdn (fun cs => ?_) h
  simp [BigFrame.builtin_min, Builtin.min_, Builtin.min2]

/-! ### Conversions between integers; elements of array values; slices -/
def intB (P : Program) (T : TypeId) (k : IntKind) : Bool := match P.underlying T with | some (.int k') => k == k' | _ => false
theorem intB_out {T : TypeId} {k : IntKind} (h : intB P T k = true) : P.underlying T = some (.int k) := by
  unfold intB at h
  cases hu : P.underlying T with
  | none => simp [hu] at h
  | some dsc => rw [hu] at h; cases dsc <;> simp_all
theorem WL.convert {src dst : TypeId} {x : Operand} {k k' k'' : IntKind} {z r : Int} (hsrc : intB P src k'' = true) (hdst : intB P dst k = true) (hx : ev e x = some (.int k' z)) (hr : k.wrap z = r) (hdn : Nat.blt d n = true)
    (h : WL P ops Q n ds rest ((d, .int k r) :: e) w) : WL P ops Q n ds ({ dst := some d, op := .convert src dst x, type := ty, pos, after := af, guard := none } :: rest) e w :=
  WL.op rfl rfl hdn (fun a ha => by
    simp only [execOp, ha.ev hx, Go.convert, Sem.run_bind, run_underlying (intB_out hsrc), run_underlying (intB_out hdst), Result.andThen_ok, Conv.intToInt, Sem.run_pure, hr]) h
/-- A byte of a constant string, by a function of the index. -/
theorem WL.indexStr {T : TypeId} {x y : Operand} {s : ByteArray} {k m : Nat} {g : Nat → Nat} {kd : IntKind} {z : Int} (hT : P.underlying T = some .string) (hx : ev e x = some (.string s)) (hy : ev e y = some (.int kd z)) (hz : z = (k : Int))
    (hb : ∀ i, i < m → (s[i]?).map (·.toNat) = some (g i)) (hk : k < m) (hdn : Nat.blt d n = true)
    (h : WL P ops Q n ds rest ((d, .int .u8 (g k : Int)) :: e) w) : WL P ops Q n ds ({ dst := some d, op := .index T x y, type := ty, pos, after := af, guard := none } :: rest) e w := by
  subst hz
  refine WL.op rfl rfl hdn (fun a ha => ?_) h
  have hb' := hb k hk
  cases hs : s[k]? with
  | none => rw [hs] at hb'; cases hb'
  | some b =>
    rw [hs] at hb'
    simp only [Option.map_some, Option.some.injEq] at hb'
    have h1 : (0 : Int) ≤ (k : Int) := by omega
    simp only [execOp, ha.ev hx, ha.ev hy, Instr.index, asIntOf, Sem.run_bind, Sem.run_pure, Result.andThen_ok, run_underlying hT, h1, if_true, Int.toNat_natCast, hs, hb']
end
end Go.Proofs.YtkncbggnaobgeaaDoor

/- The engine, functions that defer calls. Plain theorems over any program. -/
namespace Go.Proofs.YtkncbggnaobgeaaDoor
open Go.RowKit
set_option linter.unusedVariables false
set_option linter.unusedSimpArgs false
set_option maxRecDepth 100000

section
variable {P : Program} {ops : Array Oper} {Q : Exit → Act → World → Prop} {n : Nat} {ds : List Deferred} {e e' : Env} {w w' : World} {rest : List Oper}
variable {d : Nat} {v : Value} {ty : TypeId} {pos : String} {af : Array Edge}

/-- A call, whether made plainly or deferred: what the function's body does. -/
def CallsW (P : Program) (f : FuncId) (args : List Value) (w : World) (R : Ending → World → Prop) : Prop :=
  ∃ fn c, P.funcs[f]? = some fn ∧ fn.body = some c ∧ Nat.ble args.length fn.ntmps = true ∧ WC P c (bodyPost P fn R) fn.ntmps [] (envFrom 0 args) w
theorem callsW_n {f : FuncId} {fn : Func} {c : Code} {args : List Value} {R : Ending → World → Prop} {k : Nat} (hf : P.funcs[f]? = some fn) (hn : fn.ntmps = k) (hb : fn.body = some c) (hk : Nat.ble args.length k = true)
    (h : WC P c (bodyPost P fn R) k [] (envFrom 0 args) w) : CallsW P f args w R := by
  subst hn; exact ⟨fn, c, hf, hb, hk, h⟩
theorem CallsW.calls {f : FuncId} {args : List Value} {R : Ending → World → Prop} (h : CallsW P f args w R) : Calls P f args.toArray w R := by
  obtain ⟨fn, c, hf, hb, hk, h⟩ := h
  exact calls_walk hf hb hk h
theorem CallsW.callsD {f : FuncId} {args : List Value} {R : Ending → World → Prop} (h : CallsW P f args w R) (u : FrameMode) : CallsD P f args.toArray u w fun ed u' w' => u' = u ∧ R ed w' := by
  obtain ⟨fn, c, hf, hb, hk, h⟩ := h
  exact callsD_of_wp hf hb (h _ (holds_enter args _ (Nat.le_of_ble_eq_true hk)))
theorem calls_walk_d {f : FuncId} {fn : Func} {c : Code} {args : List Value} {R : Ending → World → Prop} {k : Nat} (hf : P.funcs[f]? = some fn) (hn : fn.ntmps = k) (hb : fn.body = some c) (hk : Nat.ble args.length k = true)
    (h : WC P c (bodyPostD P fn R) k [] (envFrom 0 args) w) : Calls P f args.toArray w R := by
  subst hn
  exact calls_of_wp_defers hf hb (h _ (holds_enter args _ (Nat.le_of_ble_eq_true hk)))
theorem WL.defer {f : FuncId} {xs : List Operand} {vs : List Value} {ats : Array TypeId} (hxs : evs e xs = some vs)
    (h : WL P ops Q n ({ target := .fn (.func f) #[], args := vs.toArray } :: ds) rest e w) :
    WL P ops Q n ds ({ dst := none, op := .defer { callee := .value (.func f), args := xs.toArray, argTypes := ats }, type := ty, pos, after := af, guard := none } :: rest) e w := fun a ha => wpList_plain rfl fun K hK => by
  have he := ha.evs hxs
  unfold Oper.wp
  have hr : (execOp a.eval { dst := none, op := .defer { callee := .value (.func f), args := xs.toArray, argTypes := ats }, type := ty, pos, after := af, guard := none }).run P w = .ok (.defer { target := .fn (.func f) #[], args := vs.toArray }) w := by
    simp only [execOp, resolve, Act.eval, Deferred.ofValue, Sem.run_bind, Sem.run_pure, Result.andThen_ok]
    rw [show (#[] ++ xs.toArray.map a.eval : Array Value) = vs.toArray by simp [he]]
  rw [hr, Oper.upon_defer]
  refine hK _ _ (h _ ⟨ha.size, ?_, ha.get⟩)
  show _ :: a.defers = _
  rw [ha.defers]
/-- The door: a deferred call of a function with a body. -/
theorem leaves_fn {fn : Func} {tmps : Array Value} {R : Ending → World → Prop} {f : FuncId} {vs : List Value} (hf : callB P f = true)
    (h : CallsW P f vs w fun ed w' => (∃ v, ed = .returned v) ∧ Leaves P fn tmps R ds .returning w') :
    Leaves P fn tmps R ({ target := .fn (.func f) #[], args := vs.toArray } :: ds) .returning w := by
  refine leaves_cons (f := f) (args := vs.toArray) (by simp) ?_ ?_
  · have : (#[] ++ vs.toArray ++ #[] : Array Value) = vs.toArray := by simp
    simp only [invoke]
    first
      | rw [show (vs.toArray ++ #[] : Array Value) = vs.toArray by simp]
      | skip
    exact run_callFunc_body hf _ _
  · have h2 := h.callsD .returning
    refine CallsD.mono h2 ?_
    rintro ed u' w' ⟨rfl, ⟨v, rfl⟩, hl⟩
    exact hl
theorem CallsW.mono {f : FuncId} {args : List Value} {R R' : Ending → World → Prop} (h : CallsW P f args w R) (hr : ∀ ed w', R ed w' → R' ed w') : CallsW P f args w R' := by
  obtain ⟨fn, c, hf, hb, hk, h⟩ := h
  refine ⟨fn, c, hf, hb, hk, fun a ha => Code.wp_mono ?_ (h a ha)⟩
  intro x a' w' hq
  cases x with
  | normal => exact ⟨hq.1, hq.2.choose, hq.2.choose_spec.1, hr _ _ hq.2.choose_spec.2⟩
  | ret => exact ⟨hq.1, hq.2.choose, hq.2.choose_spec.1, hr _ _ hq.2.choose_spec.2⟩
  | panic chain => exact ⟨hq.1, hr _ _ hq.2⟩
  | outgrown => exact hr _ _ hq
  | exit id => exact hq
  | goto l => exact hq
theorem leaves_none {fn : Func} {tmps : Array Value} {R : Ending → World → Prop} (hr : fn.results = #[]) (hR : R (.returned (.tuple #[])) w) : Leaves P fn tmps R [] .returning w :=
  ⟨_, results_none hr _ _ _, hR⟩
theorem end_d {fn : Func} {R : Ending → World → Prop} (h : ∀ tmps, Leaves P fn tmps R ds .returning w) : WX (bodyPostD P fn R) .normal n ds e w := fun a ha => by
  show Leaves P fn a.tmps R a.defers .returning w
  rw [ha.defers]; exact h _
theorem ret_d {fn : Func} {R : Ending → World → Prop} (h : ∀ tmps, Leaves P fn tmps R ds .returning w) : WX (bodyPostD P fn R) .ret n ds e w := fun a ha => by
  show Leaves P fn a.tmps R a.defers .returning w
  rw [ha.defers]; exact h _
end
end Go.Proofs.YtkncbggnaobgeaaDoor

/- An engine for walking a Go function, fifth part: arrays and structs of integers alone. Plain theorems over any program. -/
namespace Go.Proofs.YtkncbggnaobgeaaDoor
open Go.RowKit
set_option linter.unusedVariables false
set_option linter.unusedSimpArgs false
set_option maxRecDepth 100000

def arrC (ws : List Int) : Array Value := (ws.map (Value.int .i64)).toArray
/-- A struct or an array of integers, as a value. -/
def arr (ws : List Int) : Value := .agg (arrC ws)
def zeros8 : List Int := [0, 0, 0, 0, 0, 0, 0, 0]

theorem arrC_size (ws : List Int) : (arrC ws).size = ws.length := by simp [arrC]
theorem arrC_get (ws : List Int) (i : Nat) : (arrC ws)[i]? = (ws[i]?).map (Value.int .i64) := by simp [arrC]
theorem arrC_get_lt {ws : List Int} {i : Nat} (h : i < ws.length) : (arrC ws)[i]? = some (.int .i64 (ws.getD i 0)) := by
  simp [arrC, List.getD, List.getElem?_eq_getElem h]
theorem arrC_one (ws : List Int) : ∀ u ∈ (arrC ws).toList, u.oneCell' = true := by
  intro u hu
  simp only [arrC, List.mem_map] at hu
  obtain ⟨x, _, rfl⟩ := hu
  rfl
theorem arrC_extract (ws : List Int) (o k : Nat) : (arrC ws).extract o (o + k) = arrC ((ws.drop o).take k) := by
  apply Array.ext_getElem?
  intro i
  rw [Array.getElem?_extract, arrC_get, arrC_get, List.getElem?_take, List.getElem?_drop, arrC_size]
  by_cases h : i < k
  · rw [if_pos h]
    by_cases h2 : o + i < ws.length
    · rw [if_pos (by omega)]
    · rw [if_neg (by omega), List.getElem?_eq_none (by omega)]; rfl
  · rw [if_neg h, if_neg (by omega)]; rfl
theorem arrC_inj {xs ys : List Int} (h : arrC xs = arrC ys) : xs = ys := by
  have h' : xs.map (Value.int .i64) = ys.map (Value.int .i64) := by simpa [arrC] using h
  exact (List.map_inj_right (fun a b hab => by injection hab)).1 h'
theorem arr_cells (ws : List Int) : (arr ws).cells = arrC ws := rfl
theorem wr_all {cs : Array Value} {ws : List Int} (h : cs.size = ws.length) : wr cs 0 (arrC ws).toList = arrC ws := by
  apply Array.ext_getElem?
  intro i
  rw [wr_get _ _ _ _ (by simp [arrC_size, h])]
  by_cases hi : i < ws.length
  · rw [if_pos (by simp [arrC_size, hi])]
    simp
  · rw [if_neg (by simp [arrC_size, hi]), Array.getElem?_eq_none (by omega), Array.getElem?_eq_none (by rw [arrC_size]; omega)]
theorem wr_elt {ws : List Int} {k : Nat} (x : Int) (h : k < ws.length) : wr (arrC ws) k [.int .i64 x] = arrC (ws.set k x) := by
  apply Array.ext_getElem?
  intro i
  rw [wr_get _ _ _ _ (by simp [arrC_size]; omega), arrC_get, arrC_get, List.getElem?_set]
  by_cases hi : k = i
  · subst hi
    rw [if_pos (by simp), if_pos rfl, if_pos h]; simp
  · rw [if_neg (by simp; omega), if_neg hi]

section
variable {P : Program} {ops : Array Oper} {Q : Exit → Act → World → Prop} {n : Nat} {ds : List Deferred} {e e' : Env} {w w' w0 : World} {rest : List Oper} {S : List Nat} {H : Hp}
variable {d : Nat} {v : Value} {ty : TypeId} {pos : String} {af : Array Edge} {ws ws' : List Int}

theorem WL.boxArr (hS : St w0 S w H) {T : TypeId} {x : Operand} (hx : ev e x = some (arr ws)) (hdn : Nat.blt d n = true)
    (h : ∀ b w', w.heap.size = b → w0.heap.size ≤ b → St w0 S w' ((b, .cells (arrC ws) T) :: H) → WL P ops Q n ds rest ((d, .pointer (some ⟨b, 0, none⟩)) :: e) w') : WL P ops Q n ds ({ dst := some d, op := .box T x, type := ty, pos, after := af, guard := none } :: rest) e w :=
  WL.box hS hx hdn h
theorem WL.allocArr (hS : St w0 S w H) {T : TypeId} {z : Array Value} (hz : ZeroIs P T z) (hz' : z = arrC ws) (hdn : Nat.blt d n = true)
    (h : ∀ b w', w.heap.size = b → w0.heap.size ≤ b → St w0 S w' ((b, .cells (arrC ws) T) :: H) → WL P ops Q n ds rest ((d, .pointer (some ⟨b, 0, none⟩)) :: e) w') : WL P ops Q n ds ({ dst := some d, op := .alloc T, type := ty, pos, after := af, guard := none } :: rest) e w := by
  subst hz'
  exact WL.alloc hS hz hdn h
theorem Rd.arr {T : TypeId} {k b : Nat} {t : TypeId} {fr : Nat × Nat} (hT : tyB P T true k = true) (h : w.heap[b]? = some (.cells (arrC ws) t fr)) (hl : ws.length = k) : Rd P w T ⟨b, 0, none⟩ (arr ws) := by
  have := Rd.agg (P := P) (w := w) (T := T) (o := 0) hT h (by rw [arrC_size]; omega)
  rw [arrC_extract] at this
  have e1 : ((ws.drop 0).take k) = ws := by rw [List.drop_zero, List.take_of_length_le (by omega)]
  rw [e1] at this
  exact this
theorem Rd.arrMid {T : TypeId} {k b o : Nat} {t : TypeId} {fr : Nat × Nat} (hT : tyB P T true k = true) (h : w.heap[b]? = some (.cells (arrC ws) t fr)) (hl : o + k ≤ ws.length) : Rd P w T ⟨b, o, none⟩ (YtkncbggnaobgeaaDoor.arr ((ws.drop o).take k)) := by
  have := Rd.agg (P := P) (w := w) (T := T) (o := o) hT h (by rw [arrC_size]; omega)
  rw [arrC_extract] at this
  exact this
theorem St.rdArr (hS : St w0 S w H) {T : TypeId} {k : Nat} (hT : tyB P T true k = true) (i : Nat) {b : Nat} {t : TypeId} (hi : H[i]? = some (b, .cells (arrC ws) t)) (hl : ws.length = k) : Rd P w T ⟨b, 0, none⟩ (arr ws) :=
  Rd.arr hT (hS.sat _ (List.mem_of_getElem? hi)) hl
theorem St.rdElt (hS : St w0 S w H) {T : TypeId} {k : Nat} (hT : tyB P T false k = true) (i : Nat) {b o : Nat} {t : TypeId} (hi : H[i]? = some (b, .cells (arrC ws) t)) (hl : o < ws.length) : Rd P w T ⟨b, o, none⟩ (.int .i64 (ws.getD o 0)) :=
  St.rd1 hS hT i hi (arrC_get_lt hl)
theorem WL.indexArr {T : TypeId} {len k : Nat} {x y : Operand} {kd : IntKind} {z : Int} (hT : arrB P T len 1 = true) (hl : ws.length = len) (hx : ev e x = some (arr ws)) (hy : ev e y = some (.int kd z)) (hz : z = (k : Int)) (hk : k < len) (hdn : Nat.blt d n = true)
    (h : WL P ops Q n ds rest ((d, .int .i64 (ws.getD k 0)) :: e) w) (hp : ∀ el, P.underlying T = some (.array len el) → tyB P el false 1 = true := by intro el h; rw [show P.underlying T = _ from h] at *; simp_all) : WL P ops Q n ds ({ dst := some d, op := .index T x y, type := ty, pos, after := af, guard := none } :: rest) e w := by
  subst hz
  obtain ⟨el, i, hu, hi, hs⟩ := arrB_out hT
  refine WL.op rfl rfl hdn (fun a ha => ?_) h
  have h1 : (0 : Int) ≤ (k : Int) ∧ (k : Int) < (len : Int) := by omega
  have hg := arrC_get_lt (ws := ws) (i := k) (by omega)
  simp only [execOp, ha.ev hx, ha.ev hy, arr, Instr.index, asIntOf, Sem.run_bind, Sem.run_pure, Result.andThen_ok, run_underlying hu, h1, and_self, if_true, sizeOf, typeInfo, run_program, hi, hs, Int.toNat_natCast, part, tyB_isAgg (hp el hu), Nat.mul_one, hg, Bool.false_eq_true, if_false]
theorem WL.storeArr (hS : St w0 S w H) {T : TypeId} {k : Nat} (hT : tyB P T true k = true) (i : Nat) {b : Nat} {cs : Array Value} {t : TypeId} {x y : Operand} (hx : ev e x = some (.pointer (some ⟨b, 0, none⟩))) (hy : ev e y = some (arr ws'))
    (hi : H[i]? = some (b, .cells cs t)) (hc : cs.size = k) (hl' : ws'.length = k)
    (h : ∀ w', St w0 S w' (H.set i (b, .cells (arrC ws') t)) → WL P ops Q n ds rest e w') : WL P ops Q n ds ({ dst := none, op := .store T x y, type := ty, pos, after := af, guard := none } :: rest) e w := by
  refine WL.storeAt hS hT i hx hy hi (by rw [arr_cells, arrC_size]; exact hl') (arrC_one _) (by omega) (fun w' hw' => h w' ?_)
  rw [arr_cells, wr_all (by omega)] at hw'
  exact hw'
theorem WL.storeElt (hS : St w0 S w H) {T : TypeId} {o : Nat} (hT : tyB P T false 1 = true) (i : Nat) {b : Nat} {t : TypeId} {x y : Operand} {z : Int} (hx : ev e x = some (.pointer (some ⟨b, o, none⟩))) (hy : ev e y = some (.int .i64 z))
    (hi : H[i]? = some (b, .cells (arrC ws) t)) (hl : o < ws.length)
    (h : ∀ w', St w0 S w' (H.set i (b, .cells (arrC (ws.set o z)) t)) → WL P ops Q n ds rest e w') : WL P ops Q n ds ({ dst := none, op := .store T x y, type := ty, pos, after := af, guard := none } :: rest) e w := by
  refine WL.storeAt hS hT i hx hy hi rfl (by simp [Value.cells, Value.oneCell']) (by rw [arrC_size]; omega) (fun w' hw' => h w' ?_)
  rw [show (Value.int IntKind.i64 z).cells.toList = [.int .i64 z] from rfl, wr_elt _ hl] at hw'
  exact hw'

/-! ### Literals -/
def evp (e : Env) : List (Nat × Operand) → Option (List (Nat × Value))
  | [] => some []
  | (i, x) :: xs => match ev e x, evp e xs with
    | some v, some vs => some ((i, v) :: vs)
    | _, _ => none
theorem Holds.evp {a : Act} (h : Holds a n ds e) : ∀ {xs : List (Nat × Operand)} {vs : List (Nat × Value)}, YtkncbggnaobgeaaDoor.evp e xs = some vs → xs.map (fun p => (p.1, a.eval p.2)) = vs
  | [], vs, hx => by simp [YtkncbggnaobgeaaDoor.evp] at hx; simp [hx]
  | (i, x) :: xs, vs, hx => by
    simp only [YtkncbggnaobgeaaDoor.evp] at hx
    split at hx
    · rename_i v vs' h1 h2
      simp only [Option.some.injEq] at hx
      subst hx
      simp [h.ev h1, h.evp h2]
    · cases hx
/-- Where the parts of a struct lie. -/
def placesOf (P : Program) (T : TypeId) : Option (List (Nat × Nat)) :=
  match P.underlying T with
  | some (.struct fs) => fs.toList.mapM fun f => (P.info? f.type).map fun i => (f.offset, i.size)
  | _ => none
theorem run_places : ∀ {fs : List Field} {pl : List (Nat × Nat)} (w : World), (fs.mapM fun f => (P.info? f.type).map fun i => (f.offset, i.size)) = some pl →
    (fs.mapM fun f => (do pure (f.offset, ← sizeOf f.type) : Sem (Nat × Nat))).run P w = .ok pl w
  | [], pl, w, h => by simp at h; subst h; simp
  | f :: fs, pl, w, h => by
    rw [List.mapM_cons] at h
    cases hi : P.info? f.type with
    | none => simp [hi] at h
    | some i =>
      cases hm : (fs.mapM fun f => (P.info? f.type).map fun i => (f.offset, i.size)) with
      | none => simp [hi, hm] at h
      | some pl' =>
        simp [hi, hm] at h
        subst h
        have ih := run_places w hm
        simp only [List.mapM_cons, Sem.run_bind, sizeOf, typeInfo, run_program, Result.andThen_ok, hi, Sem.run_pure] at ih ⊢
        rw [ih]; rfl
theorem WL.build {T : TypeId} {pl : List (Nat × Nat)} {z cells : Array Value} {ps : List (Nat × Operand)} {vs : List (Nat × Value)} (hpl : placesOf P T = some pl) (hz : ZeroIs P T z) (hvs : evp e ps = some vs) (hdn : Nat.blt d n = true)
    (hf : Instr.fill (pl[·]?) z vs = some cells)
    (h : WL P ops Q n ds rest ((d, .agg cells) :: e) w) : WL P ops Q n ds ({ dst := some d, op := .build T ps.toArray, type := ty, pos, after := af, guard := none } :: rest) e w := by
  obtain ⟨u, hu, hrun⟩ := hz
  unfold placesOf at hpl
  cases hT : P.underlying T with
  | none => simp [hT] at hpl
  | some dsc =>
    rw [hT] at hpl
    cases dsc with
    | struct fs =>
      simp only at hpl
      refine WL.op rfl rfl hdn (fun a ha => ?_) h
      have hp := run_places (P := P) w hpl
      have hmap : (fs.mapM fun f => (do pure (f.offset, ← sizeOf f.type) : Sem (Nat × Nat))).run P w = .ok pl.toArray w := by
        rw [← Array.toArray_toList (xs := fs), List.mapM_toArray, Sem.run_map]
        rw [hp]; rfl
      simp only [execOp, Instr.build, Sem.run_bind, hrun, Result.andThen_ok, run_underlying hT, hmap, List.map_toArray, ha.evp hvs, hu]
      have e2 : (fun x : Nat => pl.toArray[x]?) = (fun x : Nat => pl[x]?) := by funext x; simp
      rw [e2, hf]
      rfl
    | _ => simp at hpl
theorem WL.buildA {T : TypeId} {len sz : Nat} {z cells : Array Value} {ps : List (Nat × Operand)} {vs : List (Nat × Value)} (hT : arrB P T len sz = true) (hz : ZeroIs P T z) (hvs : evp e ps = some vs) (hdn : Nat.blt d n = true)
    (hf : Instr.fill (fun i => some (i * sz, sz)) z vs = some cells)
    (h : WL P ops Q n ds rest ((d, .agg cells) :: e) w) : WL P ops Q n ds ({ dst := some d, op := .build T ps.toArray, type := ty, pos, after := af, guard := none } :: rest) e w := by
  obtain ⟨u, hu, hrun⟩ := hz
  obtain ⟨el, i, hu', hi, hs⟩ := arrB_out hT
  refine WL.op rfl rfl hdn (fun a ha => ?_) h
  simp only [execOp, Instr.build, Sem.run_bind, hrun, Result.andThen_ok, run_underlying hu', sizeOf, typeInfo, run_program, hi, hs, Sem.run_pure, List.map_toArray, ha.evp hvs, hu, hf]
/-- '[]T{x}': one element. -/
theorem WL.buildSlice1 (hS : St w0 S w H) {T el : TypeId} {sz : Nat} {x : Operand} (hT : P.underlying T = some (.slice el)) (hel : tyB P el (match P.underlying el with | some (.struct _) | some (.array _ _) => true | _ => false) sz = true) (hsz : 0 < sz ∧ sz ≤ 100) {z : Array Value} (hz : ZeroIs P el z) (hzs : z.size = sz)
    (hx : ev e x = some v) (hv : v.cells.size = sz) (hdn : Nat.blt d n = true)
    (h : ∀ b w', w.heap.size = b → w0.heap.size ≤ b → St w0 S w' ((b, .cells v.cells el) :: H) → WL P ops Q n ds rest ((d, .slice (some ⟨b, 0, none⟩) 1 1) :: e) w') : WL P ops Q n ds ({ dst := some d, op := .buildSlice T 1 #[(0, x)], type := ty, pos, after := af, guard := none } :: rest) e w := by
  obtain ⟨u, hu, hrun⟩ := hz
  refine WL.op (w' := w.alloc (.cells v.cells el)) (v := .slice (some ⟨w.heap.size, 0, none⟩) 1 1) rfl rfl hdn (fun a ha => ?_) (h _ _ rfl hS.size (hS.alloc _))
  have h1 : ¬ (1 * sz > 2 ^ 24) := by omega
  have h2 : ¬ (1 * sz = 0) := by omega
  have hfill : Instr.fill (fun i => some (i * sz, sz)) ((Array.range (1 * sz)).map (z[· % z.size]!)) [(0, v)] = some v.cells := by
    have hs0 : ((Array.range (1 * sz)).map (z[· % z.size]!)).size = sz := by simp
    simp only [Instr.fill, hv, ne_eq, not_true_eq_false, decide_false, Nat.zero_mul, Nat.zero_add, Bool.false_or, hs0, gt_iff_lt, Nat.lt_irrefl, Bool.false_eq_true, if_false, Option.some.injEq]
    generalize (Array.range (1 * sz)).map (z[· % z.size]!) = c0 at hs0
    have key : ∀ (l : List Value) (k : Nat) (c : Array Value), c.size = k + l.length → (l.zipIdx k).foldl (fun cs (x : Value × Nat) => cs.setIfInBounds x.2 x.1) c = wr c k l := by
      intro l
      induction l with
      | nil => intro k c _; rfl
      | cons y l ih => intro k c hc; simp only [List.zipIdx_cons, List.foldl_cons, wr]; exact ih (k + 1) _ (by simp at hc ⊢; omega)
    have e1 : v.cells.zipIdx.foldl (fun cs (x : Value × Nat) => cs.setIfInBounds x.2 x.1) c0 = wr c0 0 v.cells.toList := by
      rw [← Array.foldl_toList, Array.toList_zipIdx]
      exact key _ 0 _ (by simp [hs0, hv])
    refine Eq.trans e1 ?_
    apply Array.ext_getElem?
    intro i
    rw [wr_get _ _ _ _ (by simp [hs0, hv])]
    by_cases hi : i < sz
    · rw [if_pos (by simp [hv, hi])]; simp
    · rw [if_neg (by simp [hv]; omega), Array.getElem?_eq_none (by omega), Array.getElem?_eq_none (by omega)]
  simp only [execOp, Instr.buildSlice, Sem.run_bind, run_underlying hT, Result.andThen_ok, tyB_size hel, h1, h2, if_false, hrun, hu, Sem.run_pure, newRow, run_newObj, World.alloc, List.map_toArray, List.map_cons, List.map_nil, ha.ev hx, hfill]
end
end Go.Proofs.YtkncbggnaobgeaaDoor

/- An engine for walking a Go function: slices that grow, maps of int keys. Plain theorems over any program. -/
namespace Go.Proofs.YtkncbggnaobgeaaDoor
open Go.RowKit
open Go.ChangeMaps (setBlock)
open Go.MapKept (run_findKey)
set_option linter.unusedVariables false
set_option linter.unusedSimpArgs false
set_option linter.unusedSectionVars false
set_option maxRecDepth 100000

/-! ### A row that grows -/
/-- Where the elements of a slice lie: nowhere; or in a block, with so much room, with these cells. -/
inductive Row where
  | none
  | some (g cap : Nat) (cur : Array Value)
  | nul (a : Addr)
def Row.val : Row → Nat → Value
  | .none, n => .slice .none n 0
  | .some g cap _, n => .slice (.some ⟨g, 0, .none⟩) n cap
  | .nul a, n => .slice (.some a) n 0
def Row.hp : Row → TypeId → Hp
  | .none, _ => []
  | .some g _ cur, T => [(g, .cells cur T)]
  | .nul _, _ => []
/-- n elements of sz cells each: xs. -/
def Row.ok : Row → Nat → Nat → List Value → Prop
  | .none, sz, n, xs => n = 0 ∧ xs = []
  | .some _ cap cur, sz, n, xs => xs.length = n * sz ∧ n ≤ cap ∧ cap ≤ maxLen ∧ cur.size = cap * sz ∧ cur.toList.take (n * sz) = xs ∧ (n = 0 → cap = 0)
  | .nul _, _, n, xs => n = 0 ∧ xs = []

section
variable {P : Program} {w0 w w' : World} {S : List Nat} {H : Hp} {r : Row} {sz n : Nat} {xs : List Value} {el : TypeId}
theorem Row.ok_len (h : r.ok sz n xs) : xs.length = n * sz := by
  cases r with
  | none => obtain ⟨rfl, rfl⟩ := h; simp
  | some g cap cur => exact h.1
  | nul a => obtain ⟨rfl, rfl⟩ := h; simp
theorem Row.ok_get {g cap : Nat} {cur : Array Value} (h : Row.ok (.some g cap cur) sz n xs) {j : Nat} {u : Value} (hj : xs[j]? = .some u) : cur[j]? = .some u := by
  obtain ⟨h1, h2, h3, h4, h5, _⟩ := h
  rw [← h5, List.getElem?_take] at hj
  split at hj
  · simpa using hj
  · cases hj
theorem St.grew (hS : St w0 S w H) (hn0 : 0 < n) {v : Value} (ho : w'.ownsRow w.heap.size el sz v n xs) (hg : w.grownBy w' .none) : ∃ r : Row, v = r.val n ∧ r.ok sz n xs ∧ St w0 S w' (r.hp el ++ H) := by
  have hS' : St w0 S w' H := ⟨hg.os.trans hS.os, hg.tape.trans hS.tape, hg.output.trans hS.output, Nat.le_trans hS.size hg.size,
    fun k hk hn => (hg.block k (Nat.lt_of_lt_of_le hk hS.size) (by simp)).trans (hS.old k hk hn), hS.nd, fun p hp => (hg.block p.1 (lt_of_some (hS.sat p hp)) (by simp)).trans (hS.sat p hp), hS.own⟩
  obtain ⟨hl, ⟨rfl, rfl⟩ | ⟨g, cap, cur, rfl, hb, hgb, h1, h2, h3, h4⟩⟩ := ho
  · refine ⟨.none, rfl, ⟨rfl, List.eq_nil_of_length_eq_zero (by omega)⟩, hS'⟩
  · refine ⟨.some g cap cur, rfl, ⟨hl, h1, h2, h3, h4, fun h => absurd h (by omega)⟩, ?_⟩
    refine ⟨hS'.os, hS'.tape, hS'.output, hS'.size, hS'.old, ?_, ?_, ?_⟩
    · simp only [Row.hp, List.cons_append, List.nil_append, List.map_cons, List.nodup_cons]
      refine ⟨fun hm => ?_, hS'.nd⟩
      obtain ⟨p, hp, he⟩ := List.mem_map.1 hm
      have := lt_of_some (hS.sat p hp)
      omega
    · intro p hp
      simp only [Row.hp, List.cons_append, List.nil_append, List.mem_cons] at hp
      rcases hp with rfl | hp
      · exact hgb
      · exact hS'.sat p hp
    · intro p hp
      simp only [Row.hp, List.cons_append, List.nil_append, List.mem_cons] at hp
      rcases hp with rfl | hp
      · exact .inr (Nat.le_trans hS.size hb)
      · exact hS'.own p hp
/-- An append, whatever the room. -/
theorem run_append_row (hS : St w0 S w (r.hp el ++ H)) (hok : r.ok sz n xs) {t ty : TypeId} {i : TypeInfo} {z : Value} {bytes : Nat} (ht : P.underlying t = .some (.slice el)) (hi : P.info? el = .some i) (hz : i.zero = .some z)
    (hsize : i.size = sz) (hby : i.bytes = bytes) (hzs : z.cells.size = sz) (hsz : 0 < sz) {a : Addr} {m c : Nat} {news : List Value} (hl : news.length = m * sz) (hnews : ∀ j u, news[j]? = .some u → w.cell? (a.add j) = .some u) (h1 : ∀ u ∈ news, u.oneCell' = true)
    (h63 : n + m ≤ maxLen) (hbytes : (n + m) * bytes ≤ 140737488355328) (hp0 : 0 < n + m ∨ ∃ g cap cur, r = .some g cap cur) :
    ∃ (r' : Row) (w' : World), (Builtin.append_ #[t, t] ty #[r.val n, .slice (.some a) m c]).run P w = .ok (r'.val (n + m)) w' ∧ r'.ok sz (n + m) (xs ++ news) ∧ St w0 S w' (r'.hp el ++ H) := by
  cases r with
  | none =>
    obtain ⟨rfl, rfl⟩ := hok
    obtain ⟨v', w', hrun, ho, hg, _⟩ := run_append_own (P := P) (w := w) w.heap.size t ty el i z sz bytes ht hi hz hsize hby hzs hsz (.slice .none 0 0) 0 [] ⟨by simp, .inl ⟨rfl, rfl⟩⟩ a m c news hl hnews h1 h63 hbytes (Nat.le_refl _)
    have hm0 : 0 < 0 + m := hp0.elim id (fun ⟨_, _, _, h⟩ => by cases h)
    obtain ⟨r', rfl, hok', hS'⟩ := St.grew (el := el) hS hm0 ho hg
    exact ⟨r', w', hrun, hok', hS'⟩
  | nul a0 =>
    obtain ⟨rfl, rfl⟩ := hok
    have hm0 : 0 < 0 + m := hp0.elim id (fun ⟨_, _, _, h⟩ => by cases h)
    obtain ⟨v', w', hrun, ho, hgr⟩ := run_append_arg_grows (P := P) w t ty el i z sz bytes ht hi hz hsize hby hzs hsz a0 0 0 [] (by simp) (fun j u hj => by cases hj) a m c news hl hnews (by omega) h63 hbytes
    obtain ⟨r', rfl, hok', hS'⟩ := St.grew (el := el) hS hm0 ho hgr
    exact ⟨r', w', hrun, hok', hS'⟩
  | some g cap cur =>
    have hg : w.heap[g]? = .some (.cells cur el) := hS.sat _ List.mem_cons_self
    obtain ⟨k1, k2, k3, k4, k5, k6⟩ := hok
    by_cases hroom : n + m ≤ cap
    · obtain ⟨w', hrun, ho, hgr⟩ := run_append_fits (P := P) (w := w) 0 t ty el i sz ht hi hsize g n cap xs ⟨k1, .inr ⟨g, cap, cur, rfl, Nat.zero_le _, hg, k2, k3, k4, k5⟩⟩ a m c news hl hnews h1 hroom
      obtain ⟨l1, ⟨hv, hn⟩ | ⟨g', cap', cur', hv, _, hg', l2, l3, l4, l5⟩⟩ := ho
      · cases hv
      · obtain ⟨rfl, rfl⟩ : g = g' ∧ cap = cap' := by simp at hv; exact hv
        refine ⟨.some g cap cur', w', hrun, ⟨l1, l2, l3, l4, l5, fun h => k6 (by omega)⟩, ?_⟩
        have hne : ∀ p ∈ H, p.1 ≠ g := fun p hp he => by
          have := hS.nd
          simp only [Row.hp, List.cons_append, List.nil_append, List.map_cons, List.nodup_cons] at this
          exact this.1 (List.mem_map.2 ⟨p, hp, he⟩)
        refine ⟨hgr.os.trans hS.os, hgr.tape.trans hS.tape, hgr.output.trans hS.output, Nat.le_trans hS.size hgr.size, fun k hk hn => ?_, hS.nd, ?_, fun p hp => ?_⟩
        · have hkg : k ≠ g := fun he => by
            subst he
            rcases hS.own (k, .cells cur el) List.mem_cons_self with h | h
            · exact hn h
            · exact absurd hk (Nat.not_lt.2 h)
          exact (hgr.block k (Nat.lt_of_lt_of_le hk hS.size) (by simpa using hkg)).trans (hS.old k hk hn)
        · intro p hp
          simp only [Row.hp, List.cons_append, List.nil_append, List.mem_cons] at hp
          rcases hp with rfl | hp
          · exact hg'
          · have hs := hS.sat p (List.mem_cons_of_mem _ hp)
            exact (hgr.block p.1 (lt_of_some hs) (by simpa using hne p hp)).trans hs
        · simp only [Row.hp, List.cons_append, List.nil_append, List.mem_cons] at hp
          rcases hp with rfl | hp
          · exact hS.own (g, .cells cur el) List.mem_cons_self
          · exact hS.own p (List.mem_cons_of_mem _ hp)
    · obtain ⟨v', w', hrun, ho, hgr⟩ := run_append_arg_grows (P := P) w t ty el i z sz bytes ht hi hz hsize hby hzs hsz ⟨g, 0, .none⟩ n cap xs k1 (fun j u hj => by
        rw [Addr.add_lit, Nat.zero_add, cell_of hg]; exact Row.ok_get (g := g) (cap := cap) (cur := cur) (n := n) (xs := xs) (sz := sz) ⟨k1, k2, k3, k4, k5, k6⟩ hj) a m c news hl hnews (by omega) h63 hbytes
      have hS1 : St w0 S w H := hS.tail
      obtain ⟨r', rfl, hok', hS'⟩ := St.grew (el := el) hS1 (by omega) ho hgr
      exact ⟨r', w', hrun, hok', hS'⟩
end

/-- What an append needs of a slice's type. -/
def AppT (P : Program) (t el : TypeId) (sz bytes : Nat) : Prop := ∃ i z, P.underlying t = some (.slice el) ∧ P.info? el = some i ∧ i.zero = some z ∧ i.size = sz ∧ i.bytes = bytes ∧ z.cells.size = sz ∧ 0 < sz
def appB (P : Program) (t el : TypeId) (sz bytes : Nat) : Bool :=
  (match P.underlying t with | some (.slice e) => e == el | _ => false) && (match P.info? el with | some i => i.size == sz && i.bytes == bytes && (match i.zero with | some z => z.cells.size == sz | none => false) | none => false) && Nat.blt 0 sz
theorem appT_of {P : Program} {t el : TypeId} {sz bytes : Nat} (h : appB P t el sz bytes = true) : AppT P t el sz bytes := by
  unfold appB at h
  simp only [Bool.and_eq_true] at h
  obtain ⟨⟨h1, h2⟩, h3⟩ := h
  cases hu : P.underlying t with
  | none => simp [hu] at h1
  | some d =>
    rw [hu] at h1
    cases d with
    | slice e =>
      cases hi : P.info? el with
      | none => simp [hi] at h2
      | some i =>
        rw [hi] at h2
        cases hz : i.zero with
        | none => simp [hz] at h2
        | some z =>
          simp [hz] at h1 h2 h3
          subst h1
          exact ⟨i, z, hu, hi, hz, h2.1.1, h2.1.2, h2.2, h3⟩
    | _ => simp at h1

section
variable {P : Program} {ops : Array Oper} {Q : Exit → Act → World → Prop} {n : Nat} {ds : List Deferred} {e e' : Env} {w w' w0 : World} {rest : List Oper} {S : List Nat} {H : Hp}
variable {d : Nat} {v : Value} {ty : TypeId} {pos : String} {af : Array Edge}

theorem WL.append {x y : Operand} {t el : TypeId} {sz bytes k m c : Nat} {r : Row} {xs news : List Value} {a : Addr} (hT : AppT P t el sz bytes) (hS : St w0 S w (r.hp el ++ H)) (hok : r.ok sz k xs)
    (hx : ev e x = some (r.val k)) (hy : ev e y = some (.slice (some a) m c)) (hl : news.length = m * sz) (hnews : ∀ j u, news[j]? = some u → w.cell? (a.add j) = some u) (h1 : ∀ u ∈ news, u.oneCell' = true)
    (h63 : k + m ≤ maxLen) (hbytes : (k + m) * bytes ≤ 140737488355328) (hdn : Nat.blt d n = true)
    (h : ∀ (r' : Row) w', r'.ok sz (k + m) (xs ++ news) → St w0 S w' (r'.hp el ++ H) → WL P ops Q n ds rest ((d, r'.val (k + m)) :: e) w') (hp0 : 0 < k + m ∨ ∃ g cap cur, r = .some g cap cur := by first | exact .inl (by omega) | exact .inr ⟨_, _, _, rfl⟩) :
    WL P ops Q n ds ({ dst := some d, op := .call { callee := .builtin .append, args := #[x, y], argTypes := #[t, t] }, type := ty, pos, after := af, guard := none } :: rest) e w := by
  obtain ⟨i, z, t1, t2, t3, t4, t5, t6, t7⟩ := hT
  obtain ⟨r', w', hrun, hok', hS'⟩ := run_append_row (P := P) (ty := ty) hS hok t1 t2 t3 t4 t5 t6 t7 (c := c) hl hnews h1 h63 hbytes hp0
  refine WL.builtin (xs := [x, y]) (vs := [r.val k, .slice (some a) m c]) (w' := w') (v := r'.val (k + m)) (by simp [evs, hx, hy]) hdn (fun cs => ?_) (h r' w' hok' hS')
  have e1 : #[r.val k, Value.slice (some a) m c] = [r.val k, Value.slice (some a) m c].toArray := rfl
  rw [e1] at hrun
  unfold Go.builtin
  rw [Sem.run_bind, hrun]; rfl

/-! ### Parts of a slice -/
theorem addr_add0 (a : Addr) : a.add 0 = a := by cases a; simp [Addr.add]
theorem WL.sliceHi {T : TypeId} {sz k len cap : Nat} {A : Option Addr} {x y : Operand} {kd : IntKind} {z : Int} (hT : slcB P T sz = true) (hx : ev e x = some (.slice A len cap)) (hy : ev e y = some (.int kd z)) (hz : z = (k : Int)) (hk : k ≤ cap) (hdn : Nat.blt d n = true)
    (h : WL P ops Q n ds rest ((d, .slice A k cap) :: e) w) : WL P ops Q n ds ({ dst := some d, op := .slice T x none (some y) none, type := ty, pos, after := af, guard := none } :: rest) e w := by
  subst hz
  obtain ⟨el, i, hu, hi, hs⟩ := slcB_out hT
  refine WL.op rfl rfl hdn (fun a ha => ?_) h
  have hb := run_sliceBound (P := P) (w := w) kd (k : Int) cap .sliceAcap (by omega) (by omega)
  by_cases hc : cap = 0
  · subst hc
    simp [execOp, Option.map, ha.ev hx, ha.ev hy, Instr.sliceAt, Instr.slice, Instr.sliceBounds, hb, Sem.run_bind, run_underlying hu, sizeOf, typeInfo, hi, hs]
  · cases A <;> simp [execOp, Option.map, ha.ev hx, ha.ev hy, Instr.sliceAt, Instr.slice, Instr.sliceBounds, hb, Sem.run_bind, run_underlying hu, sizeOf, typeInfo, hi, hs, hc, addr_add0]
theorem WL.sliceLo {T : TypeId} {sz k len cap b o : Nat} {x y : Operand} {kd : IntKind} {z : Int} (hT : slcB P T sz = true) (hx : ev e x = some (.slice (some ⟨b, o, none⟩) len cap)) (hy : ev e y = some (.int kd z)) (hz : z = (k : Int)) (hk : k ≤ len) (hdn : Nat.blt d n = true)
    (h : WL P ops Q n ds rest ((d, .slice (some (if cap = k then ⟨b, o, none⟩ else ⟨b, o + k * sz, none⟩)) (len - k) (cap - k)) :: e) w) : WL P ops Q n ds ({ dst := some d, op := .slice T x (some y) none none, type := ty, pos, after := af, guard := none } :: rest) e w := by
  subst hz
  obtain ⟨el, i, hu, hi, hs⟩ := slcB_out hT
  refine WL.op rfl rfl hdn (fun a ha => ?_) h
  have hb := run_sliceBound (P := P) (w := w) kd (k : Int) len .sliceB (by omega) (by omega)
  by_cases hc : cap = k
  · subst hc
    simp [execOp, Option.map, ha.ev hx, ha.ev hy, Instr.sliceAt, Instr.slice, Instr.sliceBounds, hb, Sem.run_bind, run_underlying hu, sizeOf, typeInfo, hi, hs, addr_add]
  · simp [execOp, Option.map, ha.ev hx, ha.ev hy, Instr.sliceAt, Instr.slice, Instr.sliceBounds, hb, Sem.run_bind, run_underlying hu, sizeOf, typeInfo, hi, hs, hc, addr_add]
theorem WL.sliceArr {T : TypeId} {len sz b o : Nat} {x : Operand} (hT : arrB P T len sz = true) (hx : ev e x = some (.pointer (some ⟨b, o, none⟩))) (hlen : len ≠ 0) (hdn : Nat.blt d n = true)
    (h : WL P ops Q n ds rest ((d, .slice (some ⟨b, o, none⟩) len len) :: e) w) : WL P ops Q n ds ({ dst := some d, op := .slice T x none none none, type := ty, pos, after := af, guard := none } :: rest) e w := by
  obtain ⟨el, i, hu, hi, hs⟩ := arrB_out hT
  refine WL.op rfl rfl hdn (fun a ha => ?_) h
  simp [execOp, Option.map, ha.ev hx, Instr.sliceAt, Instr.sureAddr, Instr.sliceBounds, Sem.run_bind, run_underlying hu, sizeOf, typeInfo, hi, hs, hlen, addr_add, Ne.symm hlen]

/-! ### New slices -/
theorem WL.makeSlice (hS : St w0 S w H) {T el : TypeId} {sz bytes k : Nat} {x y : Operand} {kl kc : IntKind} {a b : Int} {i : TypeInfo} {z : Value} (hu : P.underlying T = some (.slice el)) (hi : P.info? el = some i) (hz : i.zero = some z) (hsz : i.size = sz) (hs0 : 0 < sz) (hby : i.bytes = bytes)
    (hx : ev e x = some (.int kl a)) (hy : ev e y = some (.int kc b)) (ha : a = (k : Int)) (hb : b = (k : Int)) (h16 : k * sz ≤ 16777216) (hbytes : bytes * k ≤ 281474976710656) (hdn : Nat.blt d n = true)
    (h : ∀ g w', w.heap.size = g → w0.heap.size ≤ g → St w0 S w' ((g, .cells (madeCells z.cells (k * sz)) el) :: H) → WL P ops Q n ds rest ((d, .slice (some ⟨g, 0, none⟩) k k) :: e) w') : WL P ops Q n ds ({ dst := some d, op := .makeSlice T x y, type := ty, pos, after := af, guard := none } :: rest) e w := by
  subst ha; subst hb; subst hsz; subst hby
  refine WL.op (w' := w.alloc (.cells (madeCells z.cells (k * i.size)) el)) (v := .slice (some ⟨w.heap.size, 0, none⟩) k k) rfl rfl hdn (fun act hact => ?_) (h _ _ rfl hS.size (hS.alloc _))
  have hb63 : (k : Int) ≤ 9223372036854775807 := by
    have : k * 1 ≤ k * i.size := Nat.mul_le_mul_left k hs0
    omega
  have := run_makeSlice (P := P) (w := w) T el i z hu hi hz kl kc (k : Int) (k : Int) (by omega) (Int.le_refl _) (by simpa using h16) (by rw [← Int.natCast_mul]; exact Int.ofNat_le.2 hbytes) hb63
  simp only [execOp, hact.ev hx, hact.ev hy, Sem.run_bind, this, Result.andThen_ok, Sem.run_pure, Int.toNat_natCast]
theorem WL.buildSlice0 (hS : St w0 S w H) {T el : TypeId} {sz : Nat} {i : TypeInfo} {z : Value} (hu : P.underlying T = some (.slice el)) (hi : P.info? el = some i) (hz : i.zero = some z) (hdn : Nat.blt d n = true)
    (h : ∀ g w', w.heap.size = g → w0.heap.size ≤ g → St w0 S w' ((g, .cells #[] el) :: H) → WL P ops Q n ds rest ((d, .slice (some ⟨g, 0, none⟩) 0 0) :: e) w') : WL P ops Q n ds ({ dst := some d, op := .buildSlice T 0 #[], type := ty, pos, after := af, guard := none } :: rest) e w := by
  refine WL.op (w' := w.alloc (.cells #[] el)) (v := .slice (some ⟨w.heap.size, 0, none⟩) 0 0) rfl rfl hdn (fun act hact => ?_) (h _ _ rfl hS.size (hS.alloc _))
  simp [execOp, Instr.buildSlice, run_underlying hu, sizeOf, typeInfo, hi, zeroValue, hz, Instr.fill, newRow]
  congr 2
  apply Array.eq_empty_of_size_eq_zero
  simp

theorem WL.buildS0 (hS : St w0 S w H) {T el : TypeId} {sz bytes : Nat} (hT : AppT P T el sz bytes) (hdn : Nat.blt d n = true)
    (h : ∀ g w', w.heap.size = g → w0.heap.size ≤ g → St w0 S w' ((g, .cells #[] el) :: H) → WL P ops Q n ds rest ((d, .slice (some ⟨g, 0, none⟩) 0 0) :: e) w') : WL P ops Q n ds ({ dst := some d, op := .buildSlice T 0 #[], type := ty, pos, after := af, guard := none } :: rest) e w := by
  obtain ⟨i, z, t1, t2, t3, t4, t5, t6, t7⟩ := hT
  exact WL.buildSlice0 hS (sz := sz) t1 t2 t3 hdn h
theorem WL.makeS (hS : St w0 S w H) {T el : TypeId} {sz bytes k : Nat} {x y : Operand} {kl kc : IntKind} {a b : Int} {zc : Array Value} (hT : AppT P T el sz bytes) (hz : ZeroIs P el zc)
    (hx : ev e x = some (.int kl a)) (hy : ev e y = some (.int kc b)) (ha : a = (k : Int)) (hb : b = (k : Int)) (h16 : k * sz ≤ 16777216) (hbytes : bytes * k ≤ 281474976710656) (hdn : Nat.blt d n = true)
    (h : ∀ g w', w.heap.size = g → w0.heap.size ≤ g → St w0 S w' ((g, .cells (madeCells zc (k * sz)) el) :: H) → WL P ops Q n ds rest ((d, .slice (some ⟨g, 0, none⟩) k k) :: e) w') : WL P ops Q n ds ({ dst := some d, op := .makeSlice T x y, type := ty, pos, after := af, guard := none } :: rest) e w := by
  obtain ⟨i, z, t1, t2, t3, t4, t5, t6, t7⟩ := hT
  obtain ⟨u, hu, hrun⟩ := hz
  have hzu : z = u := by
    have h1 := hrun w
    simp [zeroValue, typeInfo, t2, t3] at h1
    exact h1
  subst hzu
  subst hu
  exact WL.makeSlice hS t1 t2 t3 t4 t7 t5 hx hy ha hb h16 hbytes hdn h

/-! ### Maps from int to bool that hold 'true' -/
def mE (l : List (Int × Nat)) : Array MapEntry := (l.map fun x => { key := .int .i64 x.1, val := .bool true, born := x.2 }).toArray
def mO (l : List (Int × Nat)) (c : Nat) : Obj := .map (mE l) c
theorem findNow_int {T : IntKind} : ∀ (l : List (Int × Nat)) (k : Int) (i : Nat), Instr.findNow (.int T) (.int .i64 k) (l.map fun x => ({ key := .int .i64 x.1, val := .bool true, born := x.2 } : MapEntry)) i = some ((l.findIdx? fun x => k == x.1).map fun j => (i + j, .bool true))
  | [], k, i => rfl
  | x :: l, k, i => by
    simp only [List.map_cons, Instr.findNow, Instr.sameNow, if_true]
    by_cases h : k = x.1
    · simp [h, List.findIdx?_cons]
    · have : (k == x.1) = false := by simpa using h
      rw [this]
      simp only []
      rw [findNow_int l k (i + 1), List.findIdx?_cons, this]
      simp only [Bool.false_eq_true, if_false, Option.map_map]
      congr 1
      cases List.findIdx? (fun x => k == x.1) l <;> simp; omega
/-- What a map's type is, where its keys are ints. -/
def mapB (P : Program) (t : TypeId) : Bool := match P.underlying t with | some (.map k _) => (match P.underlying k with | some (.int .i64) => true | _ => false) | _ => false
theorem mapB_out {t : TypeId} (h : mapB P t = true) : ∃ k el, P.underlying t = some (.map k el) ∧ P.underlying k = some (.int .i64) := by
  unfold mapB at h
  cases hu : P.underlying t with
  | none => simp [hu] at h
  | some dsc =>
    rw [hu] at h
    cases dsc with
    | map k el =>
      refine ⟨k, el, rfl, ?_⟩
      cases hk : P.underlying k with
      | none => simp [hk] at h
      | some dk =>
        simp only [hk] at h
        cases dk with
        | int t => cases t <;> simp at h ⊢
        | _ => simp at h
    | _ => simp at h
theorem run_checkKey_int {k : TypeId} (hk : P.underlying k = some (.int .i64)) (b : Bool) (z : Int) : (Instr.checkKey b 10000 k (.int .i64 z)).run P w = .ok () w := by
  have key : ∀ m : Nat, (Instr.checkKey b (m + 1) k (.int .i64 z)).run P w = .ok () w := by
    intro m
    unfold Instr.checkKey
    simp only [Sem.run_bind, run_underlying hk, Result.andThen_ok, Sem.run_pure]
  exact key 9999
def mIns (l : List (Int × Nat)) (c : Nat) (k : Int) : List (Int × Nat) := if l.any (fun x => k == x.1) then l else l ++ [(k, c)]
def mClk (l : List (Int × Nat)) (c : Nat) (k : Int) : Nat := if l.any (fun x => k == x.1) then c else c + 1
def mDel (l : List (Int × Nat)) (k : Int) : List (Int × Nat) := match l.findIdx? fun x => k == x.1 with | some i => l.eraseIdx i | none => l
theorem updObj {w : World} {b : Nat} {o o' : Obj} (hb : w.heap[b]? = some o) : Upd w (setBlock w b o') b o' :=
  ⟨rfl, rfl, rfl, by simp [setBlock], by simp [setBlock, lt_of_some hb], fun j hj => by simp [setBlock, Array.getElem?_setIfInBounds, Ne.symm hj]⟩
theorem run_setObj {w : World} {b : Nat} {es : Array MapEntry} {c : Nat} {o' : Obj} (hb : w.heap[b]? = some (.map es c)) : (setObj b o').run P w = .ok () (setBlock w b o') := by
  simp [setObj, Sem.run, hb, setBlock]
theorem run_getObj_at {w : World} {b : Nat} {es : Array MapEntry} {c : Nat} (hb : w.heap[b]? = some (.map es c)) : (getObj b).run P w = .ok (.map es c) w := by
  simp [getObj, Sem.run, hb]
theorem run_getObj_it {w : World} {b : Nat} {m : Option Nat} {s c : Nat} {seen : Array Nat} (hb : w.heap[b]? = some (.mapIter m s seen c)) : (getObj b).run P w = .ok (.mapIter m s seen c) w := by
  simp [getObj, Sem.run, hb]

theorem WL.makeMap (hS : St w0 S w H) {T : TypeId} (hdn : Nat.blt d n = true)
    (h : ∀ g w', w.heap.size = g → w0.heap.size ≤ g → St w0 S w' ((g, mO [] 0) :: H) → WL P ops Q n ds rest ((d, .map (some g)) :: e) w') : WL P ops Q n ds ({ dst := some d, op := .makeMap T none, type := ty, pos, after := af, guard := none } :: rest) e w := by
  refine WL.op (w' := w.alloc (mO [] 0)) (v := .map (some w.heap.size)) rfl rfl hdn (fun act hact => ?_) (h _ _ rfl hS.size (hS.alloc _))
  simp [execOp, Instr.makeMap, mO, mE]
theorem run_mapUpdate_int {t : TypeId} {b c : Nat} {k : Int} {l : List (Int × Nat)} (hT : mapB P t = true) (hb : w.heap[b]? = some (mO l c)) :
    ∃ w', (Instr.mapUpdate t (.map (some b)) (.int .i64 k) (.bool true)).run P w = .ok () w' ∧ Upd w w' b (mO (mIns l c k) (mClk l c k)) := by
  obtain ⟨kt, el, hu, hk⟩ := mapB_out hT
  have hfind : (Instr.findKey kt (.int .i64 k) (mE l).toList).run P w = .ok ((l.findIdx? fun x => k == x.1).map fun j => (0 + j, .bool true)) w := run_findKey hk (findNow_int l k 0)
  have hb' : w.heap[b]? = some (.map (mE l) c) := hb
  simp only [Instr.mapUpdate, Sem.run_bind, run_underlying hu, Result.andThen_ok, run_getObj_at hb', mO, run_checkKey_int hk, hfind]
  cases hf : l.findIdx? fun x => k == x.1 with
  | none =>
    have ha : l.any (fun x => k == x.1) = false := by
      rw [List.any_eq_false]; intro x hx; exact by simpa using List.findIdx?_eq_none_iff.1 hf x hx
    refine ⟨_, by simp only [Option.map_none]; exact run_setObj hb, ?_⟩
    simp only [mIns, mClk, ha, Bool.false_eq_true, if_false]
    have : (mE l).push { key := .int .i64 k, val := .bool true, born := c } = mE (l ++ [(k, c)]) := by simp [mE]
    rw [this]
    exact updObj hb
  | some i =>
    obtain ⟨hi, hki, _⟩ := List.findIdx?_eq_some_iff_getElem.1 hf
    have hke : k = (l[i]).1 := by simpa using hki
    have ha : l.any (fun x => k == x.1) = true := List.any_eq_true.2 ⟨_, List.getElem_mem hi, hki⟩
    have hg : (mE l)[0 + i]? = some { key := .int .i64 k, val := .bool true, born := (l[i]).2 } := by simp [mE, List.getElem?_eq_getElem hi, hke]
    have hmod : (mE l).modify (0 + i) (fun e => { e with key := .int .i64 k, val := .bool true }) = mE l := by
      apply Array.ext_getElem?
      intro j
      rw [Array.getElem?_modify]
      split
      · rename_i hj; subst hj; rw [hg]; rfl
      · rfl
    have hstay : (Instr.keyThatStays (.int .i64 k) (.int .i64 k)).run P w = .ok (.int .i64 k) w := by
      simp [Instr.keyThatStays, Instr.sameBits]
    refine ⟨_, by
      simp only [Option.map_some, Sem.run_bind, hg, Option.map_some, Option.getD_some, hstay, Result.andThen_ok]
      exact run_setObj hb, ?_⟩
    simp only [mIns, mClk, ha, if_true, hmod]
    exact updObj hb
theorem WL.mapUpdate (hS : St w0 S w H) {t : TypeId} {b c : Nat} {k : Int} {l : List (Int × Nat)} {x y z : Operand} (hT : mapB P t = true) (i : Nat) (hx : ev e x = some (.map (some b))) (hy : ev e y = some (.int .i64 k)) (hz : ev e z = some (.bool true))
    (hi : H[i]? = some (b, mO l c)) (h : ∀ w', St w0 S w' (H.set i (b, mO (mIns l c k) (mClk l c k))) → WL P ops Q n ds rest e w') : WL P ops Q n ds ({ dst := none, op := .mapUpdate t x y z, type := ty, pos, after := af, guard := none } :: rest) e w := by
  obtain ⟨w', hrun, hU⟩ := run_mapUpdate_int (P := P) (k := k) hT (hS.sat _ (List.mem_of_getElem? hi))
  refine WL.opSkip rfl rfl (fun act hact => ?_) (h w' (hS.upd hi hU))
  simp [execOp, hact.ev hx, hact.ev hy, hact.ev hz, Sem.run_bind, hrun]
theorem WL.delete (hS : St w0 S w H) {t kt : TypeId} {b c : Nat} {k : Int} {l : List (Int × Nat)} {x y : Operand} (hT : mapB P t = true) (i : Nat) (hx : ev e x = some (.map (some b))) (hy : ev e y = some (.int .i64 k))
    (hi : H[i]? = some (b, mO l c)) (h : ∀ w', St w0 S w' (H.set i (b, mO (mDel l k) c)) → WL P ops Q n ds rest e w') : WL P ops Q n ds ({ dst := none, op := .call { callee := .builtin .delete, args := #[x, y], argTypes := #[t, kt] }, type := ty, pos, after := af, guard := none } :: rest) e w := by
  obtain ⟨kt', el, hu, hk⟩ := mapB_out hT
  have hb := hS.sat _ (List.mem_of_getElem? hi)
  have hfind : (Instr.findKey kt' (.int .i64 k) (mE l).toList).run P w = .ok ((l.findIdx? fun x => k == x.1).map fun j => (0 + j, .bool true)) w := run_findKey hk (findNow_int l k 0)
  have hrun : (Builtin.delete_ #[t, kt] ty #[.map (some b), .int .i64 k]).run P w = .ok (.tuple #[]) (setBlock w b (mO (mDel l k) c)) := by
    have hb' : w.heap[b]? = some (.map (mE l) c) := hb
    simp only [Builtin.delete_, Sem.run_bind, List.getElem?_toArray, List.getElem?_cons_zero, List.getElem?_cons_succ, run_underlying hu, Result.andThen_ok, run_getObj_at hb', run_checkKey_int hk, hfind]
    cases hf : l.findIdx? fun x => k == x.1 with
    | none => simp [run_setObj hb', mDel, hf, mO]
    | some j =>
      have : (mE l).eraseIdxIfInBounds j = mE (l.eraseIdx j) := by
        obtain ⟨hj, _⟩ := List.findIdx?_eq_some_iff_getElem.1 hf
        simp [mE, Array.eraseIdxIfInBounds, hj, List.eraseIdx_toArray, ChangeMaps.map_eraseIdx]
      simp [run_setObj hb', mDel, hf, mO, this]
  refine WL.opNone (v := .tuple #[]) (w' := _) rfl rfl (fun act hact => ?_) (h _ (hS.upd hi (updObj hb)))
  rw [BigFrame.execOp_builtin]
  simp only [List.map_toArray, List.map_cons, List.map_nil, hact.ev hx, hact.ev hy]
  unfold Go.builtin
  rw [Sem.run_bind, hrun]; rfl
theorem WL.clearMap (hS : St w0 S w H) {t : TypeId} {b c : Nat} {l : List (Int × Nat)} {x : Operand} (hT : mapB P t = true) (i : Nat) (hx : ev e x = some (.map (some b)))
    (hi : H[i]? = some (b, mO l c)) (h : ∀ w', St w0 S w' (H.set i (b, mO [] c)) → WL P ops Q n ds rest e w') : WL P ops Q n ds ({ dst := none, op := .call { callee := .builtin .clear, args := #[x], argTypes := #[t] }, type := ty, pos, after := af, guard := none } :: rest) e w := by
  obtain ⟨kt', el, hu, hk⟩ := mapB_out hT
  have hb := hS.sat _ (List.mem_of_getElem? hi)
  have hrun : (Builtin.clear_ #[t] ty #[.map (some b)]).run P w = .ok (.tuple #[]) (setBlock w b (mO [] c)) := by
    have hb' : w.heap[b]? = some (.map (mE l) c) := hb
    simp [Builtin.clear_, Sem.run_bind, run_underlying hu, run_getObj_at hb', run_setObj hb', mO, mE]
  refine WL.opNone (v := .tuple #[]) (w' := _) rfl rfl (fun act hact => ?_) (h _ (hS.upd hi (updObj hb)))
  rw [BigFrame.execOp_builtin]
  simp only [List.map_toArray, List.map_cons, List.map_nil, hact.ev hx]
  unfold Go.builtin
  rw [Sem.run_bind, hrun]; rfl
theorem WL.rangeMap (hS : St w0 S w H) {t : TypeId} {b c : Nat} {l : List (Int × Nat)} {x : Operand} (hT : mapB P t = true) (hx : ev e x = some (.map (some b))) (hb : w.heap[b]? = some (mO l c)) (hdn : Nat.blt d n = true)
    (h : ∀ g w', w.heap.size = g → w0.heap.size ≤ g → St w0 S w' ((g, .mapIter (some b) c #[] c) :: H) → WL P ops Q n ds rest ((d, .pointer (some ⟨g, 0, none⟩)) :: e) w') : WL P ops Q n ds ({ dst := some d, op := .range t x, type := ty, pos, after := af, guard := none } :: rest) e w := by
  obtain ⟨kt', el, hu, hk⟩ := mapB_out hT
  refine WL.op (w' := w.alloc (.mapIter (some b) c #[] c)) (v := .pointer (some ⟨w.heap.size, 0, none⟩)) rfl rfl hdn (fun act hact => ?_) (h _ _ rfl hS.size (hS.alloc _))
  have hb' : w.heap[b]? = some (.map (mE l) c) := hb
  simp [execOp, hact.ev hx, Instr.range, run_underlying hu, run_getObj_at hb']
theorem WL.next (hS : St w0 S w H) {bm since c0 clock g : Nat} {seen : Array Nat} {l : List (Int × Nat)} {x : Operand} {et : TypeId} (i : Nat) (hx : ev e x = some (.pointer (some ⟨g, 0, none⟩)))
    (hi : H[i]? = some (g, .mapIter (some bm) since seen c0)) (hb : w.heap[bm]? = some (mO l clock)) (hold : ∀ x ∈ l, x.2 < since) (hsc : since ≤ c0) (hdn : Nat.blt d n = true)
    (h0 : (∀ x ∈ l, x.2 ∈ seen) → WL P ops Q n ds rest ((d, .tuple #[.bool false]) :: e) w)
    (h1 : ∀ k bn w', (k, bn) ∈ l → bn ∉ seen → St w0 S w' (H.set i (g, .mapIter (some bm) since (seen.push bn) clock)) → WL P ops Q n ds rest ((d, .tuple #[.bool true, .int .i64 k, .bool true]) :: e) w') :
    WL P ops Q n ds ({ dst := some d, op := .next x false, type := ty, pos, after := af, guard := none } :: rest) e w := by
  have hr := hS.sat _ (List.mem_of_getElem? hi)
  rcases run_next_at (P := P) w ty g bm since c0 seen (mE l) clock hr hb (fun y hy => by
    simp only [mE, List.mem_map] at hy; obtain ⟨x, hx, rfl⟩ := hy; exact hold x hx) hsc with ⟨hl, hrun⟩ | ⟨en, hen, w1, hw1, hrun⟩
  · refine WL.op (w' := w) (v := .tuple #[.bool false]) rfl rfl hdn (fun act hact => ?_) (h0 fun y hy => ?_)
    · simp only [execOp, hact.ev hx, Sem.run_bind, hrun, Result.andThen_ok, Sem.run_pure]
    · by_cases hc : y.2 ∈ seen
      · exact hc
      · exfalso
        have : ({ key := .int .i64 y.1, val := .bool true, born := y.2 } : MapEntry) ∈ leftOf (mE l) seen := by
          unfold leftOf
          rw [Array.mem_filter]
          exact ⟨by simp only [mE, List.mem_toArray, List.mem_map]; exact ⟨y, hy, rfl⟩, by simpa using hc⟩
        rw [Array.eq_empty_of_size_eq_zero hl] at this
        simp at this
  · have hen' : en ∈ leftOf (mE l) seen := by simpa using hen
    unfold leftOf at hen'
    rw [Array.mem_filter] at hen'
    obtain ⟨hm, hns⟩ := hen'
    simp only [mE, List.mem_toArray, List.mem_map] at hm
    obtain ⟨y, hy, rfl⟩ := hm
    have hS1 : St w0 S w1 H := hw1.elim (fun h => h ▸ hS) (fun h => h ▸ hS.drew)
    refine WL.op (w' := setBlock w1 g (.mapIter (some bm) since (seen.push y.2) clock)) (v := .tuple #[.bool true, .int .i64 y.1, .bool true]) rfl rfl hdn (fun act hact => ?_) (h1 y.1 y.2 _ hy (by simpa using hns) (hS1.upd hi (updObj (hS1.sat _ (List.mem_of_getElem? hi)))))
    simp only [execOp, hact.ev hx, Sem.run_bind, hrun, Result.andThen_ok, Sem.run_pure]
theorem WL.entry {bm since clock g bn : Nat} {k : Int} {seen : Array Nat} {l : List (Int × Nat)} {x : Operand} (hx : ev e x = some (.pointer (some ⟨g, 0, none⟩)))
    (hi : w.heap[g]? = some (.mapIter (some bm) since (seen.push bn) clock)) (hb : w.heap[bm]? = some (mO l clock)) (hf : l.find? (fun x => x.2 == bn) = some (k, bn)) (hdn : Nat.blt d n = true)
    (h : WL P ops Q n ds rest ((d, .tuple #[.int .i64 k, .bool true]) :: e) w) :
    WL P ops Q n ds ({ dst := some d, op := .entry x, type := ty, pos, after := af, guard := none } :: rest) e w := by
  refine WL.op (w' := w) (v := .tuple #[.int .i64 k, .bool true]) rfl rfl hdn (fun act hact => ?_) h
  have hb' : w.heap[bm]? = some (.map (mE l) clock) := hb
  have hfind : (mE l).find? (fun x => x.born == bn) = some { key := .int .i64 k, val := .bool true, born := bn } := by
    simp only [mE, List.find?_toArray, List.find?_map]
    have : ((fun x : MapEntry => x.born == bn) ∘ fun x : Int × Nat => ({ key := .int .i64 x.1, val := .bool true, born := x.2 } : MapEntry)) = fun x : Int × Nat => x.2 == bn := rfl
    rw [this, hf]; rfl
  simp [execOp, hact.ev hx, Instr.entry, run_getObj_it hi, run_getObj_at hb', hfind]
end
end Go.Proofs.YtkncbggnaobgeaaDoor
