/- The engine, sixth part: ranges over functions. -/
import Derived.Test.YtkncbggnaobgeaaDoorEngI
namespace Go.Proofs.YtkncbggnaobgeaaDoor
open Go.RowKit
set_option linter.unusedVariables false
set_option linter.unusedSimpArgs false
set_option linter.unusedSectionVars false
set_option maxRecDepth 100000

/-! ### A region that draws its order, inside a fence -/
section
variable {F : Fence} {m : Nat} [AnyF F] {P : Program} {ops : Array Oper} {Q : Exit → Act → World → Prop}
/-- The operation hands nothing to a row of the machine's own. -/
def NoRow (P : Program) (o : Oper) : Prop := ∀ ρ w row args w', (execOp ρ o).run P w ≠ .ok (.row row args) w'
theorem upon_in {o : Oper} {a : Act} {K K' : Act → World → Prop} {r : Result Next} (hn : ∀ row args w', r ≠ .ok (.row row args) w') (hK : ∀ a w, K a w → K' a w) (h : o.upon P a K Q r) : o.uponIn F m P a K' Q r := by
  cases r with
  | ok x w' =>
    cases x with
    | value v => exact hK _ _ h
    | skip => exact hK _ _ h
    | defer d => exact hK _ _ h
    | enter f args =>
      refine ⟨fun hd => (by rw [AnyF.depth] at hd; cases hd), AnyF.call (Calls.mono h ?_)⟩
      intro e w'' he
      cases e <;> first | exact hK _ _ he | exact he
    | row row args => exact absurd rfl (hn row args w')
    | _ => exact h.elim
  | halt x w' =>
    cases x <;> first | exact h | exact h.elim
theorem wpAny_in (hL : ¬ LetsOut Q) (hn : ∀ (i : Nat) o, ops[i]? = some o → NoRow P o) (hd : ∀ (i : Nat) o, ops[i]? = some o → ∀ c, o.op ≠ .defer c) {md : Region.Mode} : ∀ (fuel : Nat) (listed : Array Bool) (a : Act) (w : World), wpAny P md ops Q fuel listed a w → wpAnyIn F m P md ops Q fuel listed a w
  | 0, _, _, _, h => h
  | fuel + 1, listed, a, w, h => by
    refine ⟨h.1, fun i hi => ?_⟩
    have h2 := h.2 i hi
    unfold wpOp at h2
    unfold wpOpIn
    split
    · rename_i ho
      simp only [ho] at h2
      exact wpAny_in hL hn hd fuel _ _ _ h2
    · rename_i o ho
      simp only [ho] at h2
      by_cases hw : Region.wanted o (yielded ops a.tmps) = true
      · rw [if_pos hw] at h2 ⊢
        rcases h2 with h2 | h2
        · refine ⟨fun f _ => AnyF.fn f, ?_⟩
          rw [Oper.semAt_plain F _ _ (hd i o ho)]
          exact upon_in (fun row args w' => hn i o ho _ _ _ _ _) (fun a w hk => wpAny_in hL hn hd fuel _ _ _ hk) h2
        · exact absurd h2.2 hL
      · rw [if_neg hw] at h2 ⊢
        exact ⟨fun f _ => AnyF.fn f, wpAny_in hL hn hd fuel _ _ _ h2⟩
end

/-- Operations that hand nothing to a row, and put nothing off. -/
def plainOp : Op → Bool
  | .move _ | .assign _ | .load _ _ | .store _ _ _ | .fieldAddr _ _ _ | .indexAddr _ _ _ | .binOp _ _ _ _ _ | .unOp _ _ _ | .convert _ _ _ => true
  | _ => false
theorem run_v {P : Program} {s : Sem Value} {w w' : World} {row : String} {args : Array Value} : ((do pure (Next.value (← s))) : Sem Next).run P w ≠ .ok (.row row args) w' := by
  rw [Sem.run_bind]
  cases s.run P w <;> simp [Result.andThen]
theorem run_u {P : Program} {s : Sem Unit} {w w' : World} {row : String} {args : Array Value} : ((do s; pure .skip) : Sem Next).run P w ≠ .ok (.row row args) w' := by
  rw [Sem.run_bind]
  cases s.run P w <;> simp [Result.andThen]
theorem plain_ok {P : Program} {l : List Oper} (h : l.all (fun o => plainOp o.op) = true) : (∀ o ∈ l, NoRow P o) ∧ (∀ o ∈ l, ∀ c, o.op ≠ .defer c) := by
  rw [List.all_eq_true] at h
  refine ⟨fun o ho ρ w row args w' he => ?_, fun o ho c he => ?_⟩
  · have := h o ho
    unfold execOp at he
    cases hop : o.op <;> rw [hop] at this he <;> first | (cases this; done) | exact absurd he run_v | exact absurd he run_u | (simp at he; done)
  · have := h o ho
    rw [he] at this
    cases this

section
variable {F : Fence} {m : Nat} [AnyF F] {P : Program} {ops : Array Oper} {Q : Exit → Act → World → Prop}
theorem I.WC.held {n : Nat} {ds : List Deferred} {e : Env} {w : World} {id : Nat} {l : List Oper} (S : World → Prop) (hm : P.follows .mixedOrders = true) (hL : ¬ LetsOut Q) (hp : l.all (fun o => plainOp o.op) = true)
    (h : WH P l.toArray Q n ds S l.length (Array.replicate l.length false) e w.drew) : I.WC F m P (.region id l.toArray true) Q n ds e w := fun a ha =>
  wpIn_region_any hm (wpAny_in hL (fun i o hi => (plain_ok (P := P) hp).1 o (List.mem_of_getElem? (by simpa using hi))) (fun i o hi => (plain_ok (P := P) hp).2 o (List.mem_of_getElem? (by simpa using hi))) _ _ _ _ (wpAny_of_held _ _ _ _ (by simpa using h a ha)))
end

/-! ### Ways in and out -/
section
variable {P : Program} {f : FuncId} {fn : Func} {c : Code} {args : List Value} {R : Ending → World → Prop} {k n : Nat} {w w0 : World} {S : List Nat} {H : Hp} {e : Env}
theorem calls_walk_marks (hf : P.funcs[f]? = some fn) (hn : fn.ntmps = k) (hb : fn.body = some c) (hk : Nat.ble args.length k = true)
    (h : WC P c (bodyPostM Fence.wide 9 P fn R) k [] (envFrom 0 args) w) : Calls P f args.toArray w R := by
  subst hn
  exact (callsIn_wide (n := 9)).1 (callsIn_of_wp_marks hf hb trivial (wpIn_wide.2 (h _ (holds_enter args _ (Nat.le_of_ble_eq_true hk)))))
theorem I.callsIn_walk_n {F : Fence} {m : Nat} (hf : P.funcs[f]? = some fn) (hn : fn.ntmps = k) (hb : fn.body = some c) (hk : Nat.ble args.length k = true) (hF : F.fn f) (hro : F.round = none)
    (h : I.WC F m P c (bodyPost P fn R) k [] (envFrom 0 args) w) : CallsIn F m P f args.toArray w R := by
  subst hn
  exact callsIn_of_wp hf hb hF (h _ (holds_enter args _ (Nat.le_of_ble_eq_true hk))) hro
theorem WX.retM (h : WX (bodyPost P fn R) .ret n [] e w) : WX (bodyPostM Fence.wide 9 P fn R) .ret n [] e w := fun a ha => by
  obtain ⟨_, v, hv, hR⟩ := h a ha
  show LeavesInM Fence.wide 9 P fn a.tmps R a.defers .returning w
  rw [ha.defers]
  exact ⟨v, hv, hR⟩
theorem WX.retD {D : Nat} (hS : St w0 S w ((D, .deferred (some [])) :: H)) (h : ∀ w', St w0 S w' H → WX (bodyPost P fn R) .ret n [] e w') : WX (bodyPostM Fence.wide 9 P fn R) .ret n [{ target := .collected D, args := #[] }] e w := fun a ha => by
  show LeavesInM Fence.wide 9 P fn a.tmps R a.defers .returning w
  rw [ha.defers]
  have hD : w.heap[D]? = some (.deferred (some [])) := hS.sat _ List.mem_cons_self
  refine ⟨by simp, .inl ⟨D, _, rfl, run_takeDeferred hD, ?_⟩⟩
  have hS' : St w0 S (w.putObj D (.deferred none)) H := (hS.upd (w' := w.putObj D (.deferred none)) (i := 0) (b := D) (o := .deferred (some [])) (o' := .deferred none) rfl
    ⟨rfl, rfl, rfl, by simp [World.putObj], by simp [World.putObj, lt_of_some hD], fun j hj => by simp [World.putObj, Array.getElem?_setIfInBounds, Ne.symm hj]⟩).tail
  obtain ⟨_, v, hv, hR⟩ := h _ hS' { a with defers := [] } ⟨ha.size, rfl, ha.get⟩
  exact ⟨v, hv, hR⟩
end

/-! ### The range itself -/
/-- Every known block holds cells, or lay ahead of B. -/
def CellsH (B : Nat) (H : Hp) : Prop := ∀ p ∈ H, p.2.isCells = true ∨ p.1 < B
theorem cellsH_nil {B : Nat} : CellsH B [] := fun _ h => by cases h
theorem cellsH_cons {B b : Nat} {cs : Array Value} {t : TypeId} {H : Hp} (h : CellsH B H) : CellsH B ((b, .cells cs t) :: H) := fun p hp => by
  rcases List.mem_cons.1 hp with rfl | hp
  · exact .inl rfl
  · exact h p hp
theorem cellsH_old {B b : Nat} {o : Obj} {H : Hp} (hb : b < B) (h : CellsH B H) : CellsH B ((b, o) :: H) := fun p hp => by
  rcases List.mem_cons.1 hp with rfl | hp
  · exact .inr hb
  · exact h p hp
theorem cellsH_append {B : Nat} {H H' : Hp} (h : CellsH B H) (h' : CellsH B H') : CellsH B (H ++ H') := fun p hp => (List.mem_append.1 hp).elim (h p) (h' p)

theorem St.rebase {w0 w w' : World} {S : List Nat} {H H' : Hp} (h : St w0 S w H) (h' : St w (H.map Prod.fst) w' H') : St w0 S w' H' := by
  have := St.callM (L := []) h h'
  simpa using this
theorem St.grown {w0 w w' : World} {S : List Nat} {H : Hp} {row : Option Nat} {B : Nat} (h : St w0 S w H) (hB : w0.heap.size ≤ B) (hC : CellsH B H) (hg : w.grownBy w' row) (hr : ∀ r, row = some r → B ≤ r ∧ ∃ o : Obj, w.heap[r]? = some o ∧ o.isCells = false) : St w0 S w' H := by
  have key : ∀ k, k < w.heap.size → (k < B ∨ ∃ o : Obj, w.heap[k]? = some o ∧ o.isCells = true) → w'.heap[k]? = w.heap[k]? := fun k hk hh => hg.block k hk (fun e => by
    obtain ⟨hB', o, ho, hc⟩ := hr k e.symm
    rcases hh with hh | ⟨o', ho', hc'⟩
    · omega
    · rw [ho] at ho'; cases ho'; rw [hc] at hc'; cases hc')
  refine ⟨hg.os.trans h.os, hg.tape.trans h.tape, hg.output.trans h.output, Nat.le_trans h.size hg.size, fun k hk hS => ?_, h.nd, fun p hp => ?_, h.own⟩
  · rw [key k (Nat.lt_of_lt_of_le hk h.size) (.inl (by omega))]; exact h.old k hk hS
  · have hs := h.sat p hp
    rw [key p.1 (lt_of_some hs) ((hC p hp).elim (fun hc => .inr ⟨_, hs, hc⟩) .inl)]; exact hs
theorem St.withNew {w0 w : World} {S : List Nat} {H : Hp} {D : Nat} {o : Obj} (h : St w0 S w H) (hD : w0.heap.size ≤ D) (ho : w.heap[D]? = some o) (hne : ∀ p ∈ H, p.1 ≠ D) : St w0 S w ((D, o) :: H) :=
  ⟨h.os, h.tape, h.output, h.size, h.old, by
    simp only [List.map_cons, List.nodup_cons]
    exact ⟨fun hm => by obtain ⟨p, hp, he⟩ := List.mem_map.1 hm; exact hne p hp he, h.nd⟩,
   fun p hp => by
    rcases List.mem_cons.1 hp with rfl | hp
    · exact ho
    · exact h.sat p hp,
   fun p hp => by
    rcases List.mem_cons.1 hp with rfl | hp
    · exact .inr hD
    · exact h.own p hp⟩
theorem St.join {w0 w : World} {S : List Nat} {H L : Hp} (h : St w0 S w L) (h' : St w0 S w H) (hd : ∀ p ∈ L, ∀ q ∈ H, p.2 ≠ q.2) : St w0 S w (L ++ H) :=
  ⟨h.os, h.tape, h.output, h.size, h.old, by
    rw [List.map_append, List.nodup_append]
    refine ⟨h.nd, h'.nd, ?_⟩
    intro a ha b hb hab
    obtain ⟨p, hp, rfl⟩ := List.mem_map.1 ha
    obtain ⟨q, hq, hqe⟩ := List.mem_map.1 hb
    have e1 := h.sat p hp
    have e2 := h'.sat q hq
    rw [hqe, ← hab, e1] at e2
    exact hd p hp q hq (Option.some.inj e2),
   fun p hp => (List.mem_append.1 hp).elim (h.sat p) (h'.sat p), fun p hp => (List.mem_append.1 hp).elim (h.own p) (h'.own p)⟩
theorem St.keepsFrom {w w' : World} {H H' : Hp} {B : Nat} (hC : CellsH B H) (hs : ∀ p ∈ H, w.heap[p.1]? = some p.2) (h : St w (H.map Prod.fst) w' H') : KeepsFrom B w w' :=
  ⟨h.size, fun k o hB ho hc => (h.old k (lt_of_some ho) (fun hm => by
    obtain ⟨p, hp, rfl⟩ := List.mem_map.1 hm
    have := hs p hp
    rw [ho] at this; cases this
    rcases hC p hp with hcc | hlt
    · rw [hc] at hcc; cases hcc
    · omega)).trans ho⟩

section
variable {P : Program}
/-- How a round of the body ends: at a world that the invariant holds of. -/
def roundPost {α : Type} (B : Nat) (Il : List α → Hp → Prop) (Ixl : Code → List α → Hp → Prop) (W : World) (HA : Hp) (pre : List α) : Exit → Act → World → Prop
  | .normal, _, W' => ∃ H', Il pre H' ∧ CellsH B H' ∧ St W (HA.map Prod.fst) W' H'
  | .ret, _, W' => ∃ H', Ixl .ret pre H' ∧ CellsH B H' ∧ St W (HA.map Prod.fst) W' H'
  | .exit id, _, W' => ∃ H', Ixl (.exit id) pre H' ∧ CellsH B H' ∧ St W (HA.map Prod.fst) W' H'
  | _, _, _ => False
theorem roundPost_kept {α : Type} {B : Nat} {Il : List α → Hp → Prop} {Ixl : Code → List α → Hp → Prop} {W : World} {HA : Hp} {pre : List α} : ¬ LetsOut (roundPost B Il Ixl W HA pre) := fun ⟨_, _, h⟩ => h

/-- The parameters' temporaries, set. -/
def envPs : List Nat → List Value → Env → Env
  | p :: ps, v :: vs, e => envPs ps vs ((p, v) :: e)
  | _, _, e => e
theorem holds_params {n : Nat} : ∀ (ps : List Nat) (vs : List Value) (a : Act) (e : Env), Holds a n [] e → (∀ p ∈ ps, p < n) → Holds { tmps := (ps.zip vs).foldl (fun t (p, v) => t.setIfInBounds p v) a.tmps, defers := [] } n [] (envPs ps vs e)
  | [], vs, a, e, h, _ => ⟨h.size, rfl, h.get⟩
  | p :: ps, [], a, e, h, _ => ⟨h.size, rfl, h.get⟩
  | p :: ps, v :: vs, a, e, h, hp => by
    have h1 := h.put (d := p) (v := v) (hp p List.mem_cons_self)
    exact holds_params ps vs (a.put (some p) v) ((p, v) :: e) h1 (fun q hq => hp q (List.mem_cons_of_mem _ hq))

theorem WC.rangeFunc {α G : Type} {g : Operand} {ps : List Tmp} {assign body : Code} {Q : Exit → Act → World → Prop} {n : Nat} {ds : List Deferred} {e : Env} {w w0 : World} {S : List Nat} {H : Hp}
    {gf : Nat} {lb : Array Value} {fg : Func} {encs : α → List Value} {Ss Sp : List α → Prop} {N : Nat}
    (hS : St w0 S w H) (hC : CellsH w.heap.size H) (hg : ev e g = some (.func (.func gf) #[] lb)) (hfg : P.funcs[gf]? = some fg) (hfn : (fg.name == "runtime.NumGoroutine") = false) {cg : Code} (hfb : fg.body = some cg)
    (hps : ∀ x, (encs x).length = ps.length) (hpn : ∀ p ∈ ps, p < n)
    (hseq : SeqStopsK Fence.wide 8 P gf lb (fun x => (encs x).toArray) (fun _ _ => True) Ss Sp N w)
    (Il : List α → Hp → Prop) (Ixl : Code → List α → Hp → Prop) (fA : α → G → Env) (LA : α → G → Hp) {e₀ : Env} (hs₀ : Sub e e₀) (hLA : ∀ x g B, CellsH B (LA x g)) (hdis : ∀ x g pre H, Il pre H → ∀ p ∈ LA x g, ∀ q ∈ H, p.2 ≠ q.2)
    (h0 : Il [] H)
    (hassign : ∀ (l : Nat) pre (x : α) W H, Il pre H → CellsH w.heap.size H → St W (H.map Prod.fst) W H →
      ∀ (N : Act → World → Prop), (∀ g W' e', St W (H.map Prod.fst) W' (LA x g ++ H) → Sub e' (fA x g) → Sub e' e₀ → WX (fun _ => N) .normal n [] e' W') → I.WC (Fence.wide.inRound l) 7 P assign (Exit.then N (fun _ _ _ => False)) n [] (envPs ps (encs x) e) W)
    (hbody : ∀ (l : Nat) pre (x : α) g W H, Il pre H → CellsH w.heap.size H → pre.length < N → St W ((LA x g ++ H).map Prod.fst) W (LA x g ++ H) →
      I.WC (Fence.wide.inRound l) 7 P body (roundPost w.heap.size Il Ixl W (LA x g ++ H) (pre ++ [x])) n [] (fA x g ++ e₀) W)
    (hdone : ∀ D xs W H, Ss xs → Il xs H → St w0 S W ((D, .deferred (some [])) :: H) → WX Q .normal n ({ target := .collected D, args := #[] } :: ds) e W)
    (hstop : ∀ D c pre W H, Sp pre → Ixl c pre H → St w0 S W ((D, .deferred (some [])) :: H) → WC P c Q n ({ target := .collected D, args := #[] } :: ds) e W) :
    WC P (.rangeFunc g ps.toArray assign body) Q n ds e w := by
  intro a ha
  refine (wpIn_wide (n := 9)).1 ?_
  have hgv : a.eval g = .func (.func gf) #[] lb := ha.ev hg
  have eg : ∀ args w, (callFunc gf args).run P w = .ok (.enter gf args) w := fun args w => by
    have h1 : fg.name ≠ "runtime.NumGoroutine" := by simpa using hfn
    simp [callFunc, hfg, h1, hfb, mark]
  refine wpIn_rangeFunc_ownH (F := Fence.wide) (n := 9) rfl (by omega) hgv trivial eg (encs := fun x => (encs x).toArray) (Kp := fun _ _ => True) hseq (fun _ _ => trivial) (fun _ _ _ _ _ _ _ _ => trivial)
    (Below.refl _ _) (fun x => by simp [hps x])
    (fun pre W => ∃ H, Il pre H ∧ CellsH w.heap.size H ∧ St w0 S W H) (fun c pre W => ∃ H, Ixl c pre H ∧ CellsH w.heap.size H ∧ St w0 S W H)
    ?hI ?hIx ⟨H, h0, hC, hS⟩ (fun x a' W => ∃ g, St w0 S W (LA x g) ∧ Holds a' n [] (fA x g ++ e₀)) ?hAx ?as ?bo ?dn ?st
  case hI => rintro pre W W' row ⟨H, h1, h2, h3⟩ hgr hr; exact ⟨H, h1, h2, h3.grown hS.size h2 hgr hr⟩
  case hIx => rintro c pre W W' row ⟨H, h1, h2, h3⟩ hgr hr; exact ⟨H, h1, h2, h3.grown hS.size h2 hgr hr⟩
  case hAx => rintro x a' _ W W' row ⟨g, h1, h4⟩ hgr hr; exact ⟨g, h1.grown hS.size (hLA x g _) hgr hr, h4⟩
  case as =>
    rintro l pre x W K ⟨H', h1, h2, h3⟩ hK
    have hst : St W (H'.map Prod.fst) W H' := St.start h3.nd h3.sat
    have hp := holds_params ps (encs x) { a with defers := [] } e ⟨ha.size, rfl, ha.get⟩ hpn
    have := hassign l pre x W H' h1 h2 hst K (fun g W' e' hw' hs1 hs2 a' ha' =>
      hK a' W' (St.keepsFrom h2 h3.sat hw') trivial ⟨H', h1, h2, (h3.rebase hw').weaken (List.sublist_append_right _ _)⟩ ⟨g, (h3.rebase hw').weaken (List.sublist_append_left _ _), ha'.sub (hs1.append hs2)⟩) _ hp
    simpa using this
  case bo =>
    rintro l pre x a' W hl hrec ⟨H', h1, h2, h3⟩ ⟨g, h4, h5⟩ hlt
    have h6 : St w0 S W (LA x g ++ H') := h4.join h3 (hdis x g pre H' h1)
    refine wpIn_mono (hbody l pre x g W H' h1 h2 hlt (St.start h6.nd h6.sat) a' h5) ?_
    intro ex a'' W' hq
    have hcc := cellsH_append (hLA x g w.heap.size) h2
    cases ex with
    | normal => obtain ⟨H2, q1, q2, q3⟩ := hq; exact ⟨St.keepsFrom hcc h6.sat q3, trivial, H2, q1, q2, h6.rebase q3⟩
    | ret => obtain ⟨H2, q1, q2, q3⟩ := hq; exact ⟨St.keepsFrom hcc h6.sat q3, H2, q1, q2, h6.rebase q3⟩
    | exit id => obtain ⟨H2, q1, q2, q3⟩ := hq; exact ⟨St.keepsFrom hcc h6.sat q3, H2, q1, q2, h6.rebase q3⟩
    | _ => exact hq.elim
  case dn =>
    rintro D xs W hD hxs ⟨H', h1, h2, h3⟩ hdef
    refine hdone D xs W H' hxs h1 (h3.withNew (Nat.le_trans hS.size hD) hdef (fun p hp hpe => ?_)) _ ⟨ha.size, by rw [ha.defers], ha.get⟩
    have hsat := h3.sat p hp
    rw [hpe, hdef] at hsat
    rcases h2 p hp with hc | hlt
    · rw [← Option.some.inj hsat] at hc; cases hc
    · omega
  case st =>
    rintro D c pre W hD hxs ⟨H', h1, h2, h3⟩ hdef
    refine wpIn_wide.2 (hstop D c pre W H' hxs h1 (h3.withNew (Nat.le_trans hS.size hD) hdef (fun p hp hpe => ?_)) _ ⟨ha.size, by rw [ha.defers], ha.get⟩)
    have hsat := h3.sat p hp
    rw [hpe, hdef] at hsat
    rcases h2 p hp with hc | hlt
    · rw [← Option.some.inj hsat] at hc; cases hc
    · omega
end
end Go.Proofs.YtkncbggnaobgeaaDoor
