/- Operations that leave the world as it is, as equations on the run; regions that draw their order. Printed by a program of this session (genex.py) out of the engine. -/
import Derived.Test.YtkncbggnaobgeaaDoorArr
namespace Go.Proofs.YtkncbggnaobgeaaDoor
open Go.RowKit
set_option linter.unusedVariables false
set_option linter.unusedSimpArgs false
set_option maxRecDepth 100000

section
variable {P : Program} {n : Nat} {ds : List Deferred} {e e' : Env} {w w0 : World} {S : List Nat} {H : Hp} {d : Nat} {v : Value} {ty : TypeId} {ws ws' : List Int}

/-- In every frame that holds e the operation yields v and leaves the world. -/
def EX (P : Program) (n : Nat) (ds : List Deferred) (e : Env) (op : Op) (ty : TypeId) (v : Value) (w : World) : Prop :=
  ∀ a, Holds a n ds e → ∀ {dst : Option Tmp} {pos : String} {af : Array Edge} {g : Option (Nat × Bool)}, (execOp a.eval { dst := dst, op := op, type := ty, pos := pos, after := af, guard := g }).run P w = .ok (.value v) w
theorem EX.builtin {b : Builtin} {xs : List Operand} {vs : List Value} {ats : Array TypeId} (hxs : evs e xs = some vs)
    (hrun : ∀ cs, (Go.builtin b ats ty cs vs.toArray).run P w = .ok (.value v) w) : EX P n ds e (.call { callee := .builtin b, args := xs.toArray, argTypes := ats }) ty v w := fun a ha => by
  intro _ _ _ _
  rw [BigFrame.execOp_builtin, List.map_toArray, List.map_toArray, ha.evs hxs]
  exact hrun _

theorem EX.move {x : Operand} (hx : ev e x = some v)   : EX P n ds e (.move x) ty (v) w := (fun a ha {_ _ _ _} => by simp only [execOp, ha.ev hx, Sem.run_pure])

theorem EX.assign {x : Operand} (hx : ev e x = some v)   : EX P n ds e (.assign x) ty (v) w := (fun a ha {_ _ _ _} => by simp only [execOp, ha.ev hx, Sem.run_pure])

theorem EX.pickT {c x y : Operand} (hc : ev e c = some (.bool true)) (hx : ev e x = some v)   : EX P n ds e (.pick c x y) ty (v) w := (fun a ha {_ _ _ _} => by simp only [execOp, ha.ev hc, ha.ev hx, Sem.run_pure, Sem.run_bind, asBool, Result.andThen_ok, if_true])

theorem EX.pickF {c x y : Operand} (hc : ev e c = some (.bool false)) (hy : ev e y = some v)   : EX P n ds e (.pick c x y) ty (v) w := (fun a ha {_ _ _ _} => by simp only [execOp, ha.ev hc, ha.ev hy, Sem.run_pure, Sem.run_bind, asBool, Result.andThen_ok, Bool.false_eq_true, if_false])

theorem EX.extract {x : Operand} {vs : List Value} {i : Nat} (hx : ev e x = some (.tuple vs.toArray)) (hi : vs[i]? = some v)   : EX P n ds e (.extract x i) ty (v) w := (fun a ha {_ _ _ _} => by simp [execOp, ha.ev hx, Instr.extract, hi])

theorem EX.nilCheck {x : Operand} {ad : Addr} (hx : ev e x = some (.pointer (some ad)))   : EX P n ds e (.nilCheck x) ty (.pointer (some ad)) w := (fun a ha {_ _ _ _} => by simp only [execOp, ha.ev hx, Sem.run_pure])

theorem EX.nilCheckFn {x : Operand} {f : FuncId} {fi ca : Array Value} (hx : ev e x = some (.func (.func f) fi ca))   : EX P n ds e (.nilCheck x) ty (.func (.func f) fi ca) w := (fun a ha {_ _ _ _} => by simp only [execOp, ha.ev hx, Sem.run_pure])

theorem EX.bin {op : BinOp} {t yt : TypeId} {x y : Operand} {u u' r : Value} (hx : ev e x = some u) (hy : ev e y = some u') (hr : BinV P op t u u' r) 
     : EX P n ds e (.binOp op t x y yt) ty (r) w := (fun a ha {_ _ _ _} => by
    have := hr x y w
    simp only [Sem.run_bind] at this
    simp only [execOp, ha.ev hx, ha.ev hy, Sem.run_bind, this, Result.andThen_ok, Sem.run_pure])

theorem EX.notOp {t : TypeId} {x : Operand} {b : Bool} (hx : ev e x = some (.bool b)) 
     : EX P n ds e (.unOp .not t x) ty (.bool (!b)) w := (fun a ha {_ _ _ _} => by simp only [execOp, ha.ev hx, Op.unary, Sem.run_bind, Sem.run_pure, Result.andThen_ok])

theorem EX.negOp {t : TypeId} {x : Operand} {k : IntKind} {z : Int} (hx : ev e x = some (.int k z)) 
     : EX P n ds e (.unOp .neg t x) ty (.int k (k.wrap (0 - z))) w := (fun a ha {_ _ _ _} => by simp only [execOp, ha.ev hx, Op.unary, Op.intArith, Sem.run_bind, Sem.run_pure, Result.andThen_ok])

theorem EX.fieldAddr {T : TypeId} {i off b o : Nat} {x : Operand} (hT : fieldB P T i off = true) (hx : ev e x = some (.pointer (some ⟨b, o, none⟩))) 
     : EX P n ds e (.fieldAddr T x i) ty (.pointer (some ⟨b, o + off, none⟩)) w := (fun a ha {_ _ _ _} => by simp only [execOp, ha.ev hx, Sem.run_bind, run_fieldAt hT, Result.andThen_ok, Sem.run_pure])

theorem EX.idxArr {T : TypeId} {len sz b o k : Nat} {x y : Operand} {kd : IntKind} {z : Int} (hT : arrB P T len sz = true) (hx : ev e x = some (.pointer (some ⟨b, o, none⟩))) (hy : ev e y = some (.int kd z)) (hz : z = (k : Int)) (hk : k < len) 
     : EX P n ds e (.indexAddr T x y) ty (.pointer (some ⟨b, o + k * sz, none⟩)) w := by
  subst hz
  obtain ⟨el, i, hu, hi, hs⟩ := arrB_out hT
  intro a ha _ _ _ _
  have h1 : (0 : Int) ≤ (k : Int) ∧ (k : Int) < (len : Int) := by omega
  simp only [execOp, ha.ev hx, ha.ev hy, Instr.indexAt, asIntOf, Sem.run_bind, Sem.run_pure, Result.andThen_ok, run_underlying hu, Instr.sureAddr, h1, and_self, if_true, sizeOf, typeInfo, run_program, hi, hs, Int.toNat_natCast, addr_add]

theorem EX.idxSlc {T : TypeId} {sz b o k len cap : Nat} {x y : Operand} {kd : IntKind} {z : Int} (hT : slcB P T sz = true) (hx : ev e x = some (.slice (some ⟨b, o, none⟩) len cap)) (hy : ev e y = some (.int kd z)) (hz : z = (k : Int)) (hk : k < len) 
     : EX P n ds e (.indexAddr T x y) ty (.pointer (some ⟨b, o + k * sz, none⟩)) w := by
  subst hz
  obtain ⟨el, i, hu, hi, hs⟩ := slcB_out hT
  intro a ha _ _ _ _
  have h1 : (0 : Int) ≤ (k : Int) ∧ (k : Int) < (len : Int) := by omega
  simp only [execOp, ha.ev hx, ha.ev hy, Instr.indexAt, asIntOf, Sem.run_bind, Sem.run_pure, Result.andThen_ok, run_underlying hu, h1, and_self, if_true, sizeOf, typeInfo, run_program, hi, hs, Int.toNat_natCast, addr_add]

theorem EX.load {T : TypeId} {x : Operand} {ad : Addr} (hx : ev e x = some (.pointer (some ad))) (hr : Rd P w T ad v) 
     : EX P n ds e (.load T x) ty (v) w := (fun a ha {_ _ _ _} => by
    unfold Rd at hr
    simp only [execOp, ha.ev hx, Instr.loadAt, Instr.sureAddr, Sem.run_bind, Sem.run_pure, Result.andThen_ok, hr])

theorem EX.makeFunc {fn : Fn} {xs ys : List Operand} {us vs : List Value} (hxs : evs e xs = some us) (hys : evs e ys = some vs) 
     : EX P n ds e (.makeFunc fn xs.toArray ys.toArray) ty (.func fn us.toArray vs.toArray) w := (fun a ha {_ _ _ _} => by
    simp only [execOp, Instr.makeFunc, Sem.run_bind, Sem.run_pure, Result.andThen_ok, List.map_toArray, ha.evs hxs, ha.evs hys])

theorem EX.lenSlc {x : Operand} {T : TypeId} {A : Option Addr} {len cap : Nat} (hT : isSlcB P T = true) (hx : ev e x = some (.slice A len cap)) 
     : EX P n ds e (.call { callee := .builtin .len, args := #[x], argTypes := #[T] }) ty (.int .i64 (len : Int)) w := by
  obtain ⟨el, hu⟩ := isSlcB_out hT
  refine EX.builtin (xs := [x]) (vs := [.slice A len cap]) (by simp [evs, hx]) (fun cs => ?_)
  simp [BigFrame.builtin_len, Builtin.len_, run_underlying hu, goInt]

theorem EX.max2 {x y : Operand} {k k' : IntKind} {a b : Int} {ats : Array TypeId} (hx : ev e x = some (.int k a)) (hy : ev e y = some (.int k' b)) 
     : EX P n ds e (.call { callee := .builtin .max, args := #[x, y], argTypes := ats }) ty (.int k (if b > a then b else a)) w := by
  refine EX.builtin (xs := [x, y]) (vs := [.int k a, .int k' b]) (by simp [evs, hx, hy]) (fun cs => ?_)
  simp [BigFrame.builtin_max, Builtin.max_, Builtin.max2]

theorem EX.min2 {x y : Operand} {k k' : IntKind} {a b : Int} {ats : Array TypeId} (hx : ev e x = some (.int k a)) (hy : ev e y = some (.int k' b)) 
     : EX P n ds e (.call { callee := .builtin .min, args := #[x, y], argTypes := ats }) ty (.int k (if b < a then b else a)) w := by
  refine EX.builtin (xs := [x, y]) (vs := [.int k a, .int k' b]) (by simp [evs, hx, hy]) (fun cs => ?_)
  simp [BigFrame.builtin_min, Builtin.min_, Builtin.min2]

theorem EX.convert {src dst : TypeId} {x : Operand} {k k' k'' : IntKind} {z r : Int} (hsrc : intB P src k'' = true) (hdst : intB P dst k = true) (hx : ev e x = some (.int k' z)) (hr : k.wrap z = r) 
     : EX P n ds e (.convert src dst x) ty (.int k r) w := (fun a ha {_ _ _ _} => by
    simp only [execOp, ha.ev hx, Go.convert, Sem.run_bind, run_underlying (intB_out hsrc), run_underlying (intB_out hdst), Result.andThen_ok, Conv.intToInt, Sem.run_pure, hr])

theorem EX.indexStr {T : TypeId} {x y : Operand} {s : ByteArray} {k m : Nat} {g : Nat → Nat} {kd : IntKind} {z : Int} (hT : P.underlying T = some .string) (hx : ev e x = some (.string s)) (hy : ev e y = some (.int kd z)) (hz : z = (k : Int))
    (hb : ∀ i, i < m → (s[i]?).map (·.toNat) = some (g i)) (hk : k < m) 
     : EX P n ds e (.index T x y) ty (.int .u8 (g k : Int)) w := by
  subst hz
  intro a ha _ _ _ _
  have hb' := hb k hk
  cases hs : s[k]? with
  | none => rw [hs] at hb'; cases hb'
  | some b =>
    rw [hs] at hb'
    simp only [Option.map_some, Option.some.injEq] at hb'
    have h1 : (0 : Int) ≤ (k : Int) := by omega
    simp only [execOp, ha.ev hx, ha.ev hy, Instr.index, asIntOf, Sem.run_bind, Sem.run_pure, Result.andThen_ok, run_underlying hT, h1, if_true, Int.toNat_natCast, hs, hb']

theorem EX.indexArr {T : TypeId} {len k : Nat} {x y : Operand} {kd : IntKind} {z : Int} (hT : arrB P T len 1 = true) (hl : ws.length = len) (hx : ev e x = some (arr ws)) (hy : ev e y = some (.int kd z)) (hz : z = (k : Int)) (hk : k < len) 
     (hp : ∀ el, P.underlying T = some (.array len el) → tyB P el false 1 = true := by intro el h; rw [show P.underlying T = _ from h] at *; simp_all) : EX P n ds e (.index T x y) ty (.int .i64 (ws.getD k 0)) w := by
  subst hz
  obtain ⟨el, i, hu, hi, hs⟩ := arrB_out hT
  intro a ha _ _ _ _
  have h1 : (0 : Int) ≤ (k : Int) ∧ (k : Int) < (len : Int) := by omega
  have hg := arrC_get_lt (ws := ws) (i := k) (by omega)
  simp only [execOp, ha.ev hx, ha.ev hy, arr, Instr.index, asIntOf, Sem.run_bind, Sem.run_pure, Result.andThen_ok, run_underlying hu, h1, and_self, if_true, sizeOf, typeInfo, run_program, hi, hs, Int.toNat_natCast, part, tyB_isAgg (hp el hu), Nat.mul_one, hg, Bool.false_eq_true, if_false]

theorem EX.build {T : TypeId} {pl : List (Nat × Nat)} {z cells : Array Value} {ps : List (Nat × Operand)} {vs : List (Nat × Value)} (hpl : placesOf P T = some pl) (hz : ZeroIs P T z) (hvs : evp e ps = some vs) 
    (hf : Instr.fill (pl[·]?) z vs = some cells)
     : EX P n ds e (.build T ps.toArray) ty (.agg cells) w := by
  obtain ⟨u, hu, hrun⟩ := hz
  unfold placesOf at hpl
  cases hT : P.underlying T with
  | none => simp [hT] at hpl
  | some dsc =>
    rw [hT] at hpl
    cases dsc with
    | struct fs =>
      simp only at hpl
      intro a ha _ _ _ _
      have hp := run_places (P := P) w hpl
      have hmap : (fs.mapM fun f => (do pure (f.offset, ← sizeOf f.type) : Sem (Nat × Nat))).run P w = .ok pl.toArray w := by
        rw [← Array.toArray_toList (xs := fs), List.mapM_toArray, Sem.run_map]
        rw [hp]; rfl
      simp only [execOp, Instr.build, Sem.run_bind, hrun, Result.andThen_ok, run_underlying hT, hmap, List.map_toArray, ha.evp hvs, hu]
      have e2 : (fun x : Nat => pl.toArray[x]?) = (fun x : Nat => pl[x]?) := by funext x; simp
      rw [e2, hf]
      rfl
    | _ => simp at hpl

theorem EX.buildA {T : TypeId} {len sz : Nat} {z cells : Array Value} {ps : List (Nat × Operand)} {vs : List (Nat × Value)} (hT : arrB P T len sz = true) (hz : ZeroIs P T z) (hvs : evp e ps = some vs) 
    (hf : Instr.fill (fun i => some (i * sz, sz)) z vs = some cells)
     : EX P n ds e (.build T ps.toArray) ty (.agg cells) w := by
  obtain ⟨u, hu, hrun⟩ := hz
  obtain ⟨el, i, hu', hi, hs⟩ := arrB_out hT
  intro a ha _ _ _ _
  simp only [execOp, Instr.build, Sem.run_bind, hrun, Result.andThen_ok, run_underlying hu', sizeOf, typeInfo, run_program, hi, hs, Sem.run_pure, List.map_toArray, ha.evp hvs, hu, hf]

end

/-! ### Regions that draw their order -/
section
variable {P : Program} {ops : Array Oper} {Q : Exit → Act → World → Prop} {n : Nat} {ds : List Deferred} {e e' : Env} {w w' w0 : World} {S : World → Prop} {fuel : Nat} {listed : Array Bool}

/-- The region's rest, in whatever order. -/
def WH (P : Program) (ops : Array Oper) (Q : Exit → Act → World → Prop) (n : Nat) (ds : List Deferred) (S : World → Prop) (fuel : Nat) (listed : Array Bool) (e : Env) (w : World) : Prop :=
  ∀ a, Holds a n ds e → wpAnyH P .any ops Q S fuel listed a w
theorem WC.held {id : Nat} {l : List Oper} (S : World → Prop) (hm : P.follows .mixedOrders = true) (h : WH P l.toArray Q n ds S l.length (Array.replicate l.length false) e w.drew) : WC P (.region id l.toArray true) Q n ds e w := fun a ha =>
  wp_region_held hm (by simpa using h a ha)
theorem WH.sub (hs : Sub e e') (h : WH P ops Q n ds S fuel listed e' w) : WH P ops Q n ds S fuel listed e w := fun a ha => h a (ha.sub hs)
/-- A copy, an address, a load of a cell that nobody writes: taken first. -/
theorem WH.take (i : Nat) {d : Nat} {v : Value} {op : Op} {ty : TypeId} {pos : String} {af : Array Edge} (hi : ops[i]? = some { dst := some d, op := op, type := ty, pos := pos, after := af, guard := none })
    (hs : Region.noSelect ops = true) (hf : Region.free .any ops listed i = true) (hr : (Region.ready .any ops listed).contains i = true)
    (hQ : ∀ c a w, Q (.panic c) (a.put (some d) v) w → Q (.panic c) a w) (hS : S w) (hy : ∀ w', S w' → EX P n ds e op ty v w') (hdn : Nat.blt d n = true)
    (h : WH P ops Q n ds S fuel (listed.setIfInBounds i true) ((d, v) :: e) w) : WH P ops Q n ds S (fuel + 1) listed e w := fun a ha =>
  wpAnyH_take hi hs hf hr hQ (.inl ⟨by simp [Region.wanted], fun w' hw' => hy w' hw' a ha⟩) hS (h _ (ha.put (by simpa using hdn)))
theorem WH.takeYes (i : Nat) {d j t : Nat} {b : Bool} {v : Value} {op : Op} {ty : TypeId} {pos : String} {af : Array Edge} (hi : ops[i]? = some { dst := some d, op := op, type := ty, pos := pos, after := af, guard := some (j, b) })
    (hs : Region.noSelect ops = true) (hf : Region.free .any ops listed i = true) (hr : (Region.ready .any ops listed).contains i = true)
    (hQ : ∀ c a w, Q (.panic c) (a.put (some d) v) w → Q (.panic c) a w) (hS : S w) (hj : (ops[j]?).bind (·.dst) = some t) (ht : e.lookup t = some (.bool b)) (hy : ∀ w', S w' → EX P n ds e op ty v w') (hdn : Nat.blt d n = true)
    (h : WH P ops Q n ds S fuel (listed.setIfInBounds i true) ((d, v) :: e) w) : WH P ops Q n ds S (fuel + 1) listed e w := fun a ha =>
  wpAnyH_take hi hs hf hr hQ (.inl ⟨by simp [Region.wanted, yielded_of ha hj ht], fun w' hw' => hy w' hw' a ha⟩) hS (h _ (ha.put (by simpa using hdn)))
theorem WH.takeNo (i : Nat) {d j t : Nat} {b : Bool} {op : Op} {ty : TypeId} {pos : String} {af : Array Edge} (hi : ops[i]? = some { dst := some d, op := op, type := ty, pos := pos, after := af, guard := some (j, b) })
    (hs : Region.noSelect ops = true) (hf : Region.free .any ops listed i = true) (hr : (Region.ready .any ops listed).contains i = true)
    (hQ : ∀ c a w, Q (.panic c) (a.put (some d) undef) w → Q (.panic c) a w) (hS : S w) (hj : (ops[j]?).bind (·.dst) = some t) (ht : e.lookup t = some (.bool !b)) (hdn : Nat.blt d n = true)
    (h : WH P ops Q n ds S fuel (listed.setIfInBounds i true) ((d, undef) :: e) w) : WH P ops Q n ds S (fuel + 1) listed e w := fun a ha =>
  wpAnyH_take hi hs hf hr hQ (.inr ⟨by simp [Region.wanted, yielded_of ha hj ht], rfl⟩) hS (h _ (ha.put (by simpa using hdn)))
theorem WH.takeNoU (i : Nat) {d j t : Nat} {b : Bool} {op : Op} {ty : TypeId} {pos : String} {af : Array Edge} (hi : ops[i]? = some { dst := some d, op := op, type := ty, pos := pos, after := af, guard := some (j, b) })
    (hs : Region.noSelect ops = true) (hf : Region.free .any ops listed i = true) (hr : (Region.ready .any ops listed).contains i = true)
    (hQ : ∀ c a w, Q (.panic c) (a.put (some d) undef) w → Q (.panic c) a w) (hS : S w) (hj : (ops[j]?).bind (·.dst) = some t) (ht : e.lookup t = some undef) (htn : Nat.blt t n = true) (hdn : Nat.blt d n = true)
    (h : WH P ops Q n ds S fuel (listed.setIfInBounds i true) ((d, undef) :: e) w) : WH P ops Q n ds S (fuel + 1) listed e w := fun a ha => by
  refine wpAnyH_take hi hs hf hr hQ (.inr ⟨?_, rfl⟩) hS (h _ (ha.put (by simpa using hdn)))
  have hy : yielded ops a.tmps j = none := by
    unfold yielded
    rw [hj]
    have h1 := ha.get t _ ht
    have hl : t < a.tmps.size := by rw [ha.size]; simpa using htn
    simp only [Array.getD_eq_getD_getElem?, Array.getElem?_eq_getElem hl, Option.getD_some] at h1
    simp only [Option.bind_some, Array.getElem?_eq_getElem hl, h1, undef]
  simp [Region.wanted, hy]
/-- The one operation that may come up. -/
theorem WH.hard (i : Nat) {o : Oper} (hi : ops[i]? = some o) (hr : Region.ready .any ops listed = [i])
    (h : WL P ops (Exit.then (fun a' w' => S w' ∧ wpAnyH P .any ops Q S fuel (listed.setIfInBounds i true) a' w') Q) n ds [o] e w) : WH P ops Q n ds S (fuel + 1) listed e w := fun a ha => by
  refine wpAnyH_all hr (by simp) (fun j hj => ?_)
  simp only [List.mem_singleton] at hj
  subst hj
  have h' := h a ha
  unfold wpOp
  rw [hi]
  exact h'
theorem WH.hard2 (i j : Nat) {o o' : Oper} (hi : ops[i]? = some o) (hj : ops[j]? = some o') (hr : Region.ready .any ops listed = [i, j])
    (h : WL P ops (Exit.then (fun a' w' => S w' ∧ wpAnyH P .any ops Q S fuel (listed.setIfInBounds i true) a' w') Q) n ds [o] e w)
    (h' : WL P ops (Exit.then (fun a' w' => S w' ∧ wpAnyH P .any ops Q S fuel (listed.setIfInBounds j true) a' w') Q) n ds [o'] e w) : WH P ops Q n ds S (fuel + 1) listed e w := fun a ha => by
  refine wpAnyH_all hr (by simp) (fun q hq => ?_)
  simp only [List.mem_cons, List.not_mem_nil, or_false] at hq
  rcases hq with rfl | rfl
  · have h1 := h a ha
    unfold wpOp
    rw [hi]
    exact h1
  · have h1 := h' a ha
    unfold wpOp
    rw [hj]
    exact h1
theorem WH.hard3 (i j k : Nat) {o o' o'' : Oper} (hi : ops[i]? = some o) (hj : ops[j]? = some o') (hk : ops[k]? = some o'') (hr : Region.ready .any ops listed = [i, j, k])
    (h : WL P ops (Exit.then (fun a' w' => S w' ∧ wpAnyH P .any ops Q S fuel (listed.setIfInBounds i true) a' w') Q) n ds [o] e w)
    (h' : WL P ops (Exit.then (fun a' w' => S w' ∧ wpAnyH P .any ops Q S fuel (listed.setIfInBounds j true) a' w') Q) n ds [o'] e w)
    (h'' : WL P ops (Exit.then (fun a' w' => S w' ∧ wpAnyH P .any ops Q S fuel (listed.setIfInBounds k true) a' w') Q) n ds [o''] e w) : WH P ops Q n ds S (fuel + 1) listed e w := fun a ha => by
  refine wpAnyH_all hr (by simp) (fun q hq => ?_)
  simp only [List.mem_cons, List.not_mem_nil, or_false] at hq
  rcases hq with rfl | rfl | rfl
  · have h1 := h a ha
    unfold wpOp
    rw [hi]
    exact h1
  · have h1 := h' a ha
    unfold wpOp
    rw [hj]
    exact h1
  · have h1 := h'' a ha
    unfold wpOp
    rw [hk]
    exact h1
theorem WH.split {t : Nat} {b : Bool} (ht : e.lookup t = some (.bool b)) (hT : b = true → WH P ops Q n ds S fuel listed ((t, .bool true) :: e) w) (hF : b = false → WH P ops Q n ds S fuel listed ((t, .bool false) :: e) w) : WH P ops Q n ds S fuel listed e w := by
  cases b with
  | true => exact (hT rfl).sub (Sub.cons ht (Sub.refl _))
  | false => exact (hF rfl).sub (Sub.cons ht (Sub.refl _))
theorem WH.splitD {t : Nat} {p : Prop} [Decidable p] (ht : e.lookup t = some (.bool (decide p))) (hT : p → WH P ops Q n ds S fuel listed ((t, .bool true) :: e) w) (hF : ¬ p → WH P ops Q n ds S fuel listed ((t, .bool false) :: e) w) : WH P ops Q n ds S fuel listed e w :=
  WH.split ht (fun h => hT (of_decide_eq_true h)) (fun h => hF (of_decide_eq_false h))
theorem WX.heldOn (hS : S w) (h : WH P ops Q n ds S fuel listed e w) : WX (Exit.then (fun a' w' => S w' ∧ wpAnyH P .any ops Q S fuel listed a' w') Q) .normal n ds e w := fun a ha => ⟨hS, h a ha⟩
theorem WH.done (hr : Region.ready .any ops listed = []) (h : WX Q .normal n ds e w) : WH P ops Q n ds S fuel listed e w := fun a ha => wpAnyH_done hr (h a ha) fuel
end

/-- The worlds that a region passes through: of what lay there at its start only the blocks of X may have changed. -/
def SX (w : World) (X : List Nat) (w' : World) : Prop := ∃ H, St w X w' H
theorem SX.block {w w' : World} {X : List Nat} (h : SX w X w') {b : Nat} {o : Obj} (hb : w.heap[b]? = some o) (hX : b ∉ X) : w'.heap[b]? = some o := by
  obtain ⟨H, h⟩ := h
  exact h.oldBlock hb hX


section
variable {P : Program} {w0 wb w' : World} {X S : List Nat} {b o : Nat} {cs : Array Value} {t : TypeId} {v : Value} {H M N : Hp} {ws : List Int}
theorem SX.rd1 (hS : SX wb X w') {T : TypeId} {k : Nat} (hT : tyB P T false k = true) (hb : wb.heap[b]? = some (.cells cs t)) (hX : b ∉ X) (hc : cs[o]? = some v) : Rd P w' T ⟨b, o, none⟩ v :=
  Rd.one hT (by rw [cell_of (hS.block hb hX)]; exact hc)
theorem SX.rdA (hS : SX wb X w') {T : TypeId} {k : Nat} (hT : tyB P T true k = true) (hb : wb.heap[b]? = some (.cells cs t)) (hX : b ∉ X) (hk : o + k ≤ cs.size) : Rd P w' T ⟨b, o, none⟩ (.agg (cs.extract o (o + k))) :=
  Rd.agg hT (hS.block hb hX) hk
theorem SX.rdArr (hS : SX wb X w') {T : TypeId} {k : Nat} (hT : tyB P T true k = true) (hb : wb.heap[b]? = some (.cells (arrC ws) t)) (hX : b ∉ X) (hl : ws.length = k) : Rd P w' T ⟨b, 0, none⟩ (arr ws) :=
  Rd.arr hT (hS.block hb hX) hl
theorem SX.rdArrMid (hS : SX wb X w') {T : TypeId} {k : Nat} (hT : tyB P T true k = true) (hb : wb.heap[b]? = some (.cells (arrC ws) t)) (hX : b ∉ X) (hl : o + k ≤ ws.length) : Rd P w' T ⟨b, o, none⟩ (arr ((ws.drop o).take k)) :=
  Rd.arrMid hT (hS.block hb hX) hl
theorem SX.rdElt (hS : SX wb X w') {T : TypeId} {k : Nat} (hT : tyB P T false k = true) (hb : wb.heap[b]? = some (.cells (arrC ws) t)) (hX : b ∉ X) (hl : o < ws.length) : Rd P w' T ⟨b, o, none⟩ (.int .i64 (ws.getD o 0)) :=
  SX.rd1 hS hT hb hX (arrC_get_lt hl)
theorem St.blk (hS : St w0 S wb H) (i : Nat) {ob : Obj} (hi : H[i]? = some (b, ob)) : wb.heap[b]? = some ob := hS.sat _ (List.mem_of_getElem? hi)
theorem St.ne (hS : St w0 S wb H) (i j : Nat) {p q : Nat × Obj} (hi : H[i]? = some p) (hj : H[j]? = some q) (hij : (i == j) = false) : p.1 ≠ q.1 := fst_ne hS.nd hi hj (by simpa using hij)
/-- The one block that a region writes, taken out. -/
theorem St.single (hS : St w0 S wb H) (i : Nat) {p : Nat × Obj} (hi : H[i]? = some p) : St wb [p.1] wb [p] :=
  St.start (H := [p]) (by simp) (fun q hq => by simp only [List.mem_singleton] at hq; subst hq; exact hS.sat _ (List.mem_of_getElem? hi))
/-- .. and put back. -/
theorem St.back (hS : St w0 S wb H) (i : Nat) {p p' : Nat × Obj} (hi : H[i]? = some p) (hB : St wb [p.1] w' (N ++ [p'])) (hp : p'.1 = p.1) : St w0 S w' (N ++ H.set i p') := by
  have hmem : p ∈ H := List.mem_of_getElem? hi
  have hil : i < H.length := by
    rcases Nat.lt_or_ge i H.length with hl | hg
    · exact hl
    · rw [List.getElem?_eq_none hg] at hi; cases hi
  have hmap : (H.set i p').map Prod.fst = H.map Prod.fst := by
    rw [List.map_set]
    apply List.ext_getElem?
    intro j
    rw [List.getElem?_set]
    split
    · rename_i hij
      subst hij
      simp only [List.length_map, hil, if_true, List.getElem?_map, hi, Option.map, hp]
    · rfl
  have hN : ∀ q ∈ N, wb.heap.size ≤ q.1 := fun q hq => by
    rcases hB.own q (List.mem_append_left _ hq) with h | h
    · exfalso
      have hnd := hB.nd
      rw [List.map_append, List.nodup_append] at hnd
      simp only [List.mem_singleton] at h
      exact hnd.2.2 q.1 (List.mem_map_of_mem hq) p'.1 (by simp) (by rw [h, hp])
    · exact h
  refine ⟨hB.os.trans hS.os, hB.tape.trans hS.tape, hB.output.trans hS.output, Nat.le_trans hS.size hB.size, fun k hk hkS => ?_, ?_, ?_, ?_⟩
  · rw [hB.old k (Nat.lt_of_lt_of_le hk hS.size) ?_]
    · exact hS.old k hk hkS
    · simp only [List.mem_singleton]
      rintro rfl
      rcases hS.own p hmem with h | h
      · exact hkS h
      · omega
  · rw [List.map_append, hmap, List.nodup_append]
    have hnd := hB.nd
    rw [List.map_append, List.nodup_append] at hnd
    refine ⟨hnd.1, hS.nd, ?_⟩
    intro x hx y hy hxy
    obtain ⟨q, hq, rfl⟩ := List.mem_map.1 hx
    obtain ⟨r, hr, rfl⟩ := List.mem_map.1 hy
    have h1 := hN q hq
    have h2 := hS.lt hr
    omega
  · intro q hq
    rcases List.mem_append.1 hq with hq | hq
    · exact hB.sat q (List.mem_append_left _ hq)
    · obtain ⟨j, hj⟩ := List.getElem?_of_mem hq
      rw [List.getElem?_set] at hj
      split at hj
      · rename_i hij
        cases hj
        exact hB.sat p' (by simp)
      · rename_i hij
        have hqm : q ∈ H := List.mem_of_getElem? hj
        have hne := fst_ne hS.nd hj hi (Ne.symm hij)
        rw [hB.old _ (hS.lt hqm) (by simpa using hne)]
        exact hS.sat q hqm
  · intro q hq
    rcases List.mem_append.1 hq with hq | hq
    · exact .inr (Nat.le_trans hS.size (hN q hq))
    · rcases List.mem_or_eq_of_mem_set hq with hq | rfl
      · exact hS.own q hq
      · rw [hp]; exact hS.own p hmem
end

end Go.Proofs.YtkncbggnaobgeaaDoor
