/- An engine for walking a Go function, fifth part: arrays and structs of integers alone. Plain theorems over any program. -/
import Derived.Test.YtkncbggnaobgeaaDoorOpm
namespace Go.Proofs.YtkncbggnaobgeaaDoor
open Go.RowKit
set_option linter.unusedVariables false
set_option linter.unusedSimpArgs false
set_option maxRecDepth 100000

def arrC (ws : List Int) : Array Value := (ws.map (Value.int .i64)).toArray
/-- A struct or an array of integers, as a value. -/
def arr (ws : List Int) : Value := .agg (arrC ws)
def zeros8 : List Int := [0, 0, 0, 0, 0, 0, 0, 0]

theorem arrC_size (ws : List Int) : (arrC ws).size = ws.length := by simp [arrC]
theorem arrC_get (ws : List Int) (i : Nat) : (arrC ws)[i]? = (ws[i]?).map (Value.int .i64) := by simp [arrC]
theorem arrC_get_lt {ws : List Int} {i : Nat} (h : i < ws.length) : (arrC ws)[i]? = some (.int .i64 (ws.getD i 0)) := by
  simp [arrC, List.getD, List.getElem?_eq_getElem h]
theorem arrC_one (ws : List Int) : ∀ u ∈ (arrC ws).toList, u.oneCell' = true := by
  intro u hu
  simp only [arrC, List.mem_map] at hu
  obtain ⟨x, _, rfl⟩ := hu
  rfl
theorem arrC_extract (ws : List Int) (o k : Nat) : (arrC ws).extract o (o + k) = arrC ((ws.drop o).take k) := by
  apply Array.ext_getElem?
  intro i
  rw [Array.getElem?_extract, arrC_get, arrC_get, List.getElem?_take, List.getElem?_drop, arrC_size]
  by_cases h : i < k
  · rw [if_pos h]
    by_cases h2 : o + i < ws.length
    · rw [if_pos (by omega)]
    · rw [if_neg (by omega), List.getElem?_eq_none (by omega)]; rfl
  · rw [if_neg h, if_neg (by omega)]; rfl
theorem arrC_inj {xs ys : List Int} (h : arrC xs = arrC ys) : xs = ys := by
  have h' : xs.map (Value.int .i64) = ys.map (Value.int .i64) := by simpa [arrC] using h
  exact (List.map_inj_right (fun a b hab => by injection hab)).1 h'
theorem arr_cells (ws : List Int) : (arr ws).cells = arrC ws := rfl
theorem wr_all {cs : Array Value} {ws : List Int} (h : cs.size = ws.length) : wr cs 0 (arrC ws).toList = arrC ws := by
  apply Array.ext_getElem?
  intro i
  rw [wr_get _ _ _ _ (by simp [arrC_size, h])]
  by_cases hi : i < ws.length
  · rw [if_pos (by simp [arrC_size, hi])]
    simp
  · rw [if_neg (by simp [arrC_size, hi]), Array.getElem?_eq_none (by omega), Array.getElem?_eq_none (by rw [arrC_size]; omega)]
theorem wr_elt {ws : List Int} {k : Nat} (x : Int) (h : k < ws.length) : wr (arrC ws) k [.int .i64 x] = arrC (ws.set k x) := by
  apply Array.ext_getElem?
  intro i
  rw [wr_get _ _ _ _ (by simp [arrC_size]; omega), arrC_get, arrC_get, List.getElem?_set]
  by_cases hi : k = i
  · subst hi
    rw [if_pos (by simp), if_pos rfl, if_pos h]; simp
  · rw [if_neg (by simp; omega), if_neg hi]

section
variable {P : Program} {ops : Array Oper} {Q : Exit → Act → World → Prop} {n : Nat} {ds : List Deferred} {e e' : Env} {w w' w0 : World} {rest : List Oper} {S : List Nat} {H : Hp}
variable {d : Nat} {v : Value} {ty : TypeId} {pos : String} {af : Array Edge} {ws ws' : List Int}

theorem WL.boxArr (hS : St w0 S w H) {T : TypeId} {x : Operand} (hx : ev e x = some (arr ws)) (hdn : Nat.blt d n = true)
    (h : ∀ b w', w.heap.size = b → w0.heap.size ≤ b → St w0 S w' ((b, .cells (arrC ws) T) :: H) → WL P ops Q n ds rest ((d, .pointer (some ⟨b, 0, none⟩)) :: e) w') : WL P ops Q n ds ({ dst := some d, op := .box T x, type := ty, pos, after := af, guard := none } :: rest) e w :=
  WL.box hS hx hdn h
theorem WL.allocArr (hS : St w0 S w H) {T : TypeId} {z : Array Value} (hz : ZeroIs P T z) (hz' : z = arrC ws) (hdn : Nat.blt d n = true)
    (h : ∀ b w', w.heap.size = b → w0.heap.size ≤ b → St w0 S w' ((b, .cells (arrC ws) T) :: H) → WL P ops Q n ds rest ((d, .pointer (some ⟨b, 0, none⟩)) :: e) w') : WL P ops Q n ds ({ dst := some d, op := .alloc T, type := ty, pos, after := af, guard := none } :: rest) e w := by
  subst hz'
  exact WL.alloc hS hz hdn h
theorem Rd.arr {T : TypeId} {k b : Nat} {t : TypeId} {fr : Nat × Nat} (hT : tyB P T true k = true) (h : w.heap[b]? = some (.cells (arrC ws) t fr)) (hl : ws.length = k) : Rd P w T ⟨b, 0, none⟩ (arr ws) := by
  have := Rd.agg (P := P) (w := w) (T := T) (o := 0) hT h (by rw [arrC_size]; omega)
  rw [arrC_extract] at this
  have e1 : ((ws.drop 0).take k) = ws := by rw [List.drop_zero, List.take_of_length_le (by omega)]
  rw [e1] at this
  exact this
theorem Rd.arrMid {T : TypeId} {k b o : Nat} {t : TypeId} {fr : Nat × Nat} (hT : tyB P T true k = true) (h : w.heap[b]? = some (.cells (arrC ws) t fr)) (hl : o + k ≤ ws.length) : Rd P w T ⟨b, o, none⟩ (YtkncbggnaobgeaaDoor.arr ((ws.drop o).take k)) := by
  have := Rd.agg (P := P) (w := w) (T := T) (o := o) hT h (by rw [arrC_size]; omega)
  rw [arrC_extract] at this
  exact this
theorem St.rdArr (hS : St w0 S w H) {T : TypeId} {k : Nat} (hT : tyB P T true k = true) (i : Nat) {b : Nat} {t : TypeId} (hi : H[i]? = some (b, .cells (arrC ws) t)) (hl : ws.length = k) : Rd P w T ⟨b, 0, none⟩ (arr ws) :=
  Rd.arr hT (hS.sat _ (List.mem_of_getElem? hi)) hl
theorem St.rdElt (hS : St w0 S w H) {T : TypeId} {k : Nat} (hT : tyB P T false k = true) (i : Nat) {b o : Nat} {t : TypeId} (hi : H[i]? = some (b, .cells (arrC ws) t)) (hl : o < ws.length) : Rd P w T ⟨b, o, none⟩ (.int .i64 (ws.getD o 0)) :=
  St.rd1 hS hT i hi (arrC_get_lt hl)
theorem WL.indexArr {T : TypeId} {len k : Nat} {x y : Operand} {kd : IntKind} {z : Int} (hT : arrB P T len 1 = true) (hl : ws.length = len) (hx : ev e x = some (arr ws)) (hy : ev e y = some (.int kd z)) (hz : z = (k : Int)) (hk : k < len) (hdn : Nat.blt d n = true)
    (h : WL P ops Q n ds rest ((d, .int .i64 (ws.getD k 0)) :: e) w) (hp : ∀ el, P.underlying T = some (.array len el) → tyB P el false 1 = true := by intro el h; rw [show P.underlying T = _ from h] at *; simp_all) : WL P ops Q n ds ({ dst := some d, op := .index T x y, type := ty, pos, after := af, guard := none } :: rest) e w := by
  subst hz
  obtain ⟨el, i, hu, hi, hs⟩ := arrB_out hT
  refine WL.op rfl rfl hdn (fun a ha => ?_) h
  have h1 : (0 : Int) ≤ (k : Int) ∧ (k : Int) < (len : Int) := by omega
  have hg := arrC_get_lt (ws := ws) (i := k) (by omega)
  simp only [execOp, ha.ev hx, ha.ev hy, arr, Instr.index, asIntOf, Sem.run_bind, Sem.run_pure, Result.andThen_ok, run_underlying hu, h1, and_self, if_true, sizeOf, typeInfo, run_program, hi, hs, Int.toNat_natCast, part, tyB_isAgg (hp el hu), Nat.mul_one, hg, Bool.false_eq_true, if_false]
theorem WL.storeArr (hS : St w0 S w H) {T : TypeId} {k : Nat} (hT : tyB P T true k = true) (i : Nat) {b : Nat} {cs : Array Value} {t : TypeId} {x y : Operand} (hx : ev e x = some (.pointer (some ⟨b, 0, none⟩))) (hy : ev e y = some (arr ws'))
    (hi : H[i]? = some (b, .cells cs t)) (hc : cs.size = k) (hl' : ws'.length = k)
    (h : ∀ w', St w0 S w' (H.set i (b, .cells (arrC ws') t)) → WL P ops Q n ds rest e w') : WL P ops Q n ds ({ dst := none, op := .store T x y, type := ty, pos, after := af, guard := none } :: rest) e w := by
  refine WL.storeAt hS hT i hx hy hi (by rw [arr_cells, arrC_size]; exact hl') (arrC_one _) (by omega) (fun w' hw' => h w' ?_)
  rw [arr_cells, wr_all (by omega)] at hw'
  exact hw'
theorem WL.storeElt (hS : St w0 S w H) {T : TypeId} {o : Nat} (hT : tyB P T false 1 = true) (i : Nat) {b : Nat} {t : TypeId} {x y : Operand} {z : Int} (hx : ev e x = some (.pointer (some ⟨b, o, none⟩))) (hy : ev e y = some (.int .i64 z))
    (hi : H[i]? = some (b, .cells (arrC ws) t)) (hl : o < ws.length)
    (h : ∀ w', St w0 S w' (H.set i (b, .cells (arrC (ws.set o z)) t)) → WL P ops Q n ds rest e w') : WL P ops Q n ds ({ dst := none, op := .store T x y, type := ty, pos, after := af, guard := none } :: rest) e w := by
  refine WL.storeAt hS hT i hx hy hi rfl (by simp [Value.cells, Value.oneCell']) (by rw [arrC_size]; omega) (fun w' hw' => h w' ?_)
  rw [show (Value.int IntKind.i64 z).cells.toList = [.int .i64 z] from rfl, wr_elt _ hl] at hw'
  exact hw'

/-! ### Literals -/
def evp (e : Env) : List (Nat × Operand) → Option (List (Nat × Value))
  | [] => some []
  | (i, x) :: xs => match ev e x, evp e xs with
    | some v, some vs => some ((i, v) :: vs)
    | _, _ => none
theorem Holds.evp {a : Act} (h : Holds a n ds e) : ∀ {xs : List (Nat × Operand)} {vs : List (Nat × Value)}, YtkncbggnaobgeaaDoor.evp e xs = some vs → xs.map (fun p => (p.1, a.eval p.2)) = vs
  | [], vs, hx => by simp [YtkncbggnaobgeaaDoor.evp] at hx; simp [hx]
  | (i, x) :: xs, vs, hx => by
    simp only [YtkncbggnaobgeaaDoor.evp] at hx
    split at hx
    · rename_i v vs' h1 h2
      simp only [Option.some.injEq] at hx
      subst hx
      simp [h.ev h1, h.evp h2]
    · cases hx
/-- Where the parts of a struct lie. -/
def placesOf (P : Program) (T : TypeId) : Option (List (Nat × Nat)) :=
  match P.underlying T with
  | some (.struct fs) => fs.toList.mapM fun f => (P.info? f.type).map fun i => (f.offset, i.size)
  | _ => none
theorem run_places : ∀ {fs : List Field} {pl : List (Nat × Nat)} (w : World), (fs.mapM fun f => (P.info? f.type).map fun i => (f.offset, i.size)) = some pl →
    (fs.mapM fun f => (do pure (f.offset, ← sizeOf f.type) : Sem (Nat × Nat))).run P w = .ok pl w
  | [], pl, w, h => by simp at h; subst h; simp
  | f :: fs, pl, w, h => by
    rw [List.mapM_cons] at h
    cases hi : P.info? f.type with
    | none => simp [hi] at h
    | some i =>
      cases hm : (fs.mapM fun f => (P.info? f.type).map fun i => (f.offset, i.size)) with
      | none => simp [hi, hm] at h
      | some pl' =>
        simp [hi, hm] at h
        subst h
        have ih := run_places w hm
        simp only [List.mapM_cons, Sem.run_bind, sizeOf, typeInfo, run_program, Result.andThen_ok, hi, Sem.run_pure] at ih ⊢
        rw [ih]; rfl
theorem WL.build {T : TypeId} {pl : List (Nat × Nat)} {z cells : Array Value} {ps : List (Nat × Operand)} {vs : List (Nat × Value)} (hpl : placesOf P T = some pl) (hz : ZeroIs P T z) (hvs : evp e ps = some vs) (hdn : Nat.blt d n = true)
    (hf : Instr.fill (pl[·]?) z vs = some cells)
    (h : WL P ops Q n ds rest ((d, .agg cells) :: e) w) : WL P ops Q n ds ({ dst := some d, op := .build T ps.toArray, type := ty, pos, after := af, guard := none } :: rest) e w := by
  obtain ⟨u, hu, hrun⟩ := hz
  unfold placesOf at hpl
  cases hT : P.underlying T with
  | none => simp [hT] at hpl
  | some dsc =>
    rw [hT] at hpl
    cases dsc with
    | struct fs =>
      simp only at hpl
      refine WL.op rfl rfl hdn (fun a ha => ?_) h
      have hp := run_places (P := P) w hpl
      have hmap : (fs.mapM fun f => (do pure (f.offset, ← sizeOf f.type) : Sem (Nat × Nat))).run P w = .ok pl.toArray w := by
        rw [← Array.toArray_toList (xs := fs), List.mapM_toArray, Sem.run_map]
        rw [hp]; rfl
      simp only [execOp, Instr.build, Sem.run_bind, hrun, Result.andThen_ok, run_underlying hT, hmap, List.map_toArray, ha.evp hvs, hu]
      have e2 : (fun x : Nat => pl.toArray[x]?) = (fun x : Nat => pl[x]?) := by funext x; simp
      rw [e2, hf]
      rfl
    | _ => simp at hpl
theorem WL.buildA {T : TypeId} {len sz : Nat} {z cells : Array Value} {ps : List (Nat × Operand)} {vs : List (Nat × Value)} (hT : arrB P T len sz = true) (hz : ZeroIs P T z) (hvs : evp e ps = some vs) (hdn : Nat.blt d n = true)
    (hf : Instr.fill (fun i => some (i * sz, sz)) z vs = some cells)
    (h : WL P ops Q n ds rest ((d, .agg cells) :: e) w) : WL P ops Q n ds ({ dst := some d, op := .build T ps.toArray, type := ty, pos, after := af, guard := none } :: rest) e w := by
  obtain ⟨u, hu, hrun⟩ := hz
  obtain ⟨el, i, hu', hi, hs⟩ := arrB_out hT
  refine WL.op rfl rfl hdn (fun a ha => ?_) h
  simp only [execOp, Instr.build, Sem.run_bind, hrun, Result.andThen_ok, run_underlying hu', sizeOf, typeInfo, run_program, hi, hs, Sem.run_pure, List.map_toArray, ha.evp hvs, hu, hf]
/-- '[]T{x}': one element. -/
theorem WL.buildSlice1 (hS : St w0 S w H) {T el : TypeId} {sz : Nat} {x : Operand} (hT : P.underlying T = some (.slice el)) (hel : tyB P el (match P.underlying el with | some (.struct _) | some (.array _ _) => true | _ => false) sz = true) (hsz : 0 < sz ∧ sz ≤ 100) {z : Array Value} (hz : ZeroIs P el z) (hzs : z.size = sz)
    (hx : ev e x = some v) (hv : v.cells.size = sz) (hdn : Nat.blt d n = true)
    (h : ∀ b w', w.heap.size = b → w0.heap.size ≤ b → St w0 S w' ((b, .cells v.cells el) :: H) → WL P ops Q n ds rest ((d, .slice (some ⟨b, 0, none⟩) 1 1) :: e) w') : WL P ops Q n ds ({ dst := some d, op := .buildSlice T 1 #[(0, x)], type := ty, pos, after := af, guard := none } :: rest) e w := by
  obtain ⟨u, hu, hrun⟩ := hz
  refine WL.op (w' := w.alloc (.cells v.cells el)) (v := .slice (some ⟨w.heap.size, 0, none⟩) 1 1) rfl rfl hdn (fun a ha => ?_) (h _ _ rfl hS.size (hS.alloc _))
  have h1 : ¬ (1 * sz > 2 ^ 24) := by omega
  have h2 : ¬ (1 * sz = 0) := by omega
  have hfill : Instr.fill (fun i => some (i * sz, sz)) ((Array.range (1 * sz)).map (z[· % z.size]!)) [(0, v)] = some v.cells := by
    have hs0 : ((Array.range (1 * sz)).map (z[· % z.size]!)).size = sz := by simp
    simp only [Instr.fill, hv, ne_eq, not_true_eq_false, decide_false, Nat.zero_mul, Nat.zero_add, Bool.false_or, hs0, gt_iff_lt, Nat.lt_irrefl, Bool.false_eq_true, if_false, Option.some.injEq]
    generalize (Array.range (1 * sz)).map (z[· % z.size]!) = c0 at hs0
    have key : ∀ (l : List Value) (k : Nat) (c : Array Value), c.size = k + l.length → (l.zipIdx k).foldl (fun cs (x : Value × Nat) => cs.setIfInBounds x.2 x.1) c = wr c k l := by
      intro l
      induction l with
      | nil => intro k c _; rfl
      | cons y l ih => intro k c hc; simp only [List.zipIdx_cons, List.foldl_cons, wr]; exact ih (k + 1) _ (by simp at hc ⊢; omega)
    have e1 : v.cells.zipIdx.foldl (fun cs (x : Value × Nat) => cs.setIfInBounds x.2 x.1) c0 = wr c0 0 v.cells.toList := by
      rw [← Array.foldl_toList, Array.toList_zipIdx]
      exact key _ 0 _ (by simp [hs0, hv])
    refine Eq.trans e1 ?_
    apply Array.ext_getElem?
    intro i
    rw [wr_get _ _ _ _ (by simp [hs0, hv])]
    by_cases hi : i < sz
    · rw [if_pos (by simp [hv, hi])]; simp
    · rw [if_neg (by simp [hv]; omega), Array.getElem?_eq_none (by omega), Array.getElem?_eq_none (by omega)]
  simp only [execOp, Instr.buildSlice, Sem.run_bind, run_underlying hT, Result.andThen_ok, tyB_size hel, h1, h2, if_false, hrun, hu, Sem.run_pure, newRow, run_newObj, World.alloc, List.map_toArray, List.map_cons, List.map_nil, ha.ev hx, hfill]
end
end Go.Proofs.YtkncbggnaobgeaaDoor
