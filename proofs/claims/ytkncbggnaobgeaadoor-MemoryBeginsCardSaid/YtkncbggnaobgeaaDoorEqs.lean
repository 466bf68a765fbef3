/- Equality of arrays and structs of integers. -/
import Derived.Test.YtkncbggnaobgeaaDoorRef1
import Derived.ChangeKeysEq
import Derived.Laws.StructEq
namespace Go.Proofs.YtkncbggnaobgeaaDoor
open Go.RowKit
set_option linter.unusedVariables false
set_option linter.unusedSimpArgs false
set_option linter.unusedSectionVars false
set_option maxRecDepth 100000

section
variable {P : Program}
/-- Values of type t are n integers (n cells); equality is equality of all of them. -/
def EqI (P : Program) (t : TypeId) (n : Nat) : Prop := ∀ (d : Nat) (xs ys : List Int) (w : World), xs.length = n → ys.length = n → (Op.equalIn (d + 4) t (arr xs) (arr ys)).run P w = .ok (xs == ys) w
def intI (P : Program) (t : TypeId) : Bool := match P.underlying t with | some (.int .i64) => true | _ => false
theorem intI_out {t : TypeId} (h : intI P t = true) : P.underlying t = some (.int .i64) := by
  unfold intI at h
  cases hu : P.underlying t with
  | none => simp [hu] at h
  | some dd =>
    rw [hu] at h
    cases dd with
    | int k => cases k <;> simp at h ⊢
    | _ => simp at h
theorem run_equal_int {t : TypeId} (h : intI P t = true) (d : Nat) (a b : Int) (w : World) : (Op.equalIn (d + 1) t (.int .i64 a) (.int .i64 b)).run P w = .ok (a == b) w := by
  simp [Op.equalIn, run_underlying (intI_out h)]
theorem run_part_int {t : TypeId} (h : intI P t = true) {xs : Array Value} {o : Nat} {v : Value} (hx : xs[o]? = some v) (w : World) : (part t xs o).run P w = .ok v w := by
  simp [part, isAgg, run_underlying (intI_out h), hx]
theorem arrI_get {xs : List Int} {i : Nat} (h : i < xs.length) : (arrC xs)[i]? = some (.int .i64 xs[i]) := by
  rw [arrC_get, List.getElem?_eq_getElem h]; rfl
/-- An array of integers. -/
theorem run_items_int {e : TypeId} (he : intI P e = true) (d : Nat) (xs ys : List Int) (w : World) : ∀ is : List Nat, (∀ i ∈ is, i < xs.length ∧ i < ys.length) →
    (Op.eqItems (d + 1) e 1 (arrC xs) (arrC ys) is).run P w = .ok (is.all fun i => xs.getD i 0 == ys.getD i 0) w
  | [], _ => by simp [Op.eqItems]
  | i :: is, h => by
    obtain ⟨h1, h2⟩ := h i List.mem_cons_self
    have ih := run_items_int he d xs ys w is (fun j hj => h j (List.mem_cons_of_mem _ hj))
    have g1 : xs.getD i 0 = xs[i] := by simp [List.getD, List.getElem?_eq_getElem h1]
    have g2 : ys.getD i 0 = ys[i] := by simp [List.getD, List.getElem?_eq_getElem h2]
    simp only [Op.eqItems, Sem.run_bind, Nat.mul_one, run_part_int he (arrI_get h1), run_part_int he (arrI_get h2), Result.andThen_ok, run_equal_int he, List.all_cons, g1, g2]
    by_cases hh : xs[i] = ys[i]
    · simp [hh, ih]
    · simp [hh]
theorem list_all_eq {xs ys : List Int} {n : Nat} (hx : xs.length = n) (hy : ys.length = n) : ((List.range n).all fun i => xs.getD i 0 == ys.getD i 0) = (xs == ys) := by
  rw [Bool.eq_iff_iff, List.all_eq_true, beq_iff_eq]
  constructor
  · intro h
    apply List.ext_getElem (by omega)
    intro i h1 h2
    have := h i (List.mem_range.2 (by omega))
    simpa [List.getD, List.getElem?_eq_getElem h1, List.getElem?_eq_getElem h2] using this
  · rintro rfl i _; simp
theorem eqI_array {t e : TypeId} {n : Nat} (hu : P.underlying t = some (.array n e)) (he : intI P e = true) (hs : tyB P e false 1 = true) (hc : P.cellsOf e = 1) {i : TypeInfo} (hi : P.info? e = some i) : EqI P t n := fun d xs ys w hx hy => by
  have h1 := run_equalIn_array (P := P) (w := w) (d + 3) (arrC xs) (arrC ys) hu hi
  show (Op.equalIn (d + 3 + 1) t (.agg (arrC xs)) (.agg (arrC ys))).run P w = _
  rw [h1, hc, run_items_int he (d + 2) xs ys w (List.range n) (fun j hj => by rw [List.mem_range] at hj; omega), list_all_eq hx hy]
end
theorem eqI38 : EqI Tryd.prog 38 8 := by
  cases hi : Tryd.prog.info? 3 with
  | none => exact absurd hi (by decide +kernel)
  | some i => exact eqI_array Tryd.underlying38 (by kernel_rfl) ty3 (by kernel_rfl) hi
section
variable {P : Program}
theorem run_part_agg {t : TypeId} {n : Nat} (ht : tyB P t true n = true) {xs : List Int} {o : Nat} (w : World) : (part t (arrC xs) o).run P w = .ok (arr ((xs.drop o).take n)) w := by
  simp only [part, Sem.run_bind, tyB_isAgg ht, Result.andThen_ok, if_true, tyB_size ht, Sem.run_pure, arrC_extract]
  rfl
/-- Fields that hold integers, or arrays and structs of integers: where each lies. -/
inductive FldsI (P : Program) (N : Nat) : List Field → List (Nat × Nat) → Prop where
  | nil : FldsI P N [] []
  | int {f : Field} {fs : List Field} {sp : List (Nat × Nat)} (hn : f.name ≠ "_") (ht : intI P f.type = true) (ho : f.offset + 1 ≤ N) (h : FldsI P N fs sp) : FldsI P N (f :: fs) ((f.offset, 1) :: sp)
  | agg {f : Field} {fs : List Field} {sp : List (Nat × Nat)} {n : Nat} (hn : f.name ≠ "_") (he : EqI P f.type n) (ht : tyB P f.type true n = true) (ho : f.offset + n ≤ N) (h : FldsI P N fs sp) : FldsI P N (f :: fs) ((f.offset, n) :: sp)
theorem run_fields_int {N : Nat} (d : Nat) {xs ys : List Int} (hx : xs.length = N) (hy : ys.length = N) (w : World) {fs : List Field} {sp : List (Nat × Nat)} (h : FldsI P N fs sp) :
    (Op.eqFields (d + 4) (arrC xs) (arrC ys) fs).run P w = .ok (sp.all fun s => (xs.drop s.1).take s.2 == (ys.drop s.1).take s.2) w := by
  induction h with
  | nil => simp [Op.eqFields]
  | @int f fs sp hn ht ho h ih =>
    have h1 : f.offset < xs.length := by omega
    have h2 : f.offset < ys.length := by omega
    have e1 : (xs.drop f.offset).take 1 = [xs[f.offset]] := by rw [List.drop_eq_getElem_cons h1]; rfl
    have e2 : (ys.drop f.offset).take 1 = [ys[f.offset]] := by rw [List.drop_eq_getElem_cons h2]; rfl
    simp only [Op.eqFields, hn, ne_eq, not_false_eq_true, if_true, Sem.run_bind, run_part_int ht (arrI_get h1), run_part_int ht (arrI_get h2), Result.andThen_ok, run_equal_int ht, List.all_cons, e1, e2]
    by_cases hh : xs[f.offset] = ys[f.offset]
    · simp [hh, ih]
    · simp [hh]
  | @agg f fs sp n hn he ht ho h ih =>
    have h3 := he d ((xs.drop f.offset).take n) ((ys.drop f.offset).take n) w (by simp; omega) (by simp; omega)
    simp only [Op.eqFields, hn, ne_eq, not_false_eq_true, if_true, Sem.run_bind, run_part_agg ht, Result.andThen_ok, h3, List.all_cons]
    by_cases hh : (xs.drop f.offset).take n = (ys.drop f.offset).take n
    · simp [hh, ih]
    · have hb : ((xs.drop f.offset).take n == (ys.drop f.offset).take n) = false := by simpa using hh
      simp [hb]
/-- Equality, one level up. -/
def EqI5 (P : Program) (t : TypeId) (n : Nat) : Prop := ∀ (d : Nat) (xs ys : List Int) (w : World), xs.length = n → ys.length = n → (Op.equalIn (d + 5) t (arr xs) (arr ys)).run P w = .ok (xs == ys) w
theorem EqI.up {t : TypeId} {n : Nat} (h : EqI P t n) : EqI5 P t n := fun d xs ys w hx hy => h (d + 1) xs ys w hx hy
theorem eqI_struct {t : TypeId} {n : Nat} {fs : List Field} {sp : List (Nat × Nat)} (hu : P.underlying t = some (.struct (P.fieldsOf t))) (hf : (P.fieldsOf t).toList = fs) (hp : P.stoodInHeld t = false) (h : FldsI P n fs sp)
    (hsp : ∀ xs ys : List Int, xs.length = n → ys.length = n → (sp.all fun s => (xs.drop s.1).take s.2 == (ys.drop s.1).take s.2) = (xs == ys)) : EqI5 P t n := fun d xs ys w hx hy => by
  show (Op.equalIn (d + 4 + 1) t (.agg (arrC xs)) (.agg (arrC ys))).run P w = _
  rw [run_equalIn_agg w (d + 4) t (arrC xs) (arrC ys) hu hp, hf, run_fields_int d hx hy w h, hsp xs ys hx hy]
theorem binv_agg_eql {t : TypeId} {n : Nat} (h : EqI5 P t n) (hg : P.eqGuardType P.depth t = false) {xs ys : List Int} (hx : xs.length = n) (hy : ys.length = n) : BinV P .eql t (arr xs) (arr ys) (.bool (xs == ys)) := fun x y w => by
  have h1 : (eqGuard .eql t x y (arr xs) (arr ys)).run P w = .ok () w := run_eqGuard_agg w .eql t x y _ _ hg
  have h2 : (binOp .eql t (arr xs) (arr ys)).run P w = _ := run_eql_struct w t _ _
  have h3 : (Op.equalIn 10000 t (.agg (arrC xs)) (.agg (arrC ys))).run P w = .ok (xs == ys) w := h 9995 xs ys w hx hy
  rw [Sem.run_bind, h1, Result.andThen_ok, h2, h3]; rfl
theorem binv_agg_neq {t : TypeId} {n : Nat} (h : EqI5 P t n) (hg : P.eqGuardType P.depth t = false) {xs ys : List Int} (hx : xs.length = n) (hy : ys.length = n) : BinV P .neq t (arr xs) (arr ys) (.bool (!(xs == ys))) := fun x y w => by
  have h1 : (eqGuard .neq t x y (arr xs) (arr ys)).run P w = .ok () w := run_eqGuard_agg w .neq t x y _ _ hg
  have h2 : (binOp .neq t (arr xs) (arr ys)).run P w = _ := run_neq_struct w t _ _
  have h3 : (Op.equalIn 10000 t (.agg (arrC xs)) (.agg (arrC ys))).run P w = .ok (xs == ys) w := h 9995 xs ys w hx hy
  rw [Sem.run_bind, h1, Result.andThen_ok, h2, h3]; rfl
end
end Go.Proofs.YtkncbggnaobgeaaDoor
