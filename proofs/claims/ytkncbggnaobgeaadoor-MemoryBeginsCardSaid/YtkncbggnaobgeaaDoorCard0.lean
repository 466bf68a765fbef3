/- What the laid variables give the walks; images among a law's arguments. -/
import Derived.Test.YtkncbggnaobgeaaDoorRows
import Derived.Test.YtkncbggnaobgeaaDoorApi2
import Derived.Test.YtkncbggnaobgeaaDoorOpen
namespace Go.Proofs.YtkncbggnaobgeaaDoor
open Go.ChangeShapes Go.WideShapes Go.ChangeAt Go.WideMaps Go.WideElems Go.RowKit
set_option linter.unusedVariables false
set_option linter.unusedSimpArgs false
set_option linter.unusedSectionVars false
set_option maxRecDepth 100000

theorem laid_get {P : Program} {w : World} : ∀ {laid : List (String × DataW Unit)} {ps : List MemPlace}, DataW.LaidVars P w laid ps → ∀ {n : String} {d : DataW Unit}, (n, d) ∈ laid →
    ∃ g t cs fuel p, P.globalNamed n = some g ∧ (P.globals[g]?).map (·.type) = some t ∧ w.var? P n = some cs ∧ DataW.trod (fun _ => ()) P w 0 (fun _ => true) false fuel t cs.toList = some (d, p)
  | [], _, _, _, _, hm => by cases hm
  | (n0, d0) :: r, ps, h, n, d, hm => by
    obtain ⟨g, t, cs, fuel, p, q, h1, h2, h3, h4, h5, _⟩ := h
    rcases List.mem_cons.1 hm with he | hm
    · cases he
      exact ⟨g, t, cs, fuel, p, h1, h2, h3, h4⟩
    · exact laid_get h5 hm
/-- A table of integers among the laid variables: its block's cells. -/
theorem laid_ints {P : Program} {w : World} {laid : List (String × DataW Unit)} (h : laidMet P laid w) {n : String} {d : DataW Unit} (hm : (n, d) ∈ laid) {g : Nat} {t : TypeId} {k : IntKind} {f : Nat} (hg : P.globalNamed n = some g) (ht : (P.globals[g]?).map (·.type) = some t) (hl : leafB P k f t = true) :
    ∃ t' fr, w.heap[g]? = some (.cells ((flatZ f d).map (Value.int k)).toArray t' fr) := by
  obtain ⟨ps, hv, _⟩ := h
  obtain ⟨g', t', cs, fuel, p, h1, h2, h3, h4⟩ := laid_get hv hm
  obtain rfl := Option.some.inj (hg.symm.trans h1)
  obtain rfl := Option.some.inj (ht.symm.trans h2)
  obtain ⟨e1, _⟩ := leaf_open f t hl h4
  simp only at e1
  simp only [World.var?, hg, Option.bind_some] at h3
  split at h3
  · rename_i c ty fr hc
    cases h3
    refine ⟨ty, fr, ?_⟩
    rw [hc]
    have : cs = ((flatZ f d).map (Value.int k)).toArray := by rw [← e1]
    rw [this]
  · cases h3
theorem laidOut : laidOutB Tryd.prog = true := by kernel_rfl
theorem own : ownKnob Tryd.prog.godebug = none := by kernel_rfl
theorem g64 : Tryd.prog.globalNamed "math/bits.deBruijn64tab" = some 3 := by kernel_rfl
theorem L64.laid {w : World} {laid : List (String × DataW Unit)} (h : laidMet Tryd.prog laid w) (hm : ("math/bits.deBruijn64tab", Rows.laid_math_bits_deBruijn64tab) ∈ laid) : L64 w := by
  obtain ⟨t', fr, hb⟩ := laid_ints (k := .u8) (f := 2) (t := (Tryd.prog.globals[3]?.map (·.type)).getD 0) h hm g64 (by kernel_rfl) (by kernel_rfl)
  exact ⟨t', fr, hb.trans (by kernel_rfl)⟩
/-- Images. -/
theorem imgs_open {H : Type} {enc : TypeId × Value → H} {w : World} {base b0 : Nat} {spare : Nat → Bool} {held : Bool} {r : Reach} {v : Value} {d : DataW H} {ps : List MemPlace} (hval : Value.okWide Tryd.prog w r b0 23 v) (h : DataW.Trod enc Tryd.prog w base spare held 23 v d ps) :
    ∃ A cap imgs, v = .slice A (List.length imgs) cap ∧ (∀ x ∈ imgs, x.1.length = 8) ∧ ImgIn w A imgs := by
  obtain ⟨A, len, cap, Y, rfl, _, _, hY, hc⟩ := open_slc Tryd.underlying23 (s := 9) (by kernel_rfl) (by omega) hval h
  obtain ⟨rows, hlen, hr, hYr⟩ := rows_of (f := 3) (by kernel_rfl) hY
  have hin := rows_in (by omega) hlen (fun r hr' => (hr r hr').1) hYr hc
  refine ⟨A, cap, rows.map fun r => (r.take 8, r.getD 8 0), by rw [List.length_map, hlen], ?_, ?_⟩
  · intro x hx
    obtain ⟨r, hr', rfl⟩ := List.mem_map.1 hx
    simp [(hr r hr').1]
  · have hflat : flatI (rows.map fun r => (r.take 8, r.getD 8 0)) = rows.flatten := by
      unfold flatI
      rw [List.flatMap_map, ← List.flatMap_id, List.flatMap_def, List.flatMap_def]
      congr 1
      refine List.map_congr_left fun r hr' => ?_
      have h9 := (hr r hr').1
      match r, h9 with
      | [_, _, _, _, _, _, _, _, _], _ => rfl
    rcases hin with h | ⟨b, o, cs, t, fr, h1, h2, h3⟩
    · left
      have : rows = [] := by
        cases rows with
        | nil => rfl
        | cons r rs =>
          have h9 := (hr r List.mem_cons_self).1
          rw [List.flatten_cons, List.append_eq_nil_iff] at h
          rw [h.1] at h9; simp at h9
      rw [this]; rfl
    · exact .inr ⟨b, o, cs, t, fr, h1, h2, fun j u hj => h3 j u (by rw [← hflat]; exact hj)⟩
end Go.Proofs.YtkncbggnaobgeaaDoor
