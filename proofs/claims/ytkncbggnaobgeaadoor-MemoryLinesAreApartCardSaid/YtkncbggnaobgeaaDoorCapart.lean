/- MemoryLinesAreApart: for every script and two calls, the law returns true and its arguments read behind the call as they did. No condition but the given card's own. -/
import Derived.Test.YtkncbggnaobgeaaDoorGg
import Derived.Test.YtkncbggnaobgeaaDoorGh
import Derived.Test.YtkncbggnaobgeaaDoorLaw9
import Derived.Test.YtkncbggnaobgeaaDoorTie
import Derived.Test.YtkncbggnaobgeaaDoorCards
namespace Go.Proofs.YtkncbggnaobgeaaDoor
open Go.ChangeShapes Go.WideShapes Go.ChangeAt Go.WideMaps Go.WideElems Go.RowKit
set_option linter.unusedVariables false
set_option maxRecDepth 100000

theorem apart_met (os : Os) (args : Array Value) : laidMetH Tryd.prog Rows.memoryLinesAreApartRow.laid ((World.doorLaid Tryd.prog 31 os).forCall (fun _ _ => 0) ⟨#[], args, []⟩).memory :=
  laidMetH_of_parts3 (fuel := 8) (laidMet_of_run' 8 (by kernel_rfl) (by kernel_rfl)) (by kernel_rfl) (by kernel_rfl)

set_option maxRecDepth 100000 in
theorem apart_lifted (os : Os) (started : os.Started) (H : Type) (enc : TypeId × Value → H) :
    ReturnsInHanded {} Tryd.checked os 7 .any (fun w args => (Rows.memoryLinesAreApartSpec.pre enc Tryd.prog Tryd.f7 [] false w args ∧ laidMetH Tryd.prog Rows.memoryLinesAreApartRow.laid w) ∧ sizedMet enc Tryd.prog Tryd.f7 (OpenSpec.ofChange Rows.memoryLinesAreApartSpec) false w args)
      (Rows.memoryLinesAreApartSpec.post enc Tryd.prog Tryd.f7 false true false false) := by
  refine returnsInHanded_of_change_and (C := Tryd.checked) (X := fun w _ => laidMetH Tryd.prog Rows.memoryLinesAreApartRow.laid w) (fun _ _ _ hh h => h.of_heap hh) own started (by kernel_rfl) Tryd.func7
    (ChangeSpec.witness_shaped (enc := enc) (C := Tryd.checked) (os := os) (X := fun w _ => laidMetH Tryd.prog Rows.memoryLinesAreApartRow.laid w) false (World.doorLaid Tryd.prog 31 os) #[.int .i64 0, .slice none 0 0, .agg #[.int .i64 0, .int .i64 0, .int .i64 0, .int .i64 0, .int .i64 0, .int .i64 0, .int .i64 0, .int .i64 0, .int .i64 0, .int .i64 0, .int .i64 0, .slice none 0 0], .agg #[.int .i64 0, .int .i64 0, .int .i64 0, .int .i64 0, .int .i64 0, .int .i64 0, .int .i64 0, .int .i64 0, .int .i64 0, .int .i64 0, .int .i64 0, .slice none 0 0]] 8 rfl (World.shaped_of_RefB (by kernel_rfl) (by kernel_rfl)) (by kernel_rfl) (by kernel_rfl) (by kernel_rfl) (apart_met os _)) ?_
  intro W base args ds gs before hval0 hW _ _ hL _
  have hval : ∀ (j : Nat) t v, Tryd.f7.params[j]? = some t → args[j]? = some v → Value.okWide Tryd.prog W .any base t v := hval0
  have hW' := hW
  obtain ⟨p, q, hA0, hV, _, _, _⟩ := hW
  have hA : DataW.TrodAll enc Tryd.prog W 0 (fun _ => true) true Tryd.f7.params.toList args.toList ds p := hA0
  rw [Tryd.params7] at hA hval
  obtain ⟨v0, vs0, d0, ds0, p0, q0, hargs, rfl, rfl, h0, r0⟩ := trodAll_cons hA
  obtain ⟨v1, vs1, d1, ds1, p1, q1, rfl, rfl, rfl, h1, r1⟩ := trodAll_cons r0
  obtain ⟨v2, vs2, d2, ds2, p2, q2, rfl, rfl, rfl, h2, r2⟩ := trodAll_cons r1
  obtain ⟨v3, vs3, d3, ds3, p3, q3, rfl, rfl, rfl, h3, r3⟩ := trodAll_cons r2
  obtain ⟨rfl, rfl, rfl⟩ := trodAll_nil r3
  obtain rfl : args = #[v0, v1, v2, v3] := by cases args; simp_all
  obtain ⟨rfl, rfl⟩ := trodVars_none hV
  rw [MakeChecks.laidMetH_plain _ _ _ (by kernel_rfl)] at hL
  have hL64 := L64.laid hL (by unfold Rows.memoryLinesAreApartRow; simp)
  obtain ⟨n, rfl, rfl, rfl, w0⟩ := open_int Tryd.underlying3 (hval 0 3 v0 rfl rfl) h0
  obtain ⟨A1, cap1, xs1, rfl, hm1, hx1, hok1⟩ := ops_open (hval 1 35 v1 rfl rfl) h1
  obtain ⟨x, rfl, hox⟩ := op_open (hval 2 60 v2 rfl rfl) h2
  obtain ⟨y, rfl, hoy⟩ := op_open (hval 3 60 v3 rfl rfl) h3
  refine (apart_any W hL64 n A1 xs1.length cap1 xs1 rfl hm1 hx1 hok1 x y hox hoy).mono fun e W' ⟨he, st⟩ => ?_
  subst he
  exact ⟨_, rfl, post_law laidOut Tryd.underlying4 rfl rfl rfl (by kernel_rfl) hW' st⟩

theorem apart_j9 : (Rows.memoryLinesAreApartRow.inPlace == Tryd.prog.inPlace 7) = true := by kernel_rfl
theorem apart_j10 : (Rows.memoryLinesAreApartRow.unfollowed == Tryd.prog.unfollowed 7) = true := by kernel_rfl
theorem apart_j11 : (Rows.memoryLinesAreApartRow.recurses == Tryd.prog.recurses 7) = true := by kernel_rfl
theorem apart_j12 : (Rows.memoryLinesAreApartRow.named == Tryd.prog.varsNamed 7) = true := by kernel_rfl
theorem apart_joined : joinedFacts Tryd.prog 7 Tryd.f7 Rows.memoryLinesAreApartSpec Rows.memoryLinesAreApartRow = true :=
  joined_mk _ _ _ _ _ (by kernel_rfl) k_laid k_maps (by kernel_rfl) (by kernel_rfl) (by kernel_rfl) k_stops (by kernel_rfl) k_knobs apart_j9 apart_j10 apart_j11 apart_j12
    (by kernel_rfl) (by kernel_rfl) (by kernel_rfl) (by kernel_rfl) (by kernel_rfl) (by kernel_rfl) (by kernel_rfl) (by kernel_rfl) (by kernel_rfl) (by rw [k_keys]; rfl) (by kernel_rfl) k_heard head_may (by rw [head_final]; rfl) (by rw [head_make]; rfl)
    (by kernel_rfl) (by kernel_rfl) (by kernel_rfl) (by kernel_rfl)
theorem apart_name : Tryd.prog.funcNamed "alum/alumlaw04.MemoryLinesAreApart" = some 7 := by kernel_rfl
theorem apart_row : Rows.MemoryLinesAreApartSaid :=
  OpenClaim.holds_of_wide 7 Tryd.f7 rfl rfl rfl rfl rfl rfl rfl ⟨rfl, rfl, rfl, rfl, rfl⟩ rfl rfl rfl rfl rfl apart_name Tryd.func7 apart_joined
    (of_decide_eq_true (by kernel_rfl)) (by unfold Func.isWrapper; first | (rw [if_pos (by decide +kernel)]; kernel_rfl) | (rw [if_neg (by decide +kernel)]; exact ⟨rfl, rfl⟩))
    (fun os started H enc _ => apart_lifted os started H enc)

theorem apart_goes : false = Rows.memoryLinesAreApartRow.goesBy Tryd.prog := by kernel_rfl
theorem apart_stand : ([3, 35, 60, 60].all fun u => !Tryd.prog.wantsStandIn u) = true := by kernel_rfl
theorem memoryLinesAreApart_holds : Rows.MemoryLinesAreApartCardSaid :=
  Claim7.holds_tied_plain_at .later [] [.data, .data] true (true, "dad86e10c0c9875098f14639457c7da96153bc51d07db14731d5f5938e8d4e47") false
    apart_row (fun _ h => by cases h) (by kernel_rfl) (fun _ h => by cases h) memoryLinesAreApart_row_tie rfl ⟨rfl, rfl⟩ head_main rfl
    (fun f fn hf hfn => by
      obtain rfl : f = 7 := Option.some.inj (apart_name.symm.trans hf) |>.symm
      obtain rfl : fn = Tryd.f7 := (Option.some.inj (Tryd.func7.symm.trans hfn)).symm
      exact ⟨k_looks, fun j t ht => by
        rw [Tryd.params7] at ht
        have hm : t ∈ [3, 35, 60, 60] := by simpa using Array.mem_of_getElem? ht
        exact (show Tryd.prog.wantsStandIn t = false by simpa using List.all_eq_true.1 apart_stand t hm)⟩)
    apart_goes
#print axioms memoryLinesAreApart_holds
end Go.Proofs.YtkncbggnaobgeaaDoor
