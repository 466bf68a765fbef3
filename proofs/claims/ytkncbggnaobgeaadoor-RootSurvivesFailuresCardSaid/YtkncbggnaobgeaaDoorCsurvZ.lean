/- RootSurvivesFailures: for every input, the law returns true and its arguments read behind the call as they did. No condition but the given card's own. -/
import Derived.Test.YtkncbggnaobgeaaDoorGg
import Derived.Test.YtkncbggnaobgeaaDoorGn
import Derived.Test.YtkncbggnaobgeaaDoorTie
import Derived.Test.YtkncbggnaobgeaaDoorCards

/- RootSurvivesFailures: for every input, the law returns true and its arguments read behind the call as they did. No condition but the given card's own. -/
namespace Go.Proofs.YtkncbggnaobgeaaDoor
open Go.ChangeShapes Go.WideShapes Go.ChangeAt Go.WideMaps Go.WideElems Go.RowKit
set_option linter.unusedVariables false
set_option maxRecDepth 100000

theorem surv_met (os : Os) (args : Array Value) : laidMetH Tryd.prog Rows.rootSurvivesFailuresRow.laid ((World.doorLaid Tryd.prog 31 os).forCall (fun _ _ => 0) ⟨#[], args, []⟩).memory :=
  laidMetH_of_parts3 (fuel := 8) (laidMet_of_run' 8 (by kernel_rfl) (by kernel_rfl)) (by kernel_rfl) (by kernel_rfl)

set_option maxRecDepth 100000 in
theorem surv_lifted (os : Os) (started : os.Started) (H : Type) (enc : TypeId × Value → H) :
    ReturnsInHanded {} Tryd.checked os 21 .any (fun w args => (Rows.rootSurvivesFailuresSpec.pre enc Tryd.prog Tryd.f21 [] false w args ∧ laidMetH Tryd.prog Rows.rootSurvivesFailuresRow.laid w) ∧ sizedMet enc Tryd.prog Tryd.f21 (OpenSpec.ofChange Rows.rootSurvivesFailuresSpec) false w args)
      (Rows.rootSurvivesFailuresSpec.post enc Tryd.prog Tryd.f21 false true false false) := by
  refine returnsInHanded_of_change_and (C := Tryd.checked) (X := fun w _ => laidMetH Tryd.prog Rows.rootSurvivesFailuresRow.laid w) (fun _ _ _ hh h => h.of_heap hh) own started (by kernel_rfl) Tryd.func21
    (ChangeSpec.witness_shaped (enc := enc) (C := Tryd.checked) (os := os) (X := fun w _ => laidMetH Tryd.prog Rows.rootSurvivesFailuresRow.laid w) false (World.doorLaid Tryd.prog 31 os) #[.agg #[.int .u8 0, .slice none 0 0, .slice none 0 0, .int .i64 0, .int .i64 0, .int .u16 0, .int .u16 0, .bool false]] 8 rfl (World.shaped_of_RefB (by kernel_rfl) (by kernel_rfl)) (by kernel_rfl) (by kernel_rfl) (by kernel_rfl) (surv_met os _)) ?_
  intro W base args ds gs before hval0 hW _ _ hL _
  have hval : ∀ (j : Nat) t v, Tryd.f21.params[j]? = some t → args[j]? = some v → Value.okWide Tryd.prog W .any base t v := hval0
  have hW' := hW
  obtain ⟨p, q, hA0, hV, _, _, _⟩ := hW
  have hA : DataW.TrodAll enc Tryd.prog W 0 (fun _ => true) true Tryd.f21.params.toList args.toList ds p := hA0
  rw [Tryd.params21] at hA hval
  obtain ⟨v0, vs0, d0, ds0, p0, q0, hargs, rfl, rfl, h0, r0⟩ := trodAll_cons hA
  obtain ⟨rfl, rfl, rfl⟩ := trodAll_nil r0
  obtain rfl : args = #[v0] := by cases args; simp_all
  obtain ⟨rfl, rfl⟩ := trodVars_none hV
  rw [MakeChecks.laidMetH_plain _ _ _ (by kernel_rfl)] at hL
  have hG := GG.laid hL (by unfold Rows.rootSurvivesFailuresRow; simp) (by unfold Rows.rootSurvivesFailuresRow; simp) (by unfold Rows.rootSurvivesFailuresRow; simp)
  obtain ⟨x, rfl, hx⟩ := wv_open (hval 0 70 v0 rfl rfl) h0
  refine (surv_any x W hx hG).mono fun e W' ⟨he, st⟩ => ?_
  subst he
  exact ⟨_, rfl, post_law laidOut Tryd.underlying4 rfl rfl rfl (by kernel_rfl) hW' st⟩

theorem surv_j9 : (Rows.rootSurvivesFailuresRow.inPlace == Tryd.prog.inPlace 21) = true := by kernel_rfl
theorem surv_j10 : (Rows.rootSurvivesFailuresRow.unfollowed == Tryd.prog.unfollowed 21) = true := by kernel_rfl
theorem surv_j11 : (Rows.rootSurvivesFailuresRow.recurses == Tryd.prog.recurses 21) = true := by kernel_rfl
theorem surv_j12 : (Rows.rootSurvivesFailuresRow.named == Tryd.prog.varsNamed 21) = true := by kernel_rfl
theorem surv_joined : joinedFacts Tryd.prog 21 Tryd.f21 Rows.rootSurvivesFailuresSpec Rows.rootSurvivesFailuresRow = true :=
  joined_mk _ _ _ _ _ (by kernel_rfl) k_laid k_maps (by kernel_rfl) (by kernel_rfl) (by kernel_rfl) k_stops (by kernel_rfl) k_knobs surv_j9 surv_j10 surv_j11 surv_j12
    (by kernel_rfl) (by kernel_rfl) (by kernel_rfl) (by kernel_rfl) (by kernel_rfl) (by kernel_rfl) (by kernel_rfl) (by kernel_rfl) (by kernel_rfl) (by rw [k_keys]; rfl) (by kernel_rfl) k_heard head_may (by rw [head_final]; rfl) (by rw [head_make]; rfl)
    (by kernel_rfl) (by kernel_rfl) (by kernel_rfl) (by kernel_rfl)
theorem surv_name : Tryd.prog.funcNamed "alum/alumlaw08.RootSurvivesFailures" = some 21 := by kernel_rfl
theorem surv_row : Rows.RootSurvivesFailuresSaid :=
  OpenClaim.holds_of_wide 21 Tryd.f21 rfl rfl rfl rfl rfl rfl rfl ⟨rfl, rfl, rfl, rfl, rfl⟩ rfl rfl rfl rfl rfl surv_name Tryd.func21 surv_joined
    (of_decide_eq_true (by kernel_rfl)) (by unfold Func.isWrapper; first | (rw [if_pos (by decide +kernel)]; kernel_rfl) | (rw [if_neg (by decide +kernel)]; exact ⟨rfl, rfl⟩))
    (fun os started H enc _ => surv_lifted os started H enc)

theorem surv_goes : false = Rows.rootSurvivesFailuresRow.goesBy Tryd.prog := by kernel_rfl
theorem surv_stand : ([70].all fun u => !Tryd.prog.wantsStandIn u) = true := by kernel_rfl
theorem rootSurvivesFailures_holds : Rows.RootSurvivesFailuresCardSaid :=
  Claim7.holds_tied_plain_at .later [] [.data, .data, .data, .data] true (true, "dad86e10c0c9875098f14639457c7da96153bc51d07db14731d5f5938e8d4e47") false
    surv_row (fun _ h => by cases h) (by kernel_rfl) (fun _ h => by cases h) rootSurvivesFailures_row_tie rfl ⟨rfl, rfl⟩ head_main rfl
    (fun f fn hf hfn => by
      obtain rfl : f = 21 := Option.some.inj (surv_name.symm.trans hf) |>.symm
      obtain rfl : fn = Tryd.f21 := (Option.some.inj (Tryd.func21.symm.trans hfn)).symm
      exact ⟨k_looks, fun j t ht => by
        rw [Tryd.params21] at ht
        have hm : t ∈ [70] := by simpa using Array.mem_of_getElem? ht
        exact (show Tryd.prog.wantsStandIn t = false by simpa using List.all_eq_true.1 surv_stand t hm)⟩)
    surv_goes
#print axioms rootSurvivesFailures_holds
end Go.Proofs.YtkncbggnaobgeaaDoor
