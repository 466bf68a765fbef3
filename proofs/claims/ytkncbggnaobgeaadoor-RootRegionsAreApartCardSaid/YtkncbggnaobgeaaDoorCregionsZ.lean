/- RootRegionsAreApart: for every input, the law returns true and its arguments read behind the call as they did. No condition but the given card's own. -/
import Derived.Test.YtkncbggnaobgeaaDoorGg
import Derived.Test.YtkncbggnaobgeaaDoorGk
import Derived.Test.YtkncbggnaobgeaaDoorGl
import Derived.Test.YtkncbggnaobgeaaDoorTie
import Derived.Test.YtkncbggnaobgeaaDoorCards

/- RootRegionsAreApart: for every input, the law returns true and its arguments read behind the call as they did. No condition but the given card's own. -/
namespace Go.Proofs.YtkncbggnaobgeaaDoor
open Go.ChangeShapes Go.WideShapes Go.ChangeAt Go.WideMaps Go.WideElems Go.RowKit
set_option linter.unusedVariables false
set_option maxRecDepth 100000

theorem regions_met (os : Os) (args : Array Value) : laidMetH Tryd.prog Rows.rootRegionsAreApartRow.laid ((World.doorLaid Tryd.prog 31 os).forCall (fun _ _ => 0) ⟨#[], args, []⟩).memory :=
  laidMetH_of_parts3 (fuel := 8) (laidMet_of_run' 8 (by kernel_rfl) (by kernel_rfl)) (by kernel_rfl) (by kernel_rfl)

set_option maxRecDepth 100000 in
theorem regions_lifted (os : Os) (started : os.Started) (H : Type) (enc : TypeId × Value → H) :
    ReturnsInHanded {} Tryd.checked os 13 .any (fun w args => (Rows.rootRegionsAreApartSpec.pre enc Tryd.prog Tryd.f13 [] false w args ∧ laidMetH Tryd.prog Rows.rootRegionsAreApartRow.laid w) ∧ sizedMet enc Tryd.prog Tryd.f13 (OpenSpec.ofChange Rows.rootRegionsAreApartSpec) false w args)
      (Rows.rootRegionsAreApartSpec.post enc Tryd.prog Tryd.f13 false true false false) := by
  refine returnsInHanded_of_change_and (C := Tryd.checked) (X := fun w _ => laidMetH Tryd.prog Rows.rootRegionsAreApartRow.laid w) (fun _ _ _ hh h => h.of_heap hh) own started (by kernel_rfl) Tryd.func13
    (ChangeSpec.witness_shaped (enc := enc) (C := Tryd.checked) (os := os) (X := fun w _ => laidMetH Tryd.prog Rows.rootRegionsAreApartRow.laid w) false (World.doorLaid Tryd.prog 31 os) #[.int .u16 0] 8 rfl (World.shaped_of_RefB (by kernel_rfl) (by kernel_rfl)) (by kernel_rfl) (by kernel_rfl) (by kernel_rfl) (regions_met os _)) ?_
  intro W base args ds gs before hval0 hW _ _ hL _
  have hval : ∀ (j : Nat) t v, Tryd.f13.params[j]? = some t → args[j]? = some v → Value.okWide Tryd.prog W .any base t v := hval0
  have hW' := hW
  obtain ⟨p, q, hA0, hV, _, _, _⟩ := hW
  have hA : DataW.TrodAll enc Tryd.prog W 0 (fun _ => true) true Tryd.f13.params.toList args.toList ds p := hA0
  rw [Tryd.params13] at hA hval
  obtain ⟨v0, vs0, d0, ds0, p0, q0, hargs, rfl, rfl, h0, r0⟩ := trodAll_cons hA
  obtain ⟨rfl, rfl, rfl⟩ := trodAll_nil r0
  obtain rfl : args = #[v0] := by cases args; simp_all
  obtain ⟨rfl, rfl⟩ := trodVars_none hV
  rw [MakeChecks.laidMetH_plain _ _ _ (by kernel_rfl)] at hL
  have hG := GG.laid hL (by unfold Rows.rootRegionsAreApartRow; simp) (by unfold Rows.rootRegionsAreApartRow; simp) (by unfold Rows.rootRegionsAreApartRow; simp)
  obtain ⟨n, rfl, rfl, rfl, w0⟩ := open_int Tryd.underlying67 (hval 0 67 v0 rfl rfl) h0
  refine (regions_any n (wf_u16 w0) W hG).mono fun e W' ⟨he, st⟩ => ?_
  subst he
  exact ⟨_, rfl, post_law laidOut Tryd.underlying4 rfl rfl rfl (by kernel_rfl) hW' st⟩

theorem regions_j9 : (Rows.rootRegionsAreApartRow.inPlace == Tryd.prog.inPlace 13) = true := by kernel_rfl
theorem regions_j10 : (Rows.rootRegionsAreApartRow.unfollowed == Tryd.prog.unfollowed 13) = true := by kernel_rfl
theorem regions_j11 : (Rows.rootRegionsAreApartRow.recurses == Tryd.prog.recurses 13) = true := by kernel_rfl
theorem regions_j12 : (Rows.rootRegionsAreApartRow.named == Tryd.prog.varsNamed 13) = true := by kernel_rfl
theorem regions_joined : joinedFacts Tryd.prog 13 Tryd.f13 Rows.rootRegionsAreApartSpec Rows.rootRegionsAreApartRow = true :=
  joined_mk _ _ _ _ _ (by kernel_rfl) k_laid k_maps (by kernel_rfl) (by kernel_rfl) (by kernel_rfl) k_stops (by kernel_rfl) k_knobs regions_j9 regions_j10 regions_j11 regions_j12
    (by kernel_rfl) (by kernel_rfl) (by kernel_rfl) (by kernel_rfl) (by kernel_rfl) (by kernel_rfl) (by kernel_rfl) (by kernel_rfl) (by kernel_rfl) (by rw [k_keys]; rfl) (by kernel_rfl) k_heard head_may (by rw [head_final]; rfl) (by rw [head_make]; rfl)
    (by kernel_rfl) (by kernel_rfl) (by kernel_rfl) (by kernel_rfl)
theorem regions_name : Tryd.prog.funcNamed "alum/alumlaw08.RootRegionsAreApart" = some 13 := by kernel_rfl
theorem regions_row : Rows.RootRegionsAreApartSaid :=
  OpenClaim.holds_of_wide 13 Tryd.f13 rfl rfl rfl rfl rfl rfl rfl ⟨rfl, rfl, rfl, rfl, rfl⟩ rfl rfl rfl rfl rfl regions_name Tryd.func13 regions_joined
    (of_decide_eq_true (by kernel_rfl)) (by unfold Func.isWrapper; first | (rw [if_pos (by decide +kernel)]; kernel_rfl) | (rw [if_neg (by decide +kernel)]; exact ⟨rfl, rfl⟩))
    (fun os started H enc _ => regions_lifted os started H enc)

theorem regions_goes : false = Rows.rootRegionsAreApartRow.goesBy Tryd.prog := by kernel_rfl
theorem regions_stand : ([67].all fun u => !Tryd.prog.wantsStandIn u) = true := by kernel_rfl
theorem rootRegionsAreApart_holds : Rows.RootRegionsAreApartCardSaid :=
  Claim7.holds_tied_plain_at .later [] [.data, .data, .data, .data] true (true, "dad86e10c0c9875098f14639457c7da96153bc51d07db14731d5f5938e8d4e47") false
    regions_row (fun _ h => by cases h) (by kernel_rfl) (fun _ h => by cases h) rootRegionsAreApart_row_tie rfl ⟨rfl, rfl⟩ head_main rfl
    (fun f fn hf hfn => by
      obtain rfl : f = 13 := Option.some.inj (regions_name.symm.trans hf) |>.symm
      obtain rfl : fn = Tryd.f13 := (Option.some.inj (Tryd.func13.symm.trans hfn)).symm
      exact ⟨k_looks, fun j t ht => by
        rw [Tryd.params13] at ht
        have hm : t ∈ [67] := by simpa using Array.mem_of_getElem? ht
        exact (show Tryd.prog.wantsStandIn t = false by simpa using List.all_eq_true.1 regions_stand t hm)⟩)
    regions_goes
#print axioms rootRegionsAreApart_holds
end Go.Proofs.YtkncbggnaobgeaaDoor
