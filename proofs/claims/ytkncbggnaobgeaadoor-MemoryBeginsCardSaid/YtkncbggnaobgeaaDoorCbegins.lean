/- MemoryBegins: for every number of lines and every image, the law returns true and its arguments read behind the call as they did. No condition but the given card's own. -/
import Derived.Test.YtkncbggnaobgeaaDoorCard0
import Derived.Test.YtkncbggnaobgeaaDoorRowk
import Derived.Test.YtkncbggnaobgeaaDoorLaw3
import Derived.Test.YtkncbggnaobgeaaDoorTie
import Derived.Test.YtkncbggnaobgeaaDoorCards
namespace Go.Proofs.YtkncbggnaobgeaaDoor
open Go.ChangeShapes Go.WideShapes Go.ChangeAt Go.WideMaps Go.WideElems Go.RowKit
set_option linter.unusedVariables false
set_option maxRecDepth 100000

theorem begins_met (os : Os) (args : Array Value) : laidMetH Tryd.prog Rows.memoryBeginsRow.laid ((World.doorLaid Tryd.prog 31 os).forCall (fun _ _ => 0) ⟨#[], args, []⟩).memory :=
  laidMetH_of_parts3 (fuel := 8) (laidMet_of_run' 8 (by kernel_rfl) (by kernel_rfl)) (by kernel_rfl) (by kernel_rfl)

set_option maxRecDepth 100000 in
theorem begins_lifted (os : Os) (started : os.Started) (H : Type) (enc : TypeId × Value → H) :
    ReturnsInHanded {} Tryd.checked os 3 .any (fun w args => (Rows.memoryBeginsSpec.pre enc Tryd.prog Tryd.f3 [] false w args ∧ laidMetH Tryd.prog Rows.memoryBeginsRow.laid w) ∧ sizedMet enc Tryd.prog Tryd.f3 (OpenSpec.ofChange Rows.memoryBeginsSpec) false w args)
      (Rows.memoryBeginsSpec.post enc Tryd.prog Tryd.f3 false true false false) := by
  refine returnsInHanded_of_change_and (C := Tryd.checked) (X := fun w _ => laidMetH Tryd.prog Rows.memoryBeginsRow.laid w) (fun _ _ _ hh h => h.of_heap hh) own started (by kernel_rfl) Tryd.func3
    (ChangeSpec.witness_shaped (enc := enc) (C := Tryd.checked) (os := os) (X := fun w _ => laidMetH Tryd.prog Rows.memoryBeginsRow.laid w) false (World.doorLaid Tryd.prog 31 os) #[.int .i64 0, .slice none 0 0] 8 rfl (World.shaped_of_RefB (by kernel_rfl) (by kernel_rfl)) (by kernel_rfl) (by kernel_rfl) (by kernel_rfl) (begins_met os _)) ?_
  intro W base args ds gs before hval0 hW _ _ hL _
  have hval : ∀ (j : Nat) t v, Tryd.f3.params[j]? = some t → args[j]? = some v → Value.okWide Tryd.prog W .any base t v := hval0
  have hW' := hW
  obtain ⟨p, q, hA0, hV, _, _, _⟩ := hW
  have hA : DataW.TrodAll enc Tryd.prog W 0 (fun _ => true) true Tryd.f3.params.toList args.toList ds p := hA0
  rw [Tryd.params3] at hA hval
  obtain ⟨v0, vs0, d0, ds0, p0, q0, hargs, rfl, rfl, h0, r0⟩ := trodAll_cons hA
  obtain ⟨v1, vs1, d1, ds1, p1, q1, rfl, rfl, rfl, h1, r1⟩ := trodAll_cons r0
  obtain ⟨rfl, rfl, rfl⟩ := trodAll_nil r1
  obtain rfl : args = #[v0, v1] := by cases args; simp_all
  obtain ⟨rfl, rfl⟩ := trodVars_none hV
  rw [MakeChecks.laidMetH_plain _ _ _ (by kernel_rfl)] at hL
  have hL64 := L64.laid hL (by unfold Rows.memoryBeginsRow; simp)
  obtain ⟨n, rfl, rfl, rfl, w0⟩ := open_int Tryd.underlying3 (hval 0 3 v0 rfl rfl) h0
  obtain ⟨A, cap, imgs, rfl, h8, himg⟩ := imgs_open (hval 1 23 v1 rfl rfl) h1
  refine (begins_any n A imgs.length cap imgs rfl h8 W hL64 (fun _ => himg)).mono fun e W' ⟨he, st⟩ => ?_
  subst he
  exact ⟨_, rfl, post_law laidOut Tryd.underlying4 rfl rfl rfl (by kernel_rfl) hW' st⟩

theorem begins_j9 : (Rows.memoryBeginsRow.inPlace == Tryd.prog.inPlace 3) = true := by kernel_rfl
theorem begins_j10 : (Rows.memoryBeginsRow.unfollowed == Tryd.prog.unfollowed 3) = true := by kernel_rfl
theorem begins_j11 : (Rows.memoryBeginsRow.recurses == Tryd.prog.recurses 3) = true := by kernel_rfl
theorem begins_j12 : (Rows.memoryBeginsRow.named == Tryd.prog.varsNamed 3) = true := by kernel_rfl
theorem begins_joined : joinedFacts Tryd.prog 3 Tryd.f3 Rows.memoryBeginsSpec Rows.memoryBeginsRow = true :=
  joined_mk _ _ _ _ _ (by kernel_rfl) k_laid k_maps (by kernel_rfl) (by kernel_rfl) (by kernel_rfl) k_stops (by kernel_rfl) k_knobs begins_j9 begins_j10 begins_j11 begins_j12
    (by kernel_rfl) (by kernel_rfl) (by kernel_rfl) (by kernel_rfl) (by kernel_rfl) (by kernel_rfl) (by kernel_rfl) (by kernel_rfl) (by kernel_rfl) (by rw [k_keys]; rfl) (by kernel_rfl) k_heard head_may (by rw [head_final]; rfl) (by rw [head_make]; rfl)
    (by kernel_rfl) (by kernel_rfl) (by kernel_rfl) (by kernel_rfl)
theorem begins_name : Tryd.prog.funcNamed "alum/alumlaw04.MemoryBegins" = some 3 := by kernel_rfl
theorem begins_row : Rows.MemoryBeginsSaid :=
  OpenClaim.holds_of_wide 3 Tryd.f3 rfl rfl rfl rfl rfl rfl rfl ⟨rfl, rfl, rfl, rfl, rfl⟩ rfl rfl rfl rfl rfl begins_name Tryd.func3 begins_joined
    (of_decide_eq_true (by kernel_rfl)) (by unfold Func.isWrapper; first | (rw [if_pos (by decide +kernel)]; kernel_rfl) | (rw [if_neg (by decide +kernel)]; exact ⟨rfl, rfl⟩))
    (fun os started H enc _ => begins_lifted os started H enc)

theorem begins_goes : false = Rows.memoryBeginsRow.goesBy Tryd.prog := by kernel_rfl
theorem begins_stand : ([3, 23].all fun u => !Tryd.prog.wantsStandIn u) = true := by kernel_rfl
theorem memoryBegins_holds : Rows.MemoryBeginsCardSaid :=
  Claim7.holds_tied_plain_at .later [] [.data, .data] true (true, "dad86e10c0c9875098f14639457c7da96153bc51d07db14731d5f5938e8d4e47") false
    begins_row (fun _ h => by cases h) (by kernel_rfl) (fun _ h => by cases h) memoryBegins_row_tie rfl ⟨rfl, rfl⟩ head_main rfl
    (fun f fn hf hfn => by
      obtain rfl : f = 3 := Option.some.inj (begins_name.symm.trans hf) |>.symm
      obtain rfl : fn = Tryd.f3 := (Option.some.inj (Tryd.func3.symm.trans hfn)).symm
      exact ⟨k_looks, fun j t ht => by
        rw [Tryd.params3] at ht
        have hm : t ∈ [3, 23] := by simpa using Array.mem_of_getElem? ht
        exact (show Tryd.prog.wantsStandIn t = false by simpa using List.all_eq_true.1 begins_stand t hm)⟩)
    begins_goes
#print axioms memoryBegins_holds
end Go.Proofs.YtkncbggnaobgeaaDoor
