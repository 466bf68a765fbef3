/- RootWordsMatchSpec: for every input, the law returns true and its arguments read behind the call as they did. No condition but the given card's own. -/
import Derived.Test.YtkncbggnaobgeaaDoorGg
import Derived.Test.YtkncbggnaobgeaaDoorGk
import Derived.Test.YtkncbggnaobgeaaDoorGl
import Derived.Test.YtkncbggnaobgeaaDoorTie
import Derived.Test.YtkncbggnaobgeaaDoorCards

/- RootWordsMatchSpec: for every input, the law returns true and its arguments read behind the call as they did. No condition but the given card's own. -/
namespace Go.Proofs.YtkncbggnaobgeaaDoor
open Go.ChangeShapes Go.WideShapes Go.ChangeAt Go.WideMaps Go.WideElems Go.RowKit
set_option linter.unusedVariables false
set_option maxRecDepth 100000

theorem words_met (os : Os) (args : Array Value) : laidMetH Tryd.prog Rows.rootWordsMatchSpecRow.laid ((World.doorLaid Tryd.prog 31 os).forCall (fun _ _ => 0) ⟨#[], args, []⟩).memory :=
  laidMetH_of_parts3 (fuel := 8) (laidMet_of_run' 8 (by kernel_rfl) (by kernel_rfl)) (by kernel_rfl) (by kernel_rfl)

set_option maxRecDepth 100000 in
theorem words_lifted (os : Os) (started : os.Started) (H : Type) (enc : TypeId × Value → H) :
    ReturnsInHanded {} Tryd.checked os 14 .any (fun w args => (Rows.rootWordsMatchSpecSpec.pre enc Tryd.prog Tryd.f14 [] false w args ∧ laidMetH Tryd.prog Rows.rootWordsMatchSpecRow.laid w) ∧ sizedMet enc Tryd.prog Tryd.f14 (OpenSpec.ofChange Rows.rootWordsMatchSpecSpec) false w args)
      (Rows.rootWordsMatchSpecSpec.post enc Tryd.prog Tryd.f14 false true false false) := by
  refine returnsInHanded_of_change_and (C := Tryd.checked) (X := fun w _ => laidMetH Tryd.prog Rows.rootWordsMatchSpecRow.laid w) (fun _ _ _ hh h => h.of_heap hh) own started (by kernel_rfl) Tryd.func14
    (ChangeSpec.witness_shaped (enc := enc) (C := Tryd.checked) (os := os) (X := fun w _ => laidMetH Tryd.prog Rows.rootWordsMatchSpecRow.laid w) false (World.doorLaid Tryd.prog 31 os) #[.agg #[.int .i64 0, .int .i64 0, .int .i64 0, .int .i64 0]] 8 rfl (World.shaped_of_RefB (by kernel_rfl) (by kernel_rfl)) (by kernel_rfl) (by kernel_rfl) (by kernel_rfl) (words_met os _)) ?_
  intro W base args ds gs before hval0 hW _ _ hL _
  have hval : ∀ (j : Nat) t v, Tryd.f14.params[j]? = some t → args[j]? = some v → Value.okWide Tryd.prog W .any base t v := hval0
  have hW' := hW
  obtain ⟨p, q, hA0, hV, _, _, _⟩ := hW
  have hA : DataW.TrodAll enc Tryd.prog W 0 (fun _ => true) true Tryd.f14.params.toList args.toList ds p := hA0
  rw [Tryd.params14] at hA hval
  obtain ⟨v0, vs0, d0, ds0, p0, q0, hargs, rfl, rfl, h0, r0⟩ := trodAll_cons hA
  obtain ⟨rfl, rfl, rfl⟩ := trodAll_nil r0
  obtain rfl : args = #[v0] := by cases args; simp_all
  obtain ⟨rfl, rfl⟩ := trodVars_none hV
  rw [MakeChecks.laidMetH_plain _ _ _ (by kernel_rfl)] at hL
  have hG := GG.laid hL (by unfold Rows.rootWordsMatchSpecRow; simp) (by unfold Rows.rootWordsMatchSpecRow; simp) (by unfold Rows.rootWordsMatchSpecRow; simp)
  obtain ⟨r0, rfl, hr4⟩ := leafS_open Tryd.underlying77 (f := 2) (n := 4) (by kernel_rfl) (by kernel_rfl) (hval 0 77 v0 rfl rfl) h0
  obtain ⟨s, c, t, l, rfl⟩ := len4 hr4
  refine (wordsSpec_any s c t l W hG).mono fun e W' ⟨he, st⟩ => ?_
  subst he
  exact ⟨_, rfl, post_law laidOut Tryd.underlying4 rfl rfl rfl (by kernel_rfl) hW' st⟩

theorem words_j9 : (Rows.rootWordsMatchSpecRow.inPlace == Tryd.prog.inPlace 14) = true := by kernel_rfl
theorem words_j10 : (Rows.rootWordsMatchSpecRow.unfollowed == Tryd.prog.unfollowed 14) = true := by kernel_rfl
theorem words_j11 : (Rows.rootWordsMatchSpecRow.recurses == Tryd.prog.recurses 14) = true := by kernel_rfl
theorem words_j12 : (Rows.rootWordsMatchSpecRow.named == Tryd.prog.varsNamed 14) = true := by kernel_rfl
theorem words_joined : joinedFacts Tryd.prog 14 Tryd.f14 Rows.rootWordsMatchSpecSpec Rows.rootWordsMatchSpecRow = true :=
  joined_mk _ _ _ _ _ (by kernel_rfl) k_laid k_maps (by kernel_rfl) (by kernel_rfl) (by kernel_rfl) k_stops (by kernel_rfl) k_knobs words_j9 words_j10 words_j11 words_j12
    (by kernel_rfl) (by kernel_rfl) (by kernel_rfl) (by kernel_rfl) (by kernel_rfl) (by kernel_rfl) (by kernel_rfl) (by kernel_rfl) (by kernel_rfl) (by rw [k_keys]; rfl) (by kernel_rfl) k_heard head_may (by rw [head_final]; rfl) (by rw [head_make]; rfl)
    (by kernel_rfl) (by kernel_rfl) (by kernel_rfl) (by kernel_rfl)
theorem words_name : Tryd.prog.funcNamed "alum/alumlaw08.RootWordsMatchSpec" = some 14 := by kernel_rfl
theorem words_row : Rows.RootWordsMatchSpecSaid :=
  OpenClaim.holds_of_wide 14 Tryd.f14 rfl rfl rfl rfl rfl rfl rfl ⟨rfl, rfl, rfl, rfl, rfl⟩ rfl rfl rfl rfl rfl words_name Tryd.func14 words_joined
    (of_decide_eq_true (by kernel_rfl)) (by unfold Func.isWrapper; first | (rw [if_pos (by decide +kernel)]; kernel_rfl) | (rw [if_neg (by decide +kernel)]; exact ⟨rfl, rfl⟩))
    (fun os started H enc _ => words_lifted os started H enc)

theorem words_goes : false = Rows.rootWordsMatchSpecRow.goesBy Tryd.prog := by kernel_rfl
theorem words_stand : ([77].all fun u => !Tryd.prog.wantsStandIn u) = true := by kernel_rfl
theorem rootWordsMatchSpec_holds : Rows.RootWordsMatchSpecCardSaid :=
  Claim7.holds_tied_plain_at .later [] [.data, .data, .data, .data] true (true, "dad86e10c0c9875098f14639457c7da96153bc51d07db14731d5f5938e8d4e47") false
    words_row (fun _ h => by cases h) (by kernel_rfl) (fun _ h => by cases h) rootWordsMatchSpec_row_tie rfl ⟨rfl, rfl⟩ head_main rfl
    (fun f fn hf hfn => by
      obtain rfl : f = 14 := Option.some.inj (words_name.symm.trans hf) |>.symm
      obtain rfl : fn = Tryd.f14 := (Option.some.inj (Tryd.func14.symm.trans hfn)).symm
      exact ⟨k_looks, fun j t ht => by
        rw [Tryd.params14] at ht
        have hm : t ∈ [77] := by simpa using Array.mem_of_getElem? ht
        exact (show Tryd.prog.wantsStandIn t = false by simpa using List.all_eq_true.1 words_stand t hm)⟩)
    words_goes
#print axioms rootWordsMatchSpec_holds
end Go.Proofs.YtkncbggnaobgeaaDoor
