/- LogWordsMatchSpec: for every input, the law returns true and its arguments read behind the call as they did. No condition but the given card's own. -/
import Derived.Test.YtkncbggnaobgeaaDoorGg
import Derived.Test.YtkncbggnaobgeaaDoorGq
import Derived.Test.YtkncbggnaobgeaaDoorGr
import Derived.Test.YtkncbggnaobgeaaDoorTie
import Derived.Test.YtkncbggnaobgeaaDoorCards

/- LogWordsMatchSpec: for every input, the law returns true and its arguments read behind the call as they did. No condition but the given card's own. -/
namespace Go.Proofs.YtkncbggnaobgeaaDoor
open Go.ChangeShapes Go.WideShapes Go.ChangeAt Go.WideMaps Go.WideElems Go.RowKit
set_option linter.unusedVariables false
set_option maxRecDepth 100000

theorem lwords_met (os : Os) (args : Array Value) : laidMetH Tryd.prog Rows.logWordsMatchSpecRow.laid ((World.doorLaid Tryd.prog 31 os).forCall (fun _ _ => 0) ⟨#[], args, []⟩).memory :=
  laidMetH_of_parts3 (fuel := 8) (laidMet_of_run' 8 (by kernel_rfl) (by kernel_rfl)) (by kernel_rfl) (by kernel_rfl)

set_option maxRecDepth 100000 in
theorem lwords_lifted (os : Os) (started : os.Started) (H : Type) (enc : TypeId × Value → H) :
    ReturnsInHanded {} Tryd.checked os 16 .any (fun w args => (Rows.logWordsMatchSpecSpec.pre enc Tryd.prog Tryd.f16 [] false w args ∧ laidMetH Tryd.prog Rows.logWordsMatchSpecRow.laid w) ∧ sizedMet enc Tryd.prog Tryd.f16 (OpenSpec.ofChange Rows.logWordsMatchSpecSpec) false w args)
      (Rows.logWordsMatchSpecSpec.post enc Tryd.prog Tryd.f16 false true false false) := by
  refine returnsInHanded_of_change_and (C := Tryd.checked) (X := fun w _ => laidMetH Tryd.prog Rows.logWordsMatchSpecRow.laid w) (fun _ _ _ hh h => h.of_heap hh) own started (by kernel_rfl) Tryd.func16
    (ChangeSpec.witness_shaped (enc := enc) (C := Tryd.checked) (os := os) (X := fun w _ => laidMetH Tryd.prog Rows.logWordsMatchSpecRow.laid w) false (World.doorLaid Tryd.prog 31 os) #[.agg #[.int .i64 0, .int .i64 0, .int .i64 0, .int .i64 0, .int .i64 0, .int .i64 0, .int .i64 0, .int .i64 0], .agg #[.int .i64 0, .slice none 0 0], .int .i64 0, .int .i64 0, .slice none 0 0] 8 rfl (World.shaped_of_RefB (by kernel_rfl) (by kernel_rfl)) (by kernel_rfl) (by kernel_rfl) (by kernel_rfl) (lwords_met os _)) ?_
  intro W base args ds gs before hval0 hW _ _ hL _
  have hval : ∀ (j : Nat) t v, Tryd.f16.params[j]? = some t → args[j]? = some v → Value.okWide Tryd.prog W .any base t v := hval0
  have hW' := hW
  obtain ⟨p, q, hA0, hV, _, _, _⟩ := hW
  have hA : DataW.TrodAll enc Tryd.prog W 0 (fun _ => true) true Tryd.f16.params.toList args.toList ds p := hA0
  rw [Tryd.params16] at hA hval
  obtain ⟨v0, vs0, d0, ds0, p0, q0, hargs, rfl, rfl, h0, r0⟩ := trodAll_cons hA
  obtain ⟨v1, vs1, d1, ds1, p1, q1, rfl, rfl, rfl, h1, r1⟩ := trodAll_cons r0
  obtain ⟨v2, vs2, d2, ds2, p2, q2, rfl, rfl, rfl, h2, r2⟩ := trodAll_cons r1
  obtain ⟨v3, vs3, d3, ds3, p3, q3, rfl, rfl, rfl, h3, r3⟩ := trodAll_cons r2
  obtain ⟨v4, vs4, d4, ds4, p4, q4, rfl, rfl, rfl, h4, r4⟩ := trodAll_cons r3
  obtain ⟨rfl, rfl, rfl⟩ := trodAll_nil r4
  obtain rfl : args = #[v0, v1, v2, v3, v4] := by cases args; simp_all
  obtain ⟨rfl, rfl⟩ := trodVars_none hV
  rw [MakeChecks.laidMetH_plain _ _ _ (by kernel_rfl)] at hL
  have hL64 := L64.laid hL (by unfold Rows.logWordsMatchSpecRow; simp)
  have hGN := GN.laid hL (by unfold Rows.logWordsMatchSpecRow; simp)
  obtain ⟨ls, rfl, h8⟩ := leafS_open Tryd.underlying95 (f := 2) (n := 8) (by kernel_rfl) (by kernel_rfl) (hval 0 95 v0 rfl rfl) h0
  obtain ⟨num, A1, cap1, es, rfl, hes, hx, hr⟩ := rec_open (hval 1 125 v1 rfl rfl) h1
  obtain ⟨ep, rfl, rfl, rfl, w2⟩ := open_int Tryd.underlying3 (hval 2 3 v2 rfl rfl) h2
  obtain ⟨n, rfl, rfl, rfl, w3⟩ := open_int Tryd.underlying3 (hval 3 3 v3 rfl rfl) h3
  obtain ⟨Aw, capw, ws, rfl, hcw, hw63, hxw⟩ := wordsC_open (hval 4 43 v4 rfl rfl) h4
  refine (logWords_any ls h8 num es A1 cap1 n ep Aw capw ws hcw hr W hGN hL64 hx hxw).mono fun e W' ⟨he, st⟩ => ?_
  subst he
  exact ⟨_, rfl, post_law laidOut Tryd.underlying4 rfl rfl rfl (by kernel_rfl) hW' st⟩

theorem lwords_j9 : (Rows.logWordsMatchSpecRow.inPlace == Tryd.prog.inPlace 16) = true := by kernel_rfl
theorem lwords_j10 : (Rows.logWordsMatchSpecRow.unfollowed == Tryd.prog.unfollowed 16) = true := by kernel_rfl
theorem lwords_j11 : (Rows.logWordsMatchSpecRow.recurses == Tryd.prog.recurses 16) = true := by kernel_rfl
theorem lwords_j12 : (Rows.logWordsMatchSpecRow.named == Tryd.prog.varsNamed 16) = true := by kernel_rfl
theorem lwords_joined : joinedFacts Tryd.prog 16 Tryd.f16 Rows.logWordsMatchSpecSpec Rows.logWordsMatchSpecRow = true :=
  joined_mk _ _ _ _ _ (by kernel_rfl) k_laid k_maps (by kernel_rfl) (by kernel_rfl) (by kernel_rfl) k_stops (by kernel_rfl) k_knobs lwords_j9 lwords_j10 lwords_j11 lwords_j12
    (by kernel_rfl) (by kernel_rfl) (by kernel_rfl) (by kernel_rfl) (by kernel_rfl) (by kernel_rfl) (by kernel_rfl) (by kernel_rfl) (by kernel_rfl) (by rw [k_keys]; rfl) (by kernel_rfl) k_heard head_may (by rw [head_final]; rfl) (by rw [head_make]; rfl)
    (by kernel_rfl) (by kernel_rfl) (by kernel_rfl) (by kernel_rfl)
theorem lwords_name : Tryd.prog.funcNamed "alum/alumlaw09.LogWordsMatchSpec" = some 16 := by kernel_rfl
theorem lwords_row : Rows.LogWordsMatchSpecSaid :=
  OpenClaim.holds_of_wide 16 Tryd.f16 rfl rfl rfl rfl rfl rfl rfl ⟨rfl, rfl, rfl, rfl, rfl⟩ rfl rfl rfl rfl rfl lwords_name Tryd.func16 lwords_joined
    (of_decide_eq_true (by kernel_rfl)) (by unfold Func.isWrapper; first | (rw [if_pos (by decide +kernel)]; kernel_rfl) | (rw [if_neg (by decide +kernel)]; exact ⟨rfl, rfl⟩))
    (fun os started H enc _ => lwords_lifted os started H enc)

theorem lwords_goes : false = Rows.logWordsMatchSpecRow.goesBy Tryd.prog := by kernel_rfl
theorem lwords_stand : ([95, 125, 3, 3, 43].all fun u => !Tryd.prog.wantsStandIn u) = true := by kernel_rfl
theorem logWordsMatchSpec_holds : Rows.LogWordsMatchSpecCardSaid :=
  Claim7.holds_tied_plain_at .later [] [.data, .data, .data] true (true, "dad86e10c0c9875098f14639457c7da96153bc51d07db14731d5f5938e8d4e47") false
    lwords_row (fun _ h => by cases h) (by kernel_rfl) (fun _ h => by cases h) logWordsMatchSpec_row_tie rfl ⟨rfl, rfl⟩ head_main rfl
    (fun f fn hf hfn => by
      obtain rfl : f = 16 := Option.some.inj (lwords_name.symm.trans hf) |>.symm
      obtain rfl : fn = Tryd.f16 := (Option.some.inj (Tryd.func16.symm.trans hfn)).symm
      exact ⟨k_looks, fun j t ht => by
        rw [Tryd.params16] at ht
        have hm : t ∈ [95, 125, 3, 3, 43] := by simpa using Array.mem_of_getElem? ht
        exact (show Tryd.prog.wantsStandIn t = false by simpa using List.all_eq_true.1 lwords_stand t hm)⟩)
    lwords_goes
#print axioms logWordsMatchSpec_holds
end Go.Proofs.YtkncbggnaobgeaaDoor
