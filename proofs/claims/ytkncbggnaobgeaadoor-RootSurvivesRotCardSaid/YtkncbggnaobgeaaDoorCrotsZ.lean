/- RootSurvivesRot: for every input, the law returns true and its arguments read behind the call as they did. No condition but the given card's own. -/
import Derived.Test.YtkncbggnaobgeaaDoorGn
import Derived.Test.YtkncbggnaobgeaaDoorGg
import Derived.Test.YtkncbggnaobgeaaDoorTie
import Derived.Test.YtkncbggnaobgeaaDoorCards

/- Walks of functions of the program; printed by a program of this session (walk.py) out of hand-written hints. -/
namespace Go.Proofs.YtkncbggnaobgeaaDoor
open Go.RowKit
set_option linter.unusedVariables false
set_option linter.unusedSimpArgs false
set_option maxRecDepth 100000

theorem rots_any (x : WV) (w : World) (hx : x.ok w) (hG : GG w) : Calls Tryd.prog 18 #[.agg x.cells] w fun e w' => e = .returned (.bool true) ∧ St w [] w' [] := by
  refine calls_walk_n (args := [.agg x.cells]) Tryd.func18 rfl rfl rfl ?_
  have hL := hG.l
  have H := St.refl w
  have hnn := WV.n_eq hx
  refine WC.seq ?_
  refine WC.region ?_
  refine WL.box (v := .agg x.cells) H rfl rfl ?_
  intro b1 wx hb1 hge1 H
  replace H : St w [] wx [(b1, .cells x.cells 70)] := H
  refine WL.assign rfl rfl ?_
  refine (WL.done (WX.next ?_))
  refine WC.seq ?_
  refine WC.region ?_
  refine WL.call call46 rfl rfl ?_
  refine Calls.mono (sanity8_any _ (hG.of0 H)) ?_
  rintro _ wx ⟨rfl, Hc⟩
  refine ⟨_, rfl, ?_⟩
  replace H := H.call0 Hc
  refine WL.assign rfl rfl ?_
  refine (WL.done (WX.next ?_))
  refine WC.seq ?_
  refine WC.seq ?_
  refine WC.region ?_
  refine WL.fieldAddr fld70_1 rfl rfl ?_
  refine WL.load rfl (H.rd1 ty43 0 rfl rfl) rfl ?_
  refine WL.lenSlc isl43 rfl rfl ?_
  refine WL.bin rfl rfl binv_gtr rfl ?_
  refine (WL.done (WX.next ?_))
  refine WC.cond_dec rfl (fun c1 => ?_) (fun c1 => ?_)
  ·
    refine WC.seq ?_
    refine WC.region ?_
    refine WL.move rfl rfl ?_
    refine WL.assign rfl rfl ?_
    refine (WL.done (WX.next ?_))
    refine (WC.ret (WX.then_ret ?_))
    refine ret_one rfl rfl ?_
    refine ⟨congrArg (fun b => Ending.returned (Value.bool b)) (by rfl), H.weaken (List.nil_sublist _)⟩
  ·
    have hc6 : x.cats.length ≤ 6 := by omega
    refine (WC.skip (WX.next ?_))
    refine WC.seq ?_
    refine WC.region ?_
    refine WL.load rfl (H.rdAll ty70 0 rfl rfl) rfl ?_
    refine WL.call call47 rfl rfl ?_
    refine Calls.mono (wrote_any x (hx.keep H) hc6 (hG.of0 H)) ?_
    rintro _ wx ⟨p, R, rr, re, rfl, hI, hrr, hre, Hc⟩
    refine ⟨_, rfl, ?_⟩
    obtain ⟨br, capr, curr, rfl⟩ := Row.some_of hrr (by omega)
    obtain ⟨be, cape, cure, rfl⟩ := Row.some_of hre (by omega)
    replace H := H.call Hc
    replace H : St w [] wx ((([(br, .cells curr 77)] ++ [(be, .cells cure 3)]) ++ R.hp) ++ [(b1, .cells x.cells 70)]) := H
    replace H : St w [] wx (((b1, .cells x.cells 70) :: (br, .cells curr 77) :: [(be, .cells cure 3)]) ++ R.hp) := H.perm (by classical exact List.perm_iff_count.2 (fun q => by simp only [List.count_append, List.count_cons, List.count_nil, Nat.add_zero, Nat.zero_add]; ac_rfl))
    have hel : (x.mem x.cats.length).evs.length = 22 * (x.cats.length + 1) := evsTo_len _
    refine WL.move rfl rfl ?_
    refine WL.extract rfl rfl rfl ?_
    refine WL.extract rfl rfl rfl ?_
    refine WL.extract rfl rfl rfl ?_
    refine WL.assign rfl rfl ?_
    refine WL.assign rfl rfl ?_
    refine WL.assign rfl rfl ?_
    refine (WL.done (WX.next ?_))
    refine WC.seq ?_
    refine WC.seq ?_
    refine WC.region ?_
    refine WL.move rfl rfl ?_
    refine WL.bin rfl rfl (binv_ptr_eql (by kernel_rfl) _) rfl ?_
    refine (WL.done (WX.next ?_))
    refine WC.cond_false rfl (rfl) ?_
    refine (WC.skip (WX.next ?_))
    refine WC.seq ?_
    refine WC.region ?_
    refine WL.assign rfl rfl ?_
    refine (WL.done (WX.next ?_))
    refine WC.seqJ (Sub.cons (t := 1) rfl (Sub.cons (t := 3) rfl (Sub.cons (t := 4) rfl (Sub.cons (t := 5) rfl (Sub.nil _))))) (fun c : Nat => [(7, .int .i64 (c : Int))]) (fun c wx => c ≤ 1 ∧ St w [] wx (((b1, .cells x.cells 70) :: (br, .cells curr 77) :: [(be, .cells cure 3)]) ++ R.hp)) (fun N hN => ?_) (fun c wx hJ2 => ?_)
    · -- first
      refine WC.seq ?_
      refine WC.region ?_
      refine WL.fieldAddr fld70_6 rfl rfl ?_
      refine WL.load rfl (H.rd1 ty4 0 rfl rfl) rfl ?_
      refine (WL.done (WX.next ?_))
      refine WC.cond rfl (fun c3 => ?_) (fun c3 => ?_)
      ·
        refine WC.region ?_
        refine WL.assign rfl rfl ?_
        refine (WL.done (WX.round ?_))
        exact hN 1 _ _ ⟨by omega, H⟩ (Sub.cons (t := 7) (by rfl) (Sub.nil _)) (Sub.cons (t := 1) rfl (Sub.cons (t := 3) rfl (Sub.cons (t := 4) rfl (Sub.cons (t := 5) rfl (Sub.nil _)))))
      ·
        refine (WC.skip (WX.round ?_))
        exact hN 0 _ _ ⟨by omega, H⟩ (Sub.cons (t := 7) (by rfl) (Sub.nil _)) (Sub.cons (t := 1) rfl (Sub.cons (t := 3) rfl (Sub.cons (t := 4) rfl (Sub.cons (t := 5) rfl (Sub.nil _)))))
    · -- join
      obtain ⟨hc, H⟩ := hJ2
      refine WC.seq ?_
      refine WC.region ?_
      have hrN := WV.rootN hx (show x.cats.length ≤ 1000 by omega)
      have hz0 : (x.b0 % 330).toNat < 330 := by omega
      have hz1 : (x.b1 % 330).toNat < 330 := by omega
      refine WL.move rfl rfl ?_
      refine WL.move rfl rfl ?_
      refine WL.fieldAddr fld70_5 rfl rfl ?_
      refine WL.load rfl (Rd.bits (H.blk 0 rfl)) rfl ?_
      refine WL.call call88 rfl rfl ?_
      refine Calls.mono (flip_root_any (L := (b1, .cells x.cells 70) :: (br, .cells curr 77) :: [(be, .cells cure 3)]) c x.b0 x.b1 hx.b0 hx.b1 (by omega) hI H hL) ?_
      rintro _ wx ⟨R1, rfl, hI1, H⟩
      refine ⟨_, rfl, ?_⟩
      have hnear : Near x.n (x.root x.cats.length) _ := rs_near (E := x.evs x.cats.length) hnn.2 hrN hc hz0 hz1
      obtain ⟨M1, hM1⟩ : ∃ M1, M1 = (x.mem x.cats.length).rot (c : Int) (flipW (flipW zeros8 (x.b0 % 330).toNat) (x.b1 % 330).toNat) (flipC (flipC 0 (x.b0 % 330).toNat) (x.b1 % 330).toNat) := ⟨_, rfl⟩
      rw [← hM1] at hI1
      replace hnear : Near x.n (x.root x.cats.length) M1 := by rw [hM1]; exact hnear
      refine (WL.done (WX.next ?_))
      refine WC.seq ?_
      refine WC.region ?_
      refine WL.move rfl rfl ?_
      refine WL.call call49 rfl rfl ?_
      refine Calls.mono (rread_any (L := (b1, .cells x.cells 70) :: (br, .cells curr 77) :: [(be, .cells cure 3)]) hI1 H hG) ?_
      rintro _ wx ⟨rfl, H⟩
      refine ⟨_, rfl, ?_⟩
      rw [(hnear.read hnn.2 hrN).1, (hnear.read hnn.2 hrN).2]
      refine WL.move rfl rfl ?_
      refine WL.extract rfl rfl rfl ?_
      refine WL.extract rfl rfl rfl ?_
      refine WL.extract rfl rfl rfl ?_
      refine WL.alloc H zer77 rfl ?_
      intro b8 wx hb8 hge8 H
      refine WL.storeArr (ws' := x.root x.cats.length) H ty77 0 rfl rfl rfl rfl (root_len x _) ?_
      intro wx H
      refine WL.assign rfl rfl ?_
      refine WL.assign rfl rfl ?_
      refine (WL.done (WX.next ?_))
      refine WC.seq ?_
      refine WC.region ?_
      refine WL.move rfl rfl ?_
      refine WL.call call50 rfl rfl ?_
      refine Calls.mono (rmend_any (L := _ :: ((b1, .cells x.cells 70) :: (br, .cells curr 77) :: [(be, .cells cure 3)])) (by omega) hI1 H hG) ?_
      rintro _ wx ⟨R2, rfl, hI2, H⟩
      refine ⟨_, rfl, ?_⟩
      rw [(hnear.read hnn.2 hrN).2]
      obtain ⟨E1, hE1⟩ := hnear.mend hnn.2 hrN
      rw [hE1] at hI2
      refine WL.move rfl rfl ?_
      refine WL.extract rfl rfl rfl ?_
      refine WL.extract rfl rfl rfl ?_
      refine WL.assign rfl rfl ?_
      refine WL.assign rfl rfl ?_
      refine (WL.done (WX.next ?_))
      refine WC.seq ?_
      refine WC.region ?_
      refine WL.move rfl rfl ?_
      refine WL.move rfl rfl ?_
      refine WL.bin rfl rfl ((by have h := isub (P := Tryd.prog) (t := 3) (x := 1) (y := (c : Int)) (by omega) (by omega); rw [show (1 : Int) - (c : Int) = ((1 - c : Nat) : Int) by omega] at h; exact h)) rfl ?_
      refine WL.fieldAddr fld70_5 rfl rfl ?_
      refine WL.load rfl (Rd.bits (H.blk 1 rfl)) rfl ?_
      refine WL.call call88 rfl rfl ?_
      refine Calls.mono (flip_root_any (L := _ :: ((b1, .cells x.cells 70) :: (br, .cells curr 77) :: [(be, .cells cure 3)])) (1 - c) x.b0 x.b1 hx.b0 hx.b1 (by omega) hI2 H hL) ?_
      rintro _ wx ⟨R3, rfl, hI3, H⟩
      refine ⟨_, rfl, ?_⟩
      have hnear2 : Near x.n (x.root x.cats.length) _ := rs_near (E := E1) hnn.2 hrN (show 1 - c ≤ 1 by omega) hz0 hz1
      obtain ⟨M3, hM3⟩ : ∃ M3, M3 = (RS x.n (rootW (x.root x.cats.length)) (rootW (x.root x.cats.length)) E1).rot ((1 - c : Nat) : Int) (flipW (flipW zeros8 (x.b0 % 330).toNat) (x.b1 % 330).toNat) (flipC (flipC 0 (x.b0 % 330).toNat) (x.b1 % 330).toNat) := ⟨_, rfl⟩
      rw [← hM3] at hI3 hnear2
      refine (WL.done (WX.next ?_))
      refine WC.seq ?_
      refine WC.region ?_
      refine WL.move rfl rfl ?_
      refine WL.call call49 rfl rfl ?_
      refine Calls.mono (rread_any (L := _ :: ((b1, .cells x.cells 70) :: (br, .cells curr 77) :: [(be, .cells cure 3)])) hI3 H hG) ?_
      rintro _ wx ⟨rfl, H⟩
      refine ⟨_, rfl, ?_⟩
      rw [(hnear2.read hnn.2 hrN).1, (hnear2.read hnn.2 hrN).2]
      refine WL.move rfl rfl ?_
      refine WL.extract rfl rfl rfl ?_
      refine WL.extract rfl rfl rfl ?_
      refine WL.extract rfl rfl rfl ?_
      refine WL.alloc H zer77 rfl ?_
      intro b13 wx hb13 hge13 H
      refine WL.storeArr (ws' := x.root x.cats.length) H ty77 0 rfl rfl rfl rfl (root_len x _) ?_
      intro wx H
      refine WL.assign rfl rfl ?_
      refine WL.assign rfl rfl ?_
      refine (WL.done (WX.next ?_))
      refine WC.seq ?_
      refine WC.region ?_
      refine WL.move rfl rfl ?_
      refine WL.move rfl rfl ?_
      refine WL.lenSlc isl71 rfl rfl ?_
      refine WL.bin rfl rfl (isub (by omega) (by omega)) rfl ?_
      refine WL.idxSlc (k := x.cats.length) slc71 rfl rfl (by show ((x.cats.length + 1 : Nat) : Int) - 1 = _; omega) (by omega) rfl ?_
      refine WL.load rfl (Rd.root hrr (H.blk 3 rfl) (by omega)) rfl ?_
      refine WL.alloc H zer77 rfl ?_
      intro b16 wx hb16 hge16 H
      refine WL.storeArr (ws' := x.root x.cats.length) H ty77 0 rfl rfl rfl rfl (root_len x _) ?_
      intro wx H
      refine (WL.done (WX.next ?_))
      refine WC.seq ?_
      refine WC.region ?_
      refine WL.move rfl rfl ?_
      refine WL.move rfl rfl ?_
      refine WL.known (t := 68) rfl (b := true) (rfl) ?_
      refine WL.yes rfl rfl ?_
      refine WL.move rfl rfl ?_
      refine WL.yes rfl rfl ?_
      refine WL.bin rfl rfl binv_eql rfl ?_
      refine WL.pickT rfl rfl rfl ?_
      refine WL.move rfl rfl ?_
      refine WL.known (t := 72) rfl (b := true) (rfl) ?_
      refine WL.yes rfl rfl ?_
      refine WL.move rfl rfl ?_
      refine WL.yes rfl rfl ?_
      refine WL.bin rfl rfl binv_eql rfl ?_
      refine WL.pickT rfl rfl rfl ?_
      refine WL.move rfl rfl ?_
      refine WL.known (t := 76) rfl (b := true) (rfl) ?_
      refine WL.yes rfl rfl ?_
      refine WL.move rfl rfl ?_
      refine WL.yes rfl rfl ?_
      refine WL.bin rfl rfl binv_eql rfl ?_
      refine WL.pickT rfl rfl rfl ?_
      refine WL.move rfl rfl ?_
      refine WL.known (t := 80) rfl (b := true) (rfl) ?_
      refine WL.yes rfl rfl ?_
      refine WL.load rfl (H.rdArr ty77 2 rfl (root_len x _)) rfl ?_
      refine WL.yes rfl rfl ?_
      refine WL.load rfl (H.rdArr ty77 0 rfl (root_len x _)) rfl ?_
      refine WL.yes rfl rfl ?_
      refine WL.bin rfl rfl (eqT eqI77 (by kernel_rfl) (root_len x _) rfl) rfl ?_
      refine WL.pickT rfl rfl rfl ?_
      refine WL.move rfl rfl ?_
      refine WL.known (t := 85) rfl (b := true) (rfl) ?_
      refine WL.yes rfl rfl ?_
      refine WL.load rfl (H.rdArr ty77 1 rfl (root_len x _)) rfl ?_
      refine WL.yes rfl rfl ?_
      refine WL.load rfl (H.rdArr ty77 0 rfl (root_len x _)) rfl ?_
      refine WL.yes rfl rfl ?_
      refine WL.bin rfl rfl (eqT eqI77 (by kernel_rfl) (root_len x _) rfl) rfl ?_
      refine WL.pickT rfl rfl rfl ?_
      refine WL.assign rfl rfl ?_
      refine (WL.done (WX.next ?_))
      refine (WC.ret ?_)
      refine ret_one rfl rfl ?_
      refine ⟨congrArg (fun b => Ending.returned (Value.bool b)) (by rfl), H.weaken (List.nil_sublist _)⟩

end Go.Proofs.YtkncbggnaobgeaaDoor

/- RootSurvivesRot: for every input, the law returns true and its arguments read behind the call as they did. No condition but the given card's own. -/
namespace Go.Proofs.YtkncbggnaobgeaaDoor
open Go.ChangeShapes Go.WideShapes Go.ChangeAt Go.WideMaps Go.WideElems Go.RowKit
set_option linter.unusedVariables false
set_option maxRecDepth 100000

theorem rots_met (os : Os) (args : Array Value) : laidMetH Tryd.prog Rows.rootSurvivesRotRow.laid ((World.doorLaid Tryd.prog 31 os).forCall (fun _ _ => 0) ⟨#[], args, []⟩).memory :=
  laidMetH_of_parts3 (fuel := 8) (laidMet_of_run' 8 (by kernel_rfl) (by kernel_rfl)) (by kernel_rfl) (by kernel_rfl)

set_option maxRecDepth 100000 in
theorem rots_lifted (os : Os) (started : os.Started) (H : Type) (enc : TypeId × Value → H) :
    ReturnsInHanded {} Tryd.checked os 18 .any (fun w args => (Rows.rootSurvivesRotSpec.pre enc Tryd.prog Tryd.f18 [] false w args ∧ laidMetH Tryd.prog Rows.rootSurvivesRotRow.laid w) ∧ sizedMet enc Tryd.prog Tryd.f18 (OpenSpec.ofChange Rows.rootSurvivesRotSpec) false w args)
      (Rows.rootSurvivesRotSpec.post enc Tryd.prog Tryd.f18 false true false false) := by
  refine returnsInHanded_of_change_and (C := Tryd.checked) (X := fun w _ => laidMetH Tryd.prog Rows.rootSurvivesRotRow.laid w) (fun _ _ _ hh h => h.of_heap hh) own started (by kernel_rfl) Tryd.func18
    (ChangeSpec.witness_shaped (enc := enc) (C := Tryd.checked) (os := os) (X := fun w _ => laidMetH Tryd.prog Rows.rootSurvivesRotRow.laid w) false (World.doorLaid Tryd.prog 31 os) #[.agg #[.int .u8 0, .slice none 0 0, .slice none 0 0, .int .i64 0, .int .i64 0, .int .u16 0, .int .u16 0, .bool false]] 8 rfl (World.shaped_of_RefB (by kernel_rfl) (by kernel_rfl)) (by kernel_rfl) (by kernel_rfl) (by kernel_rfl) (rots_met os _)) ?_
  intro W base args ds gs before hval0 hW _ _ hL _
  have hval : ∀ (j : Nat) t v, Tryd.f18.params[j]? = some t → args[j]? = some v → Value.okWide Tryd.prog W .any base t v := hval0
  have hW' := hW
  obtain ⟨p, q, hA0, hV, _, _, _⟩ := hW
  have hA : DataW.TrodAll enc Tryd.prog W 0 (fun _ => true) true Tryd.f18.params.toList args.toList ds p := hA0
  rw [Tryd.params18] at hA hval
  obtain ⟨v0, vs0, d0, ds0, p0, q0, hargs, rfl, rfl, h0, r0⟩ := trodAll_cons hA
  obtain ⟨rfl, rfl, rfl⟩ := trodAll_nil r0
  obtain rfl : args = #[v0] := by cases args; simp_all
  obtain ⟨rfl, rfl⟩ := trodVars_none hV
  rw [MakeChecks.laidMetH_plain _ _ _ (by kernel_rfl)] at hL
  have hG := GG.laid hL (by unfold Rows.rootSurvivesRotRow; simp) (by unfold Rows.rootSurvivesRotRow; simp) (by unfold Rows.rootSurvivesRotRow; simp)
  obtain ⟨x, rfl, hx⟩ := wv_open (hval 0 70 v0 rfl rfl) h0
  refine (rots_any x W hx hG).mono fun e W' ⟨he, st⟩ => ?_
  subst he
  exact ⟨_, rfl, post_law laidOut Tryd.underlying4 rfl rfl rfl (by kernel_rfl) hW' st⟩

theorem rots_j9 : (Rows.rootSurvivesRotRow.inPlace == Tryd.prog.inPlace 18) = true := by kernel_rfl
theorem rots_j10 : (Rows.rootSurvivesRotRow.unfollowed == Tryd.prog.unfollowed 18) = true := by kernel_rfl
theorem rots_j11 : (Rows.rootSurvivesRotRow.recurses == Tryd.prog.recurses 18) = true := by kernel_rfl
theorem rots_j12 : (Rows.rootSurvivesRotRow.named == Tryd.prog.varsNamed 18) = true := by kernel_rfl
theorem rots_joined : joinedFacts Tryd.prog 18 Tryd.f18 Rows.rootSurvivesRotSpec Rows.rootSurvivesRotRow = true :=
  joined_mk _ _ _ _ _ (by kernel_rfl) k_laid k_maps (by kernel_rfl) (by kernel_rfl) (by kernel_rfl) k_stops (by kernel_rfl) k_knobs rots_j9 rots_j10 rots_j11 rots_j12
    (by kernel_rfl) (by kernel_rfl) (by kernel_rfl) (by kernel_rfl) (by kernel_rfl) (by kernel_rfl) (by kernel_rfl) (by kernel_rfl) (by kernel_rfl) (by rw [k_keys]; rfl) (by kernel_rfl) k_heard head_may (by rw [head_final]; rfl) (by rw [head_make]; rfl)
    (by kernel_rfl) (by kernel_rfl) (by kernel_rfl) (by kernel_rfl)
theorem rots_name : Tryd.prog.funcNamed "alum/alumlaw08.RootSurvivesRot" = some 18 := by kernel_rfl
theorem rots_row : Rows.RootSurvivesRotSaid :=
  OpenClaim.holds_of_wide 18 Tryd.f18 rfl rfl rfl rfl rfl rfl rfl ⟨rfl, rfl, rfl, rfl, rfl⟩ rfl rfl rfl rfl rfl rots_name Tryd.func18 rots_joined
    (of_decide_eq_true (by kernel_rfl)) (by unfold Func.isWrapper; first | (rw [if_pos (by decide +kernel)]; kernel_rfl) | (rw [if_neg (by decide +kernel)]; exact ⟨rfl, rfl⟩))
    (fun os started H enc _ => rots_lifted os started H enc)

theorem rots_goes : false = Rows.rootSurvivesRotRow.goesBy Tryd.prog := by kernel_rfl
theorem rots_stand : ([70].all fun u => !Tryd.prog.wantsStandIn u) = true := by kernel_rfl
theorem rootSurvivesRot_holds : Rows.RootSurvivesRotCardSaid :=
  Claim7.holds_tied_plain_at .later [] [.data, .data, .data, .data] true (true, "dad86e10c0c9875098f14639457c7da96153bc51d07db14731d5f5938e8d4e47") false
    rots_row (fun _ h => by cases h) (by kernel_rfl) (fun _ h => by cases h) rootSurvivesRot_row_tie rfl ⟨rfl, rfl⟩ head_main rfl
    (fun f fn hf hfn => by
      obtain rfl : f = 18 := Option.some.inj (rots_name.symm.trans hf) |>.symm
      obtain rfl : fn = Tryd.f18 := (Option.some.inj (Tryd.func18.symm.trans hfn)).symm
      exact ⟨k_looks, fun j t ht => by
        rw [Tryd.params18] at ht
        have hm : t ∈ [70] := by simpa using Array.mem_of_getElem? ht
        exact (show Tryd.prog.wantsStandIn t = false by simpa using List.all_eq_true.1 rots_stand t hm)⟩)
    rots_goes
#print axioms rootSurvivesRot_holds
end Go.Proofs.YtkncbggnaobgeaaDoor
