/- Walks of functions of the program; printed by a program of this session (walk.py) out of hand-written hints. -/
import Derived.Test.YtkncbggnaobgeaaDoorApi
namespace Go.Proofs.YtkncbggnaobgeaaDoor
open Go.RowKit
set_option linter.unusedVariables false
set_option linter.unusedSimpArgs false
set_option maxRecDepth 100000

theorem sanity4_any (w : World) (hL : L64 w) : Calls Tryd.prog 22 #[] w fun e w' => e = .returned (.bool true) ∧ St w [] w' [] := by
  refine calls_walk_n (args := []) Tryd.func22 rfl rfl rfl ?_
  have H := St.refl w
  refine WC.seq ?_
  refine WC.region ?_
  refine WL.assign rfl rfl ?_
  refine (WL.done (WX.next ?_))
  refine WC.seq ?_
  refine WC.region ?_
  refine WL.call call23 rfl rfl ?_
  refine Calls.mono (a_new_ok 2 (by decide) H hL) ?_
  rintro _ wx ⟨p, R, rfl, hI, H⟩
  refine ⟨_, rfl, ?_⟩
  refine WL.assign rfl rfl ?_
  refine (WL.done (WX.next ?_))
  refine WC.seq ?_
  refine WC.seq ?_
  refine WC.region ?_
  refine WL.move rfl rfl ?_
  refine WL.bin rfl rfl (binv_ptr_eql (by kernel_rfl) _) rfl ?_
  refine (WL.done (WX.next ?_))
  refine WC.cond_false rfl (rfl) ?_
  refine (WC.skip (WX.next ?_))
  refine WC.seq ?_
  refine WC.region ?_
  refine WL.move rfl rfl ?_
  refine WL.call call56 rfl rfl ?_
  refine Calls.mono (a_store _ _ (by decide) (by omega) hI H hL) ?_
  rintro _ wx ⟨R, rfl, hI, H⟩
  refine ⟨_, rfl, ?_⟩
  refine WL.assign rfl rfl ?_
  refine (WL.done (WX.next ?_))
  refine WC.seq ?_
  refine WC.region ?_
  refine WL.move rfl rfl ?_
  refine WL.call call96 rfl rfl ?_
  refine Calls.mono (a_load _ (by decide) hI H hL) ?_
  rintro _ wx ⟨rfl, H⟩
  refine ⟨_, rfl, ?_⟩
  refine WL.move rfl rfl ?_
  refine WL.extract rfl rfl rfl ?_
  refine WL.extract rfl rfl rfl ?_
  refine WL.assign rfl rfl ?_
  refine WL.assign rfl rfl ?_
  refine (WL.done (WX.next ?_))
  refine WC.seq ?_
  refine WC.region ?_
  refine WL.move rfl rfl ?_
  refine WL.call call29 rfl rfl ?_
  refine Calls.mono (a_image hI H hL) ?_
  rintro _ wx ⟨g, rfl, H⟩
  refine ⟨_, rfl, ?_⟩
  refine WL.assign rfl rfl ?_
  refine (WL.done (WX.next ?_))
  refine WC.seq ?_
  refine WC.region ?_
  refine WL.move rfl rfl ?_
  refine WL.call call37 rfl rfl ?_
  refine Calls.mono (a_crash none 0 0 [] rfl (by omega) (by omega) hI H hL (.inl rfl)) ?_
  rintro _ wx ⟨R, rfl, hI, H⟩
  refine ⟨_, rfl, ?_⟩
  refine WL.assign rfl rfl ?_
  refine (WL.done (WX.next ?_))
  refine WC.seq ?_
  refine WC.region ?_
  refine WL.move rfl rfl ?_
  refine WL.call call96 rfl rfl ?_
  refine Calls.mono (a_load _ (by decide) hI H hL) ?_
  rintro _ wx ⟨rfl, H⟩
  refine ⟨_, rfl, ?_⟩
  refine WL.move rfl rfl ?_
  refine WL.extract rfl rfl rfl ?_
  refine WL.extract rfl rfl rfl ?_
  refine WL.assign rfl rfl ?_
  refine WL.assign rfl rfl ?_
  refine (WL.done (WX.next ?_))
  refine WC.seq ?_
  refine WC.region ?_
  refine WL.move rfl rfl ?_
  refine WL.call call56 rfl rfl ?_
  refine Calls.mono (a_store _ _ (by decide) (by omega) hI H hL) ?_
  rintro _ wx ⟨R, rfl, hI, H⟩
  refine ⟨_, rfl, ?_⟩
  refine (WL.done (WX.next ?_))
  refine WC.seq ?_
  refine WC.region ?_
  refine WL.move rfl rfl ?_
  refine WL.call call35 rfl rfl ?_
  refine Calls.mono (a_flush _ (by omega) hI H hL) ?_
  rintro _ wx ⟨R, rfl, hI, H⟩
  refine ⟨_, rfl, ?_⟩
  refine (WL.done (WX.next ?_))
  refine WC.seq ?_
  refine WC.region ?_
  refine WL.move rfl rfl ?_
  refine WL.call call56 rfl rfl ?_
  refine Calls.mono (a_store _ _ (by decide) (by omega) hI H hL) ?_
  rintro _ wx ⟨R, rfl, hI, H⟩
  refine ⟨_, rfl, ?_⟩
  refine (WL.done (WX.next ?_))
  refine WC.seq ?_
  refine WC.region ?_
  refine WL.move rfl rfl ?_
  refine WL.call call36 rfl rfl ?_
  refine Calls.mono (a_fence (by omega) hI H hL) ?_
  rintro _ wx ⟨R, rfl, hI, H⟩
  refine ⟨_, rfl, ?_⟩
  refine (WL.done (WX.next ?_))
  refine WC.seq ?_
  refine WC.region ?_
  refine WL.move rfl rfl ?_
  refine WL.call call37 rfl rfl ?_
  refine Calls.mono (a_crash none 0 0 [] rfl (by omega) (by omega) hI H hL (.inl rfl)) ?_
  rintro _ wx ⟨R, rfl, hI, H⟩
  refine ⟨_, rfl, ?_⟩
  refine WL.assign rfl rfl ?_
  refine (WL.done (WX.next ?_))
  refine WC.seq ?_
  refine WC.region ?_
  refine WL.move rfl rfl ?_
  refine WL.call call96 rfl rfl ?_
  refine Calls.mono (a_load _ (by decide) hI H hL) ?_
  rintro _ wx ⟨rfl, H⟩
  refine ⟨_, rfl, ?_⟩
  refine WL.move rfl rfl ?_
  refine WL.extract rfl rfl rfl ?_
  refine WL.extract rfl rfl rfl ?_
  refine WL.assign rfl rfl ?_
  refine WL.assign rfl rfl ?_
  refine (WL.done (WX.next ?_))
  refine WC.seq ?_
  refine WC.region ?_
  refine WL.move rfl rfl ?_
  refine WL.buildA (z := arrC zeros8) (cells := arrC [1, 0, 0, 0, 0, 0, 0, 0]) arr38 zer38 rfl rfl (by kernel_rfl) ?_
  refine WL.call call51 rfl rfl ?_
  refine Calls.mono (a_rot _ _ rfl _ (by omega) hI H hL) ?_
  rintro _ wx ⟨R, rfl, hI, H⟩
  refine ⟨_, rfl, ?_⟩
  refine WL.assign rfl rfl ?_
  refine (WL.done (WX.next ?_))
  refine WC.seq ?_
  refine WC.region ?_
  refine WL.move rfl rfl ?_
  refine WL.call call96 rfl rfl ?_
  refine Calls.mono (a_load _ (by decide) hI H hL) ?_
  rintro _ wx ⟨rfl, H⟩
  refine ⟨_, rfl, ?_⟩
  refine WL.move rfl rfl ?_
  refine WL.extract rfl rfl rfl ?_
  refine WL.extract rfl rfl rfl ?_
  refine WL.assign rfl rfl ?_
  refine WL.assign rfl rfl ?_
  refine (WL.done (WX.next ?_))
  refine WC.seq ?_
  refine WC.seq ?_
  refine WC.region ?_
  refine WL.move rfl rfl ?_
  refine WL.lenSlc isl23 rfl rfl ?_
  refine WL.bin rfl rfl binv_neq rfl ?_
  refine (WL.done (WX.next ?_))
  refine WC.cond_false rfl (by decide +kernel) ?_
  refine (WC.skip (WX.next ?_))
  refine WC.seq ?_
  refine WC.region ?_
  refine WL.move rfl rfl ?_
  refine WL.bin rfl rfl binv_eql rfl ?_
  refine WL.move rfl rfl ?_
  refine WL.known (t := 63) rfl (b := true) (by decide +kernel) ?_
  refine WL.yes rfl rfl ?_
  refine WL.move rfl rfl ?_
  refine WL.yes rfl rfl ?_
  refine WL.bin rfl rfl binv_eql rfl ?_
  refine WL.pickT rfl rfl rfl ?_
  refine WL.move rfl rfl ?_
  refine WL.known (t := 67) rfl (b := true) (by decide +kernel) ?_
  refine WL.yes rfl rfl ?_
  refine WL.move rfl rfl ?_
  refine WL.yes rfl rfl ?_
  refine WL.bin rfl rfl binv_eql rfl ?_
  refine WL.pickT rfl rfl rfl ?_
  refine WL.move rfl rfl ?_
  refine WL.known (t := 71) rfl (b := true) (by decide +kernel) ?_
  refine WL.yes rfl rfl ?_
  refine WL.move rfl rfl ?_
  refine WL.yes rfl rfl ?_
  refine WL.idxSlc (k := 1) slc23 rfl rfl (by first | rfl | omega) (by decide +kernel) rfl ?_
  refine WL.yes rfl rfl ?_
  refine WL.fieldAddr fld40_0 rfl rfl ?_
  refine WL.yes rfl rfl ?_
  refine WL.idxArr (k := 1) arr38 rfl rfl (by first | rfl | omega) (by omega) rfl ?_
  refine WL.yes rfl rfl ?_
  first | refine WL.load rfl (Rd.one (v := .int .i64 0) ty3 (by rw [cell_of (H.blk 0 rfl)]; kernel_rfl)) rfl ?_
  refine WL.yes rfl rfl ?_
  refine WL.bin rfl rfl binv_eql rfl ?_
  refine WL.pickT rfl rfl rfl ?_
  refine WL.move rfl rfl ?_
  refine WL.known (t := 79) rfl (b := true) (by decide +kernel) ?_
  refine WL.yes rfl rfl ?_
  refine WL.move rfl rfl ?_
  refine WL.yes rfl rfl ?_
  refine WL.bin rfl rfl binv_eql rfl ?_
  refine WL.pickT rfl rfl rfl ?_
  refine WL.move rfl rfl ?_
  refine WL.known (t := 83) rfl (b := true) (by decide +kernel) ?_
  refine WL.yes rfl rfl ?_
  refine WL.move rfl rfl ?_
  refine WL.yes rfl rfl ?_
  refine WL.bin rfl rfl binv_eql rfl ?_
  refine WL.pickT rfl rfl rfl ?_
  refine WL.move rfl rfl ?_
  refine WL.known (t := 87) rfl (b := true) (by decide +kernel) ?_
  refine WL.yes rfl rfl ?_
  refine WL.move rfl rfl ?_
  refine WL.yes rfl rfl ?_
  refine WL.bin rfl rfl binv_eql rfl ?_
  refine WL.pickT rfl rfl rfl ?_
  refine WL.assign rfl rfl ?_
  refine (WL.done (WX.next ?_))
  refine WC.seq ?_
  refine WC.region ?_
  refine WL.move rfl rfl ?_
  refine WL.move rfl rfl ?_
  refine WL.known (t := 92) rfl (b := true) (by decide +kernel) ?_
  refine WL.yes rfl rfl ?_
  refine WL.move rfl rfl ?_
  refine WL.yes rfl rfl ?_
  refine WL.bin rfl rfl binv_eql rfl ?_
  refine WL.pickT rfl rfl rfl ?_
  refine WL.move rfl rfl ?_
  refine WL.known (t := 96) rfl (b := true) (by decide +kernel) ?_
  refine WL.yes rfl rfl ?_
  refine WL.move rfl rfl ?_
  refine WL.yes rfl rfl ?_
  refine WL.bin rfl rfl binv_eql rfl ?_
  refine WL.pickT rfl rfl rfl ?_
  refine WL.move rfl rfl ?_
  refine WL.known (t := 100) rfl (b := true) (by decide +kernel) ?_
  refine WL.yes rfl rfl ?_
  refine WL.move rfl rfl ?_
  refine WL.yes rfl rfl ?_
  refine WL.bin rfl rfl binv_eql rfl ?_
  refine WL.pickT rfl rfl rfl ?_
  refine WL.move rfl rfl ?_
  refine WL.known (t := 104) rfl (b := true) (by decide +kernel) ?_
  refine WL.yes rfl rfl ?_
  refine WL.move rfl rfl ?_
  refine WL.yes rfl rfl ?_
  refine WL.bin rfl rfl binv_eql rfl ?_
  refine WL.pickT rfl rfl rfl ?_
  refine WL.move rfl rfl ?_
  refine WL.known (t := 108) rfl (b := true) (by decide +kernel) ?_
  refine WL.yes rfl rfl ?_
  refine WL.move rfl rfl ?_
  refine WL.yes rfl rfl ?_
  refine WL.bin rfl rfl binv_eql rfl ?_
  refine WL.pickT rfl rfl rfl ?_
  refine WL.move rfl rfl ?_
  refine WL.known (t := 112) rfl (b := true) (by decide +kernel) ?_
  refine WL.yes rfl rfl ?_
  refine WL.move rfl rfl ?_
  refine WL.yes rfl rfl ?_
  refine WL.bin rfl rfl binv_eql rfl ?_
  refine WL.pickT rfl rfl rfl ?_
  refine WL.move rfl rfl ?_
  refine WL.known (t := 116) rfl (b := true) (by decide +kernel) ?_
  refine WL.yes rfl rfl ?_
  refine WL.move rfl rfl ?_
  refine WL.yes rfl rfl ?_
  refine WL.call call31 rfl rfl ?_
  refine Calls.mono (a_state _ hI H hL) ?_
  rintro _ wx ⟨rfl, H⟩
  refine ⟨_, rfl, ?_⟩
  refine WL.yes rfl rfl ?_
  refine WL.bin rfl rfl binv_eql rfl ?_
  refine WL.pickT rfl rfl rfl ?_
  refine WL.move rfl rfl ?_
  refine WL.known (t := 121) rfl (b := true) (by decide +kernel) ?_
  refine WL.yes rfl rfl ?_
  refine WL.call call23 rfl rfl ?_
  refine Calls.mono (a_new_no 0 (by decide) H hL) ?_
  rintro _ wx ⟨rfl, H⟩
  refine ⟨_, rfl, ?_⟩
  refine WL.yes rfl rfl ?_
  refine WL.bin rfl rfl (binv_ptr_eql (by kernel_rfl) _) rfl ?_
  refine WL.pickT rfl rfl rfl ?_
  refine WL.assign rfl rfl ?_
  refine (WL.done (WX.next ?_))
  refine (WC.ret ?_)
  refine ret_one rfl rfl ?_
  exact ⟨rfl, H.weaken (List.nil_sublist _)⟩

end Go.Proofs.YtkncbggnaobgeaaDoor
