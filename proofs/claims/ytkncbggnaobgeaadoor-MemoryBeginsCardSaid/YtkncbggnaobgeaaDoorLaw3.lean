/- Walks of functions of the program; printed by a program of this session (walk.py) out of hand-written hints. -/
import Derived.Test.YtkncbggnaobgeaaDoorApi2
import Derived.Test.YtkncbggnaobgeaaDoorLaw2
namespace Go.Proofs.YtkncbggnaobgeaaDoor
open Go.RowKit
set_option linter.unusedVariables false
set_option linter.unusedSimpArgs false
set_option maxRecDepth 100000

theorem begins_any (n : Int) (A : Option Addr) (m cap : Nat) (imgs : List (List Int × Int)) (hmi : m = imgs.length) (h8 : ∀ x ∈ imgs, x.1.length = 8) (w : World) (hL : L64 w) (himg : m ≤ 5000 → ImgIn w A imgs) : Calls Tryd.prog 3 #[.int .i64 n, .slice A m cap] w fun e w' => e = .returned (.bool true) ∧ St w [] w' [] := by
  refine calls_walk_n (args := [.int .i64 n, .slice A m cap]) Tryd.func3 rfl rfl rfl ?_
  have H := St.refl w
  refine WC.seq ?_
  refine WC.region ?_
  refine WL.assign rfl rfl ?_
  refine (WL.done (WX.next ?_))
  refine WC.seq ?_
  refine WC.seq ?_
  refine WC.region ?_
  refine WL.move rfl rfl ?_
  refine WL.lenSlc isl23 rfl rfl ?_
  refine WL.bin rfl rfl binv_gtr rfl ?_
  refine (WL.done (WX.next ?_))
  first | refine WC.cond_dec rfl (fun c1 => ?_) (fun c1 => ?_) | refine WC.cond rfl (fun c1 => ?_) (fun c1 => ?_)
  · -- c1 T
    refine WC.seq ?_
    refine WC.region ?_
    refine WL.call call22 rfl rfl ?_
    refine Calls.mono (sanity4_any _ (hL.of0 H)) ?_
    rintro _ wx ⟨rfl, Hc⟩
    refine ⟨_, rfl, ?_⟩
    replace H := H.call0 Hc
    refine WL.assign rfl rfl ?_
    refine (WL.done (WX.next ?_))
    refine (WC.ret (WX.then_ret ?_))
    refine ret_one rfl rfl ?_
    exact ⟨rfl, H.weaken (List.nil_sublist _)⟩
  · -- c1 F
    refine (WC.skip (WX.next ?_))
    refine WC.seq ?_
    refine WC.region ?_
    refine WL.move rfl rfl ?_
    refine WL.call call23 rfl rfl ?_
    refine Calls.mono (a_new_opt n H hL) ?_
    rintro _ wx ⟨oa, rfl, ha⟩
    refine ⟨_, rfl, ?_⟩
    rcases ha with ⟨hn, p, R, rfl, hI, H⟩ | ⟨hn, rfl, H⟩
    · -- way 0
      refine WL.assign rfl rfl ?_
      refine (WL.done (WX.next ?_))
      refine WC.seq ?_
      refine WC.region ?_
      refine WL.move rfl rfl ?_
      refine WL.call call24 rfl rfl ?_
      refine Calls.mono (a_from_opt A m cap imgs hmi h8 ((himg (by omega)).keep H) (by omega) H hL) ?_
      rintro _ wx ⟨ob, rfl, hb⟩
      refine ⟨_, rfl, ?_⟩
      rcases hb with ⟨ho, q, Q, rfl, hJ, H⟩ | ⟨ho, rfl, H⟩
      · -- way 00
        refine WL.assign rfl rfl ?_
        refine (WL.done (WX.next ?_))
        refine WC.seq ?_
        refine WC.seq ?_
        refine WC.region ?_
        refine WL.move rfl rfl ?_
        refine WL.bin rfl rfl (binv_ptr_neq (by kernel_rfl) _) rfl ?_
        refine WL.move rfl rfl ?_
        refine WL.bin rfl rfl binv_geq rfl ?_
        refine WL.move rfl rfl ?_
        refine WL.known (t := 19) rfl (b := true) (decide_eq_true (by omega)) ?_
        refine WL.yes rfl rfl ?_
        refine WL.move rfl rfl ?_
        refine WL.yes rfl rfl ?_
        refine WL.bin rfl rfl binv_leq rfl ?_
        refine WL.pickT rfl rfl rfl ?_
        refine WL.bin rfl rfl (binv_bool_neq (by kernel_rfl) _ _) rfl ?_
        refine WL.move rfl rfl ?_
        refine WL.known (t := 24) rfl (b := false) (by first | rfl | (simp; omega)) ?_
        refine WL.yes rfl rfl ?_
        refine WL.move rfl rfl ?_
        refine WL.yes rfl rfl ?_
        refine WL.bin rfl rfl (binv_ptr_neq (by kernel_rfl) _) rfl ?_
        refine WL.yes rfl rfl ?_
        refine WL.move rfl rfl ?_
        refine WL.yes rfl rfl ?_
        refine WL.call call25 rfl rfl ?_
        refine Calls.mono (a_right A m cap imgs hmi h8 ((himg (by omega)).keep H) (by omega) H) ?_
        rintro _ wx ⟨rfl, H⟩
        refine ⟨_, rfl, ?_⟩
        refine WL.yes rfl rfl ?_
        refine WL.bin rfl rfl (binv_bool_neq (by kernel_rfl) _ _) rfl ?_
        refine WL.pickF rfl rfl rfl ?_
        refine (WL.done (WX.next ?_))
        refine WC.cond_false rfl (by rw [ho]; rfl) ?_
        refine (WC.skip (WX.next ?_))
        refine WC.seq ?_
        refine WC.seq ?_
        refine WC.region ?_
        refine WL.move rfl rfl ?_
        refine WL.bin rfl rfl (binv_ptr_neq (by kernel_rfl) _) rfl ?_
        refine WL.move rfl rfl ?_
        refine WL.known (t := 33) rfl (b := true) (rfl) ?_
        refine WL.yes rfl rfl ?_
        refine WL.move rfl rfl ?_
        refine WL.yes rfl rfl ?_
        refine WL.call call26 rfl rfl ?_
        refine Calls.mono (a_lines hI H.swap hL) ?_
        rintro _ wx ⟨rfl, rfl⟩
        refine ⟨_, rfl, ?_⟩
        refine WL.yes rfl rfl ?_
        refine WL.move rfl rfl ?_
        refine WL.yes rfl rfl ?_
        refine WL.bin rfl rfl binv_neq rfl ?_
        refine WL.yes rfl rfl ?_
        refine WL.move rfl rfl ?_
        refine WL.known (t := 38) rfl (b := false) (decide_eq_false (by simp [PM.fresh]; omega)) ?_
        refine WL.yes rfl rfl ?_
        refine WL.move rfl rfl ?_
        refine WL.yes rfl rfl ?_
        refine WL.call call27 rfl rfl ?_
        refine Calls.mono (a_events (by omega) hI H.swap hL) ?_
        rintro _ wx ⟨r, rfl, hr, H⟩
        refine ⟨_, rfl, ?_⟩
        replace H := H.dropR.swap
        refine WL.yes rfl rfl ?_
        refine WL.lenR isl30 rfl rfl ?_
        refine WL.yes rfl rfl ?_
        refine WL.bin rfl rfl binv_neq rfl ?_
        refine WL.yes rfl rfl ?_
        refine WL.pickF rfl rfl rfl ?_
        refine WL.pickT rfl rfl rfl ?_
        refine (WL.done (WX.next ?_))
        refine WC.cond_false rfl (rfl) ?_
        refine (WC.skip (WX.next ?_))
        refine WC.seq ?_
        refine WC.region ?_
        refine WL.call call22 rfl rfl ?_
        refine Calls.mono (sanity4_any _ (hL.of0 H)) ?_
        rintro _ wx ⟨rfl, Hc⟩
        refine ⟨_, rfl, ?_⟩
        replace H := H.call0 Hc
        refine WL.move rfl rfl ?_
        refine WL.known (t := 46) rfl (b := true) (rfl) ?_
        refine WL.yes rfl rfl ?_
        refine WL.move rfl rfl ?_
        refine WL.yes rfl rfl ?_
        refine WL.bin rfl rfl (binv_ptr_eql (by kernel_rfl) _) rfl ?_
        refine WL.yes rfl rfl ?_
        refine WL.move rfl rfl ?_
        refine WL.known (t := 49) rfl (b := false) (rfl) ?_
        refine WL.yes rfl rfl ?_
        refine WL.move rfl rfl ?_
        refine WL.yes rfl rfl ?_
        refine WL.call call29 rfl rfl ?_
        refine Calls.mono (a_image hJ H hL) ?_
        rintro _ wx ⟨g, rfl, H⟩
        refine ⟨_, rfl, ?_⟩
        refine WL.yes rfl rfl ?_
        refine WL.move rfl rfl ?_
        refine WL.yes rfl rfl ?_
        refine WL.call call28 rfl rfl ?_
        refine Calls.mono (a_sameImage _ A _ m _ cap _ imgs (by simp [PM.ofImg]) hmi hJ.bare8 h8 (ImgIn.block (H.blk 0 rfl)) ((himg (by omega)).keep H) (by have := hJ.lens; omega) H) ?_
        rintro _ wx ⟨rfl, H⟩
        refine ⟨_, rfl, ?_⟩
        refine WL.yes rfl rfl ?_
        refine WL.move rfl rfl ?_
        refine WL.known (t := 54) rfl (b := true) (decide_eq_true (ofImg_bare imgs)) ?_
        refine WL.yes rfl rfl ?_
        refine WL.move rfl rfl ?_
        refine WL.yes rfl rfl ?_
        refine WL.call call27 rfl rfl ?_
        refine Calls.mono (a_events (by omega) hJ H hL) ?_
        rintro _ wx ⟨r, rfl, hr, H⟩
        refine ⟨_, rfl, ?_⟩
        refine WL.yes rfl rfl ?_
        refine WL.lenR isl30 rfl rfl ?_
        refine WL.yes rfl rfl ?_
        refine WL.bin rfl rfl binv_eql rfl ?_
        refine WL.yes rfl rfl ?_
        refine WL.pickT rfl rfl rfl ?_
        refine WL.yes rfl rfl ?_
        refine WL.pickF rfl rfl rfl ?_
        refine WL.pickT rfl rfl rfl ?_
        refine WL.assign rfl rfl ?_
        refine (WL.done (WX.next ?_))
        refine (WC.ret ?_)
        refine ret_one rfl rfl ?_
        exact ⟨rfl, H.weaken (List.nil_sublist _)⟩
      · -- way 01
        refine WL.assign rfl rfl ?_
        refine (WL.done (WX.next ?_))
        refine WC.seq ?_
        refine WC.seq ?_
        refine WC.region ?_
        refine WL.move rfl rfl ?_
        refine WL.bin rfl rfl (binv_ptr_neq (by kernel_rfl) _) rfl ?_
        refine WL.move rfl rfl ?_
        refine WL.bin rfl rfl binv_geq rfl ?_
        refine WL.move rfl rfl ?_
        refine WL.known (t := 19) rfl (b := true) (decide_eq_true (by omega)) ?_
        refine WL.yes rfl rfl ?_
        refine WL.move rfl rfl ?_
        refine WL.yes rfl rfl ?_
        refine WL.bin rfl rfl binv_leq rfl ?_
        refine WL.pickT rfl rfl rfl ?_
        refine WL.bin rfl rfl (binv_bool_neq (by kernel_rfl) _ _) rfl ?_
        refine WL.move rfl rfl ?_
        refine WL.known (t := 24) rfl (b := false) (by first | rfl | (simp; omega)) ?_
        refine WL.yes rfl rfl ?_
        refine WL.move rfl rfl ?_
        refine WL.yes rfl rfl ?_
        refine WL.bin rfl rfl (binv_ptr_neq (by kernel_rfl) _) rfl ?_
        refine WL.yes rfl rfl ?_
        refine WL.move rfl rfl ?_
        refine WL.yes rfl rfl ?_
        refine WL.call call25 rfl rfl ?_
        refine Calls.mono (a_right A m cap imgs hmi h8 ((himg (by omega)).keep H) (by omega) H) ?_
        rintro _ wx ⟨rfl, H⟩
        refine ⟨_, rfl, ?_⟩
        refine WL.yes rfl rfl ?_
        refine WL.bin rfl rfl (binv_bool_neq (by kernel_rfl) _ _) rfl ?_
        refine WL.pickF rfl rfl rfl ?_
        refine (WL.done (WX.next ?_))
        refine WC.cond_false rfl (by rw [ho]; rfl) ?_
        refine (WC.skip (WX.next ?_))
        refine WC.seq ?_
        refine WC.seq ?_
        refine WC.region ?_
        refine WL.move rfl rfl ?_
        refine WL.bin rfl rfl (binv_ptr_neq (by kernel_rfl) _) rfl ?_
        refine WL.move rfl rfl ?_
        refine WL.known (t := 33) rfl (b := true) (rfl) ?_
        refine WL.yes rfl rfl ?_
        refine WL.move rfl rfl ?_
        refine WL.yes rfl rfl ?_
        refine WL.call call26 rfl rfl ?_
        refine Calls.mono (a_lines hI H hL) ?_
        rintro _ wx ⟨rfl, rfl⟩
        refine ⟨_, rfl, ?_⟩
        refine WL.yes rfl rfl ?_
        refine WL.move rfl rfl ?_
        refine WL.yes rfl rfl ?_
        refine WL.bin rfl rfl binv_neq rfl ?_
        refine WL.yes rfl rfl ?_
        refine WL.move rfl rfl ?_
        refine WL.known (t := 38) rfl (b := false) (decide_eq_false (by simp [PM.fresh]; omega)) ?_
        refine WL.yes rfl rfl ?_
        refine WL.move rfl rfl ?_
        refine WL.yes rfl rfl ?_
        refine WL.call call27 rfl rfl ?_
        refine Calls.mono (a_events (by omega) hI H hL) ?_
        rintro _ wx ⟨r, rfl, hr, H⟩
        refine ⟨_, rfl, ?_⟩
        replace H := H.dropR
        refine WL.yes rfl rfl ?_
        refine WL.lenR isl30 rfl rfl ?_
        refine WL.yes rfl rfl ?_
        refine WL.bin rfl rfl binv_neq rfl ?_
        refine WL.yes rfl rfl ?_
        refine WL.pickF rfl rfl rfl ?_
        refine WL.pickT rfl rfl rfl ?_
        refine (WL.done (WX.next ?_))
        refine WC.cond_false rfl (rfl) ?_
        refine (WC.skip (WX.next ?_))
        refine WC.seq ?_
        refine WC.region ?_
        refine WL.call call22 rfl rfl ?_
        refine Calls.mono (sanity4_any _ (hL.of0 H)) ?_
        rintro _ wx ⟨rfl, Hc⟩
        refine ⟨_, rfl, ?_⟩
        replace H := H.call0 Hc
        refine WL.move rfl rfl ?_
        refine WL.known (t := 46) rfl (b := true) (rfl) ?_
        refine WL.yes rfl rfl ?_
        refine WL.move rfl rfl ?_
        refine WL.yes rfl rfl ?_
        refine WL.bin rfl rfl (binv_ptr_eql (by kernel_rfl) _) rfl ?_
        refine WL.yes rfl rfl ?_
        refine WL.move rfl rfl ?_
        refine WL.known (t := 49) rfl (b := true) (rfl) ?_
        refine WL.no rfl rfl rfl ?_
        refine WL.no rfl rfl rfl ?_
        refine WL.no rfl rfl rfl ?_
        refine WL.no rfl rfl rfl ?_
        refine WL.no rfl rfl rfl ?_
        refine WL.noU rfl rfl rfl rfl ?_
        refine WL.noU rfl rfl rfl rfl ?_
        refine WL.noU rfl rfl rfl rfl ?_
        refine WL.noU rfl rfl rfl rfl ?_
        refine WL.no rfl rfl rfl ?_
        refine WL.yes rfl rfl ?_
        refine WL.pickT rfl rfl rfl ?_
        refine WL.pickT rfl rfl rfl ?_
        refine WL.assign rfl rfl ?_
        refine (WL.done (WX.next ?_))
        refine (WC.ret ?_)
        refine ret_one rfl rfl ?_
        exact ⟨rfl, H.weaken (List.nil_sublist _)⟩
    · -- way 1
      refine WL.assign rfl rfl ?_
      refine (WL.done (WX.next ?_))
      refine WC.seq ?_
      refine WC.region ?_
      refine WL.move rfl rfl ?_
      refine WL.call call24 rfl rfl ?_
      refine Calls.mono (a_from_opt A m cap imgs hmi h8 ((himg (by omega)).keep H) (by omega) H hL) ?_
      rintro _ wx ⟨ob, rfl, hb⟩
      refine ⟨_, rfl, ?_⟩
      rcases hb with ⟨ho, q, Q, rfl, hJ, H⟩ | ⟨ho, rfl, H⟩
      · -- way 10
        refine WL.assign rfl rfl ?_
        refine (WL.done (WX.next ?_))
        refine WC.seq ?_
        refine WC.seq ?_
        refine WC.region ?_
        refine WL.move rfl rfl ?_
        refine WL.bin rfl rfl (binv_ptr_neq (by kernel_rfl) _) rfl ?_
        refine WL.move rfl rfl ?_
        refine WL.bin rfl rfl binv_geq rfl ?_
        refine WL.move rfl rfl ?_
        first | refine WL.splitD (t := 19) rfl (fun g1 => ?_) (fun g1 => ?_) | refine WL.split (t := 19) rfl (fun g1 => ?_) (fun g1 => ?_)
        · -- g1 True
          refine WL.yes rfl rfl ?_
          refine WL.move rfl rfl ?_
          refine WL.yes rfl rfl ?_
          refine WL.bin rfl rfl binv_leq rfl ?_
          refine WL.pickT rfl rfl rfl ?_
          refine WL.bin rfl rfl (binv_bool_neq (by kernel_rfl) _ _) rfl ?_
          refine WL.move rfl rfl ?_
          refine WL.known (t := 24) rfl (b := false) (by first | rfl | (simp; omega)) ?_
          refine WL.yes rfl rfl ?_
          refine WL.move rfl rfl ?_
          refine WL.yes rfl rfl ?_
          refine WL.bin rfl rfl (binv_ptr_neq (by kernel_rfl) _) rfl ?_
          refine WL.yes rfl rfl ?_
          refine WL.move rfl rfl ?_
          refine WL.yes rfl rfl ?_
          refine WL.call call25 rfl rfl ?_
          refine Calls.mono (a_right A m cap imgs hmi h8 ((himg (by omega)).keep H) (by omega) H) ?_
          rintro _ wx ⟨rfl, H⟩
          refine ⟨_, rfl, ?_⟩
          refine WL.yes rfl rfl ?_
          refine WL.bin rfl rfl (binv_bool_neq (by kernel_rfl) _ _) rfl ?_
          refine WL.pickF rfl rfl rfl ?_
          refine (WL.done (WX.next ?_))
          refine WC.cond_false rfl (by rw [ho]; rfl) ?_
          refine (WC.skip (WX.next ?_))
          refine WC.seq ?_
          refine WC.seq ?_
          refine WC.region ?_
          refine WL.move rfl rfl ?_
          refine WL.bin rfl rfl (binv_ptr_neq (by kernel_rfl) _) rfl ?_
          refine WL.move rfl rfl ?_
          refine WL.known (t := 33) rfl (b := false) (rfl) ?_
          refine WL.no rfl rfl rfl ?_
          refine WL.no rfl rfl rfl ?_
          refine WL.no rfl rfl rfl ?_
          refine WL.no rfl rfl rfl ?_
          refine WL.no rfl rfl rfl ?_
          refine WL.noU rfl rfl rfl rfl ?_
          refine WL.noU rfl rfl rfl rfl ?_
          refine WL.noU rfl rfl rfl rfl ?_
          refine WL.noU rfl rfl rfl rfl ?_
          refine WL.no rfl rfl rfl ?_
          refine WL.pickF rfl rfl rfl ?_
          refine (WL.done (WX.next ?_))
          refine WC.cond_false rfl (rfl) ?_
          refine (WC.skip (WX.next ?_))
          refine WC.seq ?_
          refine WC.region ?_
          refine WL.call call22 rfl rfl ?_
          refine Calls.mono (sanity4_any _ (hL.of0 H)) ?_
          rintro _ wx ⟨rfl, Hc⟩
          refine ⟨_, rfl, ?_⟩
          replace H := H.call0 Hc
          refine WL.move rfl rfl ?_
          refine WL.known (t := 46) rfl (b := true) (rfl) ?_
          refine WL.yes rfl rfl ?_
          refine WL.move rfl rfl ?_
          refine WL.yes rfl rfl ?_
          refine WL.bin rfl rfl (binv_ptr_eql (by kernel_rfl) _) rfl ?_
          refine WL.yes rfl rfl ?_
          refine WL.move rfl rfl ?_
          refine WL.known (t := 49) rfl (b := false) (rfl) ?_
          refine WL.yes rfl rfl ?_
          refine WL.move rfl rfl ?_
          refine WL.yes rfl rfl ?_
          refine WL.call call29 rfl rfl ?_
          refine Calls.mono (a_image hJ H hL) ?_
          rintro _ wx ⟨g, rfl, H⟩
          refine ⟨_, rfl, ?_⟩
          refine WL.yes rfl rfl ?_
          refine WL.move rfl rfl ?_
          refine WL.yes rfl rfl ?_
          refine WL.call call28 rfl rfl ?_
          refine Calls.mono (a_sameImage _ A _ m _ cap _ imgs (by simp [PM.ofImg]) hmi hJ.bare8 h8 (ImgIn.block (H.blk 0 rfl)) ((himg (by omega)).keep H) (by have := hJ.lens; omega) H) ?_
          rintro _ wx ⟨rfl, H⟩
          refine ⟨_, rfl, ?_⟩
          refine WL.yes rfl rfl ?_
          refine WL.move rfl rfl ?_
          refine WL.known (t := 54) rfl (b := true) (decide_eq_true (ofImg_bare imgs)) ?_
          refine WL.yes rfl rfl ?_
          refine WL.move rfl rfl ?_
          refine WL.yes rfl rfl ?_
          refine WL.call call27 rfl rfl ?_
          refine Calls.mono (a_events (by omega) hJ H hL) ?_
          rintro _ wx ⟨r, rfl, hr, H⟩
          refine ⟨_, rfl, ?_⟩
          refine WL.yes rfl rfl ?_
          refine WL.lenR isl30 rfl rfl ?_
          refine WL.yes rfl rfl ?_
          refine WL.bin rfl rfl binv_eql rfl ?_
          refine WL.yes rfl rfl ?_
          refine WL.pickT rfl rfl rfl ?_
          refine WL.yes rfl rfl ?_
          refine WL.pickF rfl rfl rfl ?_
          refine WL.pickT rfl rfl rfl ?_
          refine WL.assign rfl rfl ?_
          refine (WL.done (WX.next ?_))
          refine (WC.ret ?_)
          refine ret_one rfl rfl ?_
          exact ⟨rfl, H.weaken (List.nil_sublist _)⟩
        · -- g1 False
          refine WL.no rfl rfl rfl ?_
          refine WL.no rfl rfl rfl ?_
          refine WL.pickF rfl rfl rfl ?_
          refine WL.bin rfl rfl (binv_bool_neq (by kernel_rfl) _ _) rfl ?_
          refine WL.move rfl rfl ?_
          refine WL.known (t := 24) rfl (b := false) (by first | rfl | (simp; omega)) ?_
          refine WL.yes rfl rfl ?_
          refine WL.move rfl rfl ?_
          refine WL.yes rfl rfl ?_
          refine WL.bin rfl rfl (binv_ptr_neq (by kernel_rfl) _) rfl ?_
          refine WL.yes rfl rfl ?_
          refine WL.move rfl rfl ?_
          refine WL.yes rfl rfl ?_
          refine WL.call call25 rfl rfl ?_
          refine Calls.mono (a_right A m cap imgs hmi h8 ((himg (by omega)).keep H) (by omega) H) ?_
          rintro _ wx ⟨rfl, H⟩
          refine ⟨_, rfl, ?_⟩
          refine WL.yes rfl rfl ?_
          refine WL.bin rfl rfl (binv_bool_neq (by kernel_rfl) _ _) rfl ?_
          refine WL.pickF rfl rfl rfl ?_
          refine (WL.done (WX.next ?_))
          refine WC.cond_false rfl (by rw [ho]; rfl) ?_
          refine (WC.skip (WX.next ?_))
          refine WC.seq ?_
          refine WC.seq ?_
          refine WC.region ?_
          refine WL.move rfl rfl ?_
          refine WL.bin rfl rfl (binv_ptr_neq (by kernel_rfl) _) rfl ?_
          refine WL.move rfl rfl ?_
          refine WL.known (t := 33) rfl (b := false) (rfl) ?_
          refine WL.no rfl rfl rfl ?_
          refine WL.no rfl rfl rfl ?_
          refine WL.no rfl rfl rfl ?_
          refine WL.no rfl rfl rfl ?_
          refine WL.no rfl rfl rfl ?_
          refine WL.noU rfl rfl rfl rfl ?_
          refine WL.noU rfl rfl rfl rfl ?_
          refine WL.noU rfl rfl rfl rfl ?_
          refine WL.noU rfl rfl rfl rfl ?_
          refine WL.no rfl rfl rfl ?_
          refine WL.pickF rfl rfl rfl ?_
          refine (WL.done (WX.next ?_))
          refine WC.cond_false rfl (rfl) ?_
          refine (WC.skip (WX.next ?_))
          refine WC.seq ?_
          refine WC.region ?_
          refine WL.call call22 rfl rfl ?_
          refine Calls.mono (sanity4_any _ (hL.of0 H)) ?_
          rintro _ wx ⟨rfl, Hc⟩
          refine ⟨_, rfl, ?_⟩
          replace H := H.call0 Hc
          refine WL.move rfl rfl ?_
          refine WL.known (t := 46) rfl (b := true) (rfl) ?_
          refine WL.yes rfl rfl ?_
          refine WL.move rfl rfl ?_
          refine WL.yes rfl rfl ?_
          refine WL.bin rfl rfl (binv_ptr_eql (by kernel_rfl) _) rfl ?_
          refine WL.yes rfl rfl ?_
          refine WL.move rfl rfl ?_
          refine WL.known (t := 49) rfl (b := false) (rfl) ?_
          refine WL.yes rfl rfl ?_
          refine WL.move rfl rfl ?_
          refine WL.yes rfl rfl ?_
          refine WL.call call29 rfl rfl ?_
          refine Calls.mono (a_image hJ H hL) ?_
          rintro _ wx ⟨g, rfl, H⟩
          refine ⟨_, rfl, ?_⟩
          refine WL.yes rfl rfl ?_
          refine WL.move rfl rfl ?_
          refine WL.yes rfl rfl ?_
          refine WL.call call28 rfl rfl ?_
          refine Calls.mono (a_sameImage _ A _ m _ cap _ imgs (by simp [PM.ofImg]) hmi hJ.bare8 h8 (ImgIn.block (H.blk 0 rfl)) ((himg (by omega)).keep H) (by have := hJ.lens; omega) H) ?_
          rintro _ wx ⟨rfl, H⟩
          refine ⟨_, rfl, ?_⟩
          refine WL.yes rfl rfl ?_
          refine WL.move rfl rfl ?_
          refine WL.known (t := 54) rfl (b := true) (decide_eq_true (ofImg_bare imgs)) ?_
          refine WL.yes rfl rfl ?_
          refine WL.move rfl rfl ?_
          refine WL.yes rfl rfl ?_
          refine WL.call call27 rfl rfl ?_
          refine Calls.mono (a_events (by omega) hJ H hL) ?_
          rintro _ wx ⟨r, rfl, hr, H⟩
          refine ⟨_, rfl, ?_⟩
          refine WL.yes rfl rfl ?_
          refine WL.lenR isl30 rfl rfl ?_
          refine WL.yes rfl rfl ?_
          refine WL.bin rfl rfl binv_eql rfl ?_
          refine WL.yes rfl rfl ?_
          refine WL.pickT rfl rfl rfl ?_
          refine WL.yes rfl rfl ?_
          refine WL.pickF rfl rfl rfl ?_
          refine WL.pickT rfl rfl rfl ?_
          refine WL.assign rfl rfl ?_
          refine (WL.done (WX.next ?_))
          refine (WC.ret ?_)
          refine ret_one rfl rfl ?_
          exact ⟨rfl, H.weaken (List.nil_sublist _)⟩
      · -- way 11
        refine WL.assign rfl rfl ?_
        refine (WL.done (WX.next ?_))
        refine WC.seq ?_
        refine WC.seq ?_
        refine WC.region ?_
        refine WL.move rfl rfl ?_
        refine WL.bin rfl rfl (binv_ptr_neq (by kernel_rfl) _) rfl ?_
        refine WL.move rfl rfl ?_
        refine WL.bin rfl rfl binv_geq rfl ?_
        refine WL.move rfl rfl ?_
        first | refine WL.splitD (t := 19) rfl (fun g2 => ?_) (fun g2 => ?_) | refine WL.split (t := 19) rfl (fun g2 => ?_) (fun g2 => ?_)
        · -- g2 True
          refine WL.yes rfl rfl ?_
          refine WL.move rfl rfl ?_
          refine WL.yes rfl rfl ?_
          refine WL.bin rfl rfl binv_leq rfl ?_
          refine WL.pickT rfl rfl rfl ?_
          refine WL.bin rfl rfl (binv_bool_neq (by kernel_rfl) _ _) rfl ?_
          refine WL.move rfl rfl ?_
          refine WL.known (t := 24) rfl (b := false) (by first | rfl | (simp; omega)) ?_
          refine WL.yes rfl rfl ?_
          refine WL.move rfl rfl ?_
          refine WL.yes rfl rfl ?_
          refine WL.bin rfl rfl (binv_ptr_neq (by kernel_rfl) _) rfl ?_
          refine WL.yes rfl rfl ?_
          refine WL.move rfl rfl ?_
          refine WL.yes rfl rfl ?_
          refine WL.call call25 rfl rfl ?_
          refine Calls.mono (a_right A m cap imgs hmi h8 ((himg (by omega)).keep H) (by omega) H) ?_
          rintro _ wx ⟨rfl, H⟩
          refine ⟨_, rfl, ?_⟩
          refine WL.yes rfl rfl ?_
          refine WL.bin rfl rfl (binv_bool_neq (by kernel_rfl) _ _) rfl ?_
          refine WL.pickF rfl rfl rfl ?_
          refine (WL.done (WX.next ?_))
          refine WC.cond_false rfl (by rw [ho]; rfl) ?_
          refine (WC.skip (WX.next ?_))
          refine WC.seq ?_
          refine WC.seq ?_
          refine WC.region ?_
          refine WL.move rfl rfl ?_
          refine WL.bin rfl rfl (binv_ptr_neq (by kernel_rfl) _) rfl ?_
          refine WL.move rfl rfl ?_
          refine WL.known (t := 33) rfl (b := false) (rfl) ?_
          refine WL.no rfl rfl rfl ?_
          refine WL.no rfl rfl rfl ?_
          refine WL.no rfl rfl rfl ?_
          refine WL.no rfl rfl rfl ?_
          refine WL.no rfl rfl rfl ?_
          refine WL.noU rfl rfl rfl rfl ?_
          refine WL.noU rfl rfl rfl rfl ?_
          refine WL.noU rfl rfl rfl rfl ?_
          refine WL.noU rfl rfl rfl rfl ?_
          refine WL.no rfl rfl rfl ?_
          refine WL.pickF rfl rfl rfl ?_
          refine (WL.done (WX.next ?_))
          refine WC.cond_false rfl (rfl) ?_
          refine (WC.skip (WX.next ?_))
          refine WC.seq ?_
          refine WC.region ?_
          refine WL.call call22 rfl rfl ?_
          refine Calls.mono (sanity4_any _ (hL.of0 H)) ?_
          rintro _ wx ⟨rfl, Hc⟩
          refine ⟨_, rfl, ?_⟩
          replace H := H.call0 Hc
          refine WL.move rfl rfl ?_
          refine WL.known (t := 46) rfl (b := true) (rfl) ?_
          refine WL.yes rfl rfl ?_
          refine WL.move rfl rfl ?_
          refine WL.yes rfl rfl ?_
          refine WL.bin rfl rfl (binv_ptr_eql (by kernel_rfl) _) rfl ?_
          refine WL.yes rfl rfl ?_
          refine WL.move rfl rfl ?_
          refine WL.known (t := 49) rfl (b := true) (rfl) ?_
          refine WL.no rfl rfl rfl ?_
          refine WL.no rfl rfl rfl ?_
          refine WL.no rfl rfl rfl ?_
          refine WL.no rfl rfl rfl ?_
          refine WL.no rfl rfl rfl ?_
          refine WL.noU rfl rfl rfl rfl ?_
          refine WL.noU rfl rfl rfl rfl ?_
          refine WL.noU rfl rfl rfl rfl ?_
          refine WL.noU rfl rfl rfl rfl ?_
          refine WL.no rfl rfl rfl ?_
          refine WL.yes rfl rfl ?_
          refine WL.pickT rfl rfl rfl ?_
          refine WL.pickT rfl rfl rfl ?_
          refine WL.assign rfl rfl ?_
          refine (WL.done (WX.next ?_))
          refine (WC.ret ?_)
          refine ret_one rfl rfl ?_
          exact ⟨rfl, H.weaken (List.nil_sublist _)⟩
        · -- g2 False
          refine WL.no rfl rfl rfl ?_
          refine WL.no rfl rfl rfl ?_
          refine WL.pickF rfl rfl rfl ?_
          refine WL.bin rfl rfl (binv_bool_neq (by kernel_rfl) _ _) rfl ?_
          refine WL.move rfl rfl ?_
          refine WL.known (t := 24) rfl (b := false) (by first | rfl | (simp; omega)) ?_
          refine WL.yes rfl rfl ?_
          refine WL.move rfl rfl ?_
          refine WL.yes rfl rfl ?_
          refine WL.bin rfl rfl (binv_ptr_neq (by kernel_rfl) _) rfl ?_
          refine WL.yes rfl rfl ?_
          refine WL.move rfl rfl ?_
          refine WL.yes rfl rfl ?_
          refine WL.call call25 rfl rfl ?_
          refine Calls.mono (a_right A m cap imgs hmi h8 ((himg (by omega)).keep H) (by omega) H) ?_
          rintro _ wx ⟨rfl, H⟩
          refine ⟨_, rfl, ?_⟩
          refine WL.yes rfl rfl ?_
          refine WL.bin rfl rfl (binv_bool_neq (by kernel_rfl) _ _) rfl ?_
          refine WL.pickF rfl rfl rfl ?_
          refine (WL.done (WX.next ?_))
          refine WC.cond_false rfl (by rw [ho]; rfl) ?_
          refine (WC.skip (WX.next ?_))
          refine WC.seq ?_
          refine WC.seq ?_
          refine WC.region ?_
          refine WL.move rfl rfl ?_
          refine WL.bin rfl rfl (binv_ptr_neq (by kernel_rfl) _) rfl ?_
          refine WL.move rfl rfl ?_
          refine WL.known (t := 33) rfl (b := false) (rfl) ?_
          refine WL.no rfl rfl rfl ?_
          refine WL.no rfl rfl rfl ?_
          refine WL.no rfl rfl rfl ?_
          refine WL.no rfl rfl rfl ?_
          refine WL.no rfl rfl rfl ?_
          refine WL.noU rfl rfl rfl rfl ?_
          refine WL.noU rfl rfl rfl rfl ?_
          refine WL.noU rfl rfl rfl rfl ?_
          refine WL.noU rfl rfl rfl rfl ?_
          refine WL.no rfl rfl rfl ?_
          refine WL.pickF rfl rfl rfl ?_
          refine (WL.done (WX.next ?_))
          refine WC.cond_false rfl (rfl) ?_
          refine (WC.skip (WX.next ?_))
          refine WC.seq ?_
          refine WC.region ?_
          refine WL.call call22 rfl rfl ?_
          refine Calls.mono (sanity4_any _ (hL.of0 H)) ?_
          rintro _ wx ⟨rfl, Hc⟩
          refine ⟨_, rfl, ?_⟩
          replace H := H.call0 Hc
          refine WL.move rfl rfl ?_
          refine WL.known (t := 46) rfl (b := true) (rfl) ?_
          refine WL.yes rfl rfl ?_
          refine WL.move rfl rfl ?_
          refine WL.yes rfl rfl ?_
          refine WL.bin rfl rfl (binv_ptr_eql (by kernel_rfl) _) rfl ?_
          refine WL.yes rfl rfl ?_
          refine WL.move rfl rfl ?_
          refine WL.known (t := 49) rfl (b := true) (rfl) ?_
          refine WL.no rfl rfl rfl ?_
          refine WL.no rfl rfl rfl ?_
          refine WL.no rfl rfl rfl ?_
          refine WL.no rfl rfl rfl ?_
          refine WL.no rfl rfl rfl ?_
          refine WL.noU rfl rfl rfl rfl ?_
          refine WL.noU rfl rfl rfl rfl ?_
          refine WL.noU rfl rfl rfl rfl ?_
          refine WL.noU rfl rfl rfl rfl ?_
          refine WL.no rfl rfl rfl ?_
          refine WL.yes rfl rfl ?_
          refine WL.pickT rfl rfl rfl ?_
          refine WL.pickT rfl rfl rfl ?_
          refine WL.assign rfl rfl ?_
          refine (WL.done (WX.next ?_))
          refine (WC.ret ?_)
          refine ret_one rfl rfl ?_
          exact ⟨rfl, H.weaken (List.nil_sublist _)⟩

end Go.Proofs.YtkncbggnaobgeaaDoor
