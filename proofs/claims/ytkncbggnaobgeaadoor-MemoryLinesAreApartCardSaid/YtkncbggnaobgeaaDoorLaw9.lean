/- Walks of functions of the program; printed by a program of this session (walk.py) out of hand-written hints. -/
import Derived.Test.YtkncbggnaobgeaaDoorGh
import Derived.Test.YtkncbggnaobgeaaDoorPl3
import Derived.Test.YtkncbggnaobgeaaDoorLaw7
namespace Go.Proofs.YtkncbggnaobgeaaDoor
open Go.RowKit
set_option linter.unusedVariables false
set_option linter.unusedSimpArgs false
set_option maxRecDepth 100000

theorem pend_le {R : RM} {p k : Nat} {M : PM} (hI : Is R p M k) (g : Nat) : (M.pend (g : Int)).length ≤ k := by
  unfold PM.pend
  split
  · rename_i h; exact hI.sm.ps _ (line_mem h)
  · exact Nat.zero_le _

theorem lineOf_any (x : POp) (A : Option Addr) (cap : Nat) (len : Int) (hx : x.ok) (w : World) : Calls Tryd.prog 43 #[.agg (opC x A cap).toArray, .int .i64 len] w fun e w' => e = .returned (.int .i64 (x.line len)) ∧ St w [] w' [] := by
  refine calls_walk_n (args := [.agg (opC x A cap).toArray, .int .i64 len]) Tryd.func43 rfl rfl rfl ?_
  have H := St.refl w
  refine WC.seq ?_
  refine WC.region ?_
  refine WL.box (v := .agg (opC x A cap).toArray) H rfl rfl ?_
  intro b2 wx hb2 hge2 H
  change St w [] wx [(b2, .cells (opC x A cap).toArray 60)] at H
  have hxa := hx.a
  refine WL.assign rfl rfl ?_
  refine (WL.done (WX.next ?_))
  refine WC.seq ?_
  refine WC.region ?_
  refine WL.assign rfl rfl ?_
  refine (WL.done (WX.next ?_))
  refine WC.seq ?_
  refine WC.seq ?_
  refine WC.region ?_
  refine WL.fieldAddr fld60_0 rfl rfl ?_
  first | refine WL.load rfl (H.rd1 ty3 0 rfl rfl) rfl ?_
  refine (WL.done (WX.next ?_))
  refine WC.block ?_
  refine WC.seq ?_
  refine WC.seq ?_
  refine WC.region ?_
  refine WL.bin rfl rfl binv_eql rfl ?_
  refine WL.assign rfl rfl ?_
  refine (WL.done (WX.next ?_))
  first | refine WC.cond_dec rfl (fun c1 => ?_) (fun c1 => ?_) | refine WC.cond rfl (fun c1 => ?_) (fun c1 => ?_)
  · -- c1 T
    refine (WC.skip (WX.next ?_))
    first | refine WC.cond_dec rfl (fun c2 => ?_) (fun c2 => ?_) | refine WC.cond rfl (fun c2 => ?_) (fun c2 => ?_)
    · -- c2 T
      refine WC.seq ?_
      refine WC.region ?_
      refine WL.fieldAddr fld60_1 rfl rfl ?_
      first | refine WL.load rfl (H.rd1 ty3 0 rfl rfl) rfl ?_
      refine WL.bin rfl rfl binv_geq rfl ?_
      refine (WL.done (WX.next ?_))
      first | refine WC.cond_dec rfl (fun c3 => ?_) (fun c3 => ?_) | refine WC.cond rfl (fun c3 => ?_) (fun c3 => ?_)
      · -- c3 T
        refine WC.region ?_
        refine WL.fieldAddr fld60_1 rfl rfl ?_
        first | refine WL.load rfl (H.rd1 ty3 0 rfl rfl) rfl ?_
        first | refine WL.bin rfl rfl (iquo (by omega) (by omega) (by omega)) rfl ?_ | refine WL.bin rfl rfl (iquoT (by omega) (by omega) (by omega)) rfl ?_
        refine WL.assign rfl rfl ?_
        refine (WL.done (WX.block_normal (WX.next ?_)))
        refine WC.seq ?_
        refine WC.seq ?_
        refine WC.region ?_
        refine WL.move rfl rfl ?_
        refine WL.move rfl rfl ?_
        refine WL.bin rfl rfl binv_geq rfl ?_
        refine (WL.done (WX.next ?_))
        first | refine WC.cond_dec rfl (fun c4 => ?_) (fun c4 => ?_) | refine WC.cond rfl (fun c4 => ?_) (fun c4 => ?_)
        · -- c4 T
          refine WC.seq ?_
          refine WC.region ?_
          refine WL.assign rfl rfl ?_
          refine (WL.done (WX.next ?_))
          refine (WC.ret (WX.then_ret ?_))
          refine ret_one rfl rfl ?_
          refine ⟨congrArg (fun z => Ending.returned (Value.int .i64 z)) ?_, H.weaken (List.nil_sublist _)⟩
          unfold POp.line POp.line0
          (repeat' split) <;> omega
        · -- c4 F
          refine (WC.skip (WX.next ?_))
          refine WC.seq ?_
          refine WC.region ?_
          refine WL.move rfl rfl ?_
          refine WL.assign rfl rfl ?_
          refine (WL.done (WX.next ?_))
          refine (WC.ret ?_)
          refine ret_one rfl rfl ?_
          refine ⟨congrArg (fun z => Ending.returned (Value.int .i64 z)) ?_, H.weaken (List.nil_sublist _)⟩
          unfold POp.line POp.line0
          (repeat' split) <;> omega
      · -- c3 F
        refine (WC.skip (WX.block_normal (WX.next ?_)))
        refine WC.seq ?_
        refine WC.seq ?_
        refine WC.region ?_
        refine WL.move rfl rfl ?_
        refine WL.move rfl rfl ?_
        refine WL.bin rfl rfl binv_geq rfl ?_
        refine (WL.done (WX.next ?_))
        first | refine WC.cond_dec rfl (fun c5 => ?_) (fun c5 => ?_) | refine WC.cond rfl (fun c5 => ?_) (fun c5 => ?_)
        · -- c5 T
          refine WC.seq ?_
          refine WC.region ?_
          refine WL.assign rfl rfl ?_
          refine (WL.done (WX.next ?_))
          refine (WC.ret (WX.then_ret ?_))
          refine ret_one rfl rfl ?_
          refine ⟨congrArg (fun z => Ending.returned (Value.int .i64 z)) ?_, H.weaken (List.nil_sublist _)⟩
          unfold POp.line POp.line0
          (repeat' split) <;> omega
        · -- c5 F
          refine (WC.skip (WX.next ?_))
          refine WC.seq ?_
          refine WC.region ?_
          refine WL.move rfl rfl ?_
          refine WL.assign rfl rfl ?_
          refine (WL.done (WX.next ?_))
          refine (WC.ret ?_)
          refine ret_one rfl rfl ?_
          refine ⟨congrArg (fun z => Ending.returned (Value.int .i64 z)) ?_, H.weaken (List.nil_sublist _)⟩
          unfold POp.line POp.line0
          (repeat' split) <;> omega
    · -- c2 F
      refine WC.seq ?_
      refine WC.seq ?_
      refine WC.region ?_
      refine WL.bin rfl rfl binv_eql rfl ?_
      refine WL.assign rfl rfl ?_
      refine (WL.done (WX.next ?_))
      first | refine WC.cond_dec rfl (fun c6 => ?_) (fun c6 => ?_) | refine WC.cond rfl (fun c6 => ?_) (fun c6 => ?_)
      · -- c6 T
        refine (WC.skip (WX.next ?_))
        first | refine WC.cond_dec rfl (fun c7 => ?_) (fun c7 => ?_) | refine WC.cond rfl (fun c7 => ?_) (fun c7 => ?_)
        · -- c7 T
          refine WC.region ?_
          refine WL.fieldAddr fld60_1 rfl rfl ?_
          first | refine WL.load rfl (H.rd1 ty3 0 rfl rfl) rfl ?_
          refine WL.assign rfl rfl ?_
          refine (WL.done (WX.block_normal (WX.next ?_)))
          refine WC.seq ?_
          refine WC.seq ?_
          refine WC.region ?_
          refine WL.move rfl rfl ?_
          refine WL.move rfl rfl ?_
          refine WL.bin rfl rfl binv_geq rfl ?_
          refine (WL.done (WX.next ?_))
          first | refine WC.cond_dec rfl (fun c8 => ?_) (fun c8 => ?_) | refine WC.cond rfl (fun c8 => ?_) (fun c8 => ?_)
          · -- c8 T
            refine WC.seq ?_
            refine WC.region ?_
            refine WL.assign rfl rfl ?_
            refine (WL.done (WX.next ?_))
            refine (WC.ret (WX.then_ret ?_))
            refine ret_one rfl rfl ?_
            refine ⟨congrArg (fun z => Ending.returned (Value.int .i64 z)) ?_, H.weaken (List.nil_sublist _)⟩
            unfold POp.line POp.line0
            (repeat' split) <;> omega
          · -- c8 F
            refine (WC.skip (WX.next ?_))
            refine WC.seq ?_
            refine WC.region ?_
            refine WL.move rfl rfl ?_
            refine WL.assign rfl rfl ?_
            refine (WL.done (WX.next ?_))
            refine (WC.ret ?_)
            refine ret_one rfl rfl ?_
            refine ⟨congrArg (fun z => Ending.returned (Value.int .i64 z)) ?_, H.weaken (List.nil_sublist _)⟩
            unfold POp.line POp.line0
            (repeat' split) <;> omega
        · -- c7 F
          refine (WC.skip (WX.block_normal (WX.next ?_)))
          refine WC.seq ?_
          refine WC.seq ?_
          refine WC.region ?_
          refine WL.move rfl rfl ?_
          refine WL.move rfl rfl ?_
          refine WL.bin rfl rfl binv_geq rfl ?_
          refine (WL.done (WX.next ?_))
          first | refine WC.cond_dec rfl (fun c9 => ?_) (fun c9 => ?_) | refine WC.cond rfl (fun c9 => ?_) (fun c9 => ?_)
          · -- c9 T
            refine WC.seq ?_
            refine WC.region ?_
            refine WL.assign rfl rfl ?_
            refine (WL.done (WX.next ?_))
            refine (WC.ret (WX.then_ret ?_))
            refine ret_one rfl rfl ?_
            refine ⟨congrArg (fun z => Ending.returned (Value.int .i64 z)) ?_, H.weaken (List.nil_sublist _)⟩
            unfold POp.line POp.line0
            (repeat' split) <;> omega
          · -- c9 F
            refine (WC.skip (WX.next ?_))
            refine WC.seq ?_
            refine WC.region ?_
            refine WL.move rfl rfl ?_
            refine WL.assign rfl rfl ?_
            refine (WL.done (WX.next ?_))
            refine (WC.ret ?_)
            refine ret_one rfl rfl ?_
            refine ⟨congrArg (fun z => Ending.returned (Value.int .i64 z)) ?_, H.weaken (List.nil_sublist _)⟩
            unfold POp.line POp.line0
            (repeat' split) <;> omega
      · -- c6 F
        refine WC.seq ?_
        refine WC.region ?_
        refine WL.bin rfl rfl binv_eql rfl ?_
        refine WL.assign rfl rfl ?_
        refine (WL.done (WX.next ?_))
        first | refine WC.cond_dec rfl (fun c10 => ?_) (fun c10 => ?_) | refine WC.cond rfl (fun c10 => ?_) (fun c10 => ?_)
        · -- c10 T
          refine (WC.skip (WX.next ?_))
          first | refine WC.cond_dec rfl (fun c11 => ?_) (fun c11 => ?_) | refine WC.cond rfl (fun c11 => ?_) (fun c11 => ?_)
          · -- c11 T
            refine WC.region ?_
            refine WL.fieldAddr fld60_1 rfl rfl ?_
            first | refine WL.load rfl (H.rd1 ty3 0 rfl rfl) rfl ?_
            refine WL.assign rfl rfl ?_
            refine (WL.done (WX.block_normal (WX.next ?_)))
            refine WC.seq ?_
            refine WC.seq ?_
            refine WC.region ?_
            refine WL.move rfl rfl ?_
            refine WL.move rfl rfl ?_
            refine WL.bin rfl rfl binv_geq rfl ?_
            refine (WL.done (WX.next ?_))
            first | refine WC.cond_dec rfl (fun c12 => ?_) (fun c12 => ?_) | refine WC.cond rfl (fun c12 => ?_) (fun c12 => ?_)
            · -- c12 T
              refine WC.seq ?_
              refine WC.region ?_
              refine WL.assign rfl rfl ?_
              refine (WL.done (WX.next ?_))
              refine (WC.ret (WX.then_ret ?_))
              refine ret_one rfl rfl ?_
              refine ⟨congrArg (fun z => Ending.returned (Value.int .i64 z)) ?_, H.weaken (List.nil_sublist _)⟩
              unfold POp.line POp.line0
              (repeat' split) <;> omega
            · -- c12 F
              refine (WC.skip (WX.next ?_))
              refine WC.seq ?_
              refine WC.region ?_
              refine WL.move rfl rfl ?_
              refine WL.assign rfl rfl ?_
              refine (WL.done (WX.next ?_))
              refine (WC.ret ?_)
              refine ret_one rfl rfl ?_
              refine ⟨congrArg (fun z => Ending.returned (Value.int .i64 z)) ?_, H.weaken (List.nil_sublist _)⟩
              unfold POp.line POp.line0
              (repeat' split) <;> omega
          · -- c11 F
            refine (WC.skip (WX.block_normal (WX.next ?_)))
            refine WC.seq ?_
            refine WC.seq ?_
            refine WC.region ?_
            refine WL.move rfl rfl ?_
            refine WL.move rfl rfl ?_
            refine WL.bin rfl rfl binv_geq rfl ?_
            refine (WL.done (WX.next ?_))
            first | refine WC.cond_dec rfl (fun c13 => ?_) (fun c13 => ?_) | refine WC.cond rfl (fun c13 => ?_) (fun c13 => ?_)
            · -- c13 T
              refine WC.seq ?_
              refine WC.region ?_
              refine WL.assign rfl rfl ?_
              refine (WL.done (WX.next ?_))
              refine (WC.ret (WX.then_ret ?_))
              refine ret_one rfl rfl ?_
              refine ⟨congrArg (fun z => Ending.returned (Value.int .i64 z)) ?_, H.weaken (List.nil_sublist _)⟩
              unfold POp.line POp.line0
              (repeat' split) <;> omega
            · -- c13 F
              refine (WC.skip (WX.next ?_))
              refine WC.seq ?_
              refine WC.region ?_
              refine WL.move rfl rfl ?_
              refine WL.assign rfl rfl ?_
              refine (WL.done (WX.next ?_))
              refine (WC.ret ?_)
              refine ret_one rfl rfl ?_
              refine ⟨congrArg (fun z => Ending.returned (Value.int .i64 z)) ?_, H.weaken (List.nil_sublist _)⟩
              unfold POp.line POp.line0
              (repeat' split) <;> omega
        · -- c10 F
          refine WC.seq ?_
          refine WC.region ?_
          refine WL.bin rfl rfl binv_eql rfl ?_
          refine WL.assign rfl rfl ?_
          refine (WL.done (WX.next ?_))
          first | refine WC.cond_dec rfl (fun c14 => ?_) (fun c14 => ?_) | refine WC.cond rfl (fun c14 => ?_) (fun c14 => ?_)
          · -- c14 T
            refine (WC.skip (WX.next ?_))
            first | refine WC.cond_dec rfl (fun c15 => ?_) (fun c15 => ?_) | refine WC.cond rfl (fun c15 => ?_) (fun c15 => ?_)
            · -- c15 T
              refine WC.region ?_
              refine WL.fieldAddr fld60_1 rfl rfl ?_
              first | refine WL.load rfl (H.rd1 ty3 0 rfl rfl) rfl ?_
              refine WL.assign rfl rfl ?_
              refine (WL.done (WX.block_normal (WX.next ?_)))
              refine WC.seq ?_
              refine WC.seq ?_
              refine WC.region ?_
              refine WL.move rfl rfl ?_
              refine WL.move rfl rfl ?_
              refine WL.bin rfl rfl binv_geq rfl ?_
              refine (WL.done (WX.next ?_))
              first | refine WC.cond_dec rfl (fun c16 => ?_) (fun c16 => ?_) | refine WC.cond rfl (fun c16 => ?_) (fun c16 => ?_)
              · -- c16 T
                refine WC.seq ?_
                refine WC.region ?_
                refine WL.assign rfl rfl ?_
                refine (WL.done (WX.next ?_))
                refine (WC.ret (WX.then_ret ?_))
                refine ret_one rfl rfl ?_
                refine ⟨congrArg (fun z => Ending.returned (Value.int .i64 z)) ?_, H.weaken (List.nil_sublist _)⟩
                unfold POp.line POp.line0
                (repeat' split) <;> omega
              · -- c16 F
                refine (WC.skip (WX.next ?_))
                refine WC.seq ?_
                refine WC.region ?_
                refine WL.move rfl rfl ?_
                refine WL.assign rfl rfl ?_
                refine (WL.done (WX.next ?_))
                refine (WC.ret ?_)
                refine ret_one rfl rfl ?_
                refine ⟨congrArg (fun z => Ending.returned (Value.int .i64 z)) ?_, H.weaken (List.nil_sublist _)⟩
                unfold POp.line POp.line0
                (repeat' split) <;> omega
            · -- c15 F
              refine (WC.skip (WX.block_normal (WX.next ?_)))
              refine WC.seq ?_
              refine WC.seq ?_
              refine WC.region ?_
              refine WL.move rfl rfl ?_
              refine WL.move rfl rfl ?_
              refine WL.bin rfl rfl binv_geq rfl ?_
              refine (WL.done (WX.next ?_))
              first | refine WC.cond_dec rfl (fun c17 => ?_) (fun c17 => ?_) | refine WC.cond rfl (fun c17 => ?_) (fun c17 => ?_)
              · -- c17 T
                refine WC.seq ?_
                refine WC.region ?_
                refine WL.assign rfl rfl ?_
                refine (WL.done (WX.next ?_))
                refine (WC.ret (WX.then_ret ?_))
                refine ret_one rfl rfl ?_
                refine ⟨congrArg (fun z => Ending.returned (Value.int .i64 z)) ?_, H.weaken (List.nil_sublist _)⟩
                unfold POp.line POp.line0
                (repeat' split) <;> omega
              · -- c17 F
                refine (WC.skip (WX.next ?_))
                refine WC.seq ?_
                refine WC.region ?_
                refine WL.move rfl rfl ?_
                refine WL.assign rfl rfl ?_
                refine (WL.done (WX.next ?_))
                refine (WC.ret ?_)
                refine ret_one rfl rfl ?_
                refine ⟨congrArg (fun z => Ending.returned (Value.int .i64 z)) ?_, H.weaken (List.nil_sublist _)⟩
                unfold POp.line POp.line0
                (repeat' split) <;> omega
          · -- c14 F
            refine WC.region ?_
            refine WL.bin rfl rfl binv_eql rfl ?_
            refine WL.assign rfl rfl ?_
            refine (WL.done (WX.next ?_))
            first | refine WC.cond_dec rfl (fun c18 => ?_) (fun c18 => ?_) | refine WC.cond rfl (fun c18 => ?_) (fun c18 => ?_)
            · -- c18 T
              refine WC.region ?_
              refine WL.fieldAddr fld60_1 rfl rfl ?_
              first | refine WL.load rfl (H.rd1 ty3 0 rfl rfl) rfl ?_
              refine WL.assign rfl rfl ?_
              refine (WL.done (WX.block_normal (WX.next ?_)))
              refine WC.seq ?_
              refine WC.seq ?_
              refine WC.region ?_
              refine WL.move rfl rfl ?_
              refine WL.move rfl rfl ?_
              refine WL.bin rfl rfl binv_geq rfl ?_
              refine (WL.done (WX.next ?_))
              first | refine WC.cond_dec rfl (fun c19 => ?_) (fun c19 => ?_) | refine WC.cond rfl (fun c19 => ?_) (fun c19 => ?_)
              · -- c19 T
                refine WC.seq ?_
                refine WC.region ?_
                refine WL.assign rfl rfl ?_
                refine (WL.done (WX.next ?_))
                refine (WC.ret (WX.then_ret ?_))
                refine ret_one rfl rfl ?_
                refine ⟨congrArg (fun z => Ending.returned (Value.int .i64 z)) ?_, H.weaken (List.nil_sublist _)⟩
                unfold POp.line POp.line0
                (repeat' split) <;> omega
              · -- c19 F
                refine (WC.skip (WX.next ?_))
                refine WC.seq ?_
                refine WC.region ?_
                refine WL.move rfl rfl ?_
                refine WL.assign rfl rfl ?_
                refine (WL.done (WX.next ?_))
                refine (WC.ret ?_)
                refine ret_one rfl rfl ?_
                refine ⟨congrArg (fun z => Ending.returned (Value.int .i64 z)) ?_, H.weaken (List.nil_sublist _)⟩
                unfold POp.line POp.line0
                (repeat' split) <;> omega
            · -- c18 F
              refine (WC.skip (WX.block_normal (WX.next ?_)))
              refine WC.seq ?_
              refine WC.seq ?_
              refine WC.region ?_
              refine WL.move rfl rfl ?_
              refine WL.move rfl rfl ?_
              refine WL.bin rfl rfl binv_geq rfl ?_
              refine (WL.done (WX.next ?_))
              first | refine WC.cond_dec rfl (fun c20 => ?_) (fun c20 => ?_) | refine WC.cond rfl (fun c20 => ?_) (fun c20 => ?_)
              · -- c20 T
                refine WC.seq ?_
                refine WC.region ?_
                refine WL.assign rfl rfl ?_
                refine (WL.done (WX.next ?_))
                refine (WC.ret (WX.then_ret ?_))
                refine ret_one rfl rfl ?_
                refine ⟨congrArg (fun z => Ending.returned (Value.int .i64 z)) ?_, H.weaken (List.nil_sublist _)⟩
                unfold POp.line POp.line0
                (repeat' split) <;> omega
              · -- c20 F
                refine (WC.skip (WX.next ?_))
                refine WC.seq ?_
                refine WC.region ?_
                refine WL.move rfl rfl ?_
                refine WL.assign rfl rfl ?_
                refine (WL.done (WX.next ?_))
                refine (WC.ret ?_)
                refine ret_one rfl rfl ?_
                refine ⟨congrArg (fun z => Ending.returned (Value.int .i64 z)) ?_, H.weaken (List.nil_sublist _)⟩
                unfold POp.line POp.line0
                (repeat' split) <;> omega
  · -- c1 F
    refine WC.region ?_
    refine WL.bin rfl rfl binv_eql rfl ?_
    refine WL.assign rfl rfl ?_
    refine (WL.done (WX.next ?_))
    first | refine WC.cond_dec rfl (fun c21 => ?_) (fun c21 => ?_) | refine WC.cond rfl (fun c21 => ?_) (fun c21 => ?_)
    · -- c21 T
      refine WC.seq ?_
      refine WC.region ?_
      refine WL.fieldAddr fld60_1 rfl rfl ?_
      first | refine WL.load rfl (H.rd1 ty3 0 rfl rfl) rfl ?_
      refine WL.bin rfl rfl binv_geq rfl ?_
      refine (WL.done (WX.next ?_))
      first | refine WC.cond_dec rfl (fun c22 => ?_) (fun c22 => ?_) | refine WC.cond rfl (fun c22 => ?_) (fun c22 => ?_)
      · -- c22 T
        refine WC.region ?_
        refine WL.fieldAddr fld60_1 rfl rfl ?_
        first | refine WL.load rfl (H.rd1 ty3 0 rfl rfl) rfl ?_
        first | refine WL.bin rfl rfl (iquo (by omega) (by omega) (by omega)) rfl ?_ | refine WL.bin rfl rfl (iquoT (by omega) (by omega) (by omega)) rfl ?_
        refine WL.assign rfl rfl ?_
        refine (WL.done (WX.block_normal (WX.next ?_)))
        refine WC.seq ?_
        refine WC.seq ?_
        refine WC.region ?_
        refine WL.move rfl rfl ?_
        refine WL.move rfl rfl ?_
        refine WL.bin rfl rfl binv_geq rfl ?_
        refine (WL.done (WX.next ?_))
        first | refine WC.cond_dec rfl (fun c23 => ?_) (fun c23 => ?_) | refine WC.cond rfl (fun c23 => ?_) (fun c23 => ?_)
        · -- c23 T
          refine WC.seq ?_
          refine WC.region ?_
          refine WL.assign rfl rfl ?_
          refine (WL.done (WX.next ?_))
          refine (WC.ret (WX.then_ret ?_))
          refine ret_one rfl rfl ?_
          refine ⟨congrArg (fun z => Ending.returned (Value.int .i64 z)) ?_, H.weaken (List.nil_sublist _)⟩
          unfold POp.line POp.line0
          (repeat' split) <;> omega
        · -- c23 F
          refine (WC.skip (WX.next ?_))
          refine WC.seq ?_
          refine WC.region ?_
          refine WL.move rfl rfl ?_
          refine WL.assign rfl rfl ?_
          refine (WL.done (WX.next ?_))
          refine (WC.ret ?_)
          refine ret_one rfl rfl ?_
          refine ⟨congrArg (fun z => Ending.returned (Value.int .i64 z)) ?_, H.weaken (List.nil_sublist _)⟩
          unfold POp.line POp.line0
          (repeat' split) <;> omega
      · -- c22 F
        refine (WC.skip (WX.block_normal (WX.next ?_)))
        refine WC.seq ?_
        refine WC.seq ?_
        refine WC.region ?_
        refine WL.move rfl rfl ?_
        refine WL.move rfl rfl ?_
        refine WL.bin rfl rfl binv_geq rfl ?_
        refine (WL.done (WX.next ?_))
        first | refine WC.cond_dec rfl (fun c24 => ?_) (fun c24 => ?_) | refine WC.cond rfl (fun c24 => ?_) (fun c24 => ?_)
        · -- c24 T
          refine WC.seq ?_
          refine WC.region ?_
          refine WL.assign rfl rfl ?_
          refine (WL.done (WX.next ?_))
          refine (WC.ret (WX.then_ret ?_))
          refine ret_one rfl rfl ?_
          refine ⟨congrArg (fun z => Ending.returned (Value.int .i64 z)) ?_, H.weaken (List.nil_sublist _)⟩
          unfold POp.line POp.line0
          (repeat' split) <;> omega
        · -- c24 F
          refine (WC.skip (WX.next ?_))
          refine WC.seq ?_
          refine WC.region ?_
          refine WL.move rfl rfl ?_
          refine WL.assign rfl rfl ?_
          refine (WL.done (WX.next ?_))
          refine (WC.ret ?_)
          refine ret_one rfl rfl ?_
          refine ⟨congrArg (fun z => Ending.returned (Value.int .i64 z)) ?_, H.weaken (List.nil_sublist _)⟩
          unfold POp.line POp.line0
          (repeat' split) <;> omega
    · -- c21 F
      refine WC.seq ?_
      refine WC.seq ?_
      refine WC.region ?_
      refine WL.bin rfl rfl binv_eql rfl ?_
      refine WL.assign rfl rfl ?_
      refine (WL.done (WX.next ?_))
      first | refine WC.cond_dec rfl (fun c25 => ?_) (fun c25 => ?_) | refine WC.cond rfl (fun c25 => ?_) (fun c25 => ?_)
      · -- c25 T
        refine (WC.skip (WX.next ?_))
        first | refine WC.cond_dec rfl (fun c26 => ?_) (fun c26 => ?_) | refine WC.cond rfl (fun c26 => ?_) (fun c26 => ?_)
        · -- c26 T
          refine WC.region ?_
          refine WL.fieldAddr fld60_1 rfl rfl ?_
          first | refine WL.load rfl (H.rd1 ty3 0 rfl rfl) rfl ?_
          refine WL.assign rfl rfl ?_
          refine (WL.done (WX.block_normal (WX.next ?_)))
          refine WC.seq ?_
          refine WC.seq ?_
          refine WC.region ?_
          refine WL.move rfl rfl ?_
          refine WL.move rfl rfl ?_
          refine WL.bin rfl rfl binv_geq rfl ?_
          refine (WL.done (WX.next ?_))
          first | refine WC.cond_dec rfl (fun c27 => ?_) (fun c27 => ?_) | refine WC.cond rfl (fun c27 => ?_) (fun c27 => ?_)
          · -- c27 T
            refine WC.seq ?_
            refine WC.region ?_
            refine WL.assign rfl rfl ?_
            refine (WL.done (WX.next ?_))
            refine (WC.ret (WX.then_ret ?_))
            refine ret_one rfl rfl ?_
            refine ⟨congrArg (fun z => Ending.returned (Value.int .i64 z)) ?_, H.weaken (List.nil_sublist _)⟩
            unfold POp.line POp.line0
            (repeat' split) <;> omega
          · -- c27 F
            refine (WC.skip (WX.next ?_))
            refine WC.seq ?_
            refine WC.region ?_
            refine WL.move rfl rfl ?_
            refine WL.assign rfl rfl ?_
            refine (WL.done (WX.next ?_))
            refine (WC.ret ?_)
            refine ret_one rfl rfl ?_
            refine ⟨congrArg (fun z => Ending.returned (Value.int .i64 z)) ?_, H.weaken (List.nil_sublist _)⟩
            unfold POp.line POp.line0
            (repeat' split) <;> omega
        · -- c26 F
          refine (WC.skip (WX.block_normal (WX.next ?_)))
          refine WC.seq ?_
          refine WC.seq ?_
          refine WC.region ?_
          refine WL.move rfl rfl ?_
          refine WL.move rfl rfl ?_
          refine WL.bin rfl rfl binv_geq rfl ?_
          refine (WL.done (WX.next ?_))
          first | refine WC.cond_dec rfl (fun c28 => ?_) (fun c28 => ?_) | refine WC.cond rfl (fun c28 => ?_) (fun c28 => ?_)
          · -- c28 T
            refine WC.seq ?_
            refine WC.region ?_
            refine WL.assign rfl rfl ?_
            refine (WL.done (WX.next ?_))
            refine (WC.ret (WX.then_ret ?_))
            refine ret_one rfl rfl ?_
            refine ⟨congrArg (fun z => Ending.returned (Value.int .i64 z)) ?_, H.weaken (List.nil_sublist _)⟩
            unfold POp.line POp.line0
            (repeat' split) <;> omega
          · -- c28 F
            refine (WC.skip (WX.next ?_))
            refine WC.seq ?_
            refine WC.region ?_
            refine WL.move rfl rfl ?_
            refine WL.assign rfl rfl ?_
            refine (WL.done (WX.next ?_))
            refine (WC.ret ?_)
            refine ret_one rfl rfl ?_
            refine ⟨congrArg (fun z => Ending.returned (Value.int .i64 z)) ?_, H.weaken (List.nil_sublist _)⟩
            unfold POp.line POp.line0
            (repeat' split) <;> omega
      · -- c25 F
        refine WC.seq ?_
        refine WC.region ?_
        refine WL.bin rfl rfl binv_eql rfl ?_
        refine WL.assign rfl rfl ?_
        refine (WL.done (WX.next ?_))
        first | refine WC.cond_dec rfl (fun c29 => ?_) (fun c29 => ?_) | refine WC.cond rfl (fun c29 => ?_) (fun c29 => ?_)
        · -- c29 T
          refine (WC.skip (WX.next ?_))
          first | refine WC.cond_dec rfl (fun c30 => ?_) (fun c30 => ?_) | refine WC.cond rfl (fun c30 => ?_) (fun c30 => ?_)
          · -- c30 T
            refine WC.region ?_
            refine WL.fieldAddr fld60_1 rfl rfl ?_
            first | refine WL.load rfl (H.rd1 ty3 0 rfl rfl) rfl ?_
            refine WL.assign rfl rfl ?_
            refine (WL.done (WX.block_normal (WX.next ?_)))
            refine WC.seq ?_
            refine WC.seq ?_
            refine WC.region ?_
            refine WL.move rfl rfl ?_
            refine WL.move rfl rfl ?_
            refine WL.bin rfl rfl binv_geq rfl ?_
            refine (WL.done (WX.next ?_))
            first | refine WC.cond_dec rfl (fun c31 => ?_) (fun c31 => ?_) | refine WC.cond rfl (fun c31 => ?_) (fun c31 => ?_)
            · -- c31 T
              refine WC.seq ?_
              refine WC.region ?_
              refine WL.assign rfl rfl ?_
              refine (WL.done (WX.next ?_))
              refine (WC.ret (WX.then_ret ?_))
              refine ret_one rfl rfl ?_
              refine ⟨congrArg (fun z => Ending.returned (Value.int .i64 z)) ?_, H.weaken (List.nil_sublist _)⟩
              unfold POp.line POp.line0
              (repeat' split) <;> omega
            · -- c31 F
              refine (WC.skip (WX.next ?_))
              refine WC.seq ?_
              refine WC.region ?_
              refine WL.move rfl rfl ?_
              refine WL.assign rfl rfl ?_
              refine (WL.done (WX.next ?_))
              refine (WC.ret ?_)
              refine ret_one rfl rfl ?_
              refine ⟨congrArg (fun z => Ending.returned (Value.int .i64 z)) ?_, H.weaken (List.nil_sublist _)⟩
              unfold POp.line POp.line0
              (repeat' split) <;> omega
          · -- c30 F
            refine (WC.skip (WX.block_normal (WX.next ?_)))
            refine WC.seq ?_
            refine WC.seq ?_
            refine WC.region ?_
            refine WL.move rfl rfl ?_
            refine WL.move rfl rfl ?_
            refine WL.bin rfl rfl binv_geq rfl ?_
            refine (WL.done (WX.next ?_))
            first | refine WC.cond_dec rfl (fun c32 => ?_) (fun c32 => ?_) | refine WC.cond rfl (fun c32 => ?_) (fun c32 => ?_)
            · -- c32 T
              refine WC.seq ?_
              refine WC.region ?_
              refine WL.assign rfl rfl ?_
              refine (WL.done (WX.next ?_))
              refine (WC.ret (WX.then_ret ?_))
              refine ret_one rfl rfl ?_
              refine ⟨congrArg (fun z => Ending.returned (Value.int .i64 z)) ?_, H.weaken (List.nil_sublist _)⟩
              unfold POp.line POp.line0
              (repeat' split) <;> omega
            · -- c32 F
              refine (WC.skip (WX.next ?_))
              refine WC.seq ?_
              refine WC.region ?_
              refine WL.move rfl rfl ?_
              refine WL.assign rfl rfl ?_
              refine (WL.done (WX.next ?_))
              refine (WC.ret ?_)
              refine ret_one rfl rfl ?_
              refine ⟨congrArg (fun z => Ending.returned (Value.int .i64 z)) ?_, H.weaken (List.nil_sublist _)⟩
              unfold POp.line POp.line0
              (repeat' split) <;> omega
        · -- c29 F
          refine WC.seq ?_
          refine WC.region ?_
          refine WL.bin rfl rfl binv_eql rfl ?_
          refine WL.assign rfl rfl ?_
          refine (WL.done (WX.next ?_))
          first | refine WC.cond_dec rfl (fun c33 => ?_) (fun c33 => ?_) | refine WC.cond rfl (fun c33 => ?_) (fun c33 => ?_)
          · -- c33 T
            refine (WC.skip (WX.next ?_))
            first | refine WC.cond_dec rfl (fun c34 => ?_) (fun c34 => ?_) | refine WC.cond rfl (fun c34 => ?_) (fun c34 => ?_)
            · -- c34 T
              refine WC.region ?_
              refine WL.fieldAddr fld60_1 rfl rfl ?_
              first | refine WL.load rfl (H.rd1 ty3 0 rfl rfl) rfl ?_
              refine WL.assign rfl rfl ?_
              refine (WL.done (WX.block_normal (WX.next ?_)))
              refine WC.seq ?_
              refine WC.seq ?_
              refine WC.region ?_
              refine WL.move rfl rfl ?_
              refine WL.move rfl rfl ?_
              refine WL.bin rfl rfl binv_geq rfl ?_
              refine (WL.done (WX.next ?_))
              first | refine WC.cond_dec rfl (fun c35 => ?_) (fun c35 => ?_) | refine WC.cond rfl (fun c35 => ?_) (fun c35 => ?_)
              · -- c35 T
                refine WC.seq ?_
                refine WC.region ?_
                refine WL.assign rfl rfl ?_
                refine (WL.done (WX.next ?_))
                refine (WC.ret (WX.then_ret ?_))
                refine ret_one rfl rfl ?_
                refine ⟨congrArg (fun z => Ending.returned (Value.int .i64 z)) ?_, H.weaken (List.nil_sublist _)⟩
                unfold POp.line POp.line0
                (repeat' split) <;> omega
              · -- c35 F
                refine (WC.skip (WX.next ?_))
                refine WC.seq ?_
                refine WC.region ?_
                refine WL.move rfl rfl ?_
                refine WL.assign rfl rfl ?_
                refine (WL.done (WX.next ?_))
                refine (WC.ret ?_)
                refine ret_one rfl rfl ?_
                refine ⟨congrArg (fun z => Ending.returned (Value.int .i64 z)) ?_, H.weaken (List.nil_sublist _)⟩
                unfold POp.line POp.line0
                (repeat' split) <;> omega
            · -- c34 F
              refine (WC.skip (WX.block_normal (WX.next ?_)))
              refine WC.seq ?_
              refine WC.seq ?_
              refine WC.region ?_
              refine WL.move rfl rfl ?_
              refine WL.move rfl rfl ?_
              refine WL.bin rfl rfl binv_geq rfl ?_
              refine (WL.done (WX.next ?_))
              first | refine WC.cond_dec rfl (fun c36 => ?_) (fun c36 => ?_) | refine WC.cond rfl (fun c36 => ?_) (fun c36 => ?_)
              · -- c36 T
                refine WC.seq ?_
                refine WC.region ?_
                refine WL.assign rfl rfl ?_
                refine (WL.done (WX.next ?_))
                refine (WC.ret (WX.then_ret ?_))
                refine ret_one rfl rfl ?_
                refine ⟨congrArg (fun z => Ending.returned (Value.int .i64 z)) ?_, H.weaken (List.nil_sublist _)⟩
                unfold POp.line POp.line0
                (repeat' split) <;> omega
              · -- c36 F
                refine (WC.skip (WX.next ?_))
                refine WC.seq ?_
                refine WC.region ?_
                refine WL.move rfl rfl ?_
                refine WL.assign rfl rfl ?_
                refine (WL.done (WX.next ?_))
                refine (WC.ret ?_)
                refine ret_one rfl rfl ?_
                refine ⟨congrArg (fun z => Ending.returned (Value.int .i64 z)) ?_, H.weaken (List.nil_sublist _)⟩
                unfold POp.line POp.line0
                (repeat' split) <;> omega
          · -- c33 F
            refine WC.region ?_
            refine WL.bin rfl rfl binv_eql rfl ?_
            refine WL.assign rfl rfl ?_
            refine (WL.done (WX.next ?_))
            first | refine WC.cond_dec rfl (fun c37 => ?_) (fun c37 => ?_) | refine WC.cond rfl (fun c37 => ?_) (fun c37 => ?_)
            · -- c37 T
              refine WC.region ?_
              refine WL.fieldAddr fld60_1 rfl rfl ?_
              first | refine WL.load rfl (H.rd1 ty3 0 rfl rfl) rfl ?_
              refine WL.assign rfl rfl ?_
              refine (WL.done (WX.block_normal (WX.next ?_)))
              refine WC.seq ?_
              refine WC.seq ?_
              refine WC.region ?_
              refine WL.move rfl rfl ?_
              refine WL.move rfl rfl ?_
              refine WL.bin rfl rfl binv_geq rfl ?_
              refine (WL.done (WX.next ?_))
              first | refine WC.cond_dec rfl (fun c38 => ?_) (fun c38 => ?_) | refine WC.cond rfl (fun c38 => ?_) (fun c38 => ?_)
              · -- c38 T
                refine WC.seq ?_
                refine WC.region ?_
                refine WL.assign rfl rfl ?_
                refine (WL.done (WX.next ?_))
                refine (WC.ret (WX.then_ret ?_))
                refine ret_one rfl rfl ?_
                refine ⟨congrArg (fun z => Ending.returned (Value.int .i64 z)) ?_, H.weaken (List.nil_sublist _)⟩
                unfold POp.line POp.line0
                (repeat' split) <;> omega
              · -- c38 F
                refine (WC.skip (WX.next ?_))
                refine WC.seq ?_
                refine WC.region ?_
                refine WL.move rfl rfl ?_
                refine WL.assign rfl rfl ?_
                refine (WL.done (WX.next ?_))
                refine (WC.ret ?_)
                refine ret_one rfl rfl ?_
                refine ⟨congrArg (fun z => Ending.returned (Value.int .i64 z)) ?_, H.weaken (List.nil_sublist _)⟩
                unfold POp.line POp.line0
                (repeat' split) <;> omega
            · -- c37 F
              refine (WC.skip (WX.block_normal (WX.next ?_)))
              refine WC.seq ?_
              refine WC.seq ?_
              refine WC.region ?_
              refine WL.move rfl rfl ?_
              refine WL.move rfl rfl ?_
              refine WL.bin rfl rfl binv_geq rfl ?_
              refine (WL.done (WX.next ?_))
              first | refine WC.cond_dec rfl (fun c39 => ?_) (fun c39 => ?_) | refine WC.cond rfl (fun c39 => ?_) (fun c39 => ?_)
              · -- c39 T
                refine WC.seq ?_
                refine WC.region ?_
                refine WL.assign rfl rfl ?_
                refine (WL.done (WX.next ?_))
                refine (WC.ret (WX.then_ret ?_))
                refine ret_one rfl rfl ?_
                refine ⟨congrArg (fun z => Ending.returned (Value.int .i64 z)) ?_, H.weaken (List.nil_sublist _)⟩
                unfold POp.line POp.line0
                (repeat' split) <;> omega
              · -- c39 F
                refine (WC.skip (WX.next ?_))
                refine WC.seq ?_
                refine WC.region ?_
                refine WL.move rfl rfl ?_
                refine WL.assign rfl rfl ?_
                refine (WL.done (WX.next ?_))
                refine (WC.ret ?_)
                refine ret_one rfl rfl ?_
                refine ⟨congrArg (fun z => Ending.returned (Value.int .i64 z)) ?_, H.weaken (List.nil_sublist _)⟩
                unfold POp.line POp.line0
                (repeat' split) <;> omega

theorem apart_any (w : World) (hL : L64 w) (n : Int) (A : Option Addr) (m cap : Nat) (xs : List OpV) (hm : m = xs.length) (hm63 : m ≤ 9223372036854775807) (hx : OpsIn w A xs) (hok : ∀ v ∈ xs, v.ok w) (x y : OpV) (hxo : x.ok w) (hyo : y.ok w) : Calls Tryd.prog 7 #[.int .i64 n, .slice A m cap, .agg x.cells.toArray, .agg y.cells.toArray] w fun e w' => e = .returned (.bool true) ∧ St w [] w' [] := by
  refine calls_walk_n (args := [.int .i64 n, .slice A m cap, .agg x.cells.toArray, .agg y.cells.toArray]) Tryd.func7 rfl rfl rfl ?_
  have H := St.refl w
  refine WC.seq ?_
  refine WC.region ?_
  refine WL.box (v := .agg x.cells.toArray) H rfl rfl ?_
  intro bx wx hbx hgex H
  change St w [] wx [(bx, .cells (opC x.x x.A x.cap).toArray 60)] at H
  refine WL.box (v := .agg y.cells.toArray) H rfl rfl ?_
  intro bz wx hby hgey H
  change St w [] wx [(bz, .cells (opC y.x y.A y.cap).toArray 60), (bx, .cells (opC x.x x.A x.cap).toArray 60)] at H
  refine WL.assign rfl rfl ?_
  refine (WL.done (WX.next ?_))
  refine WC.seq ?_
  refine WC.region ?_
  refine WL.move rfl rfl ?_
  refine WL.move rfl rfl ?_
  refine WL.call call30 rfl rfl ?_
  refine Calls.mono (begun_any n A m cap xs hm hm63 hx hok H hL) ?_
  rintro _ wx ⟨p, R, rfl, hI, H⟩
  refine ⟨_, rfl, ?_⟩
  have hlens := hI.lens
  have hlok := hI.lok
  generalize PM.begun n (plain xs) = M at hI hlens hlok
  refine WL.assign rfl rfl ?_
  refine (WL.done (WX.next ?_))
  refine WC.seq ?_
  refine WC.seq ?_
  refine WC.region ?_
  refine WL.move rfl rfl ?_
  refine WL.bin rfl rfl (binv_ptr_eql (by kernel_rfl) _) rfl ?_
  refine (WL.done (WX.next ?_))
  refine WC.cond_false rfl (rfl) ?_
  refine (WC.skip (WX.next ?_))
  refine WC.seq ?_
  replace H := H.drew
  refine WC.held (SX (World.drew wx) []) (by kernel_rfl) ?_
  generalize World.drew wx = wb at H ⊢
  have HB := St.refl wb
  first | refine WH.take 0 rfl (by kernel_rfl) (by kernel_rfl) (by kernel_rfl) (fun _ _ _ h => h) ⟨_, HB⟩ (fun w' hS => EX.load rfl (Rd.opAll hxo.x.w8 (hS.block (H.blk 1 rfl) (by simp)))) rfl ?_
  refine WH.take 1 rfl (by kernel_rfl) (by kernel_rfl) (by kernel_rfl) (fun _ _ _ h => h) ⟨_, HB⟩ (fun w' hS => EX.move rfl) rfl ?_
  first | refine WH.take 4 rfl (by kernel_rfl) (by kernel_rfl) (by kernel_rfl) (fun _ _ _ h => h) ⟨_, HB⟩ (fun w' hS => EX.load rfl (Rd.opAll hyo.x.w8 (hS.block (H.blk 0 rfl) (by simp)))) rfl ?_
  refine WH.take 5 rfl (by kernel_rfl) (by kernel_rfl) (by kernel_rfl) (fun _ _ _ h => h) ⟨_, HB⟩ (fun w' hS => EX.move rfl) rfl ?_
  refine WH.hard 2 rfl (by kernel_rfl) ?_
  refine WL.call call26 rfl rfl ?_
  refine Calls.mono (m_lines hI ((hI.mem H hL).old HB)) ?_
  rintro _ wx ⟨rfl, rfl⟩
  refine ⟨_, rfl, ?_⟩
  refine WL.done (WX.heldOn ⟨_, HB⟩ ?_)
  refine WH.hard 3 rfl (by kernel_rfl) ?_
  refine WL.call call43 rfl rfl ?_
  refine Calls.mono (lineOf_any x.x x.A x.cap _ hxo.x _) ?_
  rintro _ wx ⟨rfl, Hc⟩
  refine ⟨_, rfl, ?_⟩
  replace HB := HB.call0 Hc
  refine WL.done (WX.heldOn ⟨_, HB⟩ ?_)
  refine WH.hard 6 rfl (by kernel_rfl) ?_
  refine WL.call call26 rfl rfl ?_
  refine Calls.mono (m_lines hI ((hI.mem H hL).old HB)) ?_
  rintro _ wx ⟨rfl, rfl⟩
  refine ⟨_, rfl, ?_⟩
  refine WL.done (WX.heldOn ⟨_, HB⟩ ?_)
  refine WH.hard 7 rfl (by kernel_rfl) ?_
  refine WL.call call43 rfl rfl ?_
  refine Calls.mono (lineOf_any y.x y.A y.cap _ hyo.x _) ?_
  rintro _ wx ⟨rfl, Hc⟩
  refine ⟨_, rfl, ?_⟩
  replace HB := HB.call0 Hc
  refine WL.done (WX.heldOn ⟨_, HB⟩ ?_)
  refine WH.take 8 rfl (by kernel_rfl) (by kernel_rfl) (by kernel_rfl) (fun _ _ _ h => h) ⟨_, HB⟩ (fun w' hS => EX.assign rfl) rfl ?_
  refine WH.take 9 rfl (by kernel_rfl) (by kernel_rfl) (by kernel_rfl) (fun _ _ _ h => h) ⟨_, HB⟩ (fun w' hS => EX.assign rfl) rfl ?_
  refine WH.done (by kernel_rfl) ?_
  replace H := H.call HB
  refine WX.next ?_
  refine WC.seq ?_
  refine WC.seq ?_
  refine WC.region ?_
  refine WL.move rfl rfl ?_
  refine WL.bin rfl rfl binv_lss rfl ?_
  refine WL.move rfl rfl ?_
  first | refine WL.splitD (t := 37) rfl (fun g1 => ?_) (fun g1 => ?_) | refine WL.split (t := 37) rfl (fun g1 => ?_) (fun g1 => ?_)
  · -- g1 True
    refine WL.no rfl rfl rfl ?_
    refine WL.no rfl rfl rfl ?_
    refine WL.pickT rfl rfl rfl ?_
    refine WL.move rfl rfl ?_
    refine WL.no rfl rfl rfl ?_
    refine WL.no rfl rfl rfl ?_
    refine WL.no rfl rfl rfl ?_
    refine WL.pickT rfl rfl rfl ?_
    refine (WL.done (WX.next ?_))
    refine WC.cond_true rfl (rfl) ?_
    refine WC.seq ?_
    refine WC.region ?_
    refine WL.call call22 rfl rfl ?_
    refine Calls.mono (q_sanity hL H) ?_
    rintro _ wx ⟨rfl, Hc⟩
    refine ⟨_, rfl, ?_⟩
    replace H := H.call0 Hc
    refine WL.assign rfl rfl ?_
    refine (WL.done (WX.next ?_))
    refine (WC.ret (WX.then_ret ?_))
    refine ret_one rfl rfl ?_
    exact ⟨rfl, H.weaken (List.nil_sublist _)⟩
  · -- g1 False
    refine WL.yes rfl rfl ?_
    refine WL.move rfl rfl ?_
    refine WL.yes rfl rfl ?_
    refine WL.bin rfl rfl binv_lss rfl ?_
    refine WL.pickF rfl rfl rfl ?_
    refine WL.move rfl rfl ?_
    first | refine WL.splitD (t := 41) rfl (fun g2 => ?_) (fun g2 => ?_) | refine WL.split (t := 41) rfl (fun g2 => ?_) (fun g2 => ?_)
    · -- g2 True
      refine WL.no rfl rfl rfl ?_
      refine WL.no rfl rfl rfl ?_
      refine WL.no rfl rfl rfl ?_
      refine WL.pickT rfl rfl rfl ?_
      refine (WL.done (WX.next ?_))
      refine WC.cond_true rfl (rfl) ?_
      refine WC.seq ?_
      refine WC.region ?_
      refine WL.call call22 rfl rfl ?_
      refine Calls.mono (q_sanity hL H) ?_
      rintro _ wx ⟨rfl, Hc⟩
      refine ⟨_, rfl, ?_⟩
      replace H := H.call0 Hc
      refine WL.assign rfl rfl ?_
      refine (WL.done (WX.next ?_))
      refine (WC.ret (WX.then_ret ?_))
      refine ret_one rfl rfl ?_
      exact ⟨rfl, H.weaken (List.nil_sublist _)⟩
    · -- g2 False
      refine WL.yes rfl rfl ?_
      refine WL.move rfl rfl ?_
      refine WL.yes rfl rfl ?_
      refine WL.move rfl rfl ?_
      refine WL.yes rfl rfl ?_
      refine WL.bin rfl rfl binv_eql rfl ?_
      refine WL.pickF rfl rfl rfl ?_
      refine (WL.done (WX.next ?_))
      first | refine WC.cond_dec rfl (fun c4 => ?_) (fun c4 => ?_) | refine WC.cond rfl (fun c4 => ?_) (fun c4 => ?_)
      · -- c4 T
        refine WC.seq ?_
        refine WC.region ?_
        refine WL.call call22 rfl rfl ?_
        refine Calls.mono (q_sanity hL H) ?_
        rintro _ wx ⟨rfl, Hc⟩
        refine ⟨_, rfl, ?_⟩
        replace H := H.call0 Hc
        refine WL.assign rfl rfl ?_
        refine (WL.done (WX.next ?_))
        refine (WC.ret (WX.then_ret ?_))
        refine ret_one rfl rfl ?_
        exact ⟨rfl, H.weaken (List.nil_sublist _)⟩
      · -- c4 F
        refine (WC.skip (WX.next ?_))
        refine WC.seq ?_
        refine WC.region ?_
        obtain ⟨pp, hpp⟩ : ∃ pp : Nat, x.x.line M.ls.length = pp := ⟨(x.x.line M.ls.length).toNat, by omega⟩
        obtain ⟨qq, hqq⟩ : ∃ qq : Nat, y.x.line M.ls.length = qq := ⟨(y.x.line M.ls.length).toNat, by omega⟩
        have hap := apart hpp hqq (by omega)
        have heq1 : ((M.do x.x).do y.x).ls.map bare = ((M.do y.x).do x.x).ls.map bare := by rw [hap.1]
        have heq2 : ((M.do x.x).do y.x).ls.map shown = ((M.do y.x).do x.x).ls.map shown := by rw [hap.1]
        refine WL.move rfl rfl ?_
        refine WL.call call41 rfl rfl ?_
        refine Calls.mono (a_copy (by omega) hI H hL) ?_
        rintro _ wx ⟨pn, Rn, rfl, hIn, H⟩
        refine ⟨_, rfl, ?_⟩
        replace H := H.swap
        refine WL.assign rfl rfl ?_
        refine (WL.done (WX.next ?_))
        refine WC.seq ?_
        refine WC.seq ?_
        refine WC.region ?_
        refine WL.move rfl rfl ?_
        refine WL.bin rfl rfl (binv_ptr_eql (by kernel_rfl) _) rfl ?_
        refine (WL.done (WX.next ?_))
        refine WC.cond_false rfl (rfl) ?_
        refine (WC.skip (WX.next ?_))
        refine WC.seq ?_
        refine WC.region ?_
        refine WL.move rfl rfl ?_
        first | refine WL.load rfl (Rd.opAll hxo.x.w8 (H.blk 1 rfl)) rfl ?_
        refine WL.call call44 rfl rfl ?_
        refine Calls.mono (do_any x.x x.A x.cap hxo.x hxo.cuts (by omega) hI H hL) ?_
        rintro _ wx ⟨R, rfl, hI, H⟩
        refine ⟨_, rfl, ?_⟩
        refine WL.move rfl rfl ?_
        refine WL.extract rfl rfl rfl ?_
        refine WL.extract rfl rfl rfl ?_
        refine WL.assign rfl rfl ?_
        refine WL.assign rfl rfl ?_
        refine (WL.done (WX.next ?_))
        refine WC.seq ?_
        refine WC.region ?_
        refine WL.move rfl rfl ?_
        first | refine WL.load rfl (Rd.opAll hyo.x.w8 (H.blk 0 rfl)) rfl ?_
        refine WL.call call44 rfl rfl ?_
        refine Calls.mono (do_any y.x y.A y.cap hyo.x hyo.cuts (by omega) hI H hL) ?_
        rintro _ wx ⟨R, rfl, hI, H⟩
        refine ⟨_, rfl, ?_⟩
        replace H := H.swap
        refine WL.move rfl rfl ?_
        refine WL.extract rfl rfl rfl ?_
        refine WL.extract rfl rfl rfl ?_
        refine WL.assign rfl rfl ?_
        refine WL.assign rfl rfl ?_
        refine (WL.done (WX.next ?_))
        refine WC.seq ?_
        refine WC.region ?_
        refine WL.move rfl rfl ?_
        first | refine WL.load rfl (Rd.opAll hyo.x.w8 (H.blk 0 rfl)) rfl ?_
        refine WL.call call44 rfl rfl ?_
        refine Calls.mono (do_any y.x y.A y.cap hyo.x hyo.cuts (by omega) hIn H hL) ?_
        rintro _ wx ⟨Rn, rfl, hIn, H⟩
        refine ⟨_, rfl, ?_⟩
        refine WL.move rfl rfl ?_
        refine WL.extract rfl rfl rfl ?_
        refine WL.extract rfl rfl rfl ?_
        refine WL.assign rfl rfl ?_
        refine WL.assign rfl rfl ?_
        refine (WL.done (WX.next ?_))
        refine WC.seq ?_
        refine WC.region ?_
        refine WL.move rfl rfl ?_
        first | refine WL.load rfl (Rd.opAll hxo.x.w8 (H.blk 1 rfl)) rfl ?_
        refine WL.call call44 rfl rfl ?_
        refine Calls.mono (do_any x.x x.A x.cap hxo.x hxo.cuts (by omega) hIn H hL) ?_
        rintro _ wx ⟨Rn, rfl, hIn, H⟩
        refine ⟨_, rfl, ?_⟩
        refine WL.move rfl rfl ?_
        refine WL.extract rfl rfl rfl ?_
        refine WL.extract rfl rfl rfl ?_
        refine WL.assign rfl rfl ?_
        refine WL.assign rfl rfl ?_
        refine (WL.done (WX.next ?_))
        refine WC.seq ?_
        refine WC.seq ?_
        refine WC.region ?_
        have hmm := hI.mem H.swap hL
        have hmn := hIn.mem H hL
        refine WL.move rfl rfl ?_
        refine WL.move rfl rfl ?_
        refine WL.bin rfl rfl binv_neq rfl ?_
        refine WL.move rfl rfl ?_
        refine WL.known (t := 78) rfl (b := false) (decide_eq_false (fun h => h hap.2.1)) ?_
        refine WL.yes rfl rfl ?_
        refine WL.move rfl rfl ?_
        refine WL.yes rfl rfl ?_
        refine WL.move rfl rfl ?_
        refine WL.yes rfl rfl ?_
        refine WL.bin rfl rfl binv_neq rfl ?_
        refine WL.pickF rfl rfl rfl ?_
        refine WL.move rfl rfl ?_
        refine WL.known (t := 83) rfl (b := false) (decide_eq_false (fun h => h hap.2.2)) ?_
        refine WL.yes rfl rfl ?_
        refine WL.move rfl rfl ?_
        refine WL.yes rfl rfl ?_
        refine WL.call call29 rfl rfl ?_
        refine Calls.mono (m_image hI hmm) ?_
        rintro _ wx ⟨ga, rfl, Hc⟩
        refine ⟨_, rfl, ?_⟩
        replace H := H.call Hc
        replace hmm := hmm.old Hc
        replace hmn := hmn.old Hc
        refine WL.yes rfl rfl ?_
        refine WL.move rfl rfl ?_
        refine WL.yes rfl rfl ?_
        refine WL.call call29 rfl rfl ?_
        refine Calls.mono (m_image hIn hmn) ?_
        rintro _ wx ⟨gb, rfl, Hc⟩
        refine ⟨_, rfl, ?_⟩
        replace H := H.call Hc
        replace hmm := hmm.old Hc
        replace hmn := hmn.old Hc
        refine WL.yes rfl rfl ?_
        refine WL.call call28 rfl rfl ?_
        refine Calls.mono (sameImage_any _ _ _ _ _ _ _ _ (by simp) (by simp) hI.bare8 hIn.bare8 _ (ImgIn.block (H.blk 1 rfl)) (ImgIn.block (H.blk 0 rfl)) (by have := hI.lens; omega)) ?_
        rintro _ wx ⟨rfl, Hc⟩
        refine ⟨_, rfl, ?_⟩
        replace H := H.call0 Hc
        replace hmm := hmm.old Hc
        replace hmn := hmn.old Hc
        refine WL.yes rfl rfl ?_
        refine WL.notOp rfl rfl ?_
        refine WL.pickF rfl rfl rfl ?_
        refine WL.move rfl rfl ?_
        refine WL.known (t := 91) rfl (b := false) (by rw [decide_eq_true heq1]; rfl) ?_
        refine WL.yes rfl rfl ?_
        refine WL.move rfl rfl ?_
        refine WL.yes rfl rfl ?_
        refine WL.call call34 rfl rfl ?_
        refine Calls.mono (m_seen hI hmm (hL.of0 H)) ?_
        rintro _ wx ⟨sa, rfl, Hc⟩
        refine ⟨_, rfl, ?_⟩
        replace H := H.call Hc
        replace hmm := hmm.old Hc
        replace hmn := hmn.old Hc
        refine WL.yes rfl rfl ?_
        refine WL.move rfl rfl ?_
        refine WL.yes rfl rfl ?_
        refine WL.call call34 rfl rfl ?_
        refine Calls.mono (m_seen hIn hmn (hL.of0 H)) ?_
        rintro _ wx ⟨sm, rfl, Hc⟩
        refine ⟨_, rfl, ?_⟩
        replace H := H.call Hc
        replace hmm := hmm.old Hc
        replace hmn := hmn.old Hc
        refine WL.yes rfl rfl ?_
        refine WL.call call42 rfl rfl ?_
        refine Calls.mono (sameSeen_any _ _ _ _ _ _ _ _ (by simp) (by simp) _ (RowsIn.seen hI.shown8 (H.blk 1 rfl)) (RowsIn.seen hIn.shown8 (H.blk 0 rfl)) (by have := hI.lens; omega)) ?_
        rintro _ wx ⟨rfl, Hc⟩
        refine ⟨_, rfl, ?_⟩
        replace H := H.call0 Hc
        replace hmm := hmm.old Hc
        replace hmn := hmn.old Hc
        refine WL.yes rfl rfl ?_
        refine WL.notOp rfl rfl ?_
        refine WL.pickF rfl rfl rfl ?_
        refine (WL.done (WX.next ?_))
        refine WC.cond_false rfl (by rw [decide_eq_true heq2]; rfl) ?_
        refine (WC.skip (WX.next ?_))
        refine WC.seq ?_
        refine WC.seq ?_
        refine WC.region ?_
        refine WL.assign rfl rfl ?_
        refine (WL.done (WX.next ?_))
        refine WC.block ?_
        -- loop 1: changed [21] kept [9, 12]
        replace H := H.weaken (List.nil_sublist _)
        have hlx := hI.lens
        refine WC.loop (Sub.cons (t := 9) rfl (Sub.cons (t := 12) rfl (Sub.nil _))) (fun i : Nat => [(21, .int .i64 (i : Int))]) (fun q i wx => q = ((M.do x.x).do y.x).ls.length - i ∧ i ≤ ((M.do x.x).do y.x).ls.length ∧ St w [] wx [] ∧ MemIn wx R ∧ MemIn wx Rn) (((M.do x.x).do y.x).ls.length) (0) (Sub.cons (t := 21) (by first | rfl | simp) (Sub.nil _)) (⟨rfl, Nat.zero_le _, H, hmm, hmn⟩) ?_
        rintro k g wx hI N hN
        obtain ⟨rfl, hg, H, hmm, hmn⟩ := hI
        refine WC.seq ?_
        refine WC.seq ?_
        refine WC.region ?_
        refine WL.move rfl rfl ?_
        refine WL.move rfl rfl ?_
        refine WL.call call26 rfl rfl ?_
        refine Calls.mono (m_lines hI hmm) ?_
        rintro _ wx ⟨rfl, rfl⟩
        refine ⟨_, rfl, ?_⟩
        refine WL.bin rfl rfl binv_lss rfl ?_
        refine (WL.done (WX.next ?_))
        first | refine WC.cond_dec rfl (fun c7 => ?_) (fun c7 => ?_) | refine WC.cond rfl (fun c7 => ?_) (fun c7 => ?_)
        · -- c7 T
          refine (WC.skip (WX.next ?_))
          refine WC.seq ?_
          refine WC.block ?_
          refine WC.seq ?_
          refine WC.region ?_
          refine WL.move rfl rfl ?_
          refine WL.move rfl rfl ?_
          refine WL.call call39 rfl rfl ?_
          refine Calls.mono (m_pending (g : Int) (by omega) hI hmm) ?_
          rintro _ wx ⟨r1, rfl, hr1, Hc⟩
          refine ⟨_, rfl, ?_⟩
          replace H := H.call Hc
          replace hmm := hmm.old Hc
          replace hmn := hmn.old Hc
          refine WL.move rfl rfl ?_
          refine WL.move rfl rfl ?_
          refine WL.call call39 rfl rfl ?_
          refine Calls.mono (m_pending (g : Int) (by omega) hIn hmn) ?_
          rintro _ wx ⟨r2, rfl, hr2, Hc⟩
          refine ⟨_, rfl, ?_⟩
          replace H := H.call Hc
          replace hmm := hmm.old Hc
          replace hmn := hmn.old Hc
          refine WL.call call45 rfl rfl ?_
          refine Calls.mono (m_sameStores hr1 hr2 (fun q hq => H.sat q (by simp [hq])) (fun q hq => H.sat q (by simp [hq])) (Nat.le_trans (pend_le hI g) (by omega))) ?_
          rintro _ wx ⟨rfl, Hc⟩
          refine ⟨_, rfl, ?_⟩
          replace H := H.call0 Hc
          replace hmm := hmm.old Hc
          replace hmn := hmn.old Hc
          refine WL.notOp rfl rfl ?_
          refine (WL.done (WX.next ?_))
          first | refine WC.cond_dec rfl (fun c8 => ?_) (fun c8 => ?_) | refine WC.cond rfl (fun c8 => ?_) (fun c8 => ?_)
          · -- c8 T
            exact absurd c8 (by rw [decide_eq_true (pend_ls hap.1 g)]; decide)
          · -- c8 F
            refine (WC.skip (WX.block_normal (WX.next ?_)))
            refine WC.region ?_
            refine WL.move rfl rfl ?_
            refine WL.bin rfl rfl (iadd (by omega) (by omega)) rfl ?_
            refine WL.assign rfl rfl ?_
            refine (WL.done (WX.round ?_))
            exact hN _ (g+1) _ _ (by omega) ⟨rfl, by omega, H.weaken (List.nil_sublist _), hmm, hmn⟩ (Sub.cons (t := 21) (by first | rfl | simp) (Sub.nil _)) (Sub.cons (t := 9) rfl (Sub.cons (t := 12) rfl (Sub.nil _)))
        · -- c7 F
          refine (WC.exit (WX.then_exit (WX.then_exit (WX.block_exit (WX.next ?_)))))
          refine WC.seq ?_
          refine WC.region ?_
          refine WL.call call22 rfl rfl ?_
          refine Calls.mono (sanity4_any _ (hL.of0 H)) ?_
          rintro _ wx ⟨rfl, Hc⟩
          refine ⟨_, rfl, ?_⟩
          replace H := H.call0 Hc
          refine WL.assign rfl rfl ?_
          refine (WL.done (WX.next ?_))
          refine (WC.ret ?_)
          refine ret_one rfl rfl ?_
          exact ⟨rfl, H.weaken (List.nil_sublist _)⟩

end Go.Proofs.YtkncbggnaobgeaaDoor
