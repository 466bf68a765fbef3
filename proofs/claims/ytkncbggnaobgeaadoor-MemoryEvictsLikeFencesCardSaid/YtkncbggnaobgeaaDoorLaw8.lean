/- Walks of functions of the program; printed by a program of this session (walk.py) out of hand-written hints. -/
import Derived.Test.YtkncbggnaobgeaaDoorGh
import Derived.Test.YtkncbggnaobgeaaDoorPl3
import Derived.Test.YtkncbggnaobgeaaDoorLaw7
namespace Go.Proofs.YtkncbggnaobgeaaDoor
open Go.RowKit
set_option linter.unusedVariables false
set_option linter.unusedSimpArgs false
set_option maxRecDepth 100000

theorem evictsLike_any (w : World) (hL : L64 w) (n : Int) (A : Option Addr) (m cap : Nat) (xs : List OpV) (hm : m = xs.length) (hm63 : m ≤ 9223372036854775807) (hx : OpsIn w A xs) (hok : ∀ v ∈ xs, v.ok w) (line : Int) : Calls Tryd.prog 6 #[.int .i64 n, .slice A m cap, .int .i64 line] w fun e w' => e = .returned (.bool true) ∧ St w [] w' [] := by
  refine calls_walk_n (args := [.int .i64 n, .slice A m cap, .int .i64 line]) Tryd.func6 rfl rfl rfl ?_
  have H := St.refl w
  refine WC.seq ?_
  refine WC.region ?_
  refine WL.assign rfl rfl ?_
  refine (WL.done (WX.next ?_))
  refine WC.seq ?_
  refine WC.region ?_
  refine WL.move rfl rfl ?_
  refine WL.move rfl rfl ?_
  refine WL.call call30 rfl rfl ?_
  refine Calls.mono (begun_any n A m cap xs hm hm63 hx hok H hL) ?_
  rintro _ wx ⟨p, R, rfl, hI, H⟩
  refine ⟨_, rfl, ?_⟩
  have hlens := hI.lens
  have hlok := hI.lok
  generalize PM.begun n (plain xs) = M at hI hlens hlok
  refine WL.assign rfl rfl ?_
  refine (WL.done (WX.next ?_))
  refine WC.seq ?_
  refine WC.seq ?_
  refine WC.region ?_
  refine WL.move rfl rfl ?_
  refine WL.bin rfl rfl (binv_ptr_eql (by kernel_rfl) _) rfl ?_
  refine (WL.done (WX.next ?_))
  refine WC.cond_false rfl (rfl) ?_
  refine (WC.skip (WX.next ?_))
  refine WC.seq ?_
  refine WC.region ?_
  refine WL.move rfl rfl ?_
  refine WL.move rfl rfl ?_
  refine WL.call call26 rfl rfl ?_
  refine Calls.mono (a_lines hI H hL) ?_
  rintro _ wx ⟨rfl, rfl⟩
  refine ⟨_, rfl, ?_⟩
  refine WL.call call33 rfl rfl ?_
  refine Calls.mono (a_least line _ (by omega)) ?_
  rintro _ wx ⟨j, rfl, hj, rfl⟩
  refine ⟨_, rfl, ?_⟩
  have hjl : j < M.ls.length := by omega
  refine WL.assign rfl rfl ?_
  refine (WL.done (WX.next ?_))
  refine WC.seq ?_
  refine WC.region ?_
  refine WL.move rfl rfl ?_
  refine WL.move rfl rfl ?_
  refine WL.call call39 rfl rfl ?_
  refine Calls.mono (q_pending (j : Int) (by omega) hI H hL) ?_
  rintro _ wx ⟨r, rfl, Hc⟩
  refine ⟨_, rfl, ?_⟩
  replace H := H.call0 Hc
  refine WL.lenR isl52 rfl rfl ?_
  refine WL.assign rfl rfl ?_
  refine (WL.done (WX.next ?_))
  refine WC.seq ?_
  refine WC.seq ?_
  refine WC.region ?_
  refine WL.move rfl rfl ?_
  refine WL.bin rfl rfl binv_eql rfl ?_
  refine (WL.done (WX.next ?_))
  first | refine WC.cond_dec rfl (fun c2 => ?_) (fun c2 => ?_) | refine WC.cond rfl (fun c2 => ?_) (fun c2 => ?_)
  · -- c2 T
    refine WC.seq ?_
    refine WC.region ?_
    refine WL.call call22 rfl rfl ?_
    refine Calls.mono (q_sanity hL H) ?_
    rintro _ wx ⟨rfl, Hc⟩
    refine ⟨_, rfl, ?_⟩
    replace H := H.call0 Hc
    refine WL.move rfl rfl ?_
    refine WL.known (t := 32) rfl (b := true) (rfl) ?_
    refine WL.yes rfl rfl ?_
    refine WL.move rfl rfl ?_
    refine WL.yes rfl rfl ?_
    refine WL.move rfl rfl ?_
    refine WL.yes rfl rfl ?_
    refine WL.call call40 rfl rfl ?_
    refine Calls.mono (a_evict (j : Int) 1 (by omega) hI H hL) ?_
    rintro _ wx ⟨R, rfl, hI, H⟩
    refine ⟨_, rfl, ?_⟩
    refine WL.yes rfl rfl ?_
    refine WL.bin rfl rfl binv_eql rfl ?_
    refine WL.pickT rfl rfl rfl ?_
    refine WL.assign rfl rfl ?_
    refine (WL.done (WX.next ?_))
    refine (WC.ret (WX.then_ret ?_))
    refine ret_one rfl rfl ?_
    refine ⟨?_, H.weaken (List.nil_sublist _)⟩
    have hp0 : (M.pend (j : Int)).length = 0 := by omega
    have e1 : M.evictErr (j : Int) 1 = 1 := by
      rw [pend_line hjl] at hp0
      unfold PM.evictErr
      rw [has_of hjl, if_pos rfl, if_pos (by omega)]
    rw [e1]; rfl
  · -- c2 F
    refine (WC.skip (WX.next ?_))
    refine WC.seq ?_
    refine WC.region ?_
    refine WL.move rfl rfl ?_
    refine WL.call call36 rfl rfl ?_
    refine Calls.mono (a_fence (by omega) hI H hL) ?_
    rintro _ wx ⟨R, rfl, hI, H⟩
    refine ⟨_, rfl, ?_⟩
    refine (WL.done (WX.next ?_))
    refine WC.seq ?_
    refine WC.region ?_
    refine WL.move rfl rfl ?_
    refine WL.move rfl rfl ?_
    refine WL.call call39 rfl rfl ?_
    refine Calls.mono (q_pending (j : Int) (by omega) hI H hL) ?_
    rintro _ wx ⟨r, rfl, Hc⟩
    refine ⟨_, rfl, ?_⟩
    replace H := H.call0 Hc
    refine WL.lenR isl52 rfl rfl ?_
    refine WL.assign rfl rfl ?_
    refine (WL.done (WX.next ?_))
    refine WC.seq ?_
    refine WC.seq ?_
    refine WC.region ?_
    refine WL.move rfl rfl ?_
    refine WL.bin rfl rfl binv_eql rfl ?_
    refine (WL.done (WX.next ?_))
    first | refine WC.cond_dec rfl (fun c3 => ?_) (fun c3 => ?_) | refine WC.cond rfl (fun c3 => ?_) (fun c3 => ?_)
    · -- c3 T
      refine WC.seq ?_
      refine WC.region ?_
      refine WL.call call22 rfl rfl ?_
      refine Calls.mono (q_sanity hL H) ?_
      rintro _ wx ⟨rfl, Hc⟩
      refine ⟨_, rfl, ?_⟩
      replace H := H.call0 Hc
      refine WL.assign rfl rfl ?_
      refine (WL.done (WX.next ?_))
      refine (WC.ret (WX.then_ret ?_))
      refine ret_one rfl rfl ?_
      exact ⟨rfl, H.weaken (List.nil_sublist _)⟩
    · -- c3 F
      refine (WC.skip (WX.next ?_))
      refine WC.seq ?_
      refine WC.region ?_
      have hlF : M.fence.ls.length = M.ls.length := fence_len M
      have hjF : j < M.fence.ls.length := by omega
      have hlokF := hI.lok
      have hpl2 : M.fence.pend (j : Int) = (M.fence.line j).ps := pend_line hjF
      have hpos : 0 < (M.fence.line j).ps.length := by rw [← hpl2]; omega
      obtain ⟨he0, he1, he2⟩ := evicts_like hlokF hjF (fun i hi => fence_mark (by omega)) hpos
      have hev := (evict_line (j := j) hjF hpos).1
      rw [← hpl2] at he0 he1
      have hfh := has_of hjF
      refine WL.move rfl rfl ?_
      refine WL.call call41 rfl rfl ?_
      refine Calls.mono (a_copy (by omega) hI H hL) ?_
      rintro _ wx ⟨pa, Ra, rfl, hIa, H⟩
      refine ⟨_, rfl, ?_⟩
      refine WL.assign rfl rfl ?_
      refine (WL.done (WX.next ?_))
      refine WC.seq ?_
      refine WC.region ?_
      refine WL.move rfl rfl ?_
      refine WL.call call41 rfl rfl ?_
      refine Calls.mono (a_copy (by omega) hI H.swap hL) ?_
      rintro _ wx ⟨pb, Rb, rfl, hIb, H⟩
      refine ⟨_, rfl, ?_⟩
      refine WL.assign rfl rfl ?_
      refine (WL.done (WX.next ?_))
      refine WC.seq ?_
      refine WC.seq ?_
      refine WC.region ?_
      refine WL.move rfl rfl ?_
      refine WL.bin rfl rfl (binv_ptr_eql (by kernel_rfl) _) rfl ?_
      refine WL.move rfl rfl ?_
      refine WL.known (t := 53) rfl (b := false) (rfl) ?_
      refine WL.yes rfl rfl ?_
      refine WL.move rfl rfl ?_
      refine WL.yes rfl rfl ?_
      refine WL.bin rfl rfl (binv_ptr_eql (by kernel_rfl) _) rfl ?_
      refine WL.pickF rfl rfl rfl ?_
      refine (WL.done (WX.next ?_))
      refine WC.cond_false rfl (rfl) ?_
      refine (WC.skip (WX.next ?_))
      refine WC.seq ?_
      refine WC.region ?_
      refine WL.move rfl rfl ?_
      refine WL.move rfl rfl ?_
      refine WL.move rfl rfl ?_
      refine WL.call call40 rfl rfl ?_
      refine Calls.mono (a_evict (L := [] ++ R.hp ++ Rb.hp) (j : Int) _ (by omega) hIa (H.perm (by classical exact List.perm_iff_count.2 (fun q => by simp only [List.count_append, List.count_cons, List.count_nil, Nat.add_zero, Nat.zero_add]; ac_rfl))) hL) ?_
      rintro _ wx ⟨Ra, rfl, hIa, H⟩
      refine ⟨_, rfl, ?_⟩
      refine WL.assign rfl rfl ?_
      refine (WL.done (WX.next ?_))
      refine WC.seq ?_
      refine WC.region ?_
      refine WL.move rfl rfl ?_
      refine WL.move rfl rfl ?_
      refine WL.call call35 rfl rfl ?_
      refine Calls.mono (a_flush (j : Int) (by omega) hIb H.swap hL) ?_
      rintro _ wx ⟨Rb, rfl, hIb, H⟩
      refine ⟨_, rfl, ?_⟩
      refine WL.assign rfl rfl ?_
      refine (WL.done (WX.next ?_))
      refine WC.seq ?_
      refine WC.region ?_
      refine WL.move rfl rfl ?_
      refine WL.call call36 rfl rfl ?_
      refine Calls.mono (a_fence (by omega) hIb H hL) ?_
      rintro _ wx ⟨Rb, rfl, hIb, H⟩
      refine ⟨_, rfl, ?_⟩
      replace H := H.swap
      have hma := hIa.mem (L := [] ++ R.hp ++ Rb.hp) H hL
      have hmb := hIb.mem (L := [] ++ R.hp ++ Ra.hp) (H.perm (by classical exact List.perm_iff_count.2 (fun q => by simp only [List.count_append, List.count_cons, List.count_nil, Nat.add_zero, Nat.zero_add]; ac_rfl))) hL
      have hmm := hI.mem (L := [] ++ Ra.hp ++ Rb.hp) (H.perm (by classical exact List.perm_iff_count.2 (fun q => by simp only [List.count_append, List.count_cons, List.count_nil, Nat.add_zero, Nat.zero_add]; ac_rfl))) hL
      refine (WL.done (WX.next ?_))
      refine WC.seq ?_
      refine WC.region ?_
      refine WL.move rfl rfl ?_
      refine WL.call call29 rfl rfl ?_
      refine Calls.mono (m_image hIa hma) ?_
      rintro _ wx ⟨ga, rfl, Hc⟩
      refine ⟨_, rfl, ?_⟩
      replace H := H.call Hc
      replace hma := hma.old Hc
      replace hmb := hmb.old Hc
      replace hmm := hmm.old Hc
      refine WL.move rfl rfl ?_
      refine WL.call call29 rfl rfl ?_
      refine Calls.mono (m_image hIb hmb) ?_
      rintro _ wx ⟨gb, rfl, Hc⟩
      refine ⟨_, rfl, ?_⟩
      replace H := H.call Hc
      replace hma := hma.old Hc
      replace hmb := hmb.old Hc
      replace hmm := hmm.old Hc
      refine WL.assign rfl rfl ?_
      refine WL.assign rfl rfl ?_
      refine (WL.done (WX.next ?_))
      refine WC.seq ?_
      refine WC.region ?_
      refine WL.call call22 rfl rfl ?_
      refine Calls.mono (sanity4_any _ (hL.of0 H)) ?_
      rintro _ wx ⟨rfl, Hc⟩
      refine ⟨_, rfl, ?_⟩
      replace H := H.call0 Hc
      replace hma := hma.old Hc
      replace hmb := hmb.old Hc
      replace hmm := hmm.old Hc
      refine WL.move rfl rfl ?_
      refine WL.known (t := 71) rfl (b := true) (rfl) ?_
      refine WL.yes rfl rfl ?_
      refine WL.move rfl rfl ?_
      refine WL.yes rfl rfl ?_
      refine WL.bin rfl rfl binv_eql rfl ?_
      refine WL.pickT rfl rfl rfl ?_
      refine WL.move rfl rfl ?_
      refine WL.known (t := 75) rfl (b := true) (decide_eq_true (by rw [hpl2]; exact hev)) ?_
      refine WL.yes rfl rfl ?_
      refine WL.move rfl rfl ?_
      refine WL.yes rfl rfl ?_
      refine WL.bin rfl rfl binv_eql rfl ?_
      refine WL.pickT rfl rfl rfl ?_
      refine WL.move rfl rfl ?_
      refine WL.known (t := 79) rfl (b := true) (decide_eq_true (by rw [hfh]; rfl)) ?_
      refine WL.yes rfl rfl ?_
      refine WL.move rfl rfl ?_
      refine WL.yes rfl rfl ?_
      refine WL.move rfl rfl ?_
      refine WL.yes rfl rfl ?_
      refine WL.call call28 rfl rfl ?_
      refine Calls.mono (sameImage_any _ _ _ _ _ _ _ _ (by simp) (by simp) hIa.bare8 hIb.bare8 _ (ImgIn.block (H.blk 1 rfl)) (ImgIn.block (H.blk 0 rfl)) (by have := hIa.lens; omega)) ?_
      rintro _ wx ⟨rfl, Hc⟩
      refine ⟨_, rfl, ?_⟩
      replace H := H.call0 Hc
      replace hma := hma.old Hc
      replace hmb := hmb.old Hc
      replace hmm := hmm.old Hc
      refine WL.pickT rfl rfl rfl ?_
      refine WL.move rfl rfl ?_
      refine WL.known (t := 84) rfl (b := true) (decide_eq_true he0) ?_
      refine WL.yes rfl rfl ?_
      refine WL.move rfl rfl ?_
      refine WL.yes rfl rfl ?_
      refine WL.call call34 rfl rfl ?_
      refine Calls.mono (m_seen hIa hma (hL.of0 H)) ?_
      rintro _ wx ⟨sa, rfl, Hc⟩
      refine ⟨_, rfl, ?_⟩
      replace H := H.call Hc
      replace hma := hma.old Hc
      replace hmb := hmb.old Hc
      replace hmm := hmm.old Hc
      refine WL.yes rfl rfl ?_
      refine WL.move rfl rfl ?_
      refine WL.yes rfl rfl ?_
      refine WL.call call34 rfl rfl ?_
      refine Calls.mono (m_seen hI hmm (hL.of0 H)) ?_
      rintro _ wx ⟨sm, rfl, Hc⟩
      refine ⟨_, rfl, ?_⟩
      replace H := H.call Hc
      replace hma := hma.old Hc
      replace hmb := hmb.old Hc
      replace hmm := hmm.old Hc
      refine WL.yes rfl rfl ?_
      refine WL.call call42 rfl rfl ?_
      refine Calls.mono (sameSeen_any _ _ _ _ _ _ _ _ (by simp) (by simp) _ (RowsIn.seen hIa.shown8 (H.blk 1 rfl)) (RowsIn.seen hI.shown8 (H.blk 0 rfl)) (by have := hIa.lens; omega)) ?_
      rintro _ wx ⟨rfl, Hc⟩
      refine ⟨_, rfl, ?_⟩
      replace H := H.call0 Hc
      replace hma := hma.old Hc
      replace hmb := hmb.old Hc
      replace hmm := hmm.old Hc
      refine WL.pickT rfl rfl rfl ?_
      refine WL.move rfl rfl ?_
      refine WL.known (t := 91) rfl (b := true) (decide_eq_true he1) ?_
      refine WL.yes rfl rfl ?_
      refine WL.move rfl rfl ?_
      refine WL.yes rfl rfl ?_
      refine WL.call call34 rfl rfl ?_
      refine Calls.mono (m_seen hIb hmb (hL.of0 H)) ?_
      rintro _ wx ⟨sb, rfl, Hc⟩
      refine ⟨_, rfl, ?_⟩
      replace H := H.call Hc
      replace hma := hma.old Hc
      replace hmb := hmb.old Hc
      replace hmm := hmm.old Hc
      refine WL.yes rfl rfl ?_
      refine WL.move rfl rfl ?_
      refine WL.yes rfl rfl ?_
      refine WL.call call34 rfl rfl ?_
      refine Calls.mono (m_seen hI hmm (hL.of0 H)) ?_
      rintro _ wx ⟨sn, rfl, Hc⟩
      refine ⟨_, rfl, ?_⟩
      replace H := H.call Hc
      replace hma := hma.old Hc
      replace hmb := hmb.old Hc
      replace hmm := hmm.old Hc
      refine WL.yes rfl rfl ?_
      refine WL.call call42 rfl rfl ?_
      refine Calls.mono (sameSeen_any _ _ _ _ _ _ _ _ (by simp) (by simp) _ (RowsIn.seen hIb.shown8 (H.blk 1 rfl)) (RowsIn.seen hI.shown8 (H.blk 0 rfl)) (by have := hIb.lens; omega)) ?_
      rintro _ wx ⟨rfl, Hc⟩
      refine ⟨_, rfl, ?_⟩
      replace H := H.call0 Hc
      replace hma := hma.old Hc
      replace hmb := hmb.old Hc
      replace hmm := hmm.old Hc
      refine WL.pickT rfl rfl rfl ?_
      refine WL.assign rfl rfl ?_
      refine (WL.done (WX.next ?_))
      refine (WC.ret ?_)
      refine ret_one rfl rfl ?_
      refine ⟨?_, H.weaken (List.nil_sublist _)⟩
      rw [decide_eq_true he2]

end Go.Proofs.YtkncbggnaobgeaaDoor
