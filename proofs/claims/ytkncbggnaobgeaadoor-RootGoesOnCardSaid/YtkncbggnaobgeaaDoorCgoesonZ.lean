/- RootGoesOn: for every input, the law returns true and its arguments read behind the call as they did. No condition but the given card's own. -/
import Derived.Test.YtkncbggnaobgeaaDoorGn
import Derived.Test.YtkncbggnaobgeaaDoorGg
import Derived.Test.YtkncbggnaobgeaaDoorTie
import Derived.Test.YtkncbggnaobgeaaDoorCards

/- Walks of functions of the program; printed by a program of this session (walk.py) out of hand-written hints. -/
namespace Go.Proofs.YtkncbggnaobgeaaDoor
open Go.RowKit
set_option linter.unusedVariables false
set_option linter.unusedSimpArgs false
set_option maxRecDepth 100000

theorem goesOn_any (x : WV) (z st : Int) (hst : 0 ≤ st ∧ st ≤ 65535) (w : World) (hx : x.ok w) (hG : GG w) : Calls Tryd.prog 8 #[.agg x.cells, .int .i64 z, .int .u16 st] w fun e w' => e = .returned (.bool true) ∧ St w [] w' [] := by
  refine calls_walk_n (args := [.agg x.cells, .int .i64 z, .int .u16 st]) Tryd.func8 rfl rfl rfl ?_
  have hL := hG.l
  have H := St.refl w
  have hnn := WV.n_eq hx
  refine WC.seq ?_
  refine WC.region ?_
  refine WL.box (v := .agg x.cells) H rfl rfl ?_
  intro b1 wx hb1 hge1 H
  replace H : St w [] wx [(b1, .cells x.cells 70)] := H
  refine WL.assign rfl rfl ?_
  refine (WL.done (WX.next ?_))
  refine WC.seq ?_
  refine WC.region ?_
  refine WL.call call46 rfl rfl ?_
  refine Calls.mono (sanity8_any _ (hG.of0 H)) ?_
  rintro _ wx ⟨rfl, Hc⟩
  refine ⟨_, rfl, ?_⟩
  replace H := H.call0 Hc
  refine WL.assign rfl rfl ?_
  refine (WL.done (WX.next ?_))
  refine WC.seq ?_
  refine WC.seq ?_
  refine WC.region ?_
  refine WL.fieldAddr fld70_1 rfl rfl ?_
  refine WL.load rfl (H.rd1 ty43 0 rfl rfl) rfl ?_
  refine WL.lenSlc isl43 rfl rfl ?_
  refine WL.bin rfl rfl binv_gtr rfl ?_
  refine (WL.done (WX.next ?_))
  refine WC.cond_dec rfl (fun c1 => ?_) (fun c1 => ?_)
  ·
    refine WC.seq ?_
    refine WC.region ?_
    refine WL.move rfl rfl ?_
    refine WL.assign rfl rfl ?_
    refine (WL.done (WX.next ?_))
    refine (WC.ret (WX.then_ret ?_))
    refine ret_one rfl rfl ?_
    refine ⟨congrArg (fun b => Ending.returned (Value.bool b)) (by rfl), H.weaken (List.nil_sublist _)⟩
  ·
    have hc6 : x.cats.length ≤ 6 := by omega
    refine (WC.skip (WX.next ?_))
    refine WC.seq ?_
    refine WC.region ?_
    refine WL.load rfl (H.rdAll ty70 0 rfl rfl) rfl ?_
    refine WL.call call47 rfl rfl ?_
    refine Calls.mono (wrote_any x (hx.keep H) hc6 (hG.of0 H)) ?_
    rintro _ wx ⟨p, R, rr, re, rfl, hI, hrr, hre, Hc⟩
    refine ⟨_, rfl, ?_⟩
    obtain ⟨br, capr, curr, rfl⟩ := Row.some_of hrr (by omega)
    obtain ⟨be, cape, cure, rfl⟩ := Row.some_of hre (by omega)
    replace H := H.call Hc
    replace H : St w [] wx ((([(br, .cells curr 77)] ++ [(be, .cells cure 3)]) ++ R.hp) ++ [(b1, .cells x.cells 70)]) := H
    replace H : St w [] wx (((b1, .cells x.cells 70) :: (br, .cells curr 77) :: [(be, .cells cure 3)]) ++ R.hp) := H.perm (by classical exact List.perm_iff_count.2 (fun q => by simp only [List.count_append, List.count_cons, List.count_nil, Nat.add_zero, Nat.zero_add]; ac_rfl))
    have hel : (x.mem x.cats.length).evs.length = 22 * (x.cats.length + 1) := evsTo_len _
    obtain ⟨j, q, hpt, hq, hjm, hjq, a, b, hleft, ha, hb, r, cp, hrd, hrN, hcp, hcase⟩ := WV.left hx (show x.cats.length ≤ 6 by omega)
    refine WL.move rfl rfl ?_
    refine WL.extract rfl rfl rfl ?_
    refine WL.extract rfl rfl rfl ?_
    refine WL.extract rfl rfl rfl ?_
    refine WL.assign rfl rfl ?_
    refine WL.assign rfl rfl ?_
    refine WL.assign rfl rfl ?_
    refine (WL.done (WX.next ?_))
    refine WC.seq ?_
    refine WC.seq ?_
    refine WC.region ?_
    refine WL.move rfl rfl ?_
    refine WL.bin rfl rfl (binv_ptr_eql (by kernel_rfl) _) rfl ?_
    refine (WL.done (WX.next ?_))
    refine WC.cond_false rfl (rfl) ?_
    refine (WC.skip (WX.next ?_))
    refine WC.seq ?_
    replace H := H.drew
    refine WC.held (SX (World.drew wx) []) (by kernel_rfl) ?_
    generalize World.drew wx = wb at H ⊢
    have HB := St.refl wb
    refine WH.take 0 rfl (by kernel_rfl) (by kernel_rfl) (by kernel_rfl) (fun _ _ _ h => h) ⟨_, HB⟩ (fun w' hS => EX.move rfl) rfl ?_
    refine WH.take 1 rfl (by kernel_rfl) (by kernel_rfl) (by kernel_rfl) (fun _ _ _ h => h) ⟨_, HB⟩ (fun w' hS => EX.move rfl) rfl ?_
    refine WH.take 2 rfl (by kernel_rfl) (by kernel_rfl) (by kernel_rfl) (fun _ _ _ h => h) ⟨_, HB⟩ (fun w' hS => EX.idxSlc (k := 0) slc43 rfl rfl (by rfl) (by omega)) rfl ?_
    refine WH.take 3 rfl (by kernel_rfl) (by kernel_rfl) (by kernel_rfl) (fun _ _ _ h => h) ⟨_, HB⟩ (fun w' hS => EX.load rfl (Rd.ends0 hre (hS.block (H.blk 2 rfl) (by simp)) (by omega))) rfl ?_
    refine WH.take 4 rfl (by kernel_rfl) (by kernel_rfl) (by kernel_rfl) (fun _ _ _ h => h) ⟨_, HB⟩ (fun w' hS => EX.fieldAddr fld70_3 rfl) rfl ?_
    refine WH.take 5 rfl (by kernel_rfl) (by kernel_rfl) (by kernel_rfl) (fun _ _ _ h => h) ⟨_, HB⟩ (fun w' hS => EX.load rfl (hS.rd1 ty3 (H.blk 0 rfl) (by simp) rfl)) rfl ?_
    refine WH.take 6 rfl (by kernel_rfl) (by kernel_rfl) (by kernel_rfl) (fun _ _ _ h => h) ⟨_, HB⟩ (fun w' hS => EX.fieldAddr fld70_4 rfl) rfl ?_
    refine WH.take 7 rfl (by kernel_rfl) (by kernel_rfl) (by kernel_rfl) (fun _ _ _ h => h) ⟨_, HB⟩ (fun w' hS => EX.load rfl (hS.rd1 ty3 (H.blk 0 rfl) (by simp) rfl)) rfl ?_
    refine WH.hard 8 rfl (by kernel_rfl) ?_
    refine WL.call call48 rfl rfl ?_
    refine Calls.mono (after_any 22 x.at_ x.cut (by omega) (by omega) hx.at_ hx.cut (WV.good hx (by omega)) (plain4_evs x _) (by omega) hI ((hI.mem H hL).old HB) ((hL.of0 H).of0 HB)) ?_
    rintro _ wx ⟨p2, R2, rfl, hI2, Hc⟩
    refine ⟨_, rfl, ?_⟩
    replace HB := HB.call Hc
    rw [hleft] at hI2
    rw [show ptOf (x.mem x.cats.length).evs.length 22 x.at_ = 22 * (j + 1) + q from hpt]
    refine WL.done (WX.heldOn ⟨_, HB⟩ ?_)
    refine WH.take 9 rfl (by kernel_rfl) (by kernel_rfl) (by kernel_rfl) (fun _ _ _ h => h) ⟨_, HB⟩ (fun w' hS => EX.move rfl) rfl ?_
    refine WH.take 10 rfl (by kernel_rfl) (by kernel_rfl) (by kernel_rfl) (fun _ _ _ h => h) ⟨_, HB⟩ (fun w' hS => EX.extract rfl rfl) rfl ?_
    refine WH.take 11 rfl (by kernel_rfl) (by kernel_rfl) (by kernel_rfl) (fun _ _ _ h => h) ⟨_, HB⟩ (fun w' hS => EX.extract rfl rfl) rfl ?_
    refine WH.take 12 rfl (by kernel_rfl) (by kernel_rfl) (by kernel_rfl) (fun _ _ _ h => h) ⟨_, HB⟩ (fun w' hS => EX.assign rfl) rfl ?_
    refine WH.take 13 rfl (by kernel_rfl) (by kernel_rfl) (by kernel_rfl) (fun _ _ _ h => h) ⟨_, HB⟩ (fun w' hS => EX.assign rfl) rfl ?_
    refine WH.done (by kernel_rfl) ?_
    replace H := H.call HB
    replace H : St w [] wx ((((b1, .cells x.cells 70) :: (br, .cells curr 77) :: [(be, .cells cure 3)]) ++ R.hp) ++ R2.hp) := H.perm (by classical exact List.perm_iff_count.2 (fun q => by simp only [List.count_append, List.count_cons, List.count_nil, Nat.add_zero, Nat.zero_add]; ac_rfl))
    refine WX.next ?_
    refine WC.seq ?_
    refine WC.seq ?_
    refine WC.region ?_
    refine WL.move rfl rfl ?_
    refine WL.bin rfl rfl (binv_ptr_eql (by kernel_rfl) _) rfl ?_
    refine (WL.done (WX.next ?_))
    refine WC.cond_false rfl (rfl) ?_
    refine (WC.skip (WX.next ?_))
    refine WC.seq ?_
    refine WC.region ?_
    have hs0 : r.getD 0 0 ≤ 1000 := by
      rcases hcase with h | h
      · rw [h, seq_at]; omega
      · rw [h.2, seq_at]; omega
    have hN1 := next_N hnn.2 hrN hs0 z hst
    refine WL.move rfl rfl ?_
    refine WL.call call49 rfl rfl ?_
    refine Calls.mono (rread_any (L := ((b1, .cells x.cells 70) :: (br, .cells curr 77) :: [(be, .cells cure 3)]) ++ R.hp) hI2 H hG) ?_
    rintro _ wx ⟨rfl, H⟩
    refine ⟨_, rfl, ?_⟩
    rw [hrd]
    refine WL.move rfl rfl ?_
    refine WL.extract rfl rfl rfl ?_
    refine WL.extract rfl rfl rfl ?_
    refine WL.extract rfl rfl rfl ?_
    refine WL.alloc H zer77 rfl ?_
    intro b13 wx hb13 hge13 H
    refine WL.storeArr (ws' := r) H ty77 0 rfl rfl rfl rfl hrN.1 ?_
    intro wx H
    refine WL.assign rfl rfl ?_
    refine WL.assign rfl rfl ?_
    refine (WL.done (WX.next ?_))
    refine WC.seq ?_
    refine WC.region ?_
    refine WL.move rfl rfl ?_
    refine WL.call call50 rfl rfl ?_
    refine Calls.mono (rmend_any (L := _ :: (((b1, .cells x.cells 70) :: (br, .cells curr 77) :: [(be, .cells cure 3)]) ++ R.hp)) (by omega) hI2 H hG) ?_
    rintro _ wx ⟨R3, rfl, hI3, H⟩
    refine ⟨_, rfl, ?_⟩
    obtain ⟨E1, hE1⟩ := left_mend hnn.2 ha hb hrN hrd hcp
    rw [hrd]
    rw [hE1] at hI3
    refine WL.move rfl rfl ?_
    refine WL.extract rfl rfl rfl ?_
    refine WL.extract rfl rfl rfl ?_
    refine WL.assign rfl rfl ?_
    refine WL.assign rfl rfl ?_
    refine (WL.done (WX.next ?_))
    refine WC.seq ?_
    refine WC.region ?_
    refine WL.move rfl rfl ?_
    refine WL.call call50 rfl rfl ?_
    refine Calls.mono (rmend_any (L := _ :: (((b1, .cells x.cells 70) :: (br, .cells curr 77) :: [(be, .cells cure 3)]) ++ R.hp)) (by omega) hI3 H hG) ?_
    rintro _ wx ⟨R4, rfl, hI4, H⟩
    refine ⟨_, rfl, ?_⟩
    obtain ⟨hmd, hE2⟩ := rs_mend (E := E1) hnn.2 hrN
    rw [hmd, rs_readW hnn.2 hrN]
    rw [hE2] at hI4
    replace H : St w [] wx (((b13, .cells (arrC r) 77) :: (((b1, .cells x.cells 70) :: (br, .cells curr 77) :: [(be, .cells cure 3)]) ++ R.hp)) ++ R4.hp) := H
    refine WL.move rfl rfl ?_
    refine WL.extract rfl rfl rfl ?_
    refine WL.extract rfl rfl rfl ?_
    refine WL.assign rfl rfl ?_
    refine WL.assign rfl rfl ?_
    refine (WL.done (WX.next ?_))
    refine WC.seq ?_
    refine WC.region ?_
    refine WL.assign rfl rfl ?_
    refine (WL.done (WX.next ?_))
    refine WC.seqJ (Sub.cons (t := 1) rfl (Sub.cons (t := 2) rfl (Sub.cons (t := 7) rfl (Sub.cons (t := 11) rfl (Sub.cons (t := 13) rfl (Sub.cons (t := 15) rfl (Sub.cons (t := 17) rfl (Sub.cons (t := 18) rfl (Sub.cons (t := 19) rfl (Sub.nil _)))))))))) (fun c : Nat => [(20, .int .i64 (c : Int))]) (fun c wx => c ≤ 1 ∧ St w [] wx (((b13, .cells (arrC r) 77) :: (((b1, .cells x.cells 70) :: (br, .cells curr 77) :: [(be, .cells cure 3)]) ++ R.hp)) ++ R4.hp)) (fun N hN => ?_) (fun c wx hJ2 => ?_)
    · -- first
      refine WC.seq ?_
      refine WC.region ?_
      refine WL.fieldAddr fld70_6 rfl rfl ?_
      refine WL.load rfl (H.rd1 ty4 1 rfl rfl) rfl ?_
      refine (WL.done (WX.next ?_))
      refine WC.cond rfl (fun c4 => ?_) (fun c4 => ?_)
      ·
        refine WC.region ?_
        refine WL.assign rfl rfl ?_
        refine (WL.done (WX.round ?_))
        exact hN 1 _ _ ⟨by omega, H⟩ (Sub.cons (t := 20) (by rfl) (Sub.nil _)) (Sub.cons (t := 1) rfl (Sub.cons (t := 2) rfl (Sub.cons (t := 7) rfl (Sub.cons (t := 11) rfl (Sub.cons (t := 13) rfl (Sub.cons (t := 15) rfl (Sub.cons (t := 17) rfl (Sub.cons (t := 18) rfl (Sub.cons (t := 19) rfl (Sub.nil _))))))))))
      ·
        refine (WC.skip (WX.round ?_))
        exact hN 0 _ _ ⟨by omega, H⟩ (Sub.cons (t := 20) (by rfl) (Sub.nil _)) (Sub.cons (t := 1) rfl (Sub.cons (t := 2) rfl (Sub.cons (t := 7) rfl (Sub.cons (t := 11) rfl (Sub.cons (t := 13) rfl (Sub.cons (t := 15) rfl (Sub.cons (t := 17) rfl (Sub.cons (t := 18) rfl (Sub.cons (t := 19) rfl (Sub.nil _))))))))))
    · -- join
      obtain ⟨hc, H⟩ := hJ2
      refine WC.seq ?_
      refine WC.region ?_
      refine WL.move rfl rfl ?_
      refine WL.move rfl rfl ?_
      refine WL.buildA (cells := arrC [3, 0, 0, 0, 0, 0, 0, 0]) arr38 zer38 rfl rfl (by kernel_rfl) ?_
      refine WL.call call51 rfl rfl ?_
      refine Calls.mono (a_rot (L := (b13, .cells (arrC r) 77) :: (((b1, .cells x.cells 70) :: (br, .cells curr 77) :: [(be, .cells cure 3)]) ++ R.hp)) (c : Int) [3, 0, 0, 0, 0, 0, 0, 0] rfl 0 (by omega) hI4 H hL) ?_
      rintro _ wx ⟨R5, rfl, hI5, H⟩
      refine ⟨_, rfl, ?_⟩
      have hH := rs_three (E := E1) hnn.2 hrN hc
      obtain ⟨M3, hM3⟩ : ∃ M3, M3 = (RS x.n (rootW r) (rootW r) E1).rot (c : Int) [3, 0, 0, 0, 0, 0, 0, 0] 0 := ⟨_, rfl⟩
      rw [← hM3] at hI5 hH
      refine (WL.done (WX.next ?_))
      refine WC.seq ?_
      refine WC.region ?_
      refine WL.move rfl rfl ?_
      refine WL.call call49 rfl rfl ?_
      refine Calls.mono (rread_any (L := (b13, .cells (arrC r) 77) :: (((b1, .cells x.cells 70) :: (br, .cells curr 77) :: [(be, .cells cure 3)]) ++ R.hp)) hI5 H hG) ?_
      rintro _ wx ⟨rfl, H⟩
      refine ⟨_, rfl, ?_⟩
      rw [hH.read hnn.2 hrN]
      refine WL.move rfl rfl ?_
      refine WL.extract rfl rfl rfl ?_
      refine WL.extract rfl rfl rfl ?_
      refine WL.extract rfl rfl rfl ?_
      refine WL.alloc H zer77 rfl ?_
      intro b21 wx hb21 hge21 H
      refine WL.storeArr (ws' := r) H ty77 0 rfl rfl rfl rfl hrN.1 ?_
      intro wx H
      refine WL.assign rfl rfl ?_
      refine WL.assign rfl rfl ?_
      refine (WL.done (WX.next ?_))
      refine WC.seq ?_
      refine WC.region ?_
      refine WL.move rfl rfl ?_
      refine WL.move rfl rfl ?_
      refine WL.call call53 rfl rfl ?_
      refine Calls.mono (catalog_any z _) ?_
      rintro _ wx ⟨rfl, rfl⟩
      refine ⟨_, rfl, ?_⟩
      refine WL.move rfl rfl ?_
      refine WL.convert int67 int3 rfl (wrap_i64 (by omega) (by omega)) rfl ?_
      refine WL.call call52 rfl rfl ?_
      refine Calls.mono (rwrite_any (L := _ :: (b13, .cells (arrC r) 77) :: (((b1, .cells x.cells 70) :: (br, .cells curr 77) :: [(be, .cells cure 3)]) ++ R.hp)) (catV z) st (by omega) hI5 H hG) ?_
      rintro _ wx ⟨R6, rfl, hI6, H⟩
      refine ⟨_, rfl, ?_⟩
      obtain ⟨hw1, E3, hw2⟩ := hH.write hnn.2 hrN hN1
      rw [hw1]
      rw [hw2] at hI6
      refine WL.assign rfl rfl ?_
      refine (WL.done (WX.next ?_))
      refine WC.seq ?_
      refine WC.region ?_
      refine WL.move rfl rfl ?_
      refine WL.call call49 rfl rfl ?_
      refine Calls.mono (rread_any (L := _ :: (b13, .cells (arrC r) 77) :: (((b1, .cells x.cells 70) :: (br, .cells curr 77) :: [(be, .cells cure 3)]) ++ R.hp)) hI6 H hG) ?_
      rintro _ wx ⟨rfl, H⟩
      refine ⟨_, rfl, ?_⟩
      rw [rs_readW hnn.2 hN1]
      refine WL.move rfl rfl ?_
      refine WL.extract rfl rfl rfl ?_
      refine WL.extract rfl rfl rfl ?_
      refine WL.extract rfl rfl rfl ?_
      refine WL.alloc H zer77 rfl ?_
      intro b25 wx hb25 hge25 H
      refine WL.storeArr (ws' := [r.getD 0 0 + 1, catV z, st, (x.n : Int)]) H ty77 0 rfl rfl rfl rfl rfl ?_
      intro wx H
      refine WL.assign rfl rfl ?_
      refine WL.assign rfl rfl ?_
      refine (WL.done (WX.next ?_))
      refine WC.seq ?_
      replace H := H.drew
      refine WC.held (SX (World.drew wx) []) (by kernel_rfl) ?_
      generalize World.drew wx = wb at H ⊢
      have HB := St.refl wb
      refine WH.take 0 rfl (by kernel_rfl) (by kernel_rfl) (by kernel_rfl) (fun _ _ _ h => h) ⟨_, HB⟩ (fun w' hS => EX.fieldAddr fld77_0 rfl) rfl ?_
      refine WH.take 1 rfl (by kernel_rfl) (by kernel_rfl) (by kernel_rfl) (fun _ _ _ h => h) ⟨_, HB⟩ (fun w' hS => EX.load rfl (hS.rdElt ty3 (H.blk 2 rfl) (by simp) (by rw [hrN.1]; omega))) rfl ?_
      refine WH.take 2 rfl (by kernel_rfl) (by kernel_rfl) (by kernel_rfl) (fun _ _ _ h => h) ⟨_, HB⟩ (fun w' hS => EX.bin rfl rfl (iadd (x := r.getD 0 0) (by have := (rootOk_word hrN.2.1).2.2.1; omega) (by omega))) rfl ?_
      refine WH.take 3 rfl (by kernel_rfl) (by kernel_rfl) (by kernel_rfl) (fun _ _ _ h => h) ⟨_, HB⟩ (fun w' hS => EX.move rfl) rfl ?_
      refine WH.take 5 rfl (by kernel_rfl) (by kernel_rfl) (by kernel_rfl) (fun _ _ _ h => h) ⟨_, HB⟩ (fun w' hS => EX.move rfl) rfl ?_
      refine WH.take 6 rfl (by kernel_rfl) (by kernel_rfl) (by kernel_rfl) (fun _ _ _ h => h) ⟨_, HB⟩ (fun w' hS => EX.convert int67 int3 rfl (wrap_i64 (by omega) (by omega))) rfl ?_
      refine WH.take 7 rfl (by kernel_rfl) (by kernel_rfl) (by kernel_rfl) (fun _ _ _ h => h) ⟨_, HB⟩ (fun w' hS => EX.fieldAddr fld77_3 rfl) rfl ?_
      refine WH.take 8 rfl (by kernel_rfl) (by kernel_rfl) (by kernel_rfl) (fun _ _ _ h => h) ⟨_, HB⟩ (fun w' hS => EX.load rfl (hS.rdElt ty3 (H.blk 2 rfl) (by simp) (by rw [hrN.1]; omega))) rfl ?_
      refine WH.hard2 4 10 rfl rfl (by kernel_rfl) ?_ ?_
      ·
        refine WL.call call53 rfl rfl ?_
        refine Calls.mono (catalog_any z _) ?_
        rintro _ wx ⟨rfl, rfl⟩
        refine ⟨_, rfl, ?_⟩
        refine WL.done (WX.heldOn ⟨_, HB⟩ ?_)
        refine WH.take 9 rfl (by kernel_rfl) (by kernel_rfl) (by kernel_rfl) (fun _ _ _ h => h) ⟨_, HB⟩ (fun w' hS => EX.build (cells := arrC [r.getD 0 0 + 1, catV z, st, r.getD 3 0]) pla77 zer77 rfl (by kernel_rfl)) rfl ?_
        refine WH.hard 10 rfl (by kernel_rfl) ?_
        refine WL.alloc HB zer77 rfl ?_
        intro b28 wx hb28 hge28 HB
        refine WL.done (WX.heldOn ⟨_, HB⟩ ?_)
        refine WH.hard 11 rfl (by kernel_rfl) ?_
        refine WL.storeTo (cs' := arrC [r.getD 0 0 + 1, catV z, st, r.getD 3 0]) HB ty77 0 rfl rfl rfl (by rfl) (by exact arrC_one _) (by exact Nat.le_of_ble_eq_true rfl) (by kernel_rfl) ?_
        intro wx HB
        refine WL.done (WX.heldOn ⟨_, HB⟩ ?_)
        refine WH.done (by kernel_rfl) ?_
        replace H := H.call HB
        refine WX.next ?_
        refine WC.seq ?_
        refine WC.region ?_
        refine WL.move rfl rfl ?_
        refine WL.move rfl rfl ?_
        refine WL.known (t := 108) rfl (b := true) (rfl) ?_
        refine WL.yes rfl rfl ?_
        refine WL.move rfl rfl ?_
        refine WL.yes rfl rfl ?_
        refine WL.bin rfl rfl binv_eql rfl ?_
        refine WL.pickT rfl rfl rfl ?_
        refine WL.move rfl rfl ?_
        refine WL.known (t := 112) rfl (b := true) (rfl) ?_
        refine WL.yes rfl rfl ?_
        refine WL.move rfl rfl ?_
        refine WL.yes rfl rfl ?_
        refine WL.bin rfl rfl binv_eql rfl ?_
        refine WL.pickT rfl rfl rfl ?_
        refine WL.move rfl rfl ?_
        refine WL.known (t := 116) rfl (b := true) (rfl) ?_
        refine WL.yes rfl rfl ?_
        refine WL.move rfl rfl ?_
        refine WL.yes rfl rfl ?_
        refine WL.notOp rfl rfl ?_
        refine WL.pickT rfl rfl rfl ?_
        refine WL.move rfl rfl ?_
        refine WL.known (t := 120) rfl (b := true) (rfl) ?_
        refine WL.yes rfl rfl ?_
        refine WL.move rfl rfl ?_
        refine WL.yes rfl rfl ?_
        refine WL.bin rfl rfl binv_eql rfl ?_
        refine WL.pickT rfl rfl rfl ?_
        refine WL.move rfl rfl ?_
        refine WL.known (t := 124) rfl (b := true) (rfl) ?_
        refine WL.yes rfl rfl ?_
        refine WL.move rfl rfl ?_
        refine WL.yes rfl rfl ?_
        refine WL.bin rfl rfl binv_eql rfl ?_
        refine WL.pickT rfl rfl rfl ?_
        refine WL.move rfl rfl ?_
        refine WL.known (t := 128) rfl (b := true) (rfl) ?_
        refine WL.yes rfl rfl ?_
        refine WL.load rfl (H.rdArr ty77 2 rfl hrN.1) rfl ?_
        refine WL.yes rfl rfl ?_
        refine WL.load rfl (H.rdArr ty77 3 rfl hrN.1) rfl ?_
        refine WL.yes rfl rfl ?_
        refine WL.bin rfl rfl (eqT eqI77 (by kernel_rfl) hrN.1 rfl) rfl ?_
        refine WL.pickT rfl rfl rfl ?_
        refine WL.move rfl rfl ?_
        refine WL.known (t := 133) rfl (b := true) (rfl) ?_
        refine WL.yes rfl rfl ?_
        refine WL.move rfl rfl ?_
        refine WL.yes rfl rfl ?_
        refine WL.move rfl rfl ?_
        refine WL.yes rfl rfl ?_
        refine WL.bin rfl rfl (isub (x := 1) (y := (c : Int)) (by omega) (by omega)) rfl ?_
        refine WL.yes rfl rfl ?_
        refine WL.bin rfl rfl binv_eql rfl ?_
        refine WL.pickT rfl rfl rfl ?_
        refine WL.move rfl rfl ?_
        refine WL.known (t := 139) rfl (b := true) (decide_eq_true (by show ((1 - c : Nat) : Int) = 1 - (c : Int); omega)) ?_
        refine WL.yes rfl rfl ?_
        refine WL.move rfl rfl ?_
        refine WL.yes rfl rfl ?_
        refine WL.bin rfl rfl binv_eql rfl ?_
        refine WL.pickT rfl rfl rfl ?_
        refine WL.move rfl rfl ?_
        refine WL.known (t := 143) rfl (b := true) (rfl) ?_
        refine WL.yes rfl rfl ?_
        refine WL.move rfl rfl ?_
        refine WL.yes rfl rfl ?_
        refine WL.bin rfl rfl binv_eql rfl ?_
        refine WL.pickT rfl rfl rfl ?_
        refine WL.move rfl rfl ?_
        refine WL.known (t := 147) rfl (b := true) (rfl) ?_
        refine WL.yes rfl rfl ?_
        refine WL.load rfl (H.rdAll ty77 1 rfl rfl) rfl ?_
        refine WL.yes rfl rfl ?_
        refine WL.load rfl (H.rdAll ty77 0 rfl rfl) rfl ?_
        refine WL.yes rfl rfl ?_
        refine WL.bin rfl rfl (eqT eqI77 (by kernel_rfl) (xs := [r.getD 0 0 + 1, catV z, st, (x.n : Int)]) rfl (by rw [hrN.2.2])) rfl ?_
        refine WL.pickT rfl rfl rfl ?_
        refine WL.assign rfl rfl ?_
        refine (WL.done (WX.next ?_))
        refine (WC.ret ?_)
        refine ret_one rfl rfl ?_
        refine ⟨congrArg (fun b => Ending.returned (Value.bool b)) (by rfl), H.weaken (List.nil_sublist _)⟩
      ·
        refine WL.alloc HB zer77 rfl ?_
        intro b28 wx hb28 hge28 HB
        refine WL.done (WX.heldOn ⟨_, HB⟩ ?_)
        refine WH.hard 4 rfl (by kernel_rfl) ?_
        refine WL.call call53 rfl rfl ?_
        refine Calls.mono (catalog_any z _) ?_
        rintro _ wx ⟨rfl, rfl⟩
        refine ⟨_, rfl, ?_⟩
        refine WL.done (WX.heldOn ⟨_, HB⟩ ?_)
        refine WH.take 9 rfl (by kernel_rfl) (by kernel_rfl) (by kernel_rfl) (fun _ _ _ h => h) ⟨_, HB⟩ (fun w' hS => EX.build (cells := arrC [r.getD 0 0 + 1, catV z, st, r.getD 3 0]) pla77 zer77 rfl (by kernel_rfl)) rfl ?_
        refine WH.hard 11 rfl (by kernel_rfl) ?_
        refine WL.storeTo (cs' := arrC [r.getD 0 0 + 1, catV z, st, r.getD 3 0]) HB ty77 0 rfl rfl rfl (by rfl) (by exact arrC_one _) (by exact Nat.le_of_ble_eq_true rfl) (by kernel_rfl) ?_
        intro wx HB
        refine WL.done (WX.heldOn ⟨_, HB⟩ ?_)
        refine WH.done (by kernel_rfl) ?_
        replace H := H.call HB
        refine WX.next ?_
        refine WC.seq ?_
        refine WC.region ?_
        refine WL.move rfl rfl ?_
        refine WL.move rfl rfl ?_
        refine WL.known (t := 108) rfl (b := true) (rfl) ?_
        refine WL.yes rfl rfl ?_
        refine WL.move rfl rfl ?_
        refine WL.yes rfl rfl ?_
        refine WL.bin rfl rfl binv_eql rfl ?_
        refine WL.pickT rfl rfl rfl ?_
        refine WL.move rfl rfl ?_
        refine WL.known (t := 112) rfl (b := true) (rfl) ?_
        refine WL.yes rfl rfl ?_
        refine WL.move rfl rfl ?_
        refine WL.yes rfl rfl ?_
        refine WL.bin rfl rfl binv_eql rfl ?_
        refine WL.pickT rfl rfl rfl ?_
        refine WL.move rfl rfl ?_
        refine WL.known (t := 116) rfl (b := true) (rfl) ?_
        refine WL.yes rfl rfl ?_
        refine WL.move rfl rfl ?_
        refine WL.yes rfl rfl ?_
        refine WL.notOp rfl rfl ?_
        refine WL.pickT rfl rfl rfl ?_
        refine WL.move rfl rfl ?_
        refine WL.known (t := 120) rfl (b := true) (rfl) ?_
        refine WL.yes rfl rfl ?_
        refine WL.move rfl rfl ?_
        refine WL.yes rfl rfl ?_
        refine WL.bin rfl rfl binv_eql rfl ?_
        refine WL.pickT rfl rfl rfl ?_
        refine WL.move rfl rfl ?_
        refine WL.known (t := 124) rfl (b := true) (rfl) ?_
        refine WL.yes rfl rfl ?_
        refine WL.move rfl rfl ?_
        refine WL.yes rfl rfl ?_
        refine WL.bin rfl rfl binv_eql rfl ?_
        refine WL.pickT rfl rfl rfl ?_
        refine WL.move rfl rfl ?_
        refine WL.known (t := 128) rfl (b := true) (rfl) ?_
        refine WL.yes rfl rfl ?_
        refine WL.load rfl (H.rdArr ty77 2 rfl hrN.1) rfl ?_
        refine WL.yes rfl rfl ?_
        refine WL.load rfl (H.rdArr ty77 3 rfl hrN.1) rfl ?_
        refine WL.yes rfl rfl ?_
        refine WL.bin rfl rfl (eqT eqI77 (by kernel_rfl) hrN.1 rfl) rfl ?_
        refine WL.pickT rfl rfl rfl ?_
        refine WL.move rfl rfl ?_
        refine WL.known (t := 133) rfl (b := true) (rfl) ?_
        refine WL.yes rfl rfl ?_
        refine WL.move rfl rfl ?_
        refine WL.yes rfl rfl ?_
        refine WL.move rfl rfl ?_
        refine WL.yes rfl rfl ?_
        refine WL.bin rfl rfl (isub (x := 1) (y := (c : Int)) (by omega) (by omega)) rfl ?_
        refine WL.yes rfl rfl ?_
        refine WL.bin rfl rfl binv_eql rfl ?_
        refine WL.pickT rfl rfl rfl ?_
        refine WL.move rfl rfl ?_
        refine WL.known (t := 139) rfl (b := true) (decide_eq_true (by show ((1 - c : Nat) : Int) = 1 - (c : Int); omega)) ?_
        refine WL.yes rfl rfl ?_
        refine WL.move rfl rfl ?_
        refine WL.yes rfl rfl ?_
        refine WL.bin rfl rfl binv_eql rfl ?_
        refine WL.pickT rfl rfl rfl ?_
        refine WL.move rfl rfl ?_
        refine WL.known (t := 143) rfl (b := true) (rfl) ?_
        refine WL.yes rfl rfl ?_
        refine WL.move rfl rfl ?_
        refine WL.yes rfl rfl ?_
        refine WL.bin rfl rfl binv_eql rfl ?_
        refine WL.pickT rfl rfl rfl ?_
        refine WL.move rfl rfl ?_
        refine WL.known (t := 147) rfl (b := true) (rfl) ?_
        refine WL.yes rfl rfl ?_
        refine WL.load rfl (H.rdAll ty77 1 rfl rfl) rfl ?_
        refine WL.yes rfl rfl ?_
        refine WL.load rfl (H.rdAll ty77 0 rfl rfl) rfl ?_
        refine WL.yes rfl rfl ?_
        refine WL.bin rfl rfl (eqT eqI77 (by kernel_rfl) (xs := [r.getD 0 0 + 1, catV z, st, (x.n : Int)]) rfl (by rw [hrN.2.2])) rfl ?_
        refine WL.pickT rfl rfl rfl ?_
        refine WL.assign rfl rfl ?_
        refine (WL.done (WX.next ?_))
        refine (WC.ret ?_)
        refine ret_one rfl rfl ?_
        refine ⟨congrArg (fun b => Ending.returned (Value.bool b)) (by rfl), H.weaken (List.nil_sublist _)⟩

end Go.Proofs.YtkncbggnaobgeaaDoor

/- RootGoesOn: for every input, the law returns true and its arguments read behind the call as they did. No condition but the given card's own. -/
namespace Go.Proofs.YtkncbggnaobgeaaDoor
open Go.ChangeShapes Go.WideShapes Go.ChangeAt Go.WideMaps Go.WideElems Go.RowKit
set_option linter.unusedVariables false
set_option maxRecDepth 100000

theorem goeson_met (os : Os) (args : Array Value) : laidMetH Tryd.prog Rows.rootGoesOnRow.laid ((World.doorLaid Tryd.prog 31 os).forCall (fun _ _ => 0) ⟨#[], args, []⟩).memory :=
  laidMetH_of_parts3 (fuel := 8) (laidMet_of_run' 8 (by kernel_rfl) (by kernel_rfl)) (by kernel_rfl) (by kernel_rfl)

set_option maxRecDepth 100000 in
theorem goeson_lifted (os : Os) (started : os.Started) (H : Type) (enc : TypeId × Value → H) :
    ReturnsInHanded {} Tryd.checked os 8 .any (fun w args => (Rows.rootGoesOnSpec.pre enc Tryd.prog Tryd.f8 [] false w args ∧ laidMetH Tryd.prog Rows.rootGoesOnRow.laid w) ∧ sizedMet enc Tryd.prog Tryd.f8 (OpenSpec.ofChange Rows.rootGoesOnSpec) false w args)
      (Rows.rootGoesOnSpec.post enc Tryd.prog Tryd.f8 false true false false) := by
  refine returnsInHanded_of_change_and (C := Tryd.checked) (X := fun w _ => laidMetH Tryd.prog Rows.rootGoesOnRow.laid w) (fun _ _ _ hh h => h.of_heap hh) own started (by kernel_rfl) Tryd.func8
    (ChangeSpec.witness_shaped (enc := enc) (C := Tryd.checked) (os := os) (X := fun w _ => laidMetH Tryd.prog Rows.rootGoesOnRow.laid w) false (World.doorLaid Tryd.prog 31 os) #[.agg #[.int .u8 0, .slice none 0 0, .slice none 0 0, .int .i64 0, .int .i64 0, .int .u16 0, .int .u16 0, .bool false], .int .i64 0, .int .u16 0] 8 rfl (World.shaped_of_RefB (by kernel_rfl) (by kernel_rfl)) (by kernel_rfl) (by kernel_rfl) (by kernel_rfl) (goeson_met os _)) ?_
  intro W base args ds gs before hval0 hW _ _ hL _
  have hval : ∀ (j : Nat) t v, Tryd.f8.params[j]? = some t → args[j]? = some v → Value.okWide Tryd.prog W .any base t v := hval0
  have hW' := hW
  obtain ⟨p, q, hA0, hV, _, _, _⟩ := hW
  have hA : DataW.TrodAll enc Tryd.prog W 0 (fun _ => true) true Tryd.f8.params.toList args.toList ds p := hA0
  rw [Tryd.params8] at hA hval
  obtain ⟨v0, vs0, d0, ds0, p0, q0, hargs, rfl, rfl, h0, r0⟩ := trodAll_cons hA
  obtain ⟨v1, vs1, d1, ds1, p1, q1, rfl, rfl, rfl, h1, r1⟩ := trodAll_cons r0
  obtain ⟨v2, vs2, d2, ds2, p2, q2, rfl, rfl, rfl, h2, r2⟩ := trodAll_cons r1
  obtain ⟨rfl, rfl, rfl⟩ := trodAll_nil r2
  obtain rfl : args = #[v0, v1, v2] := by cases args; simp_all
  obtain ⟨rfl, rfl⟩ := trodVars_none hV
  rw [MakeChecks.laidMetH_plain _ _ _ (by kernel_rfl)] at hL
  have hG := GG.laid hL (by unfold Rows.rootGoesOnRow; simp) (by unfold Rows.rootGoesOnRow; simp) (by unfold Rows.rootGoesOnRow; simp)
  obtain ⟨x, rfl, hx⟩ := wv_open (hval 0 70 v0 rfl rfl) h0
  obtain ⟨z, rfl, rfl, rfl, w1⟩ := open_int Tryd.underlying3 (hval 1 3 v1 rfl rfl) h1
  obtain ⟨st, rfl, rfl, rfl, w2⟩ := open_int Tryd.underlying67 (hval 2 67 v2 rfl rfl) h2
  refine (goesOn_any x z st (wf_u16 w2) W hx hG).mono fun e W' ⟨he, st⟩ => ?_
  subst he
  exact ⟨_, rfl, post_law laidOut Tryd.underlying4 rfl rfl rfl (by kernel_rfl) hW' st⟩

theorem goeson_j9 : (Rows.rootGoesOnRow.inPlace == Tryd.prog.inPlace 8) = true := by kernel_rfl
theorem goeson_j10 : (Rows.rootGoesOnRow.unfollowed == Tryd.prog.unfollowed 8) = true := by kernel_rfl
theorem goeson_j11 : (Rows.rootGoesOnRow.recurses == Tryd.prog.recurses 8) = true := by kernel_rfl
theorem goeson_j12 : (Rows.rootGoesOnRow.named == Tryd.prog.varsNamed 8) = true := by kernel_rfl
theorem goeson_joined : joinedFacts Tryd.prog 8 Tryd.f8 Rows.rootGoesOnSpec Rows.rootGoesOnRow = true :=
  joined_mk _ _ _ _ _ (by kernel_rfl) k_laid k_maps (by kernel_rfl) (by kernel_rfl) (by kernel_rfl) k_stops (by kernel_rfl) k_knobs goeson_j9 goeson_j10 goeson_j11 goeson_j12
    (by kernel_rfl) (by kernel_rfl) (by kernel_rfl) (by kernel_rfl) (by kernel_rfl) (by kernel_rfl) (by kernel_rfl) (by kernel_rfl) (by kernel_rfl) (by rw [k_keys]; rfl) (by kernel_rfl) k_heard head_may (by rw [head_final]; rfl) (by rw [head_make]; rfl)
    (by kernel_rfl) (by kernel_rfl) (by kernel_rfl) (by kernel_rfl)
theorem goeson_name : Tryd.prog.funcNamed "alum/alumlaw08.RootGoesOn" = some 8 := by kernel_rfl
theorem goeson_row : Rows.RootGoesOnSaid :=
  OpenClaim.holds_of_wide 8 Tryd.f8 rfl rfl rfl rfl rfl rfl rfl ⟨rfl, rfl, rfl, rfl, rfl⟩ rfl rfl rfl rfl rfl goeson_name Tryd.func8 goeson_joined
    (of_decide_eq_true (by kernel_rfl)) (by unfold Func.isWrapper; first | (rw [if_pos (by decide +kernel)]; kernel_rfl) | (rw [if_neg (by decide +kernel)]; exact ⟨rfl, rfl⟩))
    (fun os started H enc _ => goeson_lifted os started H enc)

theorem goeson_goes : false = Rows.rootGoesOnRow.goesBy Tryd.prog := by kernel_rfl
theorem goeson_stand : ([70, 3, 67].all fun u => !Tryd.prog.wantsStandIn u) = true := by kernel_rfl
theorem rootGoesOn_holds : Rows.RootGoesOnCardSaid :=
  Claim7.holds_tied_plain_at .later [] [.data, .data, .data, .data] true (true, "dad86e10c0c9875098f14639457c7da96153bc51d07db14731d5f5938e8d4e47") false
    goeson_row (fun _ h => by cases h) (by kernel_rfl) (fun _ h => by cases h) rootGoesOn_row_tie rfl ⟨rfl, rfl⟩ head_main rfl
    (fun f fn hf hfn => by
      obtain rfl : f = 8 := Option.some.inj (goeson_name.symm.trans hf) |>.symm
      obtain rfl : fn = Tryd.f8 := (Option.some.inj (Tryd.func8.symm.trans hfn)).symm
      exact ⟨k_looks, fun j t ht => by
        rw [Tryd.params8] at ht
        have hm : t ∈ [70, 3, 67] := by simpa using Array.mem_of_getElem? ht
        exact (show Tryd.prog.wantsStandIn t = false by simpa using List.all_eq_true.1 goeson_stand t hm)⟩)
    goeson_goes
#print axioms rootGoesOn_holds
end Go.Proofs.YtkncbggnaobgeaaDoor
