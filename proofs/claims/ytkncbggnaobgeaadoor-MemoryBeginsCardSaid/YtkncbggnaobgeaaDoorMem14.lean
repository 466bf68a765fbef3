/- Walks of functions of the program; printed by a program of this session (walk.py) out of hand-written hints. -/
import Derived.Test.YtkncbggnaobgeaaDoorMem13
namespace Go.Proofs.YtkncbggnaobgeaaDoor
open Go.RowKit
set_option linter.unusedVariables false
set_option linter.unusedSimpArgs false
set_option maxRecDepth 100000

def z40 : Array Value := #[.int .i64 0, .int .i64 0, .int .i64 0, .int .i64 0, .int .i64 0, .int .i64 0, .int .i64 0, .int .i64 0, .int .i64 0]
def z158 : Array Value := #[.int .i64 0, .int .i64 0, .int .i64 0, .int .i64 0, .int .i64 0, .int .i64 0, .int .i64 0, .int .i64 0, .int .i64 0, .slice none 0 0, .int .i64 0]
theorem fill40 (x0 x1 x2 x3 x4 x5 x6 x7 c : Int) : Instr.fill (fun i => [(0, 8), (8, 1)][i]?) z40 [(0, arr [x0, x1, x2, x3, x4, x5, x6, x7]), (1, .int .i64 c)] = some (arrC [x0, x1, x2, x3, x4, x5, x6, x7, c]) := by kernel_rfl
theorem fill158 (x0 x1 x2 x3 x4 x5 x6 x7 c : Int) : Instr.fill (fun i => [(0, 9), (9, 1), (10, 1)][i]?) z158 [(0, .agg (arrC [x0, x1, x2, x3, x4, x5, x6, x7, c]))] = some (lineC { ws := [x0, x1, x2, x3, x4, x5, x6, x7], c := c, ps := [], mark := 0 } Row.none).toArray := by kernel_rfl
theorem wr_lineAll {a c : List Value} {l l' : PL} {r r' : Row} {o : Nat} (ho : o = a.length) (h8 : l.ws.length = 8) (h8' : l'.ws.length = 8) : wr (lineL a l r c) o (lineC l' r') = lineL a l' r' c := by
  unfold lineL
  exact wr_mid ho (by rw [lineC_length h8, lineC_length h8'])
def PM.healErr (M : PM) (n : Int) (xs : List Int) : Int := if M.has n then (if isWords xs then 0 else 1) else 40
def PM.heal (M : PM) (n : Int) (xs : List Int) : PM :=
  if M.healErr n xs = 0 then { M with ls := M.ls.set n.toNat { ws := xs, c := enc xs, ps := [], mark := 0 }, evs := M.evs ++ [[6, n, 0, 0] ++ xs] } else M

theorem heal_any (R : RM) (n : Int) (xs : List Int) (hx8 : xs.length = 8) (hsm : R.evs.length < 1073741824) (w : World) (hm : MemIn w R) (hL : L64 w) : Calls Tryd.prog 111 #[.pointer (some ⟨R.p, 0, none⟩), .int .i64 n, arr xs] w fun e w' => ∃ R' : RM, e = .returned (.int .i64 (R.abs.healErr n xs)) ∧ R'.p = R.p ∧ R'.abs = R.abs.heal n xs ∧ R'.ok ∧ St w (R.hp.map Prod.fst) w' R'.hp := by
  refine calls_walk_n (args := [.pointer (some ⟨R.p, 0, none⟩), .int .i64 n, arr xs]) Tryd.func111 rfl rfl rfl ?_
  have H := hm.start
  have h3lb : 3 ∉ [R.lb] := fun h => hm.n3 (by rw [List.mem_singleton.1 h]; exact List.mem_map.2 ⟨_, List.mem_cons_of_mem _ List.mem_cons_self, rfl⟩)
  refine WC.seq ?_
  refine WC.region ?_
  refine WL.boxArr H rfl rfl ?_
  intro b5 wx hb5 hge5 H
  refine WL.assign rfl rfl ?_
  refine (WL.done (WX.next ?_))
  refine WC.seq ?_
  refine WC.seq ?_
  refine WC.region ?_
  refine WL.move rfl rfl ?_
  refine WL.move rfl rfl ?_
  refine WL.call call101 rfl rfl ?_
  refine Calls.mono (has_any R _ _ (hm.keep (L := [_]) H)) ?_
  rintro _ wx ⟨rfl, rfl⟩
  refine ⟨_, rfl, ?_⟩
  refine WL.notOp rfl rfl ?_
  refine (WL.done (WX.next ?_))
  first | refine WC.cond_dec rfl (fun c1 => ?_) (fun c1 => ?_) | refine WC.cond rfl (fun c1 => ?_) (fun c1 => ?_)
  · -- c1 T
    have hh : pHas R n = false := by simpa only [Bool.not_eq_true'] using c1
    refine WC.seq ?_
    refine WC.region ?_
    refine WL.assign rfl rfl ?_
    refine (WL.done (WX.next ?_))
    refine (WC.ret (WX.then_ret ?_))
    refine ret_one rfl rfl ?_
    have e1 : R.abs.healErr n xs = 40 := by unfold PM.healErr; rw [abs_has, hh]; rfl
    exact ⟨R, by rw [e1], rfl, by unfold PM.heal; rw [e1, if_neg (by decide)], hm.ok, H.tail⟩
  · -- c1 F
    have hh : pHas R n = true := by simpa only [Bool.not_eq_false'] using c1
    obtain ⟨hn0, hn1⟩ := pHas_iff.1 hh
    obtain ⟨k, rfl⟩ : ∃ k : Nat, n = (k : Int) := ⟨n.toNat, by omega⟩
    obtain ⟨A, l, r, B, hX, hA, hal, hok, hr, hget⟩ := hm.ok.at (k := k) (by omega)
    refine (WC.skip (WX.next ?_))
    refine WC.seq ?_
    refine WC.seq ?_
    refine WC.region ?_
    first | refine WL.load rfl (H.rdArr ty38 0 rfl hx8) rfl ?_ | refine WL.load rfl (H.rdArr ty38 0 rfl rfl) rfl ?_ | refine WL.load rfl (H.rd1 ty38 0 rfl rfl) rfl ?_ | refine WL.load rfl (H.rd1 ty38 1 rfl rfl) rfl ?_ | refine WL.load rfl (H.rd1 ty38 2 rfl rfl) rfl ?_ | refine WL.load rfl (H.rd1 ty38 3 rfl rfl) rfl ?_ | refine WL.load rfl (H.rdA ty38 0 rfl (by decide)) rfl ?_ | refine WL.load rfl (H.rdA ty38 1 rfl (by decide)) rfl ?_ | refine WL.load rfl (H.rdA ty38 2 rfl (by decide)) rfl ?_ | refine WL.load rfl (H.rdA ty38 3 rfl (by decide)) rfl ?_
    refine WL.call call98 rfl rfl ?_
    refine Calls.mono (words_any xs hx8 _) ?_
    rintro _ wx ⟨rfl, Hc⟩
    refine ⟨_, rfl, ?_⟩
    replace H := H.call0 Hc
    refine WL.notOp rfl rfl ?_
    refine (WL.done (WX.next ?_))
    first | refine WC.cond_dec rfl (fun c2 => ?_) (fun c2 => ?_) | refine WC.cond rfl (fun c2 => ?_) (fun c2 => ?_)
    · -- c2 T
      have hxw : isWords xs = false := by simpa only [Bool.not_eq_true'] using c2
      refine WC.seq ?_
      refine WC.region ?_
      refine WL.assign rfl rfl ?_
      refine (WL.done (WX.next ?_))
      refine (WC.ret (WX.then_ret ?_))
      refine ret_one rfl rfl ?_
      have e1 : R.abs.healErr (k : Int) xs = 1 := by unfold PM.healErr; rw [abs_has, hh, if_pos rfl, hxw]; rfl
      exact ⟨R, by rw [e1], rfl, by unfold PM.heal; rw [e1, if_neg (by decide)], hm.ok, H.tail⟩
    · -- c2 F
      have hxw : isWords xs = true := by simpa only [Bool.not_eq_false'] using c2
      refine (WC.skip (WX.next ?_))
      refine WC.seq ?_
      obtain ⟨x0, x1, x2, x3, x4, x5, x6, x7, rfl⟩ := len8 hx8
      replace H := (St.focus (L := [(b5, .cells (arrC [x0, x1, x2, x3, x4, x5, x6, x7]) 38)]) hX H).drew
      refine WC.held (SX (World.drew wx) [R.lb]) (by kernel_rfl) ?_
      generalize World.drew wx = wb at H ⊢
      have HB := H.single 2 rfl
      refine WH.take 0 rfl (by kernel_rfl) (by kernel_rfl) (by kernel_rfl) (fun _ _ _ h => h) ⟨_, HB⟩ (fun w' hS => EX.move rfl) rfl ?_
      refine WH.take 1 rfl (by kernel_rfl) (by kernel_rfl) (by kernel_rfl) (fun _ _ _ h => h) ⟨_, HB⟩ (fun w' hS => EX.nilCheck rfl) rfl ?_
      refine WH.take 2 rfl (by kernel_rfl) (by kernel_rfl) (by kernel_rfl) (fun _ _ _ h => h) ⟨_, HB⟩ (fun w' hS => EX.fieldAddr fld161_0 rfl) rfl ?_
      first | refine WH.take 3 rfl (by kernel_rfl) (by kernel_rfl) (by kernel_rfl) (fun _ _ _ h => h) ⟨_, HB⟩ (fun w' hS => EX.load rfl (hS.rd1 ty156 (H.blk 0 rfl) (by simpa using H.ne 0 2 rfl rfl rfl) rfl)) rfl ?_ | refine WH.take 3 rfl (by kernel_rfl) (by kernel_rfl) (by kernel_rfl) (fun _ _ _ h => h) ⟨_, HB⟩ (fun w' hS => EX.load rfl (hS.rdA ty156 (H.blk 0 rfl) (by simpa using H.ne 0 2 rfl rfl rfl) (by decide))) rfl ?_ | refine WH.take 3 rfl (by kernel_rfl) (by kernel_rfl) (by kernel_rfl) (fun _ _ _ h => h) ⟨_, HB⟩ (fun w' hS => EX.load rfl (hS.rd1 ty156 (H.blk 1 rfl) (by simpa using H.ne 1 2 rfl rfl rfl) rfl)) rfl ?_ | refine WH.take 3 rfl (by kernel_rfl) (by kernel_rfl) (by kernel_rfl) (fun _ _ _ h => h) ⟨_, HB⟩ (fun w' hS => EX.load rfl (hS.rdA ty156 (H.blk 1 rfl) (by simpa using H.ne 1 2 rfl rfl rfl) (by decide))) rfl ?_ | refine WH.take 3 rfl (by kernel_rfl) (by kernel_rfl) (by kernel_rfl) (fun _ _ _ h => h) ⟨_, HB⟩ (fun w' hS => EX.load rfl (hS.rd1 ty156 (H.blk 3 rfl) (by simpa using H.ne 3 2 rfl rfl rfl) rfl)) rfl ?_ | refine WH.take 3 rfl (by kernel_rfl) (by kernel_rfl) (by kernel_rfl) (fun _ _ _ h => h) ⟨_, HB⟩ (fun w' hS => EX.load rfl (hS.rdA ty156 (H.blk 3 rfl) (by simpa using H.ne 3 2 rfl rfl rfl) (by decide))) rfl ?_
      refine WH.take 4 rfl (by kernel_rfl) (by kernel_rfl) (by kernel_rfl) (fun _ _ _ h => h) ⟨_, HB⟩ (fun w' hS => EX.move rfl) rfl ?_
      first | refine WH.take 5 rfl (by kernel_rfl) (by kernel_rfl) (by kernel_rfl) (fun _ _ _ h => h) ⟨_, HB⟩ (fun w' hS => EX.load rfl (hS.rdArr ty38 (H.blk 0 rfl) (by simpa using H.ne 0 2 rfl rfl rfl) rfl)) rfl ?_
      first | refine WH.take 6 rfl (by kernel_rfl) (by kernel_rfl) (by kernel_rfl) (fun _ _ _ h => h) ⟨_, HB⟩ (fun w' hS => EX.load rfl (hS.rdArr ty38 (H.blk 0 rfl) (by simpa using H.ne 0 2 rfl rfl rfl) rfl)) rfl ?_
      refine WH.hard 7 rfl (by kernel_rfl) ?_
      refine WL.call call97 rfl rfl ?_
      refine Calls.mono (encode_any [x0, x1, x2, x3, x4, x5, x6, x7] rfl _ ((hL.of H hm.n3).of HB h3lb)) ?_
      rintro _ wx ⟨rfl, Hc⟩
      refine ⟨_, rfl, ?_⟩
      replace HB := HB.call0 Hc
      refine WL.done (WX.heldOn ⟨_, HB⟩ ?_)
      refine WH.take 8 rfl (by kernel_rfl) (by kernel_rfl) (by kernel_rfl) (fun _ _ _ h => h) ⟨_, HB⟩ (fun w' hS => EX.build (z := z40) pla40 zer40 rfl (fill40 _ _ _ _ _ _ _ _ _)) rfl ?_
      refine WH.take 9 rfl (by kernel_rfl) (by kernel_rfl) (by kernel_rfl) (fun _ _ _ h => h) ⟨_, HB⟩ (fun w' hS => EX.build (z := z158) pla158 zer158 rfl (fill158 _ _ _ _ _ _ _ _ _)) rfl ?_
      refine WH.take 10 rfl (by kernel_rfl) (by kernel_rfl) (by kernel_rfl) (fun _ _ _ h => h) ⟨_, HB⟩ (fun w' hS => EX.idxSlc (k := k) slc156 rfl rfl (by first | rfl | omega) (by omega)) rfl ?_
      refine WH.hard 11 rfl (by kernel_rfl) ?_
      refine WL.storeAt HB ty158 0 rfl rfl rfl rfl (fun u hu => lineC_one ({ ws := [x0, x1, x2, x3, x4, x5, x6, x7], c := enc [x0, x1, x2, x3, x4, x5, x6, x7], ps := [], mark := 0 } : PL) Row.none u (by simpa [Value.cells] using hu)) (by rw [lineL_size hok.1]; omega) ?_
      intro wx HB
      replace HB := HB.castH (H' := [(R.lb, .cells (lineL (linesC A) ({ ws := [x0, x1, x2, x3, x4, x5, x6, x7], c := enc [x0, x1, x2, x3, x4, x5, x6, x7], ps := [], mark := 0 } : PL) Row.none (linesC B ++ R.junk)) 158)]) (by
        have e1 := wr_lineAll (a := linesC A) (l := l) (l' := ({ ws := [x0, x1, x2, x3, x4, x5, x6, x7], c := enc [x0, x1, x2, x3, x4, x5, x6, x7], ps := [], mark := 0 } : PL)) (r := r) (r' := Row.none) (c := linesC B ++ R.junk) (o := 0 + k * 11) (by omega) hok.1 rfl
        exact congrArg (fun c => [(R.lb, Obj.cells c 158)]) e1)
      refine WL.done (WX.heldOn ⟨_, HB⟩ ?_)
      refine WH.done (by kernel_rfl) ?_
      replace H := H.back (N := []) 2 rfl HB rfl
      replace H := H.weaken (H' := (b5, .cells (arrC [x0, x1, x2, x3, x4, x5, x6, x7]) 38) :: fhp R.p R.lb R.X.length R.lcap R.mb R.mp R.clk R.span R.er R.evs.length (linesC A) ({ ws := [x0, x1, x2, x3, x4, x5, x6, x7], c := enc [x0, x1, x2, x3, x4, x5, x6, x7], ps := [], mark := 0 } : PL) Row.none (linesC B ++ R.junk) (R.er.hp 164 ++ pendHp A ++ pendHp B)) (List.Sublist.cons_cons _ (List.Sublist.cons_cons _ (List.Sublist.cons_cons _ (List.Sublist.cons_cons _ (List.sublist_append_right _ _)))))
      refine WX.next ?_
      refine WC.seq ?_
      refine WC.region ?_
      refine WL.move rfl rfl ?_
      refine WL.move rfl rfl ?_
      refine WL.call call173 rfl rfl ?_
      refine Calls.mono (rest_any _ _ _ _ _ _ _ _ _ _ _ ({ ws := [x0, x1, x2, x3, x4, x5, x6, x7], c := enc [x0, x1, x2, x3, x4, x5, x6, x7], ps := [], mark := 0 } : PL) Row.none _ _ k (by omega) hal rfl _ (St.start H.tail.nd H.tail.sat)) ?_
      rintro _ wx ⟨rfl, Hc⟩
      refine ⟨_, rfl, ?_⟩
      replace H := St.callM (L := [(b5, _)]) H Hc
      refine (WL.done (WX.next ?_))
      refine WC.seq ?_
      refine WC.region ?_
      replace H := St.refocus (L := [(b5, _)]) hX H
      have hok2 : (R.upd A B ({ ws := [x0, x1, x2, x3, x4, x5, x6, x7], c := enc [x0, x1, x2, x3, x4, x5, x6, x7], ps := [], mark := 0 } : PL) Row.none (pRest R.mp R.clk k []).1 (pRest R.mp R.clk k []).2).ok := hm.ok.upd hX hA ⟨rfl, hxw, enc_code hxw, Nat.le_refl _, fun p hp => by cases hp⟩ ⟨rfl, rfl⟩ (pRest_ok hm.ok.map) (fun x => pRest_keys hm.ok.map)
      refine WL.move rfl rfl ?_
      refine WL.move rfl rfl ?_
      first | refine WL.load rfl (H.rdArr ty38 0 rfl hx8) rfl ?_ | refine WL.load rfl (H.rdArr ty38 0 rfl rfl) rfl ?_ | refine WL.load rfl (H.rd1 ty38 0 rfl rfl) rfl ?_ | refine WL.load rfl (H.rd1 ty38 1 rfl rfl) rfl ?_ | refine WL.load rfl (H.rd1 ty38 2 rfl rfl) rfl ?_ | refine WL.load rfl (H.rd1 ty38 3 rfl rfl) rfl ?_ | refine WL.load rfl (H.rdA ty38 0 rfl (by decide)) rfl ?_ | refine WL.load rfl (H.rdA ty38 1 rfl (by decide)) rfl ?_ | refine WL.load rfl (H.rdA ty38 2 rfl (by decide)) rfl ?_ | refine WL.load rfl (H.rdA ty38 3 rfl (by decide)) rfl ?_
      refine WL.build (z := z164) pla164 zer164 rfl rfl (fill_heal _ _ _ _ _ _ _ _ _ _) ?_
      refine WL.call call106 rfl rfl ?_
      refine Calls.mono (note_any (R.upd A B ({ ws := [x0, x1, x2, x3, x4, x5, x6, x7], c := enc [x0, x1, x2, x3, x4, x5, x6, x7], ps := [], mark := 0 } : PL) Row.none (pRest R.mp R.clk k []).1 (pRest R.mp R.clk k []).2) [6, (k : Int), 0, 0, x0, x1, x2, x3, x4, x5, x6, x7] rfl hsm _ hok2 (St.start H.tail.nd H.tail.sat)) ?_
      rintro _ wx ⟨er, rfl, hok3, Hc⟩
      refine ⟨_, rfl, ?_⟩
      replace H := St.callM (L := [(b5, _)]) H Hc
      refine (WL.done (WX.next ?_))
      refine WC.seq ?_
      refine WC.region ?_
      refine WL.assign rfl rfl ?_
      refine (WL.done (WX.next ?_))
      refine (WC.ret ?_)
      refine ret_one rfl rfl ?_
      have e1 : R.abs.healErr (k : Int) [x0, x1, x2, x3, x4, x5, x6, x7] = 0 := by unfold PM.healErr; rw [abs_has, hh, if_pos rfl, hxw, if_pos rfl]
      refine ⟨(R.upd A B ({ ws := [x0, x1, x2, x3, x4, x5, x6, x7], c := enc [x0, x1, x2, x3, x4, x5, x6, x7], ps := [], mark := 0 } : PL) Row.none (pRest R.mp R.clk k []).1 (pRest R.mp R.clk k []).2).noted [6, (k : Int), 0, 0, x0, x1, x2, x3, x4, x5, x6, x7] er, by rw [e1], rfl, ?_, hok3, H.tail⟩
      unfold PM.heal
      rw [e1, if_pos rfl, abs_noted, abs_upd hX hA, Int.toNat_natCast]
      rfl

end Go.Proofs.YtkncbggnaobgeaaDoor
