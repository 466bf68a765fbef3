/- Texts of this session, laid together: Rem6, Rem7, Rem8, Rem9, Rem10, Apr, Law12, Law13. -/
import Derived.Test.YtkncbggnaobgeaaDoorGi
import Derived.Test.YtkncbggnaobgeaaDoorGh

/- Walks of functions of the program; printed by a program of this session (walk.py) out of hand-written hints. -/
namespace Go.Proofs.YtkncbggnaobgeaaDoor
open Go.RowKit
set_option linter.unusedVariables false
set_option linter.unusedSimpArgs false
set_option maxRecDepth 100000

def z184 : Array Value := #[.int .i64 0, .int .i64 0, .int .i64 0, .int .i64 0, .int .i64 0, .int .i64 0, .int .i64 0, .int .i64 0, .int .i64 0, .slice none 0 0, .int .i64 0]
theorem fill184 {ws : List Int} (h8 : ws.length = 8) (c : Int) (r : Row) (n : Nat) (m : Int) : Instr.fill (fun i => [(0, 8), (8, 1), (9, 1), (10, 1)][i]?) z184 [(0, arr ws), (1, .int .i64 c), (2, r.val n), (3, .int .i64 m)] = some (intsC ws ++ ([Value.int .i64 c] ++ ([r.val n] ++ [Value.int .i64 m]))).toArray := by
  obtain ⟨x0, x1, x2, x3, x4, x5, x6, x7, rfl⟩ := len8 h8
  cases r <;> kernel_rfl
theorem setSame {ls : List PL} {k : Nat} {l : PL} (h : ls[k]? = some l) : ls.set k l = ls := by
  apply List.ext_getElem?
  intro i
  rw [List.getElem?_set]
  split
  · rename_i hi; subst hi
    split
    · exact h.symm
    · rename_i h2; rw [List.getElem?_eq_none (by omega)]
  · rfl
theorem psettle_pos {l : PL} {j : Nat} (hok : l.ok) (hs : l.sound) (h0 : j ≠ 0) (hj : j ≤ l.ps.length) : pSettle l j = { ws := putAll (fix l.ws l.c).1 (l.ps.take j), c := enc (putAll (fix l.ws l.c).1 (l.ps.take j)), ps := l.ps.drop j, mark := l.mark - j } := by
  have hf := fix_sound hok (hs (fun e => by rw [e] at hj; simp at hj; omega))
  unfold pSettle pShow
  rw [if_neg h0, if_pos hf]
theorem row_drop {w : World} {g1 cap : Nat} {cur : Array Value} {n : Nat} {xs : List (Int × Int)} (hb : w.heap[g1]? = some (.cells cur 111)) (hr : Row.ok (.some g1 cap cur) 2 n (flatP xs)) (hn : n = xs.length) {j : Nat} (hj : j ≤ n) :
    ∀ i u, (flatP (xs.drop j))[i]? = some u → w.cell? ((if cap = j then (⟨g1, 0, none⟩ : Addr) else ⟨g1, 0 + j * 2, none⟩).add i) = some u := by
  intro i u hi
  rw [flatP_drop, List.getElem?_drop] at hi
  split
  · rename_i hc
    have h2 := hr.2.1
    have hl := hr.1
    have : 2 * j + i < (flatP xs).length := by
      rcases Nat.lt_or_ge (2 * j + i) (flatP xs).length with h | h
      · exact h
      · rw [List.getElem?_eq_none h] at hi; cases hi
    omega
  · rw [addr_add, cell_of hb, show 0 + j * 2 + i = 2 * j + i from by omega]
    exact Row.ok_get hr hi

theorem rsettle_any (R : RR) (k j : Nat) (hk : k < R.X.length) (hj : j ≤ (R.abs.line (k : Int)).ps.length) (hps : ∀ x ∈ R.X, x.1.ps.length ≤ 1073741824) (w : World) (hm : RIn w R) : Calls Tryd.prog 180 #[ptr R.p, .int .i64 (k : Int), .int .i64 (j : Int)] w fun e w' => ∃ R' : RR, e = .returned (.tuple #[]) ∧ R'.p = R.p ∧ R'.abs = { R.abs with ls := R.abs.ls.set k (pSettle (R.abs.line (k : Int)) j) } ∧ R'.ok ∧ St w (R.hp.map Prod.fst) w' R'.hp := by
  refine calls_walk_n (args := [ptr R.p, .int .i64 (k : Int), .int .i64 (j : Int)]) Tryd.func180 rfl rfl rfl ?_
  have H := hm.start
  obtain ⟨A, l, r, B, hX, hA, hal, hok, hr, hso, hget⟩ := hm.ok.at hk
  have hln : R.abs.line (k : Int) = l := RR.abs_line hget
  rw [hln] at hj
  have hpk : l.ps.length ≤ 1073741824 := hps (l, r) (List.mem_of_getElem? hget)
  refine WC.seq ?_
  refine WC.seq ?_
  refine WC.region ?_
  refine WL.move rfl rfl ?_
  refine WL.bin rfl rfl binv_eql rfl ?_
  refine (WL.done (WX.next ?_))
  first | refine WC.cond_dec rfl (fun c1 => ?_) (fun c1 => ?_) | refine WC.cond rfl (fun c1 => ?_) (fun c1 => ?_)
  · -- c1 T
    refine (WC.ret (WX.then_ret ?_))
    refine ret_none rfl ?_
    have hj0 : j = 0 := by omega
    subst hj0
    refine ⟨R, rfl, rfl, ?_, hm.ok, H⟩
    rw [hln, show pSettle l 0 = l from rfl, setSame (RR.abs_get hget)]
  · -- c1 F
    have hj0 : j ≠ 0 := fun h => c1 (by rw [h]; rfl)
    obtain ⟨g1, cap, cur, rfl⟩ := Row.is_some hr (by omega)
    have hmk := hok.2.2.2.1
    replace H := St.focusR (L := []) hX H
    refine (WC.skip (WX.next ?_))
    refine WC.seq ?_
    refine WC.region ?_
    refine WL.move rfl rfl ?_
    first | refine WL.nilCheck rfl rfl ?_ | refine WL.nilCheckFn rfl rfl ?_
    refine WL.fieldAddr fld89_0 rfl rfl ?_
    first | refine WL.load rfl (Rd.q0 (H.blk 0 rfl)) rfl ?_ | refine WL.load rfl (Rd.q0 (hS.block (H.blk 2 rfl) (by simpa using H.ne 2 3 rfl rfl rfl))) rfl ?_ | refine WL.load rfl (H.rd1 ty87 0 rfl rfl) rfl ?_ | refine WL.load rfl (H.rd1 ty87 1 rfl rfl) rfl ?_ | refine WL.load rfl (H.rdA ty87 0 rfl (by decide)) rfl ?_ | refine WL.load rfl (H.rdA ty87 1 rfl (by decide)) rfl ?_
    refine WL.move rfl rfl ?_
    refine WL.idxSlc (k := k) slc87 rfl rfl (by first | rfl | omega) (by omega) rfl ?_
    first | refine WL.load rfl (Rd.lineAll ty184 (H.blk 1 rfl) (by omega) hok.1) rfl ?_
    refine WL.alloc H zer184 rfl ?_
    intro b6 wx hb6 hge6 H
    refine WL.storeAt H ty184 0 rfl rfl rfl (by show (lineC l (Row.some g1 cap cur)).toArray.size = 11; simp [lineC_length hok.1]) (fun u hu => lineC_one l (Row.some g1 cap cur) u (by simpa [Value.cells] using hu)) (Nat.le_refl 11) ?_
    intro wx H
    replace H := H.castH (H' := (b6, .cells (lineL [] l (Row.some g1 cap cur) []) 184) :: (R.p, structQ R.lb R.X.length R.lcap R.span R.er R.evs.length) :: (R.lb, .cells (lineL (linesC A) l (Row.some g1 cap cur) (linesC B ++ R.junk)) 184) :: ((Row.some g1 cap cur).hp 111 ++ (R.er.hp 164 ++ pendHp A ++ pendHp B))) (by
      have e1 := lineL_copy (z := #[.int .i64 0, .int .i64 0, .int .i64 0, .int .i64 0, .int .i64 0, .int .i64 0, .int .i64 0, .int .i64 0, .int .i64 0, .slice none 0 0, .int .i64 0]) (l := l) (r := Row.some g1 cap cur) rfl hok.1
      rw [← e1]; rfl)
    refine (WL.done (WX.next ?_))
    refine WC.seq ?_
    refine WC.region ?_
    refine WL.fieldAddr fld184_0 rfl rfl ?_
    first | refine WL.load rfl (Rd.lineW ty38 (a := []) (c := []) (H.blk 0 rfl) rfl hok.1) rfl ?_
    refine WL.fieldAddr fld184_1 rfl rfl ?_
    first | refine WL.load rfl (Rd.lineCo ty3 (a := []) (c := []) (H.blk 0 rfl) rfl hok.1) rfl ?_
    refine WL.call call206 rfl rfl ?_
    refine Calls.mono (reffix_any l.ws hok.1 l.c _) ?_
    rintro _ wx ⟨rfl, Hc⟩
    refine ⟨_, rfl, ?_⟩
    replace H := H.call0 Hc
    refine WL.move rfl rfl ?_
    refine WL.extract rfl rfl rfl ?_
    refine WL.extract rfl rfl rfl ?_
    refine WL.extract rfl rfl rfl ?_
    refine WL.allocArr (ws := zeros8) H zer38 rfl rfl ?_
    intro b7 wx hb7 hge7 H
    refine WL.storeArr (ws' := (fix l.ws l.c).1) H ty38 0 rfl rfl rfl (by rw [arrC_size]; rfl) (fix_len hok.1) ?_
    intro wx H
    refine WL.assign rfl rfl ?_
    refine WL.assign rfl rfl ?_
    refine (WL.done (WX.next ?_))
    refine WC.seq ?_
    refine WC.seq ?_
    refine WC.region ?_
    refine WL.assign rfl rfl ?_
    refine (WL.done (WX.next ?_))
    refine WC.block ?_
    -- loop 1: changed [10] kept [0, 1, 2, 6, 7]
    refine WC.loop (Sub.cons (t := 0) rfl (Sub.cons (t := 1) rfl (Sub.cons (t := 2) rfl (Sub.cons (t := 6) rfl (Sub.cons (t := 7) rfl (Sub.nil _)))))) (fun i : Nat => [(10, .int .i64 (i : Int))]) (fun q i wx => q = j - i ∧ i ≤ j ∧ St w (R.hp.map Prod.fst) wx ((b7, .cells (arrC (putAll (fix l.ws l.c).1 (l.ps.take i))) 38) :: (b6, .cells (lineL [] l (Row.some g1 cap cur) []) 184) :: (R.p, structQ R.lb R.X.length R.lcap R.span R.er R.evs.length) :: (R.lb, .cells (lineL (linesC A) l (Row.some g1 cap cur) (linesC B ++ R.junk)) 184) :: ((Row.some g1 cap cur).hp 111 ++ (R.er.hp 164 ++ pendHp A ++ pendHp B)))) (j) (0) (Sub.cons (t := 10) (by first | rfl | simp) (Sub.nil _)) (⟨rfl, by omega, H⟩) ?_
    rintro k g wx hI N hN
    obtain ⟨rfl, hg, H⟩ := hI
    refine WC.seq ?_
    refine WC.seq ?_
    refine WC.region ?_
    refine WL.move rfl rfl ?_
    refine WL.move rfl rfl ?_
    refine WL.bin rfl rfl binv_lss rfl ?_
    refine (WL.done (WX.next ?_))
    first | refine WC.cond_dec rfl (fun c2 => ?_) (fun c2 => ?_) | refine WC.cond rfl (fun c2 => ?_) (fun c2 => ?_)
    · -- c2 T
      refine (WC.skip (WX.next ?_))
      refine WC.seq ?_
      refine WC.block ?_
      have hjl : g < l.ps.length := by omega
      have hp := Row.getP hr hjl
      have hpk2 := hok.2.2.2.2 _ (List.getElem_mem hjl)
      replace H := H.drew
      refine WC.held (SX (World.drew wx) [b7]) (by kernel_rfl) ?_
      generalize World.drew wx = wb at H ⊢
      have HB := H.single 0 rfl
      have hrb := H.sat (g1, .cells cur 111) (by simp [Row.hp])
      have hg1n : g1 ∉ [b7] := fun h => (List.nodup_cons.1 H.nd).1 (by rw [← List.mem_singleton.1 h]; exact List.mem_map_of_mem (f := Prod.fst) (a := (g1, Obj.cells cur 111)) (by simp [Row.hp]))
      refine WH.take 0 rfl (by kernel_rfl) (by kernel_rfl) (by kernel_rfl) (fun _ _ _ h => h) ⟨_, HB⟩ (fun w' hS => EX.fieldAddr fld184_2 rfl) rfl ?_
      first | refine WH.take 1 rfl (by kernel_rfl) (by kernel_rfl) (by kernel_rfl) (fun _ _ _ h => h) ⟨_, HB⟩ (fun w' hS => EX.load rfl (Rd.lineS ty52 (a := []) (c := []) (hS.block (H.blk 1 rfl) (by simpa using H.ne 1 0 rfl rfl rfl)) rfl hok.1)) rfl ?_
      refine WH.take 2 rfl (by kernel_rfl) (by kernel_rfl) (by kernel_rfl) (fun _ _ _ h => h) ⟨_, HB⟩ (fun w' hS => EX.move rfl) rfl ?_
      refine WH.take 3 rfl (by kernel_rfl) (by kernel_rfl) (by kernel_rfl) (fun _ _ _ h => h) ⟨_, HB⟩ (fun w' hS => EX.idxSlc (k := g) slc52 rfl rfl (by first | rfl | omega) (by omega)) rfl ?_
      refine WH.take 4 rfl (by kernel_rfl) (by kernel_rfl) (by kernel_rfl) (fun _ _ _ h => h) ⟨_, HB⟩ (fun w' hS => EX.fieldAddr fld111_0 rfl) rfl ?_
      first | refine WH.take 5 rfl (by kernel_rfl) (by kernel_rfl) (by kernel_rfl) (fun _ _ _ h => h) ⟨_, HB⟩ (fun w' hS => EX.load rfl (hS.rd1 ty3 hrb hg1n ((congrArg (fun o => cur[o]?) (by omega)).trans hp.1))) rfl ?_
      refine WH.take 6 rfl (by kernel_rfl) (by kernel_rfl) (by kernel_rfl) (fun _ _ _ h => h) ⟨_, HB⟩ (fun w' hS => EX.fieldAddr fld184_2 rfl) rfl ?_
      first | refine WH.take 7 rfl (by kernel_rfl) (by kernel_rfl) (by kernel_rfl) (fun _ _ _ h => h) ⟨_, HB⟩ (fun w' hS => EX.load rfl (Rd.lineS ty52 (a := []) (c := []) (hS.block (H.blk 1 rfl) (by simpa using H.ne 1 0 rfl rfl rfl)) rfl hok.1)) rfl ?_
      refine WH.take 8 rfl (by kernel_rfl) (by kernel_rfl) (by kernel_rfl) (fun _ _ _ h => h) ⟨_, HB⟩ (fun w' hS => EX.move rfl) rfl ?_
      refine WH.take 9 rfl (by kernel_rfl) (by kernel_rfl) (by kernel_rfl) (fun _ _ _ h => h) ⟨_, HB⟩ (fun w' hS => EX.idxSlc (k := g) slc52 rfl rfl (by first | rfl | omega) (by omega)) rfl ?_
      refine WH.take 10 rfl (by kernel_rfl) (by kernel_rfl) (by kernel_rfl) (fun _ _ _ h => h) ⟨_, HB⟩ (fun w' hS => EX.fieldAddr fld111_1 rfl) rfl ?_
      first | refine WH.take 11 rfl (by kernel_rfl) (by kernel_rfl) (by kernel_rfl) (fun _ _ _ h => h) ⟨_, HB⟩ (fun w' hS => EX.load rfl (hS.rd1 ty3 hrb hg1n ((congrArg (fun o => cur[o]?) (by omega)).trans hp.2))) rfl ?_
      refine WH.take 12 rfl (by kernel_rfl) (by kernel_rfl) (by kernel_rfl) (fun _ _ _ h => h) ⟨_, HB⟩ (fun w' hS => EX.idxArr (k := (l.ps[g]).1.toNat) (z := (l.ps[g]).1) arr38 rfl rfl (by omega) (by omega)) rfl ?_
      refine WH.hard 13 rfl (by kernel_rfl) ?_
      refine WL.storeElt HB ty3 0 rfl rfl rfl (by rw [putAll_len, fix_len hok.1]; omega) ?_
      intro wx HB
      refine WL.done (WX.heldOn ⟨_, HB⟩ ?_)
      refine WH.done (by kernel_rfl) ?_
      replace H := H.back (N := []) 0 rfl HB rfl
      refine (WX.block_normal (WX.next ?_))
      refine WC.region ?_
      refine WL.move rfl rfl ?_
      refine WL.bin rfl rfl (iadd (by omega) (by omega)) rfl ?_
      refine WL.assign rfl rfl ?_
      refine (WL.done (WX.round ?_))
      rw [show 0 + ((l.ps[g]).1.toNat) * 1 = (l.ps[g]).1.toNat from by omega, ← putAll_succ hjl] at H
      exact hN _ (g+1) _ _ (by omega) ⟨rfl, by omega, H⟩ (Sub.cons (t := 10) (by first | rfl | simp) (Sub.nil _)) (Sub.cons (t := 0) rfl (Sub.cons (t := 1) rfl (Sub.cons (t := 2) rfl (Sub.cons (t := 6) rfl (Sub.cons (t := 7) rfl (Sub.nil _))))))
    · -- c2 F
      refine (WC.exit (WX.then_exit (WX.then_exit (WX.block_exit (WX.next ?_)))))
      refine WC.seq ?_
      refine WC.region ?_
      obtain rfl : g = j := by omega
      have hp8 : (putAll (fix l.ws l.c).1 (l.ps.take g)).length = 8 := by rw [putAll_len]; exact fix_len hok.1
      refine WL.buildS0 H app52 rfl ?_
      intro g0 wx hg0 hgg0 H
      refine WL.fieldAddr fld184_2 rfl rfl ?_
      first | refine WL.load rfl (Rd.lineS ty52 (a := []) (c := []) (H.blk 2 rfl) rfl hok.1) rfl ?_
      refine WL.move rfl rfl ?_
      refine WL.sliceLo (k := g) slc52 rfl rfl rfl hj rfl ?_
      refine WL.append (r := .some g0 0 #[]) (k := 0) (m := l.ps.length - g) (xs := []) (news := flatP (l.ps.drop g)) app52 H (Row.ok_nil _ _) rfl rfl (by rw [flatP_length, List.length_drop]) (row_drop (H.sat (g1, .cells cur 111) (by simp [Row.hp])) hr rfl hj) (flatP_one _) (by simp only [maxLen]; omega) (by omega) rfl ?_
      intro r1 wx hr1 H
      replace H := H.perm List.perm_append_comm
      refine WL.assign rfl rfl ?_
      refine (WL.done (WX.next ?_))
      replace H := H.drew
      refine WC.held (SX (World.drew wx) [R.lb]) (by kernel_rfl) ?_
      generalize World.drew wx = wb at H ⊢
      have HB := H.single 3 rfl
      refine WH.take 0 rfl (by kernel_rfl) (by kernel_rfl) (by kernel_rfl) (fun _ _ _ h => h) ⟨_, HB⟩ (fun w' hS => EX.move rfl) rfl ?_
      refine WH.take 1 rfl (by kernel_rfl) (by kernel_rfl) (by kernel_rfl) (fun _ _ _ h => h) ⟨_, HB⟩ (fun w' hS => EX.nilCheck rfl) rfl ?_
      refine WH.take 2 rfl (by kernel_rfl) (by kernel_rfl) (by kernel_rfl) (fun _ _ _ h => h) ⟨_, HB⟩ (fun w' hS => EX.fieldAddr fld89_0 rfl) rfl ?_
      first | refine WH.take 3 rfl (by kernel_rfl) (by kernel_rfl) (by kernel_rfl) (fun _ _ _ h => h) ⟨_, HB⟩ (fun w' hS => EX.load rfl (Rd.q0 (H.blk 0 rfl))) rfl ?_ | refine WH.take 3 rfl (by kernel_rfl) (by kernel_rfl) (by kernel_rfl) (fun _ _ _ h => h) ⟨_, HB⟩ (fun w' hS => EX.load rfl (Rd.q0 (hS.block (H.blk 2 rfl) (by simpa using H.ne 2 3 rfl rfl rfl)))) rfl ?_ | refine WH.take 3 rfl (by kernel_rfl) (by kernel_rfl) (by kernel_rfl) (fun _ _ _ h => h) ⟨_, HB⟩ (fun w' hS => EX.load rfl (hS.rd1 ty87 (H.blk 0 rfl) (by simpa using H.ne 0 3 rfl rfl rfl) rfl)) rfl ?_ | refine WH.take 3 rfl (by kernel_rfl) (by kernel_rfl) (by kernel_rfl) (fun _ _ _ h => h) ⟨_, HB⟩ (fun w' hS => EX.load rfl (hS.rdA ty87 (H.blk 0 rfl) (by simpa using H.ne 0 3 rfl rfl rfl) (by decide))) rfl ?_ | refine WH.take 3 rfl (by kernel_rfl) (by kernel_rfl) (by kernel_rfl) (fun _ _ _ h => h) ⟨_, HB⟩ (fun w' hS => EX.load rfl (hS.rd1 ty87 (H.blk 1 rfl) (by simpa using H.ne 1 3 rfl rfl rfl) rfl)) rfl ?_ | refine WH.take 3 rfl (by kernel_rfl) (by kernel_rfl) (by kernel_rfl) (fun _ _ _ h => h) ⟨_, HB⟩ (fun w' hS => EX.load rfl (hS.rdA ty87 (H.blk 1 rfl) (by simpa using H.ne 1 3 rfl rfl rfl) (by decide))) rfl ?_ | refine WH.take 3 rfl (by kernel_rfl) (by kernel_rfl) (by kernel_rfl) (fun _ _ _ h => h) ⟨_, HB⟩ (fun w' hS => EX.load rfl (hS.rd1 ty87 (H.blk 2 rfl) (by simpa using H.ne 2 3 rfl rfl rfl) rfl)) rfl ?_ | refine WH.take 3 rfl (by kernel_rfl) (by kernel_rfl) (by kernel_rfl) (fun _ _ _ h => h) ⟨_, HB⟩ (fun w' hS => EX.load rfl (hS.rdA ty87 (H.blk 2 rfl) (by simpa using H.ne 2 3 rfl rfl rfl) (by decide))) rfl ?_
      refine WH.take 4 rfl (by kernel_rfl) (by kernel_rfl) (by kernel_rfl) (fun _ _ _ h => h) ⟨_, HB⟩ (fun w' hS => EX.move rfl) rfl ?_
      first | refine WH.take 5 rfl (by kernel_rfl) (by kernel_rfl) (by kernel_rfl) (fun _ _ _ h => h) ⟨_, HB⟩ (fun w' hS => EX.load rfl (hS.rdArr ty38 (H.blk 0 rfl) (by simpa using H.ne 0 3 rfl rfl rfl) hp8)) rfl ?_
      first | refine WH.take 6 rfl (by kernel_rfl) (by kernel_rfl) (by kernel_rfl) (fun _ _ _ h => h) ⟨_, HB⟩ (fun w' hS => EX.load rfl (hS.rdArr ty38 (H.blk 0 rfl) (by simpa using H.ne 0 3 rfl rfl rfl) hp8)) rfl ?_
      refine WH.take 8 rfl (by kernel_rfl) (by kernel_rfl) (by kernel_rfl) (fun _ _ _ h => h) ⟨_, HB⟩ (fun w' hS => EX.move rfl) rfl ?_
      refine WH.take 9 rfl (by kernel_rfl) (by kernel_rfl) (by kernel_rfl) (fun _ _ _ h => h) ⟨_, HB⟩ (fun w' hS => EX.fieldAddr fld184_3 rfl) rfl ?_
      first | refine WH.take 10 rfl (by kernel_rfl) (by kernel_rfl) (by kernel_rfl) (fun _ _ _ h => h) ⟨_, HB⟩ (fun w' hS => EX.load rfl (Rd.lineM ty3 (a := []) (c := []) (hS.block (H.blk 1 rfl) (by simpa using H.ne 1 3 rfl rfl rfl)) rfl hok.1)) rfl ?_
      refine WH.take 11 rfl (by kernel_rfl) (by kernel_rfl) (by kernel_rfl) (fun _ _ _ h => h) ⟨_, HB⟩ (fun w' hS => EX.move rfl) rfl ?_
      refine WH.take 12 rfl (by kernel_rfl) (by kernel_rfl) (by kernel_rfl) (fun _ _ _ h => h) ⟨_, HB⟩ (fun w' hS => EX.bin rfl rfl (isub (by omega) (by omega))) rfl ?_
      refine WH.take 13 rfl (by kernel_rfl) (by kernel_rfl) (by kernel_rfl) (fun _ _ _ h => h) ⟨_, HB⟩ (fun w' hS => EX.max2 rfl rfl) rfl ?_
      refine WH.hard 7 rfl (by kernel_rfl) ?_
      refine WL.call call32 rfl rfl ?_
      refine Calls.mono (refencode_any _ hp8 _) ?_
      rintro _ wx ⟨rfl, Hc⟩
      refine ⟨_, rfl, ?_⟩
      replace HB := HB.call0 Hc
      refine WL.done (WX.heldOn ⟨_, HB⟩ ?_)
      refine WH.take 14 rfl (by kernel_rfl) (by kernel_rfl) (by kernel_rfl) (fun _ _ _ h => h) ⟨_, HB⟩ (fun w' hS => EX.build (z := z184) pla184 zer184 rfl (fill184 hp8 _ _ _ _)) rfl ?_
      refine WH.take 15 rfl (by kernel_rfl) (by kernel_rfl) (by kernel_rfl) (fun _ _ _ h => h) ⟨_, HB⟩ (fun w' hS => EX.idxSlc (k := k) slc87 rfl rfl (by first | rfl | omega) (by omega)) rfl ?_
      refine WH.hard 16 rfl (by kernel_rfl) ?_
      have hmk2 : (if ((l.mark : Int) - (g : Int)) > 0 then ((l.mark : Int) - (g : Int)) else 0) = ((l.mark - g : Nat) : Int) := by split <;> omega
      refine WL.storeAt HB ty184 0 rfl rfl rfl (by show (intsC _ ++ _).toArray.size = 11; simp [intsC, hp8]) (fun u hu => lineC_one { ws := putAll (fix l.ws l.c).1 (l.ps.take g), c := enc (putAll (fix l.ws l.c).1 (l.ps.take g)), ps := l.ps.drop g, mark := l.mark - g } r1 u (by rw [hmk2, show (0 + (l.ps.length - g)) = (l.ps.drop g).length from by rw [List.length_drop]; omega] at hu; simpa [Value.cells, lineC] using hu)) (by rw [lineL_size hok.1]; omega) ?_
      intro wx HB
      replace HB := HB.castH (H' := [(R.lb, .cells (lineL (linesC A) { ws := putAll (fix l.ws l.c).1 (l.ps.take g), c := enc (putAll (fix l.ws l.c).1 (l.ps.take g)), ps := l.ps.drop g, mark := l.mark - g } r1 (linesC B ++ R.junk)) 184)]) (by
        have e1 := wr_lineAll (a := linesC A) (l := l) (l' := { ws := putAll (fix l.ws l.c).1 (l.ps.take g), c := enc (putAll (fix l.ws l.c).1 (l.ps.take g)), ps := l.ps.drop g, mark := l.mark - g }) (r := Row.some g1 cap cur) (r' := r1) (c := linesC B ++ R.junk) (o := 0 + k * 11) (by omega) hok.1 hp8
        rw [← e1, hmk2, show (0 + (l.ps.length - g)) = (l.ps.drop g).length from by rw [List.length_drop]; omega]; rfl)
      refine WL.done (WX.heldOn ⟨_, HB⟩ ?_)
      refine WH.done (by kernel_rfl) ?_
      replace H := H.back (N := []) 3 rfl HB rfl
      refine end_none rfl ?_
      have hps2 := psettle_pos hok hso hj0 hj
      replace H := sub_qhp ((H.weaken (List.sublist_cons_self _ _)).weaken (List.sublist_cons_self _ _))
      rw [← hps2] at H
      replace H := St.refocusR (L := []) hX H
      refine ⟨R.upd A B (pSettle l g) r1, rfl, rfl, ?_, hm.ok.upd hX (pSettle_ok hok) (PL.sound_kept.settle l g hok hso) ?_, H⟩
      · rw [RR.abs_upd hX hA, hln]
      · rw [hps2]
        show r1.ok 2 (l.ps.drop g).length (flatP (l.ps.drop g))
        rw [List.length_drop]
        rw [Nat.zero_add, List.nil_append] at hr1
        exact hr1

end Go.Proofs.YtkncbggnaobgeaaDoor

/- Walks of functions of the program; printed by a program of this session (walk.py) out of hand-written hints. -/
namespace Go.Proofs.YtkncbggnaobgeaaDoor
open Go.RowKit
set_option linter.unusedVariables false
set_option linter.unusedSimpArgs false
set_option maxRecDepth 100000

def fenceTo (M : PM) (i : Nat) : PM := { M with ls := (M.ls.take i).map (fun l => pSettle l l.mark) ++ M.ls.drop i }
theorem fenceTo_zero (M : PM) : fenceTo M 0 = M := by simp [fenceTo]
theorem fenceTo_line {M : PM} {i : Nat} (hi : i < M.ls.length) : (fenceTo M i).line (i : Int) = M.line (i : Int) := by
  unfold PM.line fenceTo
  simp only [Int.toNat_natCast, List.getD]
  rw [List.getElem?_append_right (by simp; omega)]
  simp [show min i M.ls.length = i from by omega]
theorem fenceTo_len (M : PM) (i : Nat) : (fenceTo M i).ls.length = M.ls.length := by simp [fenceTo]; omega
theorem fenceTo_succ {M : PM} {i : Nat} (hi : i < M.ls.length) : fenceTo M (i + 1) = { fenceTo M i with ls := (fenceTo M i).ls.set i (pSettle (M.line (i : Int)) (M.line (i : Int)).mark) } := by
  have hl : M.line (i : Int) = M.ls[i] := line_of hi
  unfold fenceTo
  simp only [PM.mk.injEq, and_true]
  rw [hl, List.take_add_one, List.getElem?_eq_getElem hi]
  rw [List.set_append_right _ _ (by simp; omega)]
  simp only [List.map_append, List.append_assoc, Option.toList, List.map_cons, List.map_nil, List.length_map, List.length_take]
  rw [show i - min i M.ls.length = 0 from by omega, List.drop_eq_getElem_cons hi]
  rfl
theorem fenceTo_all (M : PM) : { fenceTo M M.ls.length with evs := M.evs ++ [[4, 0, 0, 0, 0, 0, 0, 0, 0, 0, 0, 0]] } = M.fence := by
  unfold fenceTo PM.fence
  simp

theorem rload_any (R : RR) (at_ : Int) (ha : at_ ≤ 9223372036854775807) (w : World) (hm : RIn w R) : Calls Tryd.prog 135 #[ptr R.p, .int .i64 at_] w fun e w' => e = .returned (.tuple #[.int .i64 (R.abs.load at_).1, .int .i64 (R.abs.load at_).2]) ∧ St w [] w' [] := by
  refine calls_walk_n (args := [ptr R.p, .int .i64 at_]) Tryd.func135 rfl rfl rfl ?_
  have H := St.refl w
  refine WC.seq ?_
  refine WC.region ?_
  refine WL.assign rfl rfl ?_
  refine WL.assign rfl rfl ?_
  refine (WL.done (WX.next ?_))
  refine WC.seq ?_
  refine WC.seq ?_
  refine WC.region ?_
  refine WL.move rfl rfl ?_
  refine WL.bin rfl rfl binv_lss rfl ?_
  refine WL.move rfl rfl ?_
  first | refine WL.splitD (t := 9) rfl (fun g1 => ?_) (fun g1 => ?_) | refine WL.split (t := 9) rfl (fun g1 => ?_) (fun g1 => ?_)
  · -- g1 True
    refine WL.no rfl rfl rfl ?_
    refine WL.no rfl rfl rfl ?_
    refine WL.no rfl rfl rfl ?_
    refine WL.no rfl rfl rfl ?_
    refine WL.no rfl rfl rfl ?_
    refine WL.pickT rfl rfl rfl ?_
    refine (WL.done (WX.next ?_))
    refine WC.cond_true rfl (rfl) ?_
    refine WC.seq ?_
    refine WC.region ?_
    refine WL.assign rfl rfl ?_
    refine WL.assign rfl rfl ?_
    refine (WL.done (WX.next ?_))
    refine (WC.ret (WX.then_ret ?_))
    refine ret_two rfl rfl rfl ?_
    refine ⟨?_, H⟩
    unfold PM.load; rw [if_pos g1]
  · -- g1 False
    have hq0 : 0 ≤ at_ := by omega
    refine WL.yes rfl rfl ?_
    refine WL.move rfl rfl ?_
    refine WL.yes rfl rfl ?_
    refine WL.move rfl rfl ?_
    refine WL.yes rfl rfl ?_
    refine WL.bin rfl rfl (iquo (by omega) (by omega) (by omega)) rfl ?_
    refine WL.yes rfl rfl ?_
    refine WL.call call177 rfl rfl ?_
    refine Calls.mono (rhas_any R _ _ hm) ?_
    rintro _ wx ⟨rfl, hwx⟩
    refine ⟨_, rfl, ?_⟩
    rw [hwx]
    refine WL.yes rfl rfl ?_
    refine WL.notOp rfl rfl ?_
    refine WL.pickF rfl rfl rfl ?_
    refine (WL.done (WX.next ?_))
    first | refine WC.cond_dec rfl (fun c2 => ?_) (fun c2 => ?_) | refine WC.cond rfl (fun c2 => ?_) (fun c2 => ?_)
    · -- c2 T
      have hh : R.abs.has (at_ / 8) = false := by simpa only [Bool.not_eq_true'] using c2
      refine WC.seq ?_
      refine WC.region ?_
      refine WL.assign rfl rfl ?_
      refine WL.assign rfl rfl ?_
      refine (WL.done (WX.next ?_))
      refine (WC.ret (WX.then_ret ?_))
      refine ret_two rfl rfl rfl ?_
      refine ⟨?_, H⟩
      unfold PM.load; rw [if_neg g1, hh]; rfl
    · -- c2 F
      have hh : R.abs.has (at_ / 8) = true := by simpa only [Bool.not_eq_false'] using c2
      obtain ⟨hn0, hn1⟩ := RR.has_iff.1 hh
      obtain ⟨k, hk⟩ : ∃ k : Nat, (k : Int) = at_ / 8 := ⟨(at_ / 8).toNat, by omega⟩
      obtain ⟨A, l, r, B, hX, hA, hal, hok, hr, hso, hget⟩ := hm.ok.at (k := k) (by omega)
      have hln : R.abs.line (at_ / 8) = l := by rw [← hk]; exact RR.abs_line hget
      have hs8 : (shown (R.abs.line (at_ / 8))).length = 8 := by rw [hln]; exact pShow_len hok.1
      refine (WC.skip (WX.next ?_))
      refine WC.seq ?_
      refine WC.seq ?_
      refine WC.region ?_
      refine WL.move rfl rfl ?_
      refine WL.move rfl rfl ?_
      refine WL.bin rfl rfl (iquo (by omega) (by omega) (by omega)) rfl ?_
      refine WL.call call123 rfl rfl ?_
      refine Calls.mono (rstate_any R _ _ hm) ?_
      rintro _ wx ⟨rfl, Hc⟩
      refine ⟨_, rfl, ?_⟩
      replace H := H.call0 Hc
      refine WL.bin rfl rfl binv_eql rfl ?_
      refine (WL.done (WX.next ?_))
      first | refine WC.cond_dec rfl (fun c3 => ?_) (fun c3 => ?_) | refine WC.cond rfl (fun c3 => ?_) (fun c3 => ?_)
      · -- c3 T
        have hst : (chk l.ws l.c).1 = 2 := by rw [PM.state_has hh, hln] at c3; exact c3
        refine WC.seq ?_
        refine WC.region ?_
        refine WL.assign rfl rfl ?_
        refine WL.assign rfl rfl ?_
        refine (WL.done (WX.next ?_))
        refine (WC.ret (WX.then_ret ?_))
        refine ret_two rfl rfl rfl ?_
        refine ⟨?_, H⟩
        have hf : ¬ (pShow l l.ps.length).2 = 0 := fun h => by
          have h2 : (fix l.ws l.c).2.2 ≠ 0 := by
            intro h0
            unfold fix at h0
            rw [hok.2.1, hok.2.2.1] at h0
            rcases chk_cases (ws := l.ws) hok.2.2.1 with e | e | ⟨x, y, e, _⟩
            · rw [e] at hst; cases hst
            · rw [e] at h0; cases h0
            · rw [e] at hst; cases hst
          unfold pShow at h
          rw [if_neg h2] at h
          exact h2 h
        unfold PM.load; rw [if_neg g1, if_pos hh, hln, if_neg hf]
      · -- c3 F
        have hst : ¬ (chk l.ws l.c).1 = 2 := by rw [PM.state_has hh, hln] at c3; exact c3
        refine (WC.skip (WX.next ?_))
        refine WC.seq ?_
        refine WC.region ?_
        refine WL.move rfl rfl ?_
        refine WL.move rfl rfl ?_
        refine WL.bin rfl rfl (iquo (by omega) (by omega) (by omega)) rfl ?_
        refine WL.call call176 rfl rfl ?_
        refine Calls.mono (hk ▸ rshows_any R k (by omega) _ (hm.old H)) ?_
        rintro _ wx ⟨rfl, Hc⟩
        refine ⟨_, rfl, ?_⟩
        replace H := H.call0 Hc
        refine WL.allocArr (ws := zeros8) H zer38 rfl rfl ?_
        intro b6 wx hb6 hge6 H
        refine WL.storeArr H ty38 0 rfl rfl rfl (by rw [arrC_size]; rfl) hs8 ?_
        intro wx H
        refine (WL.done (WX.next ?_))
        refine WC.seq ?_
        refine WC.region ?_
        refine WL.move rfl rfl ?_
        refine WL.bin rfl rfl (irem (by omega) (by omega)) rfl ?_
        refine WL.idxArr (k := (at_ % 8).toNat) arr38 rfl rfl (by omega) (by omega) rfl ?_
        first | refine WL.load rfl ((by rw [Nat.zero_add, Nat.mul_one]; exact H.rdElt ty3 0 rfl (by omega))) rfl ?_
        refine WL.assign rfl rfl ?_
        refine WL.assign rfl rfl ?_
        refine (WL.done (WX.next ?_))
        refine (WC.ret ?_)
        refine ret_two rfl rfl rfl ?_
        refine ⟨?_, H.weaken (List.nil_sublist _)⟩
        have hf : (pShow l l.ps.length).2 = 0 := by unfold pShow; rw [if_pos (fix_sound hok hst)]
        unfold PM.load; rw [if_neg g1, if_pos hh, hln, if_pos hf]
        rfl

theorem rfence_any (R : RR) (hsm : R.evs.length < 1073741824) (hps : ∀ x ∈ R.X, x.1.ps.length ≤ 1073741824) (w : World) (hm : RIn w R) : Calls Tryd.prog 130 #[ptr R.p] w fun e w' => ∃ R' : RR, e = .returned (.tuple #[]) ∧ R'.p = R.p ∧ R'.abs = R.abs.fence ∧ R'.ok ∧ St w (R.hp.map Prod.fst) w' R'.hp := by
  refine calls_walk_n (args := [ptr R.p]) Tryd.func130 rfl rfl rfl ?_
  have H := hm.start
  have hlen := hm.ok.len
  have hps2 : ∀ l ∈ R.abs.ls, l.ps.length ≤ 1073741824 := fun l hl => by obtain ⟨x, hx, rfl⟩ := List.mem_map.1 hl; exact hps x hx
  refine WC.seq ?_
  refine WC.seq ?_
  refine WC.region ?_
  refine WL.assign rfl rfl ?_
  refine (WL.done (WX.next ?_))
  refine WC.block ?_
  -- loop 1: changed [2] kept [0]
  refine WC.loop (Sub.cons (t := 0) rfl (Sub.nil _)) (fun q : RR × Nat => [(2, .int .i64 (q.2 : Int))]) (fun q i wx => q = R.X.length - i.2 ∧ i.2 ≤ R.X.length ∧ i.1.p = R.p ∧ i.1.abs = fenceTo R.abs i.2 ∧ i.1.ok ∧ St w (R.hp.map Prod.fst) wx i.1.hp) (R.X.length) ((R, 0)) (Sub.cons (t := 2) (by first | rfl | simp) (Sub.nil _)) (⟨rfl, Nat.zero_le _, rfl, (fenceTo_zero _).symm, hm.ok, H⟩) ?_
  rintro k g wx hI N hN
  obtain ⟨R1, g⟩ := g
  obtain ⟨rfl, hg, hp1, ha1, hok1, H⟩ := hI
  change g ≤ R.X.length at hg
  obtain ⟨p1, lb1, lcap1, junk1, X1, span1, evs1, er1⟩ := R1
  change p1 = R.p at hp1
  subst hp1
  change RR.abs { p := R.p, lb := lb1, lcap := lcap1, junk := junk1, X := X1, span := span1, evs := evs1, er := er1 : RR } = fenceTo R.abs g at ha1
  change RR.ok { p := R.p, lb := lb1, lcap := lcap1, junk := junk1, X := X1, span := span1, evs := evs1, er := er1 : RR } at hok1
  change St w (R.hp.map Prod.fst) wx (RR.hp { p := R.p, lb := lb1, lcap := lcap1, junk := junk1, X := X1, span := span1, evs := evs1, er := er1 : RR }) at H
  have hxl : X1.length = R.X.length := by
    have h := congrArg (fun M : PM => M.ls.length) ha1
    simp only [fenceTo_len, RR.abs_len] at h
    exact h
  refine WC.seq ?_
  refine WC.seq ?_
  refine WC.region ?_
  refine WL.move rfl rfl ?_
  refine WL.move rfl rfl ?_
  first | refine WL.nilCheck rfl rfl ?_ | refine WL.nilCheckFn rfl rfl ?_
  refine WL.fieldAddr fld89_0 rfl rfl ?_
  first | refine WL.load rfl (Rd.q0 (H.blk 0 rfl)) rfl ?_ | refine WL.load rfl (Rd.q0 (hS.block (H.blk 0 rfl) (by simpa using H.ne 0 1 rfl rfl rfl))) rfl ?_ | refine WL.load rfl (H.rd1 ty87 0 rfl rfl) rfl ?_ | refine WL.load rfl (H.rd1 ty87 1 rfl rfl) rfl ?_ | refine WL.load rfl (H.rdA ty87 0 rfl (by decide)) rfl ?_ | refine WL.load rfl (H.rdA ty87 1 rfl (by decide)) rfl ?_
  refine WL.lenSlc isl87 rfl rfl ?_
  refine WL.bin rfl rfl binv_lss rfl ?_
  refine (WL.done (WX.next ?_))
  first | refine WC.cond_dec rfl (fun c1 => ?_) (fun c1 => ?_) | refine WC.cond rfl (fun c1 => ?_) (fun c1 => ?_)
  · -- c1 T
    change (g : Int) < (X1.length : Int) at c1
    refine (WC.skip (WX.next ?_))
    refine WC.seq ?_
    refine WC.block ?_
    refine WC.region ?_
    have hgl : g < X1.length := by omega
    obtain ⟨A, l, r, B, hX, hA, hal, hok, hr, hso, hget⟩ := hok1.at (k := g) hgl
    have hln : ({ p := R.p, lb := lb1, lcap := lcap1, junk := junk1, X := X1, span := span1, evs := evs1, er := er1 : RR }).abs.line (g : Int) = l := RR.abs_line hget
    have hpx : ∀ x ∈ X1, x.1.ps.length ≤ 1073741824 := fun x hx => by
      have hml : x.1 ∈ (fenceTo R.abs g).ls := ha1 ▸ List.mem_map_of_mem hx
      unfold fenceTo at hml
      rcases List.mem_append.1 hml with h | h
      · obtain ⟨y, hy, e⟩ := List.mem_map.1 h
        have := hps2 y (List.mem_of_mem_take hy)
        have h2 := settle_le y y.mark
        rw [← e]; omega
      · exact hps2 _ (List.mem_of_mem_drop h)
    refine WL.move rfl rfl ?_
    refine WL.move rfl rfl ?_
    refine WL.move rfl rfl ?_
    first | refine WL.nilCheck rfl rfl ?_ | refine WL.nilCheckFn rfl rfl ?_
    refine WL.fieldAddr fld89_0 rfl rfl ?_
    first | refine WL.load rfl (Rd.q0 (H.blk 0 rfl)) rfl ?_ | refine WL.load rfl (Rd.q0 (hS.block (H.blk 0 rfl) (by simpa using H.ne 0 1 rfl rfl rfl))) rfl ?_ | refine WL.load rfl (H.rd1 ty87 0 rfl rfl) rfl ?_ | refine WL.load rfl (H.rd1 ty87 1 rfl rfl) rfl ?_ | refine WL.load rfl (H.rdA ty87 0 rfl (by decide)) rfl ?_ | refine WL.load rfl (H.rdA ty87 1 rfl (by decide)) rfl ?_
    refine WL.move rfl rfl ?_
    refine WL.idxSlc (k := g) slc87 rfl rfl (by first | rfl | omega) (by omega) rfl ?_
    refine WL.fieldAddr fld184_3 rfl rfl ?_
    refine WL.load rfl (Rd.lineM ty3 ((RIn.of (L := []) H hok1).b1at hX) (by omega) hok.1) rfl ?_
    refine WL.call call180 rfl rfl ?_
    refine Calls.mono (rsettle_any { p := R.p, lb := lb1, lcap := lcap1, junk := junk1, X := X1, span := span1, evs := evs1, er := er1 : RR } g l.mark (by omega) (by rw [hln]; exact hok.2.2.2.1) hpx _ (RIn.of (L := []) H hok1)) ?_
    rintro _ wx ⟨R2, rfl, hp2, ha2, hok2, Hc⟩
    refine ⟨_, rfl, ?_⟩
    replace H := H.callM (L := []) Hc
    refine (WL.done (WX.block_normal (WX.next ?_)))
    refine WC.region ?_
    refine WL.move rfl rfl ?_
    refine WL.bin rfl rfl (iadd (by omega) (by omega)) rfl ?_
    refine WL.assign rfl rfl ?_
    refine (WL.done (WX.round ?_))
    have ha3 : R2.abs = fenceTo R.abs (g + 1) := by
      have hgl2 : g < R.abs.ls.length := by rw [RR.abs_len]; omega
      have e3 : R.abs.line (g : Int) = l := by rw [← fenceTo_line hgl2, ← ha1]; exact hln
      rw [ha2, hln, ha1, fenceTo_succ hgl2, e3]
    exact hN _ (R2, g + 1) _ _ (by show R.X.length - (g + 1) < R.X.length - g; omega) ⟨rfl, by show g + 1 ≤ R.X.length; omega, hp2, ha3, hok2, H⟩ (Sub.cons (t := 2) (by first | rfl | simp) (Sub.nil _)) (Sub.cons (t := 0) rfl (Sub.nil _))
  · -- c1 F
    change ¬ (g : Int) < (X1.length : Int) at c1
    refine (WC.exit (WX.then_exit (WX.then_exit (WX.block_exit (WX.next ?_)))))
    refine WC.region ?_
    have hel : evs1.length < 1073741824 := by have : evs1 = R.evs := congrArg PM.evs ha1; rw [this]; exact hsm
    have hel2 : ({ p := R.p, lb := lb1, lcap := lcap1, junk := junk1, X := X1, span := span1, evs := evs1, er := er1 : RR }).evs.length < 1073741824 := hel
    have hok2 := hok1
    refine WL.move rfl rfl ?_
    refine WL.move rfl rfl ?_
    first | refine WL.nilCheck rfl rfl ?_ | refine WL.nilCheckFn rfl rfl ?_
    refine WL.fieldAddr fld89_2 rfl rfl ?_
    first | refine WL.load rfl (Rd.q2 (H.blk 0 rfl)) rfl ?_ | refine WL.load rfl (H.rd1 ty30 0 rfl rfl) rfl ?_ | refine WL.load rfl (H.rd1 ty30 1 rfl rfl) rfl ?_ | refine WL.load rfl (H.rdA ty30 0 rfl (by decide)) rfl ?_ | refine WL.load rfl (H.rdA ty30 1 rfl (by decide)) rfl ?_
    refine WL.build (z := z164) pla164 zer164 rfl rfl (fillE1 _) ?_
    refine WL.buildSlice1 H Tryd.underlying30 (sz := 12) (by simp only [Tryd.underlying164]; exact ty164) (by omega) zer164 rfl rfl rfl rfl ?_
    intro gn wx hgn hggn H
    replace H := St.pull3 (M := (({ p := R.p, lb := lb1, lcap := lcap1, junk := junk1, X := X1, span := span1, evs := evs1, er := er1 : RR })).er.hp 164) (K := pendHp (({ p := R.p, lb := lb1, lcap := lcap1, junk := junk1, X := X1, span := span1, evs := evs1, er := er1 : RR })).X) H
    refine WL.append (m := 1) (news := intsC [4, 0, 0, 0, 0, 0, 0, 0, 0, 0, 0, 0]) app30 H hok2.er rfl rfl rfl (fun j u hj => by rw [addr_add, cell_of (H.sat _ (List.mem_append_right _ List.mem_cons_self)), Nat.zero_add]; simpa [intsC, Value.cells, arrC, RR.upd] using hj) (intsC_one _) (by simp only [maxLen]; omega) (by omega) rfl ?_
    intro er wx her H
    replace H := St.put3 H
    first | refine WL.nilCheck rfl rfl ?_ | refine WL.nilCheckFn rfl rfl ?_
    refine WL.fieldAddr fld89_2 rfl rfl ?_
    refine WL.storeAt H ty30 1 rfl rfl rfl (Row.val_size _ _) (Row.val_one _ _) (Nat.le_refl 3) ?_
    intro wx H
    replace H := H.castH (H' := (gn, _) :: ((({ p := R.p, lb := lb1, lcap := lcap1, junk := junk1, X := X1, span := span1, evs := evs1, er := er1 : RR })).noted [4, 0, 0, 0, 0, 0, 0, 0, 0, 0, 0, 0] er).hp) (by
      rw [Row.val_cells]
      unfold RR.hp structQ
      rw [show ((({ p := R.p, lb := lb1, lcap := lcap1, junk := junk1, X := X1, span := span1, evs := evs1, er := er1 : RR })).noted [4, 0, 0, 0, 0, 0, 0, 0, 0, 0, 0, 0] er).evs.length = (({ p := R.p, lb := lb1, lcap := lcap1, junk := junk1, X := X1, span := span1, evs := evs1, er := er1 : RR })).evs.length + 1 from by simp [RR.noted]]
      rfl)
    replace H := H.tail
    have hok3 : ((({ p := R.p, lb := lb1, lcap := lcap1, junk := junk1, X := X1, span := span1, evs := evs1, er := er1 : RR })).noted [4, 0, 0, 0, 0, 0, 0, 0, 0, 0, 0, 0] er).ok := hok2.noted rfl (by
      have e1 : flatE ((({ p := R.p, lb := lb1, lcap := lcap1, junk := junk1, X := X1, span := span1, evs := evs1, er := er1 : RR })).evs ++ [[4, 0, 0, 0, 0, 0, 0, 0, 0, 0, 0, 0]]) = flatE (({ p := R.p, lb := lb1, lcap := lcap1, junk := junk1, X := X1, span := span1, evs := evs1, er := er1 : RR })).evs ++ intsC [4, 0, 0, 0, 0, 0, 0, 0, 0, 0, 0, 0] := by rw [flatE_append]; simp [flatE]
      rw [e1]; exact her)
    refine (WL.done ?_)
    refine end_none rfl ?_
    refine ⟨({ p := R.p, lb := lb1, lcap := lcap1, junk := junk1, X := X1, span := span1, evs := evs1, er := er1 : RR }).noted [4, 0, 0, 0, 0, 0, 0, 0, 0, 0, 0, 0] er, rfl, rfl, ?_, hok3, H⟩
    have hgg : g = R.abs.ls.length := by rw [RR.abs_len]; omega
    rw [RR.abs_noted, ha1, hgg, ← fenceTo_all]
    rfl

end Go.Proofs.YtkncbggnaobgeaaDoor

/- Walks of functions of the program; printed by a program of this session (walk.py) out of hand-written hints. -/
namespace Go.Proofs.YtkncbggnaobgeaaDoor
open Go.RowKit
set_option linter.unusedVariables false
set_option linter.unusedSimpArgs false
set_option maxRecDepth 100000

theorem fill184h {ws : List Int} (h8 : ws.length = 8) (c : Int) : Instr.fill (fun i => [(0, 8), (8, 1), (9, 1), (10, 1)][i]?) z184 [(0, arr ws), (1, .int .i64 c)] = some (lineC { ws := ws, c := c, ps := [], mark := 0 } Row.none).toArray := by
  obtain ⟨x0, x1, x2, x3, x4, x5, x6, x7, rfl⟩ := len8 h8
  kernel_rfl

theorem revict_any (R : RR) (n m : Int) (hsm : R.evs.length < 1073741824) (hps : ∀ x ∈ R.X, x.1.ps.length ≤ 1073741824) (w : World) (hm : RIn w R) : Calls Tryd.prog 131 #[ptr R.p, .int .i64 n, .int .i64 m] w fun e w' => ∃ R' : RR, e = .returned (.int .i64 (R.abs.evictErr n m)) ∧ R'.p = R.p ∧ R'.abs = R.abs.evict n m ∧ R'.ok ∧ St w (R.hp.map Prod.fst) w' R'.hp := by
  refine calls_walk_n (args := [ptr R.p, .int .i64 n, .int .i64 m]) Tryd.func131 rfl rfl rfl ?_
  have H := hm.start
  refine WC.seq ?_
  refine WC.region ?_
  refine WL.assign rfl rfl ?_
  refine (WL.done (WX.next ?_))
  refine WC.seq ?_
  refine WC.seq ?_
  refine WC.region ?_
  refine WL.move rfl rfl ?_
  refine WL.move rfl rfl ?_
  refine WL.call call177 rfl rfl ?_
  refine Calls.mono (rhas_any R n _ hm) ?_
  rintro _ wx ⟨rfl, rfl⟩
  refine ⟨_, rfl, ?_⟩
  refine WL.notOp rfl rfl ?_
  refine (WL.done (WX.next ?_))
  first | refine WC.cond_dec rfl (fun c1 => ?_) (fun c1 => ?_) | refine WC.cond rfl (fun c1 => ?_) (fun c1 => ?_)
  · -- c1 T
    have hh : R.abs.has n = false := by cases hh : R.abs.has n <;> simp [hh] at c1 ⊢
    refine WC.seq ?_
    refine WC.region ?_
    refine WL.assign rfl rfl ?_
    refine (WL.done (WX.next ?_))
    refine (WC.ret (WX.then_ret ?_))
    refine ret_one rfl rfl ?_
    have e1 : R.abs.evictErr n m = 40 := by unfold PM.evictErr; rw [hh]; rfl
    exact ⟨R, by rw [e1], rfl, by unfold PM.evict; rw [e1, if_neg (by decide)], hm.ok, H⟩
  · -- c1 F
    have hh : R.abs.has n = true := by cases hh : R.abs.has n <;> simp [hh] at c1 ⊢
    obtain ⟨hn0, hn1⟩ := RR.has_iff.1 hh
    obtain ⟨k, rfl⟩ : ∃ k : Nat, n = (k : Int) := ⟨n.toNat, by omega⟩
    obtain ⟨A, l, r, B, hX, hA, hal, hok, hr, hso, hget⟩ := hm.ok.at (k := k) (by omega)
    have hln : R.abs.line (k : Int) = l := RR.abs_line hget
    have hpk : l.ps.length ≤ 1073741824 := hps (l, r) (List.mem_of_getElem? hget)
    refine (WC.skip (WX.next ?_))
    refine WC.seq ?_
    refine WC.seq ?_
    refine WC.region ?_
    refine WL.move rfl rfl ?_
    refine WL.bin rfl rfl binv_lss rfl ?_
    refine WL.move rfl rfl ?_
    first | refine WL.splitD (t := 13) rfl (fun g1 => ?_) (fun g1 => ?_) | refine WL.split (t := 13) rfl (fun g1 => ?_) (fun g1 => ?_)
    · -- g1 True
      refine WL.no rfl rfl rfl ?_
      refine WL.no rfl rfl rfl ?_
      refine WL.no rfl rfl rfl ?_
      refine WL.no rfl rfl rfl ?_
      refine WL.no rfl rfl rfl ?_
      refine WL.no rfl rfl rfl ?_
      refine WL.no rfl rfl rfl ?_
      refine WL.no rfl rfl rfl ?_
      refine WL.no rfl rfl rfl ?_
      refine WL.no rfl rfl rfl ?_
      refine WL.no rfl rfl rfl ?_
      refine WL.pickT rfl rfl rfl ?_
      refine (WL.done (WX.next ?_))
      refine WC.cond_true rfl (rfl) ?_
      refine WC.seq ?_
      refine WC.region ?_
      refine WL.assign rfl rfl ?_
      refine (WL.done (WX.next ?_))
      refine (WC.ret (WX.then_ret ?_))
      refine ret_one rfl rfl ?_
      have e1 : R.abs.evictErr (k : Int) m = 1 := by unfold PM.evictErr; rw [hh, if_pos rfl, hln, if_pos (by omega)]
      exact ⟨R, by rw [e1], rfl, by unfold PM.evict; rw [e1, if_neg (by decide)], hm.ok, H⟩
    · -- g1 False
      refine WL.yes rfl rfl ?_
      refine WL.move rfl rfl ?_
      refine WL.yes rfl rfl ?_
      refine WL.move rfl rfl ?_
      refine WL.yes rfl rfl ?_
      first | refine WL.nilCheck rfl rfl ?_ | refine WL.nilCheckFn rfl rfl ?_
      refine WL.yes rfl rfl ?_
      refine WL.fieldAddr fld89_0 rfl rfl ?_
      refine WL.yes rfl rfl ?_
      first | refine WL.load rfl (Rd.q0 (H.blk 0 rfl)) rfl ?_ | refine WL.load rfl (H.rd1 ty87 0 rfl rfl) rfl ?_ | refine WL.load rfl (H.rd1 ty87 1 rfl rfl) rfl ?_ | refine WL.load rfl (H.rdA ty87 0 rfl (by decide)) rfl ?_ | refine WL.load rfl (H.rdA ty87 1 rfl (by decide)) rfl ?_
      refine WL.yes rfl rfl ?_
      refine WL.move rfl rfl ?_
      refine WL.yes rfl rfl ?_
      refine WL.idxSlc (k := k) slc87 rfl rfl (by first | rfl | omega) (by omega) rfl ?_
      refine WL.yes rfl rfl ?_
      refine WL.fieldAddr fld184_2 rfl rfl ?_
      refine WL.yes rfl rfl ?_
      first | refine WL.load rfl (Rd.lineS ty52 (hm.b1at hX) (by omega) hok.1) rfl ?_
      refine WL.yes rfl rfl ?_
      refine WL.lenR isl52 rfl rfl ?_
      refine WL.yes rfl rfl ?_
      refine WL.bin rfl rfl binv_gtr rfl ?_
      refine WL.pickF rfl rfl rfl ?_
      refine (WL.done (WX.next ?_))
      first | refine WC.cond_dec rfl (fun c3 => ?_) (fun c3 => ?_) | refine WC.cond rfl (fun c3 => ?_) (fun c3 => ?_)
      · -- c3 T
        refine WC.seq ?_
        refine WC.region ?_
        refine WL.assign rfl rfl ?_
        refine (WL.done (WX.next ?_))
        refine (WC.ret (WX.then_ret ?_))
        refine ret_one rfl rfl ?_
        have e1 : R.abs.evictErr (k : Int) m = 1 := by unfold PM.evictErr; rw [hh, if_pos rfl, hln, if_pos (by omega)]
        exact ⟨R, by rw [e1], rfl, by unfold PM.evict; rw [e1, if_neg (by decide)], hm.ok, H⟩
      · -- c3 F
        refine (WC.skip (WX.next ?_))
        refine WC.seq ?_
        refine WC.region ?_
        obtain ⟨j, rfl⟩ : ∃ j : Nat, m = (j : Int) := ⟨m.toNat, by omega⟩
        refine WL.move rfl rfl ?_
        refine WL.move rfl rfl ?_
        refine WL.move rfl rfl ?_
        refine WL.call call180 rfl rfl ?_
        refine Calls.mono (rsettle_any R k j (by omega) (by rw [hln]; omega) hps _ hm) ?_
        rintro _ wx ⟨R1, rfl, hp1, ha1, hok1, Hc⟩
        refine ⟨_, rfl, ?_⟩
        replace H := H.callM (L := []) Hc
        refine (WL.done (WX.next ?_))
        refine WC.seq ?_
        refine WC.region ?_
        obtain ⟨p1, lb1, lcap1, junk1, X1, span1, evs1, er1⟩ := R1
        change p1 = R.p at hp1
        subst hp1
        have hel : evs1.length < 1073741824 := by have : evs1 = R.evs := congrArg PM.evs ha1; rw [this]; exact hsm
        have hel2 : ({ p := R.p, lb := lb1, lcap := lcap1, junk := junk1, X := X1, span := span1, evs := evs1, er := er1 : RR }).evs.length < 1073741824 := hel
        have hok2 := hok1
        refine WL.move rfl rfl ?_
        refine WL.move rfl rfl ?_
        first | refine WL.nilCheck rfl rfl ?_ | refine WL.nilCheckFn rfl rfl ?_
        refine WL.fieldAddr fld89_2 rfl rfl ?_
        first | refine WL.load rfl (Rd.q2 (H.blk 0 rfl)) rfl ?_ | refine WL.load rfl (H.rd1 ty30 0 rfl rfl) rfl ?_ | refine WL.load rfl (H.rd1 ty30 1 rfl rfl) rfl ?_ | refine WL.load rfl (H.rdA ty30 0 rfl (by decide)) rfl ?_ | refine WL.load rfl (H.rdA ty30 1 rfl (by decide)) rfl ?_
        refine WL.move rfl rfl ?_
        refine WL.move rfl rfl ?_
        refine WL.build (z := z164) pla164 zer164 rfl rfl (fillE3 _ _ _) ?_
        refine WL.buildSlice1 H Tryd.underlying30 (sz := 12) (by simp only [Tryd.underlying164]; exact ty164) (by omega) zer164 rfl rfl rfl rfl ?_
        intro gn wx hgn hggn H
        replace H := St.pull3 (M := (({ p := R.p, lb := lb1, lcap := lcap1, junk := junk1, X := X1, span := span1, evs := evs1, er := er1 : RR })).er.hp 164) (K := pendHp (({ p := R.p, lb := lb1, lcap := lcap1, junk := junk1, X := X1, span := span1, evs := evs1, er := er1 : RR })).X) H
        refine WL.append (m := 1) (news := intsC [5, (k : Int), (j : Int), 0, 0, 0, 0, 0, 0, 0, 0, 0]) app30 H hok2.er rfl rfl rfl (fun j u hj => by rw [addr_add, cell_of (H.sat _ (List.mem_append_right _ List.mem_cons_self)), Nat.zero_add]; simpa [intsC, Value.cells, arrC, RR.upd] using hj) (intsC_one _) (by simp only [maxLen]; omega) (by omega) rfl ?_
        intro er wx her H
        replace H := St.put3 H
        first | refine WL.nilCheck rfl rfl ?_ | refine WL.nilCheckFn rfl rfl ?_
        refine WL.fieldAddr fld89_2 rfl rfl ?_
        refine WL.storeAt H ty30 1 rfl rfl rfl (Row.val_size _ _) (Row.val_one _ _) (Nat.le_refl 3) ?_
        intro wx H
        replace H := H.castH (H' := (gn, _) :: ((({ p := R.p, lb := lb1, lcap := lcap1, junk := junk1, X := X1, span := span1, evs := evs1, er := er1 : RR })).noted [5, (k : Int), (j : Int), 0, 0, 0, 0, 0, 0, 0, 0, 0] er).hp) (by
          rw [Row.val_cells]
          unfold RR.hp structQ
          rw [show ((({ p := R.p, lb := lb1, lcap := lcap1, junk := junk1, X := X1, span := span1, evs := evs1, er := er1 : RR })).noted [5, (k : Int), (j : Int), 0, 0, 0, 0, 0, 0, 0, 0, 0] er).evs.length = (({ p := R.p, lb := lb1, lcap := lcap1, junk := junk1, X := X1, span := span1, evs := evs1, er := er1 : RR })).evs.length + 1 from by simp [RR.noted]]
          rfl)
        replace H := H.tail
        have hok3 : ((({ p := R.p, lb := lb1, lcap := lcap1, junk := junk1, X := X1, span := span1, evs := evs1, er := er1 : RR })).noted [5, (k : Int), (j : Int), 0, 0, 0, 0, 0, 0, 0, 0, 0] er).ok := hok2.noted rfl (by
          have e1 : flatE ((({ p := R.p, lb := lb1, lcap := lcap1, junk := junk1, X := X1, span := span1, evs := evs1, er := er1 : RR })).evs ++ [[5, (k : Int), (j : Int), 0, 0, 0, 0, 0, 0, 0, 0, 0]]) = flatE (({ p := R.p, lb := lb1, lcap := lcap1, junk := junk1, X := X1, span := span1, evs := evs1, er := er1 : RR })).evs ++ intsC [5, (k : Int), (j : Int), 0, 0, 0, 0, 0, 0, 0, 0, 0] := by rw [flatE_append]; simp [flatE]
          rw [e1]; exact her)
        refine (WL.done (WX.next ?_))
        refine WC.seq ?_
        refine WC.region ?_
        refine WL.assign rfl rfl ?_
        refine (WL.done (WX.next ?_))
        refine (WC.ret ?_)
        refine ret_one rfl rfl ?_
        have e1 : R.abs.evictErr (k : Int) (j : Int) = 0 := by unfold PM.evictErr; rw [hh, if_pos rfl, hln, if_neg (by omega)]
        refine ⟨({ p := R.p, lb := lb1, lcap := lcap1, junk := junk1, X := X1, span := span1, evs := evs1, er := er1 : RR }).noted [5, (k : Int), (j : Int), 0, 0, 0, 0, 0, 0, 0, 0, 0] er, by rw [e1], rfl, ?_, hok3, H⟩
        unfold PM.evict
        rw [e1, if_pos rfl, RR.abs_noted, ha1, Int.toNat_natCast, Int.toNat_natCast]

theorem rheal_any (R : RR) (n : Int) (xs : List Int) (hx8 : xs.length = 8) (hsm : R.evs.length < 1073741824) (w : World) (hm : RIn w R) : Calls Tryd.prog 132 #[ptr R.p, .int .i64 n, arr xs] w fun e w' => ∃ R' : RR, e = .returned (.int .i64 (R.abs.healErr n xs)) ∧ R'.p = R.p ∧ R'.abs = R.abs.heal n xs ∧ R'.ok ∧ St w (R.hp.map Prod.fst) w' R'.hp := by
  refine calls_walk_n (args := [ptr R.p, .int .i64 n, arr xs]) Tryd.func132 rfl rfl rfl ?_
  obtain ⟨x0, x1, x2, x3, x4, x5, x6, x7, rfl⟩ := len8 hx8
  have H := hm.start
  refine WC.seq ?_
  refine WC.region ?_
  refine WL.boxArr H rfl rfl ?_
  intro b5 wx hb5 hge5 H
  refine WL.assign rfl rfl ?_
  refine (WL.done (WX.next ?_))
  refine WC.seq ?_
  refine WC.seq ?_
  refine WC.region ?_
  refine WL.move rfl rfl ?_
  refine WL.move rfl rfl ?_
  refine WL.call call177 rfl rfl ?_
  refine Calls.mono (rhas_any R n _ (RIn.of (L := [_]) H hm.ok)) ?_
  rintro _ wx ⟨rfl, rfl⟩
  refine ⟨_, rfl, ?_⟩
  refine WL.notOp rfl rfl ?_
  refine (WL.done (WX.next ?_))
  first | refine WC.cond_dec rfl (fun c1 => ?_) (fun c1 => ?_) | refine WC.cond rfl (fun c1 => ?_) (fun c1 => ?_)
  · -- c1 T
    have hh : R.abs.has n = false := by cases hh : R.abs.has n <;> simp [hh] at c1 ⊢
    refine WC.seq ?_
    refine WC.region ?_
    refine WL.assign rfl rfl ?_
    refine (WL.done (WX.next ?_))
    refine (WC.ret (WX.then_ret ?_))
    refine ret_one rfl rfl ?_
    have e1 : R.abs.healErr n [x0, x1, x2, x3, x4, x5, x6, x7] = 40 := by unfold PM.healErr; rw [hh]; rfl
    exact ⟨R, by rw [e1], rfl, by unfold PM.heal; rw [e1, if_neg (by decide)], hm.ok, H.tail⟩
  · -- c1 F
    have hh : R.abs.has n = true := by cases hh : R.abs.has n <;> simp [hh] at c1 ⊢
    obtain ⟨hn0, hn1⟩ := RR.has_iff.1 hh
    obtain ⟨k, rfl⟩ : ∃ k : Nat, n = (k : Int) := ⟨n.toNat, by omega⟩
    obtain ⟨A, l, r, B, hX, hA, hal, hok, hr, hso, hget⟩ := hm.ok.at (k := k) (by omega)
    have hln : R.abs.line (k : Int) = l := RR.abs_line hget
    refine (WC.skip (WX.next ?_))
    refine WC.seq ?_
    refine WC.seq ?_
    refine WC.region ?_
    first | refine WL.load rfl (H.rdArr ty38 0 rfl rfl) rfl ?_ | refine WL.load rfl (H.rd1 ty38 0 rfl rfl) rfl ?_ | refine WL.load rfl (H.rd1 ty38 1 rfl rfl) rfl ?_ | refine WL.load rfl (H.rd1 ty38 2 rfl rfl) rfl ?_ | refine WL.load rfl (H.rdA ty38 0 rfl (by decide)) rfl ?_ | refine WL.load rfl (H.rdA ty38 1 rfl (by decide)) rfl ?_ | refine WL.load rfl (H.rdA ty38 2 rfl (by decide)) rfl ?_
    refine WL.call call99 rfl rfl ?_
    refine Calls.mono (refwords_any [x0, x1, x2, x3, x4, x5, x6, x7] rfl _) ?_
    rintro _ wx ⟨rfl, Hc⟩
    refine ⟨_, rfl, ?_⟩
    replace H := H.call0 Hc
    refine WL.notOp rfl rfl ?_
    refine (WL.done (WX.next ?_))
    first | refine WC.cond_dec rfl (fun c2 => ?_) (fun c2 => ?_) | refine WC.cond rfl (fun c2 => ?_) (fun c2 => ?_)
    · -- c2 T
      have hwx : isWords [x0, x1, x2, x3, x4, x5, x6, x7] = false := by simpa only [Bool.not_eq_true'] using c2
      refine WC.seq ?_
      refine WC.region ?_
      refine WL.assign rfl rfl ?_
      refine (WL.done (WX.next ?_))
      refine (WC.ret (WX.then_ret ?_))
      refine ret_one rfl rfl ?_
      have e1 : R.abs.healErr (k : Int) [x0, x1, x2, x3, x4, x5, x6, x7] = 1 := by unfold PM.healErr; rw [hh, if_pos rfl, hwx]; rfl
      exact ⟨R, by rw [e1], rfl, by unfold PM.heal; rw [e1, if_neg (by decide)], hm.ok, H.tail⟩
    · -- c2 F
      have hwx : isWords [x0, x1, x2, x3, x4, x5, x6, x7] = true := by simpa only [Bool.not_eq_false'] using c2
      refine (WC.skip (WX.next ?_))
      refine WC.seq ?_
      replace H := (St.focusR (L := [(b5, .cells (arrC [x0, x1, x2, x3, x4, x5, x6, x7]) 38)]) hX H).drew
      refine WC.held (SX (World.drew wx) [R.lb]) (by kernel_rfl) ?_
      generalize World.drew wx = wb at H ⊢
      have HB := H.single 2 rfl
      refine WH.take 0 rfl (by kernel_rfl) (by kernel_rfl) (by kernel_rfl) (fun _ _ _ h => h) ⟨_, HB⟩ (fun w' hS => EX.move rfl) rfl ?_
      refine WH.take 1 rfl (by kernel_rfl) (by kernel_rfl) (by kernel_rfl) (fun _ _ _ h => h) ⟨_, HB⟩ (fun w' hS => EX.nilCheck rfl) rfl ?_
      refine WH.take 2 rfl (by kernel_rfl) (by kernel_rfl) (by kernel_rfl) (fun _ _ _ h => h) ⟨_, HB⟩ (fun w' hS => EX.fieldAddr fld89_0 rfl) rfl ?_
      first | refine WH.take 3 rfl (by kernel_rfl) (by kernel_rfl) (by kernel_rfl) (fun _ _ _ h => h) ⟨_, HB⟩ (fun w' hS => EX.load rfl (Rd.q0 (hS.block (H.blk 1 rfl) (by simpa using H.ne 1 2 rfl rfl rfl)))) rfl ?_
      refine WH.take 4 rfl (by kernel_rfl) (by kernel_rfl) (by kernel_rfl) (fun _ _ _ h => h) ⟨_, HB⟩ (fun w' hS => EX.move rfl) rfl ?_
      first | refine WH.take 5 rfl (by kernel_rfl) (by kernel_rfl) (by kernel_rfl) (fun _ _ _ h => h) ⟨_, HB⟩ (fun w' hS => EX.load rfl (hS.rdArr ty38 (H.blk 0 rfl) (by simpa using H.ne 0 2 rfl rfl rfl) rfl)) rfl ?_
      first | refine WH.take 6 rfl (by kernel_rfl) (by kernel_rfl) (by kernel_rfl) (fun _ _ _ h => h) ⟨_, HB⟩ (fun w' hS => EX.load rfl (hS.rdArr ty38 (H.blk 0 rfl) (by simpa using H.ne 0 2 rfl rfl rfl) rfl)) rfl ?_
      refine WH.hard 7 rfl (by kernel_rfl) ?_
      refine WL.call call32 rfl rfl ?_
      refine Calls.mono (refencode_any [x0, x1, x2, x3, x4, x5, x6, x7] rfl _) ?_
      rintro _ wx ⟨rfl, Hc⟩
      refine ⟨_, rfl, ?_⟩
      replace HB := HB.call0 Hc
      refine WL.done (WX.heldOn ⟨_, HB⟩ ?_)
      refine WH.take 8 rfl (by kernel_rfl) (by kernel_rfl) (by kernel_rfl) (fun _ _ _ h => h) ⟨_, HB⟩ (fun w' hS => EX.build (z := z184) pla184 zer184 rfl (fill184h rfl _)) rfl ?_
      refine WH.take 9 rfl (by kernel_rfl) (by kernel_rfl) (by kernel_rfl) (fun _ _ _ h => h) ⟨_, HB⟩ (fun w' hS => EX.idxSlc (k := k) slc87 rfl rfl (by first | rfl | omega) (by omega)) rfl ?_
      refine WH.hard 10 rfl (by kernel_rfl) ?_
      refine WL.storeAt HB ty184 0 rfl rfl rfl rfl (fun u hu => lineC_one { ws := [x0, x1, x2, x3, x4, x5, x6, x7], c := enc [x0, x1, x2, x3, x4, x5, x6, x7], ps := [], mark := 0 } Row.none u (by simpa [Value.cells] using hu)) (by rw [lineL_size hok.1]; omega) ?_
      intro wx HB
      replace HB := HB.castH (H' := [(R.lb, .cells (lineL (linesC A) { ws := [x0, x1, x2, x3, x4, x5, x6, x7], c := enc [x0, x1, x2, x3, x4, x5, x6, x7], ps := [], mark := 0 } Row.none (linesC B ++ R.junk)) 184)]) (by
        have e1 := wr_lineAll (a := linesC A) (l := l) (l' := { ws := [x0, x1, x2, x3, x4, x5, x6, x7], c := enc [x0, x1, x2, x3, x4, x5, x6, x7], ps := [], mark := 0 }) (r := r) (r' := Row.none) (c := linesC B ++ R.junk) (o := 0 + k * 11) (by omega) hok.1 rfl
        rw [← e1]; rfl)
      refine WL.done (WX.heldOn ⟨_, HB⟩ ?_)
      refine WH.done (by kernel_rfl) ?_
      replace H := H.back (N := []) 2 rfl HB rfl
      refine WX.next ?_
      refine WC.seq ?_
      replace H : St w (R.hp.map Prod.fst) wx ((b5, .cells (arrC [x0, x1, x2, x3, x4, x5, x6, x7]) 38) :: qhp R.p R.lb R.X.length R.lcap R.span R.er R.evs.length (linesC A) { ws := [x0, x1, x2, x3, x4, x5, x6, x7], c := enc [x0, x1, x2, x3, x4, x5, x6, x7], ps := [], mark := 0 } Row.none (linesC B ++ R.junk) (R.er.hp 164 ++ pendHp A ++ pendHp B)) := H.weaken (List.Sublist.cons_cons _ (List.Sublist.cons_cons _ (List.Sublist.cons_cons _ (List.sublist_append_right _ _))))
      replace H := St.refocusR (L := [_]) hX H
      have hok2 : (R.upd A B { ws := [x0, x1, x2, x3, x4, x5, x6, x7], c := enc [x0, x1, x2, x3, x4, x5, x6, x7], ps := [], mark := 0 } Row.none).ok := hm.ok.upd hX ⟨rfl, hwx, enc_code hwx, Nat.zero_le _, by simp⟩ (fun h => absurd rfl h) ⟨rfl, rfl⟩
      have hel : (R.upd A B { ws := [x0, x1, x2, x3, x4, x5, x6, x7], c := enc [x0, x1, x2, x3, x4, x5, x6, x7], ps := [], mark := 0 } Row.none).evs.length < 1073741824 := hsm
      replace H := H.drew
      refine WC.held (SX (World.drew wx) ((R.upd A B { ws := [x0, x1, x2, x3, x4, x5, x6, x7], c := enc [x0, x1, x2, x3, x4, x5, x6, x7], ps := [], mark := 0 } Row.none).hp.map Prod.fst)) (by kernel_rfl) ?_
      generalize World.drew wx = wb at H ⊢
      have HB : St wb ((R.upd A B { ws := [x0, x1, x2, x3, x4, x5, x6, x7], c := enc [x0, x1, x2, x3, x4, x5, x6, x7], ps := [], mark := 0 } Row.none).hp.map Prod.fst) wb (R.upd A B { ws := [x0, x1, x2, x3, x4, x5, x6, x7], c := enc [x0, x1, x2, x3, x4, x5, x6, x7], ps := [], mark := 0 } Row.none).hp := St.start H.tail.nd H.tail.sat
      refine WH.take 0 rfl (by kernel_rfl) (by kernel_rfl) (by kernel_rfl) (fun _ _ _ h => h) ⟨_, HB⟩ (fun w' hS => EX.move rfl) rfl ?_
      refine WH.take 1 rfl (by kernel_rfl) (by kernel_rfl) (by kernel_rfl) (fun _ _ _ h => h) ⟨_, HB⟩ (fun w' hS => EX.move rfl) rfl ?_
      refine WH.take 2 rfl (by kernel_rfl) (by kernel_rfl) (by kernel_rfl) (fun _ _ _ h => h) ⟨_, HB⟩ (fun w' hS => EX.nilCheck rfl) rfl ?_
      refine WH.take 3 rfl (by kernel_rfl) (by kernel_rfl) (by kernel_rfl) (fun _ _ _ h => h) ⟨_, HB⟩ (fun w' hS => EX.fieldAddr fld89_2 rfl) rfl ?_
      refine WH.take 5 rfl (by kernel_rfl) (by kernel_rfl) (by kernel_rfl) (fun _ _ _ h => h) ⟨_, HB⟩ (fun w' hS => EX.move rfl) rfl ?_
      first | refine WH.take 6 rfl (by kernel_rfl) (by kernel_rfl) (by kernel_rfl) (fun _ _ _ h => h) ⟨_, HB⟩ (fun w' hS => EX.load rfl (hS.rdArr ty38 (H.blk 0 rfl) (List.nodup_cons.1 H.nd).1 rfl)) rfl ?_
      refine WH.take 7 rfl (by kernel_rfl) (by kernel_rfl) (by kernel_rfl) (fun _ _ _ h => h) ⟨_, HB⟩ (fun w' hS => EX.build (z := z164) pla164 zer164 rfl (fill_heal _ _ _ _ _ _ _ _ _ _)) rfl ?_
      refine WH.hard2 4 8 rfl rfl (by kernel_rfl) ?_ ?_
      · -- op 4 first
        first | refine WL.load rfl (Rd.q2 (HB.blk 0 rfl)) rfl ?_ | refine WL.load rfl (Rd.q2 (HB.blk 1 rfl)) rfl ?_
        refine WL.done (WX.heldOn ⟨_, HB⟩ ?_)
        refine WH.hard 8 rfl (by kernel_rfl) ?_
        refine WL.buildSlice1 HB Tryd.underlying30 (sz := 12) (by simp only [Tryd.underlying164]; exact ty164) (by omega) zer164 rfl rfl rfl rfl ?_
        intro gn wx hgn hggn HB
        refine WL.done (WX.heldOn ⟨_, HB⟩ ?_)
        refine WH.hard 9 rfl (by kernel_rfl) ?_
        replace HB := St.pull3 (M := ((R.upd A B { ws := [x0, x1, x2, x3, x4, x5, x6, x7], c := enc [x0, x1, x2, x3, x4, x5, x6, x7], ps := [], mark := 0 } Row.none)).er.hp 164) (K := pendHp ((R.upd A B { ws := [x0, x1, x2, x3, x4, x5, x6, x7], c := enc [x0, x1, x2, x3, x4, x5, x6, x7], ps := [], mark := 0 } Row.none)).X) HB
        refine WL.append (m := 1) (news := intsC [6, (k : Int), 0, 0, x0, x1, x2, x3, x4, x5, x6, x7]) app30 HB hok2.er rfl rfl rfl (fun j u hj => by rw [addr_add, cell_of (HB.sat _ (List.mem_append_right _ List.mem_cons_self)), Nat.zero_add]; simpa [intsC, Value.cells, arrC, RR.upd] using hj) (intsC_one _) (by simp only [maxLen]; omega) (by omega) rfl ?_
        intro er wx her HB
        replace HB := St.put3 HB
        refine WL.done (WX.heldOn ⟨_, HB⟩ ?_)
        refine WH.take 10 rfl (by kernel_rfl) (by kernel_rfl) (by kernel_rfl) (fun _ _ _ h => h) ⟨_, HB⟩ (fun w' hS => EX.nilCheck rfl) rfl ?_
        refine WH.take 11 rfl (by kernel_rfl) (by kernel_rfl) (by kernel_rfl) (fun _ _ _ h => h) ⟨_, HB⟩ (fun w' hS => EX.fieldAddr fld89_2 rfl) rfl ?_
        refine WH.hard 12 rfl (by kernel_rfl) ?_
        refine WL.storeAt HB ty30 1 rfl rfl rfl (Row.val_size _ _) (Row.val_one _ _) (Nat.le_refl 3) ?_
        intro wx HB
        replace HB := HB.castH (H' := (gn, _) :: (((R.upd A B { ws := [x0, x1, x2, x3, x4, x5, x6, x7], c := enc [x0, x1, x2, x3, x4, x5, x6, x7], ps := [], mark := 0 } Row.none)).noted [6, (k : Int), 0, 0, x0, x1, x2, x3, x4, x5, x6, x7] er).hp) (by
          rw [Row.val_cells]
          unfold RR.hp structQ
          rw [show (((R.upd A B { ws := [x0, x1, x2, x3, x4, x5, x6, x7], c := enc [x0, x1, x2, x3, x4, x5, x6, x7], ps := [], mark := 0 } Row.none)).noted [6, (k : Int), 0, 0, x0, x1, x2, x3, x4, x5, x6, x7] er).evs.length = ((R.upd A B { ws := [x0, x1, x2, x3, x4, x5, x6, x7], c := enc [x0, x1, x2, x3, x4, x5, x6, x7], ps := [], mark := 0 } Row.none)).evs.length + 1 from by simp [RR.noted]]
          rfl)
        replace HB := HB.tail
        have hok3 : (((R.upd A B { ws := [x0, x1, x2, x3, x4, x5, x6, x7], c := enc [x0, x1, x2, x3, x4, x5, x6, x7], ps := [], mark := 0 } Row.none)).noted [6, (k : Int), 0, 0, x0, x1, x2, x3, x4, x5, x6, x7] er).ok := hok2.noted rfl (by
          have e1 : flatE (((R.upd A B { ws := [x0, x1, x2, x3, x4, x5, x6, x7], c := enc [x0, x1, x2, x3, x4, x5, x6, x7], ps := [], mark := 0 } Row.none)).evs ++ [[6, (k : Int), 0, 0, x0, x1, x2, x3, x4, x5, x6, x7]]) = flatE ((R.upd A B { ws := [x0, x1, x2, x3, x4, x5, x6, x7], c := enc [x0, x1, x2, x3, x4, x5, x6, x7], ps := [], mark := 0 } Row.none)).evs ++ intsC [6, (k : Int), 0, 0, x0, x1, x2, x3, x4, x5, x6, x7] := by rw [flatE_append]; simp [flatE]
          rw [e1]; exact her)
        refine WL.done (WX.heldOn ⟨_, HB⟩ ?_)
        refine WH.done (by kernel_rfl) ?_
        replace H := H.callM (L := [_]) HB
        refine WX.next ?_
        refine WC.seq ?_
        refine WC.region ?_
        refine WL.assign rfl rfl ?_
        refine (WL.done (WX.next ?_))
        refine (WC.ret ?_)
        refine ret_one rfl rfl ?_
        have e1 : R.abs.healErr (k : Int) [x0, x1, x2, x3, x4, x5, x6, x7] = 0 := by unfold PM.healErr; rw [hh, if_pos rfl, hwx]; rfl
        refine ⟨(R.upd A B { ws := [x0, x1, x2, x3, x4, x5, x6, x7], c := enc [x0, x1, x2, x3, x4, x5, x6, x7], ps := [], mark := 0 } Row.none).noted [6, (k : Int), 0, 0, x0, x1, x2, x3, x4, x5, x6, x7] er, by rw [e1], rfl, ?_, hok3, H.tail⟩
        unfold PM.heal
        rw [e1, if_pos rfl, RR.abs_noted, RR.abs_upd hX hA, Int.toNat_natCast]
        rfl
      · -- op 8 first
        refine WL.buildSlice1 HB Tryd.underlying30 (sz := 12) (by simp only [Tryd.underlying164]; exact ty164) (by omega) zer164 rfl rfl rfl rfl ?_
        intro gn wx hgn hggn HB
        refine WL.done (WX.heldOn ⟨_, HB⟩ ?_)
        refine WH.hard 4 rfl (by kernel_rfl) ?_
        first | refine WL.load rfl (Rd.q2 (HB.blk 0 rfl)) rfl ?_ | refine WL.load rfl (Rd.q2 (HB.blk 1 rfl)) rfl ?_
        refine WL.done (WX.heldOn ⟨_, HB⟩ ?_)
        refine WH.hard 9 rfl (by kernel_rfl) ?_
        replace HB := St.pull3 (M := ((R.upd A B { ws := [x0, x1, x2, x3, x4, x5, x6, x7], c := enc [x0, x1, x2, x3, x4, x5, x6, x7], ps := [], mark := 0 } Row.none)).er.hp 164) (K := pendHp ((R.upd A B { ws := [x0, x1, x2, x3, x4, x5, x6, x7], c := enc [x0, x1, x2, x3, x4, x5, x6, x7], ps := [], mark := 0 } Row.none)).X) HB
        refine WL.append (m := 1) (news := intsC [6, (k : Int), 0, 0, x0, x1, x2, x3, x4, x5, x6, x7]) app30 HB hok2.er rfl rfl rfl (fun j u hj => by rw [addr_add, cell_of (HB.sat _ (List.mem_append_right _ List.mem_cons_self)), Nat.zero_add]; simpa [intsC, Value.cells, arrC, RR.upd] using hj) (intsC_one _) (by simp only [maxLen]; omega) (by omega) rfl ?_
        intro er wx her HB
        replace HB := St.put3 HB
        refine WL.done (WX.heldOn ⟨_, HB⟩ ?_)
        refine WH.take 10 rfl (by kernel_rfl) (by kernel_rfl) (by kernel_rfl) (fun _ _ _ h => h) ⟨_, HB⟩ (fun w' hS => EX.nilCheck rfl) rfl ?_
        refine WH.take 11 rfl (by kernel_rfl) (by kernel_rfl) (by kernel_rfl) (fun _ _ _ h => h) ⟨_, HB⟩ (fun w' hS => EX.fieldAddr fld89_2 rfl) rfl ?_
        refine WH.hard 12 rfl (by kernel_rfl) ?_
        refine WL.storeAt HB ty30 1 rfl rfl rfl (Row.val_size _ _) (Row.val_one _ _) (Nat.le_refl 3) ?_
        intro wx HB
        replace HB := HB.castH (H' := (gn, _) :: (((R.upd A B { ws := [x0, x1, x2, x3, x4, x5, x6, x7], c := enc [x0, x1, x2, x3, x4, x5, x6, x7], ps := [], mark := 0 } Row.none)).noted [6, (k : Int), 0, 0, x0, x1, x2, x3, x4, x5, x6, x7] er).hp) (by
          rw [Row.val_cells]
          unfold RR.hp structQ
          rw [show (((R.upd A B { ws := [x0, x1, x2, x3, x4, x5, x6, x7], c := enc [x0, x1, x2, x3, x4, x5, x6, x7], ps := [], mark := 0 } Row.none)).noted [6, (k : Int), 0, 0, x0, x1, x2, x3, x4, x5, x6, x7] er).evs.length = ((R.upd A B { ws := [x0, x1, x2, x3, x4, x5, x6, x7], c := enc [x0, x1, x2, x3, x4, x5, x6, x7], ps := [], mark := 0 } Row.none)).evs.length + 1 from by simp [RR.noted]]
          rfl)
        replace HB := HB.tail
        have hok3 : (((R.upd A B { ws := [x0, x1, x2, x3, x4, x5, x6, x7], c := enc [x0, x1, x2, x3, x4, x5, x6, x7], ps := [], mark := 0 } Row.none)).noted [6, (k : Int), 0, 0, x0, x1, x2, x3, x4, x5, x6, x7] er).ok := hok2.noted rfl (by
          have e1 : flatE (((R.upd A B { ws := [x0, x1, x2, x3, x4, x5, x6, x7], c := enc [x0, x1, x2, x3, x4, x5, x6, x7], ps := [], mark := 0 } Row.none)).evs ++ [[6, (k : Int), 0, 0, x0, x1, x2, x3, x4, x5, x6, x7]]) = flatE ((R.upd A B { ws := [x0, x1, x2, x3, x4, x5, x6, x7], c := enc [x0, x1, x2, x3, x4, x5, x6, x7], ps := [], mark := 0 } Row.none)).evs ++ intsC [6, (k : Int), 0, 0, x0, x1, x2, x3, x4, x5, x6, x7] := by rw [flatE_append]; simp [flatE]
          rw [e1]; exact her)
        refine WL.done (WX.heldOn ⟨_, HB⟩ ?_)
        refine WH.done (by kernel_rfl) ?_
        replace H := H.callM (L := [_]) HB
        refine WX.next ?_
        refine WC.seq ?_
        refine WC.region ?_
        refine WL.assign rfl rfl ?_
        refine (WL.done (WX.next ?_))
        refine (WC.ret ?_)
        refine ret_one rfl rfl ?_
        have e1 : R.abs.healErr (k : Int) [x0, x1, x2, x3, x4, x5, x6, x7] = 0 := by unfold PM.healErr; rw [hh, if_pos rfl, hwx]; rfl
        refine ⟨(R.upd A B { ws := [x0, x1, x2, x3, x4, x5, x6, x7], c := enc [x0, x1, x2, x3, x4, x5, x6, x7], ps := [], mark := 0 } Row.none).noted [6, (k : Int), 0, 0, x0, x1, x2, x3, x4, x5, x6, x7] er, by rw [e1], rfl, ?_, hok3, H.tail⟩
        unfold PM.heal
        rw [e1, if_pos rfl, RR.abs_noted, RR.abs_upd hX hA, Int.toNat_natCast]
        rfl

theorem rrot_any (R : RR) (n : Int) (xs : List Int) (hx8 : xs.length = 8) (bits : Int) (hsm : R.evs.length < 1073741824) (w : World) (hm : RIn w R) : Calls Tryd.prog 133 #[ptr R.p, .int .i64 n, arr xs, .int .i64 bits] w fun e w' => ∃ R' : RR, e = .returned (.int .i64 (R.abs.rotErr n xs bits)) ∧ R'.p = R.p ∧ R'.abs = R.abs.rot n xs bits ∧ R'.ok ∧ St w (R.hp.map Prod.fst) w' R'.hp := by
  refine calls_walk_n (args := [ptr R.p, .int .i64 n, arr xs, .int .i64 bits]) Tryd.func133 rfl rfl rfl ?_
  obtain ⟨x0, x1, x2, x3, x4, x5, x6, x7, rfl⟩ := len8 hx8
  have H := hm.start
  refine WC.seq ?_
  refine WC.region ?_
  refine WL.boxArr H rfl rfl ?_
  intro b6 wx hb6 hge6 H
  refine WL.assign rfl rfl ?_
  refine (WL.done (WX.next ?_))
  refine WC.seq ?_
  refine WC.seq ?_
  refine WC.region ?_
  refine WL.move rfl rfl ?_
  refine WL.move rfl rfl ?_
  refine WL.call call177 rfl rfl ?_
  refine Calls.mono (rhas_any R n _ (RIn.of (L := [_]) H hm.ok)) ?_
  rintro _ wx ⟨rfl, rfl⟩
  refine ⟨_, rfl, ?_⟩
  refine WL.notOp rfl rfl ?_
  refine (WL.done (WX.next ?_))
  first | refine WC.cond_dec rfl (fun c1 => ?_) (fun c1 => ?_) | refine WC.cond rfl (fun c1 => ?_) (fun c1 => ?_)
  · -- c1 T
    have hh : R.abs.has n = false := by cases hh : R.abs.has n <;> simp [hh] at c1 ⊢
    refine WC.seq ?_
    refine WC.region ?_
    refine WL.assign rfl rfl ?_
    refine (WL.done (WX.next ?_))
    refine (WC.ret (WX.then_ret ?_))
    refine ret_one rfl rfl ?_
    have e1 : R.abs.rotErr n [x0, x1, x2, x3, x4, x5, x6, x7] bits = 40 := by unfold PM.rotErr; rw [hh]; rfl
    exact ⟨R, by rw [e1], rfl, by unfold PM.rot; rw [e1, if_neg (by decide)], hm.ok, H.tail⟩
  · -- c1 F
    have hh : R.abs.has n = true := by cases hh : R.abs.has n <;> simp [hh] at c1 ⊢
    obtain ⟨hn0, hn1⟩ := RR.has_iff.1 hh
    obtain ⟨k, rfl⟩ : ∃ k : Nat, n = (k : Int) := ⟨n.toNat, by omega⟩
    obtain ⟨A, l, r, B, hX, hA, hal, hok, hr, hso, hget⟩ := hm.ok.at (k := k) (by omega)
    have hln : R.abs.line (k : Int) = l := RR.abs_line hget
    refine (WC.skip (WX.next ?_))
    refine WC.seq ?_
    refine WC.seq ?_
    refine WC.region ?_
    first | refine WL.load rfl (H.rdArr ty38 0 rfl rfl) rfl ?_ | refine WL.load rfl (H.rd1 ty38 0 rfl rfl) rfl ?_ | refine WL.load rfl (H.rd1 ty38 1 rfl rfl) rfl ?_ | refine WL.load rfl (H.rd1 ty38 2 rfl rfl) rfl ?_ | refine WL.load rfl (H.rdA ty38 0 rfl (by decide)) rfl ?_ | refine WL.load rfl (H.rdA ty38 1 rfl (by decide)) rfl ?_ | refine WL.load rfl (H.rdA ty38 2 rfl (by decide)) rfl ?_
    refine WL.call call99 rfl rfl ?_
    refine Calls.mono (refwords_any [x0, x1, x2, x3, x4, x5, x6, x7] rfl _) ?_
    rintro _ wx ⟨rfl, Hc⟩
    refine ⟨_, rfl, ?_⟩
    replace H := H.call0 Hc
    refine WL.notOp rfl rfl ?_
    refine WL.move rfl rfl ?_
    first | refine WL.splitD (t := 18) rfl (fun g1 => ?_) (fun g1 => ?_) | refine WL.split (t := 18) rfl (fun g1 => ?_) (fun g1 => ?_)
    · -- g1 True
      refine WL.no rfl rfl rfl ?_
      refine WL.no rfl rfl rfl ?_
      refine WL.pickT rfl rfl rfl ?_
      refine WL.move rfl rfl ?_
      refine WL.no rfl rfl rfl ?_
      refine WL.no rfl rfl rfl ?_
      refine WL.pickT rfl rfl rfl ?_
      refine (WL.done (WX.next ?_))
      refine WC.cond_true rfl (rfl) ?_
      refine WC.seq ?_
      refine WC.region ?_
      refine WL.assign rfl rfl ?_
      refine (WL.done (WX.next ?_))
      refine (WC.ret (WX.then_ret ?_))
      refine ret_one rfl rfl ?_
      have hxw : isWords [x0, x1, x2, x3, x4, x5, x6, x7] = false := by simpa only [Bool.not_eq_true'] using g1
      have e1 : R.abs.rotErr (k : Int) [x0, x1, x2, x3, x4, x5, x6, x7] bits = 1 := by unfold PM.rotErr; rw [hh, if_pos rfl, hxw]; rfl
      exact ⟨R, by rw [e1], rfl, by unfold PM.rot; rw [e1, if_neg (by decide)], hm.ok, H.tail⟩
    · -- g1 False
      refine WL.yes rfl rfl ?_
      refine WL.move rfl rfl ?_
      refine WL.yes rfl rfl ?_
      refine WL.bin rfl rfl binv_lss rfl ?_
      refine WL.pickF rfl rfl rfl ?_
      refine WL.move rfl rfl ?_
      first | refine WL.splitD (t := 22) rfl (fun g2 => ?_) (fun g2 => ?_) | refine WL.split (t := 22) rfl (fun g2 => ?_) (fun g2 => ?_)
      · -- g2 True
        refine WL.no rfl rfl rfl ?_
        refine WL.no rfl rfl rfl ?_
        refine WL.pickT rfl rfl rfl ?_
        refine (WL.done (WX.next ?_))
        refine WC.cond_true rfl (rfl) ?_
        refine WC.seq ?_
        refine WC.region ?_
        refine WL.assign rfl rfl ?_
        refine (WL.done (WX.next ?_))
        refine (WC.ret (WX.then_ret ?_))
        refine ret_one rfl rfl ?_
        have hcb : isCode bits = false := isCode_no (by omega)
        have e1 : R.abs.rotErr (k : Int) [x0, x1, x2, x3, x4, x5, x6, x7] bits = 1 := by unfold PM.rotErr; rw [hh, if_pos rfl, hcb, Bool.and_false]; rfl
        exact ⟨R, by rw [e1], rfl, by unfold PM.rot; rw [e1, if_neg (by decide)], hm.ok, H.tail⟩
      · -- g2 False
        refine WL.yes rfl rfl ?_
        refine WL.move rfl rfl ?_
        refine WL.yes rfl rfl ?_
        refine WL.bin rfl rfl binv_gtr rfl ?_
        refine WL.pickF rfl rfl rfl ?_
        refine (WL.done (WX.next ?_))
        first | refine WC.cond_dec rfl (fun c4 => ?_) (fun c4 => ?_) | refine WC.cond rfl (fun c4 => ?_) (fun c4 => ?_)
        · -- c4 T
          refine WC.seq ?_
          refine WC.region ?_
          refine WL.assign rfl rfl ?_
          refine (WL.done (WX.next ?_))
          refine (WC.ret (WX.then_ret ?_))
          refine ret_one rfl rfl ?_
          have hcb : isCode bits = false := isCode_no (by omega)
          have e1 : R.abs.rotErr (k : Int) [x0, x1, x2, x3, x4, x5, x6, x7] bits = 1 := by unfold PM.rotErr; rw [hh, if_pos rfl, hcb, Bool.and_false]; rfl
          exact ⟨R, by rw [e1], rfl, by unfold PM.rot; rw [e1, if_neg (by decide)], hm.ok, H.tail⟩
        · -- c4 F
          refine (WC.skip (WX.next ?_))
          refine WC.seq ?_
          refine WC.seq ?_
          refine WC.region ?_
          replace H := St.focusR (L := [(b6, .cells (arrC [x0, x1, x2, x3, x4, x5, x6, x7]) 38)]) hX H
          have hwx : isWords [x0, x1, x2, x3, x4, x5, x6, x7] = true := by simpa only [Bool.not_eq_false'] using g1
          have hcb : isCode bits = true := isCode_iff.2 (by omega)
          have hlc := isCode_iff.1 hok.2.2.1
          have hlc2 : l.c.toNat ^^^ bits.toNat < 2 ^ 10 := Nat.xor_lt_two_pow (by omega) (by omega)
          refine WL.move rfl rfl ?_
          first | refine WL.nilCheck rfl rfl ?_ | refine WL.nilCheckFn rfl rfl ?_
          refine WL.fieldAddr fld89_0 rfl rfl ?_
          first | refine WL.load rfl (Rd.q0 (H.blk 1 rfl)) rfl ?_ | refine WL.load rfl (H.rd1 ty87 0 rfl rfl) rfl ?_ | refine WL.load rfl (H.rd1 ty87 1 rfl rfl) rfl ?_ | refine WL.load rfl (H.rd1 ty87 2 rfl rfl) rfl ?_ | refine WL.load rfl (H.rdA ty87 0 rfl (by decide)) rfl ?_ | refine WL.load rfl (H.rdA ty87 1 rfl (by decide)) rfl ?_ | refine WL.load rfl (H.rdA ty87 2 rfl (by decide)) rfl ?_
          refine WL.move rfl rfl ?_
          refine WL.idxSlc (k := k) slc87 rfl rfl (by first | rfl | omega) (by omega) rfl ?_
          refine WL.fieldAddr fld184_2 rfl rfl ?_
          first | refine WL.load rfl (Rd.lineS ty52 (H.blk 2 rfl) (by omega) hok.1) rfl ?_
          refine WL.lenR isl52 rfl rfl ?_
          refine WL.bin rfl rfl binv_gtr rfl ?_
          refine (WL.done (WX.next ?_))
          first | refine WC.cond_dec rfl (fun c5 => ?_) (fun c5 => ?_) | refine WC.cond rfl (fun c5 => ?_) (fun c5 => ?_)
          · -- c5 T
            refine WC.seq ?_
            refine WC.region ?_
            refine WL.assign rfl rfl ?_
            refine (WL.done (WX.next ?_))
            refine (WC.ret (WX.then_ret ?_))
            refine ret_one rfl rfl ?_
            have hp : ¬ l.ps = [] := fun h => by rw [h] at c5; exact absurd c5 (by simp)
            have e1 : R.abs.rotErr (k : Int) [x0, x1, x2, x3, x4, x5, x6, x7] bits = 4 := by unfold PM.rotErr; rw [hh, if_pos rfl, hwx, hcb, Bool.and_true, if_pos rfl, hln, if_neg hp]
            exact ⟨R, by rw [e1], rfl, by unfold PM.rot; rw [e1, if_neg (by decide)], hm.ok, (St.unfocusR (L := [_]) hX H).tail⟩
          · -- c5 F
            refine (WC.skip (WX.next ?_))
            refine WC.seq ?_
            refine WC.region ?_
            refine WL.move rfl rfl ?_
            first | refine WL.nilCheck rfl rfl ?_ | refine WL.nilCheckFn rfl rfl ?_
            refine WL.fieldAddr fld89_0 rfl rfl ?_
            first | refine WL.load rfl (Rd.q0 (H.blk 1 rfl)) rfl ?_ | refine WL.load rfl (H.rd1 ty87 0 rfl rfl) rfl ?_ | refine WL.load rfl (H.rd1 ty87 1 rfl rfl) rfl ?_ | refine WL.load rfl (H.rd1 ty87 2 rfl rfl) rfl ?_ | refine WL.load rfl (H.rdA ty87 0 rfl (by decide)) rfl ?_ | refine WL.load rfl (H.rdA ty87 1 rfl (by decide)) rfl ?_ | refine WL.load rfl (H.rdA ty87 2 rfl (by decide)) rfl ?_
            refine WL.move rfl rfl ?_
            refine WL.idxSlc (k := k) slc87 rfl rfl (by first | rfl | omega) (by omega) rfl ?_
            first | refine WL.load rfl (Rd.lineAll ty184 (H.blk 2 rfl) (by omega) hok.1) rfl ?_
            refine WL.alloc H zer184 rfl ?_
            intro b9 wx hb9 hge9 H
            refine WL.storeAt H ty184 0 rfl rfl rfl (by show (lineC l r).toArray.size = 11; simp [lineC_length hok.1]) (fun u hu => lineC_one l r u (by simpa [Value.cells] using hu)) (Nat.le_refl 11) ?_
            intro wx H
            replace H := H.castH (H' := (b9, .cells (lineL [] l r []) 184) :: (b6, .cells (arrC [x0, x1, x2, x3, x4, x5, x6, x7]) 38) :: (R.p, structQ R.lb R.X.length R.lcap R.span R.er R.evs.length) :: (R.lb, .cells (lineL (linesC A) l r (linesC B ++ R.junk)) 184) :: (r.hp 111 ++ (R.er.hp 164 ++ pendHp A ++ pendHp B))) (by
              have e1 := lineL_copy (z := #[.int .i64 0, .int .i64 0, .int .i64 0, .int .i64 0, .int .i64 0, .int .i64 0, .int .i64 0, .int .i64 0, .int .i64 0, .slice none 0 0, .int .i64 0]) (l := l) (r := r) rfl hok.1
              rw [← e1]; rfl)
            refine (WL.done (WX.next ?_))
            refine WC.seq ?_
            refine WC.seq ?_
            refine WC.region ?_
            refine WL.assign rfl rfl ?_
            refine (WL.done (WX.next ?_))
            refine WC.block ?_
            -- loop 1: changed [10] kept [0, 1, 3, 6, 9]
            refine WC.loop (Sub.cons (t := 0) rfl (Sub.cons (t := 1) rfl (Sub.cons (t := 3) rfl (Sub.cons (t := 6) rfl (Sub.cons (t := 9) rfl (Sub.nil _)))))) (fun i : Nat => [(10, .int .i64 (i : Int))]) (fun q i wx => q = 8 - i ∧ i ≤ 8 ∧ St w (R.hp.map Prod.fst) wx ((b9, .cells (lineL [] { l with ws := xorTo l.ws [x0, x1, x2, x3, x4, x5, x6, x7] i } r []) 184) :: (b6, .cells (arrC [x0, x1, x2, x3, x4, x5, x6, x7]) 38) :: (R.p, structQ R.lb R.X.length R.lcap R.span R.er R.evs.length) :: (R.lb, .cells (lineL (linesC A) l r (linesC B ++ R.junk)) 184) :: (r.hp 111 ++ (R.er.hp 164 ++ pendHp A ++ pendHp B)))) (8) (0) (Sub.cons (t := 10) (by first | rfl | simp) (Sub.nil _)) (⟨rfl, by omega, H⟩) ?_
            rintro k g wx hI N hN
            obtain ⟨rfl, hg, H⟩ := hI
            refine WC.seq ?_
            refine WC.seq ?_
            refine WC.region ?_
            refine WL.move rfl rfl ?_
            refine WL.bin rfl rfl binv_lss rfl ?_
            refine (WL.done (WX.next ?_))
            first | refine WC.cond_dec rfl (fun c6 => ?_) (fun c6 => ?_) | refine WC.cond rfl (fun c6 => ?_) (fun c6 => ?_)
            · -- c6 T
              refine (WC.skip (WX.next ?_))
              refine WC.seq ?_
              refine WC.block ?_
              replace H := H.drew
              have hv1 := word_nat (xorTo_words hok.1 hx8 hok.2.1 hwx g (by omega)) (i := g) (by rw [xorTo_len, hok.1]; omega)
              have hv2 := word_nat hwx (i := g) (by simp; omega)
              refine WC.held (SX (World.drew wx) [b9]) (by kernel_rfl) ?_
              generalize World.drew wx = wb at H ⊢
              have HB := H.single 0 rfl
              refine WH.take 0 rfl (by kernel_rfl) (by kernel_rfl) (by kernel_rfl) (fun _ _ _ h => h) ⟨_, HB⟩ (fun w' hS => EX.move rfl) rfl ?_
              refine WH.take 1 rfl (by kernel_rfl) (by kernel_rfl) (by kernel_rfl) (fun _ _ _ h => h) ⟨_, HB⟩ (fun w' hS => EX.move rfl) rfl ?_
              refine WH.take 2 rfl (by kernel_rfl) (by kernel_rfl) (by kernel_rfl) (fun _ _ _ h => h) ⟨_, HB⟩ (fun w' hS => EX.fieldAddr fld184_0 rfl) rfl ?_
              refine WH.take 3 rfl (by kernel_rfl) (by kernel_rfl) (by kernel_rfl) (fun _ _ _ h => h) ⟨_, HB⟩ (fun w' hS => EX.idxArr (k := g) arr38 rfl rfl (by first | rfl | omega) (by omega)) rfl ?_
              refine WH.take 5 rfl (by kernel_rfl) (by kernel_rfl) (by kernel_rfl) (fun _ _ _ h => h) ⟨_, HB⟩ (fun w' hS => EX.move rfl) rfl ?_
              refine WH.take 6 rfl (by kernel_rfl) (by kernel_rfl) (by kernel_rfl) (fun _ _ _ h => h) ⟨_, HB⟩ (fun w' hS => EX.idxArr (k := g) arr38 rfl rfl (by first | rfl | omega) (by omega)) rfl ?_
              first | refine WH.take 7 rfl (by kernel_rfl) (by kernel_rfl) (by kernel_rfl) (fun _ _ _ h => h) ⟨_, HB⟩ (fun w' hS => EX.load rfl ((by rw [Nat.zero_add, Nat.mul_one]; exact hS.rdElt ty3 (H.blk 1 rfl) (by simpa using H.ne 1 0 rfl rfl rfl) (by simp; omega)))) rfl ?_
              refine WH.take 9 rfl (by kernel_rfl) (by kernel_rfl) (by kernel_rfl) (fun _ _ _ h => h) ⟨_, HB⟩ (fun w' hS => EX.fieldAddr fld184_0 rfl) rfl ?_
              refine WH.hard 4 rfl (by kernel_rfl) ?_
              refine WL.load rfl (Rd.lineWi ty3 (a := []) (c := []) (HB.blk 0 rfl) (i := g) (by simp) (by rw [xorTo_len, hok.1]; omega)) rfl ?_
              refine WL.done (WX.heldOn ⟨_, HB⟩ ?_)
              refine WH.take 8 rfl (by kernel_rfl) (by kernel_rfl) (by kernel_rfl) (fun _ _ _ h => h) ⟨_, HB⟩ (fun w' hS => EX.bin rfl rfl (ixorN (a := ((xorTo l.ws [x0, x1, x2, x3, x4, x5, x6, x7] g).getD g 0).toNat) (b := (([x0, x1, x2, x3, x4, x5, x6, x7]).getD g 0).toNat) hv1.2 hv2.2 (by omega) (by omega))) rfl ?_
              refine WH.take 10 rfl (by kernel_rfl) (by kernel_rfl) (by kernel_rfl) (fun _ _ _ h => h) ⟨_, HB⟩ (fun w' hS => EX.idxArr (k := g) arr38 rfl rfl (by first | rfl | omega) (by omega)) rfl ?_
              refine WH.hard 11 rfl (by kernel_rfl) ?_
              refine WL.storeAt HB ty3 0 rfl rfl rfl rfl (by simp [Value.cells, Value.oneCell']) (by rw [lineL_size (by rw [xorTo_len]; exact hok.1)]; simp; omega) ?_
              intro wx HB
              replace HB := HB.castH (H' := [(b9, .cells (lineL [] { l with ws := xorTo l.ws [x0, x1, x2, x3, x4, x5, x6, x7] (g + 1) } r []) 184)]) (by
                have e1 := wr_lineWi (a := []) (l := { l with ws := xorTo l.ws [x0, x1, x2, x3, x4, x5, x6, x7] g }) (r := r) (c := []) (o := 0 + 0 + g * 1) (i := g) (z := ((((xorTo l.ws [x0, x1, x2, x3, x4, x5, x6, x7] g).getD g 0).toNat ^^^ (([x0, x1, x2, x3, x4, x5, x6, x7]).getD g 0).toNat : Nat) : Int)) (by simp) (by rw [xorTo_len, hok.1]; omega)
                exact congrArg (fun c => [(b9, Obj.cells c 184)]) e1)
              refine WL.done (WX.heldOn ⟨_, HB⟩ ?_)
              refine WH.done (by kernel_rfl) ?_
              replace H := H.back (N := []) 0 rfl HB rfl
              refine (WX.block_normal (WX.next ?_))
              refine WC.region ?_
              refine WL.move rfl rfl ?_
              refine WL.bin rfl rfl (iadd (by omega) (by omega)) rfl ?_
              refine WL.assign rfl rfl ?_
              refine (WL.done (WX.round ?_))
              exact hN _ (g+1) _ _ (by omega) ⟨rfl, by omega, H⟩ (Sub.cons (t := 10) (by first | rfl | simp) (Sub.nil _)) (Sub.cons (t := 0) rfl (Sub.cons (t := 1) rfl (Sub.cons (t := 3) rfl (Sub.cons (t := 6) rfl (Sub.cons (t := 9) rfl (Sub.nil _))))))
            · -- c6 F
              obtain rfl : g = 8 := by omega
              refine (WC.exit (WX.then_exit (WX.then_exit (WX.block_exit (WX.next ?_)))))
              refine WC.seq ?_
              refine WC.region ?_
              refine WL.fieldAddr fld184_1 rfl rfl ?_
              first | refine WL.load rfl (Rd.lineCo ty3 (a := []) (c := []) (H.blk 0 rfl) rfl (by rw [xorTo_len]; exact hok.1)) rfl ?_
              refine WL.move rfl rfl ?_
              refine WL.bin rfl rfl (ixorN (a := l.c.toNat) (b := bits.toNat) (by show l.c = _; omega) (by omega) (by omega) (by omega)) rfl ?_
              refine WL.fieldAddr fld184_1 rfl rfl ?_
              refine WL.storeAt H ty3 0 rfl rfl rfl rfl (by simp [Value.cells, Value.oneCell']) (by rw [lineL_size (by rw [xorTo_len]; exact hok.1)]; simp) ?_
              intro wx H
              replace H := H.castH (H' := (b9, .cells (lineL [] { l with ws := xorTo l.ws [x0, x1, x2, x3, x4, x5, x6, x7] 8, c := ((l.c.toNat ^^^ bits.toNat : Nat) : Int) } r []) 184) :: (b6, .cells (arrC [x0, x1, x2, x3, x4, x5, x6, x7]) 38) :: (R.p, structQ R.lb R.X.length R.lcap R.span R.er R.evs.length) :: (R.lb, .cells (lineL (linesC A) l r (linesC B ++ R.junk)) 184) :: (r.hp 111 ++ (R.er.hp 164 ++ pendHp A ++ pendHp B))) (by
                have e1 := wr_lineC (a := []) (l := { l with ws := xorTo l.ws [x0, x1, x2, x3, x4, x5, x6, x7] 8 }) (r := r) (c := []) (o := 0 + 8) (z := ((l.c.toNat ^^^ bits.toNat : Nat) : Int)) rfl (by rw [xorTo_len]; exact hok.1)
                rw [← e1]; rfl)
              refine (WL.done (WX.next ?_))
              refine WC.seq ?_
              have hlr8 : (xorTo l.ws [x0, x1, x2, x3, x4, x5, x6, x7] 8).length = 8 := by rw [xorTo_len]; exact hok.1
              replace H := H.drew
              refine WC.held (SX (World.drew wx) [R.lb]) (by kernel_rfl) ?_
              generalize World.drew wx = wb at H ⊢
              have HB := H.single 3 rfl
              refine WH.take 0 rfl (by kernel_rfl) (by kernel_rfl) (by kernel_rfl) (fun _ _ _ h => h) ⟨_, HB⟩ (fun w' hS => EX.move rfl) rfl ?_
              refine WH.take 1 rfl (by kernel_rfl) (by kernel_rfl) (by kernel_rfl) (fun _ _ _ h => h) ⟨_, HB⟩ (fun w' hS => EX.nilCheck rfl) rfl ?_
              refine WH.take 2 rfl (by kernel_rfl) (by kernel_rfl) (by kernel_rfl) (fun _ _ _ h => h) ⟨_, HB⟩ (fun w' hS => EX.fieldAddr fld89_0 rfl) rfl ?_
              first | refine WH.take 3 rfl (by kernel_rfl) (by kernel_rfl) (by kernel_rfl) (fun _ _ _ h => h) ⟨_, HB⟩ (fun w' hS => EX.load rfl (Rd.q0 (hS.block (H.blk 2 rfl) (by simpa using H.ne 2 3 rfl rfl rfl)))) rfl ?_
              refine WH.take 4 rfl (by kernel_rfl) (by kernel_rfl) (by kernel_rfl) (fun _ _ _ h => h) ⟨_, HB⟩ (fun w' hS => EX.move rfl) rfl ?_
              first | refine WH.take 5 rfl (by kernel_rfl) (by kernel_rfl) (by kernel_rfl) (fun _ _ _ h => h) ⟨_, HB⟩ (fun w' hS => EX.load rfl (Rd.lineAll ty184 (a := []) (c := []) (hS.block (H.blk 0 rfl) (by simpa using H.ne 0 3 rfl rfl rfl)) rfl hlr8)) rfl ?_
              refine WH.take 6 rfl (by kernel_rfl) (by kernel_rfl) (by kernel_rfl) (fun _ _ _ h => h) ⟨_, HB⟩ (fun w' hS => EX.idxSlc (k := k) slc87 rfl rfl (by first | rfl | omega) (by omega)) rfl ?_
              refine WH.hard 7 rfl (by kernel_rfl) ?_
              refine WL.storeAt HB ty184 0 rfl rfl rfl (by show (lineC { l with ws := xorTo l.ws [x0, x1, x2, x3, x4, x5, x6, x7] 8, c := ((l.c.toNat ^^^ bits.toNat : Nat) : Int) } r).toArray.size = 11; rw [List.size_toArray]; exact lineC_length hlr8) (fun u hu => lineC_one { l with ws := xorTo l.ws [x0, x1, x2, x3, x4, x5, x6, x7] 8, c := ((l.c.toNat ^^^ bits.toNat : Nat) : Int) } r u (by simpa [Value.cells] using hu)) (by rw [lineL_size hok.1]; omega) ?_
              intro wx HB
              replace HB := HB.castH (H' := [(R.lb, .cells (lineL (linesC A) { l with ws := xorTo l.ws [x0, x1, x2, x3, x4, x5, x6, x7] 8, c := ((l.c.toNat ^^^ bits.toNat : Nat) : Int) } r (linesC B ++ R.junk)) 184)]) (by
                have e1 := wr_lineAll (a := linesC A) (l := l) (l' := { l with ws := xorTo l.ws [x0, x1, x2, x3, x4, x5, x6, x7] 8, c := ((l.c.toNat ^^^ bits.toNat : Nat) : Int) }) (r := r) (r' := r) (c := linesC B ++ R.junk) (o := 0 + k * 11) (by omega) hok.1 hlr8
                rw [← e1]; rfl)
              refine WL.done (WX.heldOn ⟨_, HB⟩ ?_)
              refine WH.done (by kernel_rfl) ?_
              replace H := H.back (N := []) 3 rfl HB rfl
              refine WX.next ?_
              refine WC.seq ?_
              replace H := H.tail
              replace H := St.refocusR (L := [_]) hX H
              have hok2 : (R.upd A B { l with ws := xorTo l.ws [x0, x1, x2, x3, x4, x5, x6, x7] 8, c := ((l.c.toNat ^^^ bits.toNat : Nat) : Int) } r).ok := hm.ok.upd hX ⟨hlr8, xorTo_words hok.1 hx8 hok.2.1 hwx 8 (Nat.le_refl _), isCode_iff.2 (by show 0 ≤ ((l.c.toNat ^^^ bits.toNat : Nat) : Int) ∧ ((l.c.toNat ^^^ bits.toNat : Nat) : Int) ≤ 1023; omega), hok.2.2.2.1, hok.2.2.2.2⟩ (fun h => absurd (List.eq_nil_of_length_eq_zero (show l.ps.length = 0 by omega)) h) hr
              have hel : (R.upd A B { l with ws := xorTo l.ws [x0, x1, x2, x3, x4, x5, x6, x7] 8, c := ((l.c.toNat ^^^ bits.toNat : Nat) : Int) } r).evs.length < 1073741824 := hsm
              replace H := H.drew
              refine WC.held (SX (World.drew wx) ((R.upd A B { l with ws := xorTo l.ws [x0, x1, x2, x3, x4, x5, x6, x7] 8, c := ((l.c.toNat ^^^ bits.toNat : Nat) : Int) } r).hp.map Prod.fst)) (by kernel_rfl) ?_
              generalize World.drew wx = wb at H ⊢
              have HB : St wb ((R.upd A B { l with ws := xorTo l.ws [x0, x1, x2, x3, x4, x5, x6, x7] 8, c := ((l.c.toNat ^^^ bits.toNat : Nat) : Int) } r).hp.map Prod.fst) wb (R.upd A B { l with ws := xorTo l.ws [x0, x1, x2, x3, x4, x5, x6, x7] 8, c := ((l.c.toNat ^^^ bits.toNat : Nat) : Int) } r).hp := St.start H.tail.nd H.tail.sat
              refine WH.take 0 rfl (by kernel_rfl) (by kernel_rfl) (by kernel_rfl) (fun _ _ _ h => h) ⟨_, HB⟩ (fun w' hS => EX.move rfl) rfl ?_
              refine WH.take 1 rfl (by kernel_rfl) (by kernel_rfl) (by kernel_rfl) (fun _ _ _ h => h) ⟨_, HB⟩ (fun w' hS => EX.move rfl) rfl ?_
              refine WH.take 2 rfl (by kernel_rfl) (by kernel_rfl) (by kernel_rfl) (fun _ _ _ h => h) ⟨_, HB⟩ (fun w' hS => EX.nilCheck rfl) rfl ?_
              refine WH.take 3 rfl (by kernel_rfl) (by kernel_rfl) (by kernel_rfl) (fun _ _ _ h => h) ⟨_, HB⟩ (fun w' hS => EX.fieldAddr fld89_2 rfl) rfl ?_
              refine WH.take 5 rfl (by kernel_rfl) (by kernel_rfl) (by kernel_rfl) (fun _ _ _ h => h) ⟨_, HB⟩ (fun w' hS => EX.move rfl) rfl ?_
              first | refine WH.take 6 rfl (by kernel_rfl) (by kernel_rfl) (by kernel_rfl) (fun _ _ _ h => h) ⟨_, HB⟩ (fun w' hS => EX.load rfl (hS.rdArr ty38 (H.blk 0 rfl) (List.nodup_cons.1 H.nd).1 rfl)) rfl ?_
              refine WH.take 7 rfl (by kernel_rfl) (by kernel_rfl) (by kernel_rfl) (fun _ _ _ h => h) ⟨_, HB⟩ (fun w' hS => EX.move rfl) rfl ?_
              refine WH.take 8 rfl (by kernel_rfl) (by kernel_rfl) (by kernel_rfl) (fun _ _ _ h => h) ⟨_, HB⟩ (fun w' hS => EX.build (z := z164) pla164 zer164 rfl (fill_rot _ _ _ _ _ _ _ _ _ _ _)) rfl ?_
              refine WH.hard2 4 9 rfl rfl (by kernel_rfl) ?_ ?_
              · -- op 4 first
                first | refine WL.load rfl (Rd.q2 (HB.blk 0 rfl)) rfl ?_ | refine WL.load rfl (Rd.q2 (HB.blk 1 rfl)) rfl ?_
                refine WL.done (WX.heldOn ⟨_, HB⟩ ?_)
                refine WH.hard 9 rfl (by kernel_rfl) ?_
                refine WL.buildSlice1 HB Tryd.underlying30 (sz := 12) (by simp only [Tryd.underlying164]; exact ty164) (by omega) zer164 rfl rfl rfl rfl ?_
                intro gn wx hgn hggn HB
                refine WL.done (WX.heldOn ⟨_, HB⟩ ?_)
                refine WH.hard 10 rfl (by kernel_rfl) ?_
                replace HB := St.pull3 (M := ((R.upd A B { l with ws := xorTo l.ws [x0, x1, x2, x3, x4, x5, x6, x7] 8, c := ((l.c.toNat ^^^ bits.toNat : Nat) : Int) } r)).er.hp 164) (K := pendHp ((R.upd A B { l with ws := xorTo l.ws [x0, x1, x2, x3, x4, x5, x6, x7] 8, c := ((l.c.toNat ^^^ bits.toNat : Nat) : Int) } r)).X) HB
                refine WL.append (m := 1) (news := intsC [7, (k : Int), bits, 0, x0, x1, x2, x3, x4, x5, x6, x7]) app30 HB hok2.er rfl rfl rfl (fun j u hj => by rw [addr_add, cell_of (HB.sat _ (List.mem_append_right _ List.mem_cons_self)), Nat.zero_add]; simpa [intsC, Value.cells, arrC, RR.upd] using hj) (intsC_one _) (by simp only [maxLen]; omega) (by omega) rfl ?_
                intro er wx her HB
                replace HB := St.put3 HB
                refine WL.done (WX.heldOn ⟨_, HB⟩ ?_)
                refine WH.take 11 rfl (by kernel_rfl) (by kernel_rfl) (by kernel_rfl) (fun _ _ _ h => h) ⟨_, HB⟩ (fun w' hS => EX.nilCheck rfl) rfl ?_
                refine WH.take 12 rfl (by kernel_rfl) (by kernel_rfl) (by kernel_rfl) (fun _ _ _ h => h) ⟨_, HB⟩ (fun w' hS => EX.fieldAddr fld89_2 rfl) rfl ?_
                refine WH.hard 13 rfl (by kernel_rfl) ?_
                refine WL.storeAt HB ty30 1 rfl rfl rfl (Row.val_size _ _) (Row.val_one _ _) (Nat.le_refl 3) ?_
                intro wx HB
                replace HB := HB.castH (H' := (gn, _) :: (((R.upd A B { l with ws := xorTo l.ws [x0, x1, x2, x3, x4, x5, x6, x7] 8, c := ((l.c.toNat ^^^ bits.toNat : Nat) : Int) } r)).noted [7, (k : Int), bits, 0, x0, x1, x2, x3, x4, x5, x6, x7] er).hp) (by
                  rw [Row.val_cells]
                  unfold RR.hp structQ
                  rw [show (((R.upd A B { l with ws := xorTo l.ws [x0, x1, x2, x3, x4, x5, x6, x7] 8, c := ((l.c.toNat ^^^ bits.toNat : Nat) : Int) } r)).noted [7, (k : Int), bits, 0, x0, x1, x2, x3, x4, x5, x6, x7] er).evs.length = ((R.upd A B { l with ws := xorTo l.ws [x0, x1, x2, x3, x4, x5, x6, x7] 8, c := ((l.c.toNat ^^^ bits.toNat : Nat) : Int) } r)).evs.length + 1 from by simp [RR.noted]]
                  rfl)
                replace HB := HB.tail
                have hok3 : (((R.upd A B { l with ws := xorTo l.ws [x0, x1, x2, x3, x4, x5, x6, x7] 8, c := ((l.c.toNat ^^^ bits.toNat : Nat) : Int) } r)).noted [7, (k : Int), bits, 0, x0, x1, x2, x3, x4, x5, x6, x7] er).ok := hok2.noted rfl (by
                  have e1 : flatE (((R.upd A B { l with ws := xorTo l.ws [x0, x1, x2, x3, x4, x5, x6, x7] 8, c := ((l.c.toNat ^^^ bits.toNat : Nat) : Int) } r)).evs ++ [[7, (k : Int), bits, 0, x0, x1, x2, x3, x4, x5, x6, x7]]) = flatE ((R.upd A B { l with ws := xorTo l.ws [x0, x1, x2, x3, x4, x5, x6, x7] 8, c := ((l.c.toNat ^^^ bits.toNat : Nat) : Int) } r)).evs ++ intsC [7, (k : Int), bits, 0, x0, x1, x2, x3, x4, x5, x6, x7] := by rw [flatE_append]; simp [flatE]
                  rw [e1]; exact her)
                refine WL.done (WX.heldOn ⟨_, HB⟩ ?_)
                refine WH.done (by kernel_rfl) ?_
                replace H := H.callM (L := [_]) HB
                refine WX.next ?_
                refine WC.seq ?_
                refine WC.region ?_
                refine WL.assign rfl rfl ?_
                refine (WL.done (WX.next ?_))
                refine (WC.ret ?_)
                refine ret_one rfl rfl ?_
                have hp : l.ps = [] := List.eq_nil_of_length_eq_zero (by omega)
                have e1 : R.abs.rotErr (k : Int) [x0, x1, x2, x3, x4, x5, x6, x7] bits = 0 := by unfold PM.rotErr; rw [hh, if_pos rfl, hwx, hcb, Bool.and_true, if_pos rfl, hln, if_pos hp]
                refine ⟨(R.upd A B { l with ws := xorTo l.ws [x0, x1, x2, x3, x4, x5, x6, x7] 8, c := ((l.c.toNat ^^^ bits.toNat : Nat) : Int) } r).noted [7, (k : Int), bits, 0, x0, x1, x2, x3, x4, x5, x6, x7] er, by rw [e1], rfl, ?_, hok3, H.tail⟩
                unfold PM.rot
                rw [e1, if_pos rfl, RR.abs_noted, RR.abs_upd hX hA, hln, Int.toNat_natCast]
                rfl
              · -- op 9 first
                refine WL.buildSlice1 HB Tryd.underlying30 (sz := 12) (by simp only [Tryd.underlying164]; exact ty164) (by omega) zer164 rfl rfl rfl rfl ?_
                intro gn wx hgn hggn HB
                refine WL.done (WX.heldOn ⟨_, HB⟩ ?_)
                refine WH.hard 4 rfl (by kernel_rfl) ?_
                first | refine WL.load rfl (Rd.q2 (HB.blk 0 rfl)) rfl ?_ | refine WL.load rfl (Rd.q2 (HB.blk 1 rfl)) rfl ?_
                refine WL.done (WX.heldOn ⟨_, HB⟩ ?_)
                refine WH.hard 10 rfl (by kernel_rfl) ?_
                replace HB := St.pull3 (M := ((R.upd A B { l with ws := xorTo l.ws [x0, x1, x2, x3, x4, x5, x6, x7] 8, c := ((l.c.toNat ^^^ bits.toNat : Nat) : Int) } r)).er.hp 164) (K := pendHp ((R.upd A B { l with ws := xorTo l.ws [x0, x1, x2, x3, x4, x5, x6, x7] 8, c := ((l.c.toNat ^^^ bits.toNat : Nat) : Int) } r)).X) HB
                refine WL.append (m := 1) (news := intsC [7, (k : Int), bits, 0, x0, x1, x2, x3, x4, x5, x6, x7]) app30 HB hok2.er rfl rfl rfl (fun j u hj => by rw [addr_add, cell_of (HB.sat _ (List.mem_append_right _ List.mem_cons_self)), Nat.zero_add]; simpa [intsC, Value.cells, arrC, RR.upd] using hj) (intsC_one _) (by simp only [maxLen]; omega) (by omega) rfl ?_
                intro er wx her HB
                replace HB := St.put3 HB
                refine WL.done (WX.heldOn ⟨_, HB⟩ ?_)
                refine WH.take 11 rfl (by kernel_rfl) (by kernel_rfl) (by kernel_rfl) (fun _ _ _ h => h) ⟨_, HB⟩ (fun w' hS => EX.nilCheck rfl) rfl ?_
                refine WH.take 12 rfl (by kernel_rfl) (by kernel_rfl) (by kernel_rfl) (fun _ _ _ h => h) ⟨_, HB⟩ (fun w' hS => EX.fieldAddr fld89_2 rfl) rfl ?_
                refine WH.hard 13 rfl (by kernel_rfl) ?_
                refine WL.storeAt HB ty30 1 rfl rfl rfl (Row.val_size _ _) (Row.val_one _ _) (Nat.le_refl 3) ?_
                intro wx HB
                replace HB := HB.castH (H' := (gn, _) :: (((R.upd A B { l with ws := xorTo l.ws [x0, x1, x2, x3, x4, x5, x6, x7] 8, c := ((l.c.toNat ^^^ bits.toNat : Nat) : Int) } r)).noted [7, (k : Int), bits, 0, x0, x1, x2, x3, x4, x5, x6, x7] er).hp) (by
                  rw [Row.val_cells]
                  unfold RR.hp structQ
                  rw [show (((R.upd A B { l with ws := xorTo l.ws [x0, x1, x2, x3, x4, x5, x6, x7] 8, c := ((l.c.toNat ^^^ bits.toNat : Nat) : Int) } r)).noted [7, (k : Int), bits, 0, x0, x1, x2, x3, x4, x5, x6, x7] er).evs.length = ((R.upd A B { l with ws := xorTo l.ws [x0, x1, x2, x3, x4, x5, x6, x7] 8, c := ((l.c.toNat ^^^ bits.toNat : Nat) : Int) } r)).evs.length + 1 from by simp [RR.noted]]
                  rfl)
                replace HB := HB.tail
                have hok3 : (((R.upd A B { l with ws := xorTo l.ws [x0, x1, x2, x3, x4, x5, x6, x7] 8, c := ((l.c.toNat ^^^ bits.toNat : Nat) : Int) } r)).noted [7, (k : Int), bits, 0, x0, x1, x2, x3, x4, x5, x6, x7] er).ok := hok2.noted rfl (by
                  have e1 : flatE (((R.upd A B { l with ws := xorTo l.ws [x0, x1, x2, x3, x4, x5, x6, x7] 8, c := ((l.c.toNat ^^^ bits.toNat : Nat) : Int) } r)).evs ++ [[7, (k : Int), bits, 0, x0, x1, x2, x3, x4, x5, x6, x7]]) = flatE ((R.upd A B { l with ws := xorTo l.ws [x0, x1, x2, x3, x4, x5, x6, x7] 8, c := ((l.c.toNat ^^^ bits.toNat : Nat) : Int) } r)).evs ++ intsC [7, (k : Int), bits, 0, x0, x1, x2, x3, x4, x5, x6, x7] := by rw [flatE_append]; simp [flatE]
                  rw [e1]; exact her)
                refine WL.done (WX.heldOn ⟨_, HB⟩ ?_)
                refine WH.done (by kernel_rfl) ?_
                replace H := H.callM (L := [_]) HB
                refine WX.next ?_
                refine WC.seq ?_
                refine WC.region ?_
                refine WL.assign rfl rfl ?_
                refine (WL.done (WX.next ?_))
                refine (WC.ret ?_)
                refine ret_one rfl rfl ?_
                have hp : l.ps = [] := List.eq_nil_of_length_eq_zero (by omega)
                have e1 : R.abs.rotErr (k : Int) [x0, x1, x2, x3, x4, x5, x6, x7] bits = 0 := by unfold PM.rotErr; rw [hh, if_pos rfl, hwx, hcb, Bool.and_true, if_pos rfl, hln, if_pos hp]
                refine ⟨(R.upd A B { l with ws := xorTo l.ws [x0, x1, x2, x3, x4, x5, x6, x7] 8, c := ((l.c.toNat ^^^ bits.toNat : Nat) : Int) } r).noted [7, (k : Int), bits, 0, x0, x1, x2, x3, x4, x5, x6, x7] er, by rw [e1], rfl, ?_, hok3, H.tail⟩
                unfold PM.rot
                rw [e1, if_pos rfl, RR.abs_noted, RR.abs_upd hX hA, hln, Int.toNat_natCast]
                rfl

end Go.Proofs.YtkncbggnaobgeaaDoor

/- Walks of functions of the program; printed by a program of this session (walk.py) out of hand-written hints. -/
namespace Go.Proofs.YtkncbggnaobgeaaDoor
open Go.RowKit
set_option linter.unusedVariables false
set_option linter.unusedSimpArgs false
set_option maxRecDepth 100000

theorem rcuts_any (R : RR) (A0 : Option Addr) (m cap : Nat) (cuts : List (Int × Int)) (hmc : m = cuts.length) (hm63 : m ≤ 9223372036854775807) (bad : List Nat) (w : World) (hm : RIn w R) (hc0 : CutsIn w A0 cuts bad) : Calls Tryd.prog 181 #[ptr R.p, .slice A0 m cap] w fun e w' => e = .returned (.bool (R.abs.cutsOk cuts)) ∧ St w [] w' [] := by
  refine calls_walk_n (args := [ptr R.p, .slice A0 m cap]) Tryd.func181 rfl rfl rfl ?_
  have H := St.refl w
  refine WC.seq ?_
  refine WC.region ?_
  refine WL.assign rfl rfl ?_
  refine (WL.done (WX.next ?_))
  refine WC.seq ?_
  refine WC.seq ?_
  refine WC.region ?_
  refine WL.assign rfl rfl ?_
  refine (WL.done (WX.next ?_))
  refine WC.block ?_
  -- loop 1: changed [5] kept [0, 1]
  refine WC.loop (Sub.cons (t := 0) rfl (Sub.cons (t := 1) rfl (Sub.nil _))) (fun i : Nat => [(5, .int .i64 (i : Int))]) (fun q i wx => q = m - i ∧ i ≤ m ∧ ((List.range i).all (cutOk R.abs cuts)) = true ∧ St w [] wx []) (m) (0) (Sub.cons (t := 5) (by first | rfl | simp) (Sub.nil _)) (⟨rfl, by omega, by simp, H⟩) ?_
  rintro k g wx hI N hN
  obtain ⟨rfl, hg, hall, H⟩ := hI
  refine WC.seq ?_
  refine WC.seq ?_
  refine WC.region ?_
  refine WL.move rfl rfl ?_
  refine WL.move rfl rfl ?_
  refine WL.lenSlc isl50 rfl rfl ?_
  refine WL.bin rfl rfl binv_lss rfl ?_
  refine (WL.done (WX.next ?_))
  first | refine WC.cond_dec rfl (fun c1 => ?_) (fun c1 => ?_) | refine WC.cond rfl (fun c1 => ?_) (fun c1 => ?_)
  · -- c1 T
    refine (WC.skip (WX.next ?_))
    refine WC.seq ?_
    refine WC.block ?_
    refine WC.seq ?_
    refine WC.seq ?_
    have hlt : g < cuts.length := by omega
    obtain ⟨b, o, cs, t, fr, rfl, hb, hbn, hcs⟩ : ∃ b o cs t fr, A0 = some ⟨b, o, none⟩ ∧ w.heap[b]? = some (.cells cs t fr) ∧ b ∉ bad ∧ ∀ j (h : j < cuts.length), cs[o + j * 2]? = some (.int .i64 (cuts[j]).1) ∧ cs[o + j * 2 + 1]? = some (.int .i64 (cuts[j]).2) := by
      rcases hc0 with h | h
      · rw [h] at hlt; simp at hlt
      · exact h
    replace H := H.drew
    refine WC.held (SX (World.drew wx) []) (by kernel_rfl) ?_
    generalize World.drew wx = wb at H ⊢
    have HB := St.refl wb
    refine WH.take 0 rfl (by kernel_rfl) (by kernel_rfl) (by kernel_rfl) (fun _ _ _ h => h) ⟨_, HB⟩ (fun w' hS => EX.move rfl) rfl ?_
    refine WH.take 1 rfl (by kernel_rfl) (by kernel_rfl) (by kernel_rfl) (fun _ _ _ h => h) ⟨_, HB⟩ (fun w' hS => EX.move rfl) rfl ?_
    refine WH.take 2 rfl (by kernel_rfl) (by kernel_rfl) (by kernel_rfl) (fun _ _ _ h => h) ⟨_, HB⟩ (fun w' hS => EX.move rfl) rfl ?_
    refine WH.take 3 rfl (by kernel_rfl) (by kernel_rfl) (by kernel_rfl) (fun _ _ _ h => h) ⟨_, HB⟩ (fun w' hS => EX.idxSlc (k := g) slc50 rfl rfl (by first | rfl | omega) (by omega)) rfl ?_
    refine WH.take 4 rfl (by kernel_rfl) (by kernel_rfl) (by kernel_rfl) (fun _ _ _ h => h) ⟨_, HB⟩ (fun w' hS => EX.fieldAddr fld109_0 rfl) rfl ?_
    first | refine WH.take 5 rfl (by kernel_rfl) (by kernel_rfl) (by kernel_rfl) (fun _ _ _ h => h) ⟨_, HB⟩ (fun w' hS => EX.load rfl (Rd.one ty3 (by rw [cell_of (hS.block (H.oldBlock hb (by simp)) (by simp)), Nat.add_zero]; exact (hcs (g) (by omega)).1))) rfl ?_
    refine WH.hard 6 rfl (by kernel_rfl) ?_
    refine WL.call call177 rfl rfl ?_
    refine Calls.mono (rhas_any R _ _ (hm.old (H.call0 HB))) ?_
    rintro _ wx ⟨rfl, rfl⟩
    refine ⟨_, rfl, ?_⟩
    refine WL.done (WX.heldOn ⟨_, HB⟩ ?_)
    refine WH.take 7 rfl (by kernel_rfl) (by kernel_rfl) (by kernel_rfl) (fun _ _ _ h => h) ⟨_, HB⟩ (fun w' hS => EX.notOp rfl) rfl ?_
    refine WH.take 8 rfl (by kernel_rfl) (by kernel_rfl) (by kernel_rfl) (fun _ _ _ h => h) ⟨_, HB⟩ (fun w' hS => EX.move rfl) rfl ?_
    first | refine WH.splitD (t := 20) rfl (fun g1 => ?_) (fun g1 => ?_) | refine WH.split (t := 20) rfl (fun g1 => ?_) (fun g1 => ?_)
    · -- g1 True
      refine WH.takeNo 9 rfl (by kernel_rfl) (by kernel_rfl) (by kernel_rfl) (fun _ _ _ h => h) ⟨_, HB⟩ rfl rfl rfl ?_
      refine WH.takeNo 10 rfl (by kernel_rfl) (by kernel_rfl) (by kernel_rfl) (fun _ _ _ h => h) ⟨_, HB⟩ rfl rfl rfl ?_
      refine WH.takeNo 11 rfl (by kernel_rfl) (by kernel_rfl) (by kernel_rfl) (fun _ _ _ h => h) ⟨_, HB⟩ rfl rfl rfl ?_
      refine WH.takeNoU 12 rfl (by kernel_rfl) (by kernel_rfl) (by kernel_rfl) (fun _ _ _ h => h) ⟨_, HB⟩ rfl rfl rfl rfl ?_
      refine WH.takeNoU 13 rfl (by kernel_rfl) (by kernel_rfl) (by kernel_rfl) (fun _ _ _ h => h) ⟨_, HB⟩ rfl rfl rfl rfl ?_
      refine WH.takeNoU 14 rfl (by kernel_rfl) (by kernel_rfl) (by kernel_rfl) (fun _ _ _ h => h) ⟨_, HB⟩ rfl rfl rfl rfl ?_
      refine WH.takeNoU 15 rfl (by kernel_rfl) (by kernel_rfl) (by kernel_rfl) (fun _ _ _ h => h) ⟨_, HB⟩ rfl rfl rfl rfl ?_
      refine WH.takeNoU 16 rfl (by kernel_rfl) (by kernel_rfl) (by kernel_rfl) (fun _ _ _ h => h) ⟨_, HB⟩ rfl rfl rfl rfl ?_
      refine WH.takeNoU 17 rfl (by kernel_rfl) (by kernel_rfl) (by kernel_rfl) (fun _ _ _ h => h) ⟨_, HB⟩ rfl rfl rfl rfl ?_
      refine WH.takeNoU 18 rfl (by kernel_rfl) (by kernel_rfl) (by kernel_rfl) (fun _ _ _ h => h) ⟨_, HB⟩ rfl rfl rfl rfl ?_
      refine WH.takeNoU 19 rfl (by kernel_rfl) (by kernel_rfl) (by kernel_rfl) (fun _ _ _ h => h) ⟨_, HB⟩ rfl rfl rfl rfl ?_
      refine WH.takeNoU 20 rfl (by kernel_rfl) (by kernel_rfl) (by kernel_rfl) (fun _ _ _ h => h) ⟨_, HB⟩ rfl rfl rfl rfl ?_
      refine WH.takeNoU 21 rfl (by kernel_rfl) (by kernel_rfl) (by kernel_rfl) (fun _ _ _ h => h) ⟨_, HB⟩ rfl rfl rfl rfl ?_
      refine WH.takeNoU 22 rfl (by kernel_rfl) (by kernel_rfl) (by kernel_rfl) (fun _ _ _ h => h) ⟨_, HB⟩ rfl rfl rfl rfl ?_
      refine WH.takeNoU 23 rfl (by kernel_rfl) (by kernel_rfl) (by kernel_rfl) (fun _ _ _ h => h) ⟨_, HB⟩ rfl rfl rfl rfl ?_
      refine WH.takeNo 24 rfl (by kernel_rfl) (by kernel_rfl) (by kernel_rfl) (fun _ _ _ h => h) ⟨_, HB⟩ rfl rfl rfl ?_
      refine WH.take 25 rfl (by kernel_rfl) (by kernel_rfl) (by kernel_rfl) (fun _ _ _ h => h) ⟨_, HB⟩ (fun w' hS => EX.pickT rfl rfl) rfl ?_
      refine WH.done (by kernel_rfl) ?_
      replace H := H.call HB
      refine WX.next ?_
      refine WC.cond_true rfl (rfl) ?_
      refine WC.seq ?_
      refine WC.region ?_
      refine WL.assign rfl rfl ?_
      refine (WL.done (WX.next ?_))
      refine (WC.ret (WX.then_ret (WX.block_ret (WX.then_ret (WX.then_ret (WX.block_ret (WX.then_ret ?_)))))))
      refine ret_one rfl rfl ?_
      have e1 : R.abs.cutsOk cuts = false := cutsOk_bad hlt (fun h => by have h2 := (cutOk_iff hlt).1 h; rw [h2.1] at g1; cases g1)
      rw [e1]
      exact ⟨rfl, H⟩
    · -- g1 False
      have hh : R.abs.has (cuts[g]).1 = true := by simpa only [Bool.not_eq_false'] using g1
      obtain ⟨hn0, hn1⟩ := RR.has_iff.1 hh
      obtain ⟨kk, hkk⟩ : ∃ k : Nat, (cuts[g]).1 = (k : Int) := ⟨(cuts[g]).1.toNat, by omega⟩
      obtain ⟨A, l, r, B, hX, hA, hal, hok, hr, hso, hget⟩ := hm.ok.at (k := kk) (by omega)
      have hln : R.abs.line (cuts[g]).1 = l := by rw [hkk]; exact RR.abs_line hget
      refine WH.takeYes 9 rfl (by kernel_rfl) (by kernel_rfl) (by kernel_rfl) (fun _ _ _ h => h) ⟨_, HB⟩ rfl rfl (fun w' hS => EX.move rfl) rfl ?_
      refine WH.takeYes 10 rfl (by kernel_rfl) (by kernel_rfl) (by kernel_rfl) (fun _ _ _ h => h) ⟨_, HB⟩ rfl rfl (fun w' hS => EX.bin rfl rfl (binv_gtr)) rfl ?_
      refine WH.takeYes 11 rfl (by kernel_rfl) (by kernel_rfl) (by kernel_rfl) (fun _ _ _ h => h) ⟨_, HB⟩ rfl rfl (fun w' hS => EX.move rfl) rfl ?_
      first | refine WH.splitD (t := 23) rfl (fun g2 => ?_) (fun g2 => ?_) | refine WH.split (t := 23) rfl (fun g2 => ?_) (fun g2 => ?_)
      · -- g2 True
        refine WH.takeYes 12 rfl (by kernel_rfl) (by kernel_rfl) (by kernel_rfl) (fun _ _ _ h => h) ⟨_, HB⟩ rfl rfl (fun w' hS => EX.move rfl) rfl ?_
        refine WH.takeYes 13 rfl (by kernel_rfl) (by kernel_rfl) (by kernel_rfl) (fun _ _ _ h => h) ⟨_, HB⟩ rfl rfl (fun w' hS => EX.move rfl) rfl ?_
        refine WH.takeYes 14 rfl (by kernel_rfl) (by kernel_rfl) (by kernel_rfl) (fun _ _ _ h => h) ⟨_, HB⟩ rfl rfl (fun w' hS => EX.idxSlc (k := g) slc50 rfl rfl (by first | rfl | omega) (by omega)) rfl ?_
        refine WH.takeYes 15 rfl (by kernel_rfl) (by kernel_rfl) (by kernel_rfl) (fun _ _ _ h => h) ⟨_, HB⟩ rfl rfl (fun w' hS => EX.fieldAddr fld109_0 rfl) rfl ?_
        first | refine WH.takeYes 16 rfl (by kernel_rfl) (by kernel_rfl) (by kernel_rfl) (fun _ _ _ h => h) ⟨_, HB⟩ rfl rfl (fun w' hS => EX.load rfl (Rd.one ty3 (by rw [cell_of (hS.block (H.oldBlock hb (by simp)) (by simp)), Nat.add_zero]; exact (hcs (g) (by omega)).1))) rfl ?_
        refine WH.takeYes 17 rfl (by kernel_rfl) (by kernel_rfl) (by kernel_rfl) (fun _ _ _ h => h) ⟨_, HB⟩ rfl rfl (fun w' hS => EX.move rfl) rfl ?_
        refine WH.takeYes 18 rfl (by kernel_rfl) (by kernel_rfl) (by kernel_rfl) (fun _ _ _ h => h) ⟨_, HB⟩ rfl rfl (fun w' hS => EX.move rfl) rfl ?_
        refine WH.takeYes 19 rfl (by kernel_rfl) (by kernel_rfl) (by kernel_rfl) (fun _ _ _ h => h) ⟨_, HB⟩ rfl rfl (fun w' hS => EX.bin rfl rfl (isub (by omega) (by omega))) rfl ?_
        refine WH.takeYes 20 rfl (by kernel_rfl) (by kernel_rfl) (by kernel_rfl) (fun _ _ _ h => h) ⟨_, HB⟩ rfl rfl (fun w' hS => EX.idxSlc (k := g - 1) slc50 rfl rfl (by first | rfl | omega) (by omega)) rfl ?_
        refine WH.takeYes 21 rfl (by kernel_rfl) (by kernel_rfl) (by kernel_rfl) (fun _ _ _ h => h) ⟨_, HB⟩ rfl rfl (fun w' hS => EX.fieldAddr fld109_0 rfl) rfl ?_
        first | refine WH.takeYes 22 rfl (by kernel_rfl) (by kernel_rfl) (by kernel_rfl) (fun _ _ _ h => h) ⟨_, HB⟩ rfl rfl (fun w' hS => EX.load rfl (Rd.one ty3 (by rw [cell_of (hS.block (H.oldBlock hb (by simp)) (by simp)), Nat.add_zero]; exact (hcs (g - 1) (by omega)).1))) rfl ?_
        refine WH.takeYes 23 rfl (by kernel_rfl) (by kernel_rfl) (by kernel_rfl) (fun _ _ _ h => h) ⟨_, HB⟩ rfl rfl (fun w' hS => EX.bin rfl rfl (binv_leq)) rfl ?_
        refine WH.takeYes 24 rfl (by kernel_rfl) (by kernel_rfl) (by kernel_rfl) (fun _ _ _ h => h) ⟨_, HB⟩ rfl rfl (fun w' hS => EX.pickT rfl rfl) rfl ?_
        refine WH.take 25 rfl (by kernel_rfl) (by kernel_rfl) (by kernel_rfl) (fun _ _ _ h => h) ⟨_, HB⟩ (fun w' hS => EX.pickF rfl rfl) rfl ?_
        refine WH.done (by kernel_rfl) ?_
        replace H := H.call HB
        refine WX.next ?_
        first | refine WC.cond_dec rfl (fun c3 => ?_) (fun c3 => ?_) | refine WC.cond rfl (fun c3 => ?_) (fun c3 => ?_)
        · -- c3 T
          refine WC.seq ?_
          refine WC.region ?_
          refine WL.assign rfl rfl ?_
          refine (WL.done (WX.next ?_))
          refine (WC.ret (WX.then_ret (WX.block_ret (WX.then_ret (WX.then_ret (WX.block_ret (WX.then_ret ?_)))))))
          refine ret_one rfl rfl ?_
          have e1 : R.abs.cutsOk cuts = false := cutsOk_bad hlt (fun h => by have h2 := (cutOk_iff hlt).1 h; rw [getD_at (by omega)] at h2; omega)
          rw [e1]
          exact ⟨rfl, H⟩
        · -- c3 F
          refine (WC.skip (WX.next ?_))
          refine WC.seq ?_
          replace H := H.drew
          refine WC.held (SX (World.drew wx) []) (by kernel_rfl) ?_
          generalize World.drew wx = wb at H ⊢
          have HB := St.refl wb
          refine WH.take 0 rfl (by kernel_rfl) (by kernel_rfl) (by kernel_rfl) (fun _ _ _ h => h) ⟨_, HB⟩ (fun w' hS => EX.move rfl) rfl ?_
          refine WH.take 1 rfl (by kernel_rfl) (by kernel_rfl) (by kernel_rfl) (fun _ _ _ h => h) ⟨_, HB⟩ (fun w' hS => EX.move rfl) rfl ?_
          refine WH.take 2 rfl (by kernel_rfl) (by kernel_rfl) (by kernel_rfl) (fun _ _ _ h => h) ⟨_, HB⟩ (fun w' hS => EX.idxSlc (k := g) slc50 rfl rfl (by first | rfl | omega) (by omega)) rfl ?_
          refine WH.take 3 rfl (by kernel_rfl) (by kernel_rfl) (by kernel_rfl) (fun _ _ _ h => h) ⟨_, HB⟩ (fun w' hS => EX.fieldAddr fld109_1 rfl) rfl ?_
          first | refine WH.take 4 rfl (by kernel_rfl) (by kernel_rfl) (by kernel_rfl) (fun _ _ _ h => h) ⟨_, HB⟩ (fun w' hS => EX.load rfl (Rd.one ty3 (by rw [cell_of (hS.block (H.oldBlock hb (by simp)) (by simp))]; exact (hcs g hlt).2))) rfl ?_
          refine WH.take 5 rfl (by kernel_rfl) (by kernel_rfl) (by kernel_rfl) (fun _ _ _ h => h) ⟨_, HB⟩ (fun w' hS => EX.bin rfl rfl (binv_lss)) rfl ?_
          refine WH.take 6 rfl (by kernel_rfl) (by kernel_rfl) (by kernel_rfl) (fun _ _ _ h => h) ⟨_, HB⟩ (fun w' hS => EX.move rfl) rfl ?_
          first | refine WH.splitD (t := 44) rfl (fun g3 => ?_) (fun g3 => ?_) | refine WH.split (t := 44) rfl (fun g3 => ?_) (fun g3 => ?_)
          · -- g3 True
            refine WH.takeNo 7 rfl (by kernel_rfl) (by kernel_rfl) (by kernel_rfl) (fun _ _ _ h => h) ⟨_, HB⟩ rfl rfl rfl ?_
            refine WH.takeNo 8 rfl (by kernel_rfl) (by kernel_rfl) (by kernel_rfl) (fun _ _ _ h => h) ⟨_, HB⟩ rfl rfl rfl ?_
            refine WH.takeNo 9 rfl (by kernel_rfl) (by kernel_rfl) (by kernel_rfl) (fun _ _ _ h => h) ⟨_, HB⟩ rfl rfl rfl ?_
            refine WH.takeNo 10 rfl (by kernel_rfl) (by kernel_rfl) (by kernel_rfl) (fun _ _ _ h => h) ⟨_, HB⟩ rfl rfl rfl ?_
            refine WH.takeNo 11 rfl (by kernel_rfl) (by kernel_rfl) (by kernel_rfl) (fun _ _ _ h => h) ⟨_, HB⟩ rfl rfl rfl ?_
            refine WH.takeNo 12 rfl (by kernel_rfl) (by kernel_rfl) (by kernel_rfl) (fun _ _ _ h => h) ⟨_, HB⟩ rfl rfl rfl ?_
            refine WH.takeNo 13 rfl (by kernel_rfl) (by kernel_rfl) (by kernel_rfl) (fun _ _ _ h => h) ⟨_, HB⟩ rfl rfl rfl ?_
            refine WH.takeNo 14 rfl (by kernel_rfl) (by kernel_rfl) (by kernel_rfl) (fun _ _ _ h => h) ⟨_, HB⟩ rfl rfl rfl ?_
            refine WH.takeNo 15 rfl (by kernel_rfl) (by kernel_rfl) (by kernel_rfl) (fun _ _ _ h => h) ⟨_, HB⟩ rfl rfl rfl ?_
            refine WH.takeNo 16 rfl (by kernel_rfl) (by kernel_rfl) (by kernel_rfl) (fun _ _ _ h => h) ⟨_, HB⟩ rfl rfl rfl ?_
            refine WH.takeNo 17 rfl (by kernel_rfl) (by kernel_rfl) (by kernel_rfl) (fun _ _ _ h => h) ⟨_, HB⟩ rfl rfl rfl ?_
            refine WH.takeNo 18 rfl (by kernel_rfl) (by kernel_rfl) (by kernel_rfl) (fun _ _ _ h => h) ⟨_, HB⟩ rfl rfl rfl ?_
            refine WH.takeNo 19 rfl (by kernel_rfl) (by kernel_rfl) (by kernel_rfl) (fun _ _ _ h => h) ⟨_, HB⟩ rfl rfl rfl ?_
            refine WH.takeNo 20 rfl (by kernel_rfl) (by kernel_rfl) (by kernel_rfl) (fun _ _ _ h => h) ⟨_, HB⟩ rfl rfl rfl ?_
            refine WH.takeNo 21 rfl (by kernel_rfl) (by kernel_rfl) (by kernel_rfl) (fun _ _ _ h => h) ⟨_, HB⟩ rfl rfl rfl ?_
            refine WH.takeNo 22 rfl (by kernel_rfl) (by kernel_rfl) (by kernel_rfl) (fun _ _ _ h => h) ⟨_, HB⟩ rfl rfl rfl ?_
            refine WH.takeNo 23 rfl (by kernel_rfl) (by kernel_rfl) (by kernel_rfl) (fun _ _ _ h => h) ⟨_, HB⟩ rfl rfl rfl ?_
            refine WH.takeNo 24 rfl (by kernel_rfl) (by kernel_rfl) (by kernel_rfl) (fun _ _ _ h => h) ⟨_, HB⟩ rfl rfl rfl ?_
            refine WH.takeNo 25 rfl (by kernel_rfl) (by kernel_rfl) (by kernel_rfl) (fun _ _ _ h => h) ⟨_, HB⟩ rfl rfl rfl ?_
            refine WH.take 26 rfl (by kernel_rfl) (by kernel_rfl) (by kernel_rfl) (fun _ _ _ h => h) ⟨_, HB⟩ (fun w' hS => EX.pickT rfl rfl) rfl ?_
            refine WH.done (by kernel_rfl) ?_
            replace H := H.call HB
            refine WX.next ?_
            refine WC.cond_true rfl (rfl) ?_
            refine WC.seq ?_
            refine WC.region ?_
            refine WL.assign rfl rfl ?_
            refine (WL.done (WX.next ?_))
            refine (WC.ret (WX.block_ret (WX.then_ret (WX.then_ret (WX.block_ret (WX.then_ret ?_))))))
            refine ret_one rfl rfl ?_
            have e1 : R.abs.cutsOk cuts = false := cutsOk_bad hlt (fun h => by have h2 := (cutOk_iff hlt).1 h; omega)
            rw [e1]
            exact ⟨rfl, H⟩
          · -- g3 False
            refine WH.takeYes 7 rfl (by kernel_rfl) (by kernel_rfl) (by kernel_rfl) (fun _ _ _ h => h) ⟨_, HB⟩ rfl rfl (fun w' hS => EX.move rfl) rfl ?_
            refine WH.takeYes 8 rfl (by kernel_rfl) (by kernel_rfl) (by kernel_rfl) (fun _ _ _ h => h) ⟨_, HB⟩ rfl rfl (fun w' hS => EX.move rfl) rfl ?_
            refine WH.takeYes 9 rfl (by kernel_rfl) (by kernel_rfl) (by kernel_rfl) (fun _ _ _ h => h) ⟨_, HB⟩ rfl rfl (fun w' hS => EX.idxSlc (k := g) slc50 rfl rfl (by first | rfl | omega) (by omega)) rfl ?_
            refine WH.takeYes 10 rfl (by kernel_rfl) (by kernel_rfl) (by kernel_rfl) (fun _ _ _ h => h) ⟨_, HB⟩ rfl rfl (fun w' hS => EX.fieldAddr fld109_1 rfl) rfl ?_
            first | refine WH.takeYes 11 rfl (by kernel_rfl) (by kernel_rfl) (by kernel_rfl) (fun _ _ _ h => h) ⟨_, HB⟩ rfl rfl (fun w' hS => EX.load rfl (Rd.one ty3 (by rw [cell_of (hS.block (H.oldBlock hb (by simp)) (by simp))]; exact (hcs g hlt).2))) rfl ?_
            refine WH.takeYes 12 rfl (by kernel_rfl) (by kernel_rfl) (by kernel_rfl) (fun _ _ _ h => h) ⟨_, HB⟩ rfl rfl (fun w' hS => EX.move rfl) rfl ?_
            refine WH.takeYes 13 rfl (by kernel_rfl) (by kernel_rfl) (by kernel_rfl) (fun _ _ _ h => h) ⟨_, HB⟩ rfl rfl (fun w' hS => EX.nilCheck rfl) rfl ?_
            refine WH.takeYes 14 rfl (by kernel_rfl) (by kernel_rfl) (by kernel_rfl) (fun _ _ _ h => h) ⟨_, HB⟩ rfl rfl (fun w' hS => EX.fieldAddr fld89_0 rfl) rfl ?_
            first | refine WH.takeYes 15 rfl (by kernel_rfl) (by kernel_rfl) (by kernel_rfl) (fun _ _ _ h => h) ⟨_, HB⟩ rfl rfl (fun w' hS => EX.load rfl (Rd.q0 (H.oldBlock hm.b0 (by simp)))) rfl ?_ | refine WH.takeYes 15 rfl (by kernel_rfl) (by kernel_rfl) (by kernel_rfl) (fun _ _ _ h => h) ⟨_, HB⟩ rfl rfl (fun w' hS => EX.load rfl (Rd.q0 (hS.block (H.oldBlock hm.b0 (by simp)) (by simp)))) rfl ?_
            refine WH.takeYes 16 rfl (by kernel_rfl) (by kernel_rfl) (by kernel_rfl) (fun _ _ _ h => h) ⟨_, HB⟩ rfl rfl (fun w' hS => EX.move rfl) rfl ?_
            refine WH.takeYes 17 rfl (by kernel_rfl) (by kernel_rfl) (by kernel_rfl) (fun _ _ _ h => h) ⟨_, HB⟩ rfl rfl (fun w' hS => EX.move rfl) rfl ?_
            refine WH.takeYes 18 rfl (by kernel_rfl) (by kernel_rfl) (by kernel_rfl) (fun _ _ _ h => h) ⟨_, HB⟩ rfl rfl (fun w' hS => EX.idxSlc (k := g) slc50 rfl rfl (by first | rfl | omega) (by omega)) rfl ?_
            refine WH.takeYes 19 rfl (by kernel_rfl) (by kernel_rfl) (by kernel_rfl) (fun _ _ _ h => h) ⟨_, HB⟩ rfl rfl (fun w' hS => EX.fieldAddr fld109_0 rfl) rfl ?_
            first | refine WH.takeYes 20 rfl (by kernel_rfl) (by kernel_rfl) (by kernel_rfl) (fun _ _ _ h => h) ⟨_, HB⟩ rfl rfl (fun w' hS => EX.load rfl (Rd.one ty3 (by rw [cell_of (hS.block (H.oldBlock hb (by simp)) (by simp)), Nat.add_zero]; exact (hcs (g) (by omega)).1))) rfl ?_
            refine WH.takeYes 21 rfl (by kernel_rfl) (by kernel_rfl) (by kernel_rfl) (fun _ _ _ h => h) ⟨_, HB⟩ rfl rfl (fun w' hS => EX.idxSlc (k := kk) slc87 rfl rfl (by first | rfl | omega) (by omega)) rfl ?_
            refine WH.takeYes 22 rfl (by kernel_rfl) (by kernel_rfl) (by kernel_rfl) (fun _ _ _ h => h) ⟨_, HB⟩ rfl rfl (fun w' hS => EX.fieldAddr fld184_2 rfl) rfl ?_
            first | refine WH.takeYes 23 rfl (by kernel_rfl) (by kernel_rfl) (by kernel_rfl) (fun _ _ _ h => h) ⟨_, HB⟩ rfl rfl (fun w' hS => EX.load rfl (Rd.lineS ty52 (hS.block (H.oldBlock (hm.b1at hX) (by simp)) (by simp)) (by omega) hok.1)) rfl ?_
            refine WH.takeYes 24 rfl (by kernel_rfl) (by kernel_rfl) (by kernel_rfl) (fun _ _ _ h => h) ⟨_, HB⟩ rfl rfl (fun w' hS => EX.lenR isl52 rfl) rfl ?_
            refine WH.takeYes 25 rfl (by kernel_rfl) (by kernel_rfl) (by kernel_rfl) (fun _ _ _ h => h) ⟨_, HB⟩ rfl rfl (fun w' hS => EX.bin rfl rfl (binv_gtr)) rfl ?_
            refine WH.take 26 rfl (by kernel_rfl) (by kernel_rfl) (by kernel_rfl) (fun _ _ _ h => h) ⟨_, HB⟩ (fun w' hS => EX.pickF rfl rfl) rfl ?_
            refine WH.done (by kernel_rfl) ?_
            replace H := H.call HB
            refine WX.next ?_
            first | refine WC.cond_dec rfl (fun c5 => ?_) (fun c5 => ?_) | refine WC.cond rfl (fun c5 => ?_) (fun c5 => ?_)
            · -- c5 T
              refine WC.seq ?_
              refine WC.region ?_
              refine WL.assign rfl rfl ?_
              refine (WL.done (WX.next ?_))
              refine (WC.ret (WX.block_ret (WX.then_ret (WX.then_ret (WX.block_ret (WX.then_ret ?_))))))
              refine ret_one rfl rfl ?_
              have e1 : R.abs.cutsOk cuts = false := cutsOk_bad hlt (fun h => by have h2 := (cutOk_iff hlt).1 h; rw [hln] at h2; omega)
              rw [e1]
              exact ⟨rfl, H⟩
            · -- c5 F
              refine (WC.skip (WX.block_normal (WX.next ?_)))
              refine WC.region ?_
              refine WL.move rfl rfl ?_
              refine WL.bin rfl rfl (iadd (by omega) (by omega)) rfl ?_
              refine WL.assign rfl rfl ?_
              refine (WL.done (WX.round ?_))
              have hgood : cutOk R.abs cuts g = true := (cutOk_iff hlt).2 ⟨hh, .inr (by rw [getD_at (by omega)]; omega), by omega, by rw [hln]; omega⟩
              exact hN _ (g+1) _ _ (by omega) ⟨rfl, by omega, by rw [List.range_succ, List.all_append, hall]; simpa using hgood, H⟩ (Sub.cons (t := 5) (by first | rfl | simp) (Sub.nil _)) (Sub.cons (t := 0) rfl (Sub.cons (t := 1) rfl (Sub.nil _)))
      · -- g2 False
        refine WH.takeNo 12 rfl (by kernel_rfl) (by kernel_rfl) (by kernel_rfl) (fun _ _ _ h => h) ⟨_, HB⟩ rfl rfl rfl ?_
        refine WH.takeNo 13 rfl (by kernel_rfl) (by kernel_rfl) (by kernel_rfl) (fun _ _ _ h => h) ⟨_, HB⟩ rfl rfl rfl ?_
        refine WH.takeNo 14 rfl (by kernel_rfl) (by kernel_rfl) (by kernel_rfl) (fun _ _ _ h => h) ⟨_, HB⟩ rfl rfl rfl ?_
        refine WH.takeNo 15 rfl (by kernel_rfl) (by kernel_rfl) (by kernel_rfl) (fun _ _ _ h => h) ⟨_, HB⟩ rfl rfl rfl ?_
        refine WH.takeNo 16 rfl (by kernel_rfl) (by kernel_rfl) (by kernel_rfl) (fun _ _ _ h => h) ⟨_, HB⟩ rfl rfl rfl ?_
        refine WH.takeNo 17 rfl (by kernel_rfl) (by kernel_rfl) (by kernel_rfl) (fun _ _ _ h => h) ⟨_, HB⟩ rfl rfl rfl ?_
        refine WH.takeNo 18 rfl (by kernel_rfl) (by kernel_rfl) (by kernel_rfl) (fun _ _ _ h => h) ⟨_, HB⟩ rfl rfl rfl ?_
        refine WH.takeNo 19 rfl (by kernel_rfl) (by kernel_rfl) (by kernel_rfl) (fun _ _ _ h => h) ⟨_, HB⟩ rfl rfl rfl ?_
        refine WH.takeNo 20 rfl (by kernel_rfl) (by kernel_rfl) (by kernel_rfl) (fun _ _ _ h => h) ⟨_, HB⟩ rfl rfl rfl ?_
        refine WH.takeNo 21 rfl (by kernel_rfl) (by kernel_rfl) (by kernel_rfl) (fun _ _ _ h => h) ⟨_, HB⟩ rfl rfl rfl ?_
        refine WH.takeNo 22 rfl (by kernel_rfl) (by kernel_rfl) (by kernel_rfl) (fun _ _ _ h => h) ⟨_, HB⟩ rfl rfl rfl ?_
        refine WH.takeNo 23 rfl (by kernel_rfl) (by kernel_rfl) (by kernel_rfl) (fun _ _ _ h => h) ⟨_, HB⟩ rfl rfl rfl ?_
        refine WH.takeYes 24 rfl (by kernel_rfl) (by kernel_rfl) (by kernel_rfl) (fun _ _ _ h => h) ⟨_, HB⟩ rfl rfl (fun w' hS => EX.pickF rfl rfl) rfl ?_
        refine WH.take 25 rfl (by kernel_rfl) (by kernel_rfl) (by kernel_rfl) (fun _ _ _ h => h) ⟨_, HB⟩ (fun w' hS => EX.pickF rfl rfl) rfl ?_
        refine WH.done (by kernel_rfl) ?_
        replace H := H.call HB
        refine WX.next ?_
        refine WC.cond_false rfl (rfl) ?_
        refine (WC.skip (WX.next ?_))
        refine WC.seq ?_
        replace H := H.drew
        refine WC.held (SX (World.drew wx) []) (by kernel_rfl) ?_
        generalize World.drew wx = wb at H ⊢
        have HB := St.refl wb
        refine WH.take 0 rfl (by kernel_rfl) (by kernel_rfl) (by kernel_rfl) (fun _ _ _ h => h) ⟨_, HB⟩ (fun w' hS => EX.move rfl) rfl ?_
        refine WH.take 1 rfl (by kernel_rfl) (by kernel_rfl) (by kernel_rfl) (fun _ _ _ h => h) ⟨_, HB⟩ (fun w' hS => EX.move rfl) rfl ?_
        refine WH.take 2 rfl (by kernel_rfl) (by kernel_rfl) (by kernel_rfl) (fun _ _ _ h => h) ⟨_, HB⟩ (fun w' hS => EX.idxSlc (k := g) slc50 rfl rfl (by first | rfl | omega) (by omega)) rfl ?_
        refine WH.take 3 rfl (by kernel_rfl) (by kernel_rfl) (by kernel_rfl) (fun _ _ _ h => h) ⟨_, HB⟩ (fun w' hS => EX.fieldAddr fld109_1 rfl) rfl ?_
        first | refine WH.take 4 rfl (by kernel_rfl) (by kernel_rfl) (by kernel_rfl) (fun _ _ _ h => h) ⟨_, HB⟩ (fun w' hS => EX.load rfl (Rd.one ty3 (by rw [cell_of (hS.block (H.oldBlock hb (by simp)) (by simp))]; exact (hcs g hlt).2))) rfl ?_
        refine WH.take 5 rfl (by kernel_rfl) (by kernel_rfl) (by kernel_rfl) (fun _ _ _ h => h) ⟨_, HB⟩ (fun w' hS => EX.bin rfl rfl (binv_lss)) rfl ?_
        refine WH.take 6 rfl (by kernel_rfl) (by kernel_rfl) (by kernel_rfl) (fun _ _ _ h => h) ⟨_, HB⟩ (fun w' hS => EX.move rfl) rfl ?_
        first | refine WH.splitD (t := 44) rfl (fun g4 => ?_) (fun g4 => ?_) | refine WH.split (t := 44) rfl (fun g4 => ?_) (fun g4 => ?_)
        · -- g4 True
          refine WH.takeNo 7 rfl (by kernel_rfl) (by kernel_rfl) (by kernel_rfl) (fun _ _ _ h => h) ⟨_, HB⟩ rfl rfl rfl ?_
          refine WH.takeNo 8 rfl (by kernel_rfl) (by kernel_rfl) (by kernel_rfl) (fun _ _ _ h => h) ⟨_, HB⟩ rfl rfl rfl ?_
          refine WH.takeNo 9 rfl (by kernel_rfl) (by kernel_rfl) (by kernel_rfl) (fun _ _ _ h => h) ⟨_, HB⟩ rfl rfl rfl ?_
          refine WH.takeNo 10 rfl (by kernel_rfl) (by kernel_rfl) (by kernel_rfl) (fun _ _ _ h => h) ⟨_, HB⟩ rfl rfl rfl ?_
          refine WH.takeNo 11 rfl (by kernel_rfl) (by kernel_rfl) (by kernel_rfl) (fun _ _ _ h => h) ⟨_, HB⟩ rfl rfl rfl ?_
          refine WH.takeNo 12 rfl (by kernel_rfl) (by kernel_rfl) (by kernel_rfl) (fun _ _ _ h => h) ⟨_, HB⟩ rfl rfl rfl ?_
          refine WH.takeNo 13 rfl (by kernel_rfl) (by kernel_rfl) (by kernel_rfl) (fun _ _ _ h => h) ⟨_, HB⟩ rfl rfl rfl ?_
          refine WH.takeNo 14 rfl (by kernel_rfl) (by kernel_rfl) (by kernel_rfl) (fun _ _ _ h => h) ⟨_, HB⟩ rfl rfl rfl ?_
          refine WH.takeNo 15 rfl (by kernel_rfl) (by kernel_rfl) (by kernel_rfl) (fun _ _ _ h => h) ⟨_, HB⟩ rfl rfl rfl ?_
          refine WH.takeNo 16 rfl (by kernel_rfl) (by kernel_rfl) (by kernel_rfl) (fun _ _ _ h => h) ⟨_, HB⟩ rfl rfl rfl ?_
          refine WH.takeNo 17 rfl (by kernel_rfl) (by kernel_rfl) (by kernel_rfl) (fun _ _ _ h => h) ⟨_, HB⟩ rfl rfl rfl ?_
          refine WH.takeNo 18 rfl (by kernel_rfl) (by kernel_rfl) (by kernel_rfl) (fun _ _ _ h => h) ⟨_, HB⟩ rfl rfl rfl ?_
          refine WH.takeNo 19 rfl (by kernel_rfl) (by kernel_rfl) (by kernel_rfl) (fun _ _ _ h => h) ⟨_, HB⟩ rfl rfl rfl ?_
          refine WH.takeNo 20 rfl (by kernel_rfl) (by kernel_rfl) (by kernel_rfl) (fun _ _ _ h => h) ⟨_, HB⟩ rfl rfl rfl ?_
          refine WH.takeNo 21 rfl (by kernel_rfl) (by kernel_rfl) (by kernel_rfl) (fun _ _ _ h => h) ⟨_, HB⟩ rfl rfl rfl ?_
          refine WH.takeNo 22 rfl (by kernel_rfl) (by kernel_rfl) (by kernel_rfl) (fun _ _ _ h => h) ⟨_, HB⟩ rfl rfl rfl ?_
          refine WH.takeNo 23 rfl (by kernel_rfl) (by kernel_rfl) (by kernel_rfl) (fun _ _ _ h => h) ⟨_, HB⟩ rfl rfl rfl ?_
          refine WH.takeNo 24 rfl (by kernel_rfl) (by kernel_rfl) (by kernel_rfl) (fun _ _ _ h => h) ⟨_, HB⟩ rfl rfl rfl ?_
          refine WH.takeNo 25 rfl (by kernel_rfl) (by kernel_rfl) (by kernel_rfl) (fun _ _ _ h => h) ⟨_, HB⟩ rfl rfl rfl ?_
          refine WH.take 26 rfl (by kernel_rfl) (by kernel_rfl) (by kernel_rfl) (fun _ _ _ h => h) ⟨_, HB⟩ (fun w' hS => EX.pickT rfl rfl) rfl ?_
          refine WH.done (by kernel_rfl) ?_
          replace H := H.call HB
          refine WX.next ?_
          refine WC.cond_true rfl (rfl) ?_
          refine WC.seq ?_
          refine WC.region ?_
          refine WL.assign rfl rfl ?_
          refine (WL.done (WX.next ?_))
          refine (WC.ret (WX.block_ret (WX.then_ret (WX.then_ret (WX.block_ret (WX.then_ret ?_))))))
          refine ret_one rfl rfl ?_
          have e1 : R.abs.cutsOk cuts = false := cutsOk_bad hlt (fun h => by have h2 := (cutOk_iff hlt).1 h; omega)
          rw [e1]
          exact ⟨rfl, H⟩
        · -- g4 False
          refine WH.takeYes 7 rfl (by kernel_rfl) (by kernel_rfl) (by kernel_rfl) (fun _ _ _ h => h) ⟨_, HB⟩ rfl rfl (fun w' hS => EX.move rfl) rfl ?_
          refine WH.takeYes 8 rfl (by kernel_rfl) (by kernel_rfl) (by kernel_rfl) (fun _ _ _ h => h) ⟨_, HB⟩ rfl rfl (fun w' hS => EX.move rfl) rfl ?_
          refine WH.takeYes 9 rfl (by kernel_rfl) (by kernel_rfl) (by kernel_rfl) (fun _ _ _ h => h) ⟨_, HB⟩ rfl rfl (fun w' hS => EX.idxSlc (k := g) slc50 rfl rfl (by first | rfl | omega) (by omega)) rfl ?_
          refine WH.takeYes 10 rfl (by kernel_rfl) (by kernel_rfl) (by kernel_rfl) (fun _ _ _ h => h) ⟨_, HB⟩ rfl rfl (fun w' hS => EX.fieldAddr fld109_1 rfl) rfl ?_
          first | refine WH.takeYes 11 rfl (by kernel_rfl) (by kernel_rfl) (by kernel_rfl) (fun _ _ _ h => h) ⟨_, HB⟩ rfl rfl (fun w' hS => EX.load rfl (Rd.one ty3 (by rw [cell_of (hS.block (H.oldBlock hb (by simp)) (by simp))]; exact (hcs g hlt).2))) rfl ?_
          refine WH.takeYes 12 rfl (by kernel_rfl) (by kernel_rfl) (by kernel_rfl) (fun _ _ _ h => h) ⟨_, HB⟩ rfl rfl (fun w' hS => EX.move rfl) rfl ?_
          refine WH.takeYes 13 rfl (by kernel_rfl) (by kernel_rfl) (by kernel_rfl) (fun _ _ _ h => h) ⟨_, HB⟩ rfl rfl (fun w' hS => EX.nilCheck rfl) rfl ?_
          refine WH.takeYes 14 rfl (by kernel_rfl) (by kernel_rfl) (by kernel_rfl) (fun _ _ _ h => h) ⟨_, HB⟩ rfl rfl (fun w' hS => EX.fieldAddr fld89_0 rfl) rfl ?_
          first | refine WH.takeYes 15 rfl (by kernel_rfl) (by kernel_rfl) (by kernel_rfl) (fun _ _ _ h => h) ⟨_, HB⟩ rfl rfl (fun w' hS => EX.load rfl (Rd.q0 (H.oldBlock hm.b0 (by simp)))) rfl ?_ | refine WH.takeYes 15 rfl (by kernel_rfl) (by kernel_rfl) (by kernel_rfl) (fun _ _ _ h => h) ⟨_, HB⟩ rfl rfl (fun w' hS => EX.load rfl (Rd.q0 (hS.block (H.oldBlock hm.b0 (by simp)) (by simp)))) rfl ?_
          refine WH.takeYes 16 rfl (by kernel_rfl) (by kernel_rfl) (by kernel_rfl) (fun _ _ _ h => h) ⟨_, HB⟩ rfl rfl (fun w' hS => EX.move rfl) rfl ?_
          refine WH.takeYes 17 rfl (by kernel_rfl) (by kernel_rfl) (by kernel_rfl) (fun _ _ _ h => h) ⟨_, HB⟩ rfl rfl (fun w' hS => EX.move rfl) rfl ?_
          refine WH.takeYes 18 rfl (by kernel_rfl) (by kernel_rfl) (by kernel_rfl) (fun _ _ _ h => h) ⟨_, HB⟩ rfl rfl (fun w' hS => EX.idxSlc (k := g) slc50 rfl rfl (by first | rfl | omega) (by omega)) rfl ?_
          refine WH.takeYes 19 rfl (by kernel_rfl) (by kernel_rfl) (by kernel_rfl) (fun _ _ _ h => h) ⟨_, HB⟩ rfl rfl (fun w' hS => EX.fieldAddr fld109_0 rfl) rfl ?_
          first | refine WH.takeYes 20 rfl (by kernel_rfl) (by kernel_rfl) (by kernel_rfl) (fun _ _ _ h => h) ⟨_, HB⟩ rfl rfl (fun w' hS => EX.load rfl (Rd.one ty3 (by rw [cell_of (hS.block (H.oldBlock hb (by simp)) (by simp)), Nat.add_zero]; exact (hcs (g) (by omega)).1))) rfl ?_
          refine WH.takeYes 21 rfl (by kernel_rfl) (by kernel_rfl) (by kernel_rfl) (fun _ _ _ h => h) ⟨_, HB⟩ rfl rfl (fun w' hS => EX.idxSlc (k := kk) slc87 rfl rfl (by first | rfl | omega) (by omega)) rfl ?_
          refine WH.takeYes 22 rfl (by kernel_rfl) (by kernel_rfl) (by kernel_rfl) (fun _ _ _ h => h) ⟨_, HB⟩ rfl rfl (fun w' hS => EX.fieldAddr fld184_2 rfl) rfl ?_
          first | refine WH.takeYes 23 rfl (by kernel_rfl) (by kernel_rfl) (by kernel_rfl) (fun _ _ _ h => h) ⟨_, HB⟩ rfl rfl (fun w' hS => EX.load rfl (Rd.lineS ty52 (hS.block (H.oldBlock (hm.b1at hX) (by simp)) (by simp)) (by omega) hok.1)) rfl ?_
          refine WH.takeYes 24 rfl (by kernel_rfl) (by kernel_rfl) (by kernel_rfl) (fun _ _ _ h => h) ⟨_, HB⟩ rfl rfl (fun w' hS => EX.lenR isl52 rfl) rfl ?_
          refine WH.takeYes 25 rfl (by kernel_rfl) (by kernel_rfl) (by kernel_rfl) (fun _ _ _ h => h) ⟨_, HB⟩ rfl rfl (fun w' hS => EX.bin rfl rfl (binv_gtr)) rfl ?_
          refine WH.take 26 rfl (by kernel_rfl) (by kernel_rfl) (by kernel_rfl) (fun _ _ _ h => h) ⟨_, HB⟩ (fun w' hS => EX.pickF rfl rfl) rfl ?_
          refine WH.done (by kernel_rfl) ?_
          replace H := H.call HB
          refine WX.next ?_
          first | refine WC.cond_dec rfl (fun c8 => ?_) (fun c8 => ?_) | refine WC.cond rfl (fun c8 => ?_) (fun c8 => ?_)
          · -- c8 T
            refine WC.seq ?_
            refine WC.region ?_
            refine WL.assign rfl rfl ?_
            refine (WL.done (WX.next ?_))
            refine (WC.ret (WX.block_ret (WX.then_ret (WX.then_ret (WX.block_ret (WX.then_ret ?_))))))
            refine ret_one rfl rfl ?_
            have e1 : R.abs.cutsOk cuts = false := cutsOk_bad hlt (fun h => by have h2 := (cutOk_iff hlt).1 h; rw [hln] at h2; omega)
            rw [e1]
            exact ⟨rfl, H⟩
          · -- c8 F
            refine (WC.skip (WX.block_normal (WX.next ?_)))
            refine WC.region ?_
            refine WL.move rfl rfl ?_
            refine WL.bin rfl rfl (iadd (by omega) (by omega)) rfl ?_
            refine WL.assign rfl rfl ?_
            refine (WL.done (WX.round ?_))
            have hgood : cutOk R.abs cuts g = true := (cutOk_iff hlt).2 ⟨hh, .inl (by omega), by omega, by rw [hln]; omega⟩
            exact hN _ (g+1) _ _ (by omega) ⟨rfl, by omega, by rw [List.range_succ, List.all_append, hall]; simpa using hgood, H⟩ (Sub.cons (t := 5) (by first | rfl | simp) (Sub.nil _)) (Sub.cons (t := 0) rfl (Sub.cons (t := 1) rfl (Sub.nil _)))
  · -- c1 F
    refine (WC.exit (WX.then_exit (WX.then_exit (WX.block_exit (WX.next ?_)))))
    refine WC.seq ?_
    refine WC.region ?_
    refine WL.assign rfl rfl ?_
    refine (WL.done (WX.next ?_))
    refine (WC.ret ?_)
    refine ret_one rfl rfl ?_
    have e1 : R.abs.cutsOk cuts = true := by unfold PM.cutsOk; rw [← hmc, show m = g by omega]; exact hall
    rw [e1]
    exact ⟨rfl, H⟩

theorem St.notinS {w w' : World} {S : List Nat} {H : Hp} (h : St w S w' H) {b : Nat} {o : Obj} (hb : w.heap[b]? = some o) (hbS : b ∉ S) : b ∉ H.map Prod.fst := fun hm => by
  obtain ⟨q, hq, rfl⟩ := List.mem_map.1 hm
  rcases h.own q hq with h1 | h1
  · exact hbS h1
  · have := lt_of_some hb; omega
theorem take_fold {cuts : List (Int × Int)} {i : Nat} (hi : i < cuts.length) (ls : List PL) : (cuts.take (i + 1)).foldl cutStep ls = cutStep ((cuts.take i).foldl cutStep ls) cuts[i] := by
  rw [List.take_add_one, List.getElem?_eq_getElem hi, List.foldl_append]; rfl
theorem cuts_apart {M : PM} {cuts : List (Int × Int)} (h : M.cutsOk cuts = true) {i : Nat} (hi : i < cuts.length) : ∀ c ∈ cuts.take i, c.1.toNat ≠ (cuts[i]).1.toNat := by
  intro c hc
  have hcut : ∀ j, j < cuts.length → cutOk M cuts j = true := fun j hj => List.all_eq_true.1 h j (List.mem_range.2 hj)
  obtain ⟨j, hj⟩ := List.getElem?_of_mem hc
  rw [List.getElem?_take] at hj
  split at hj
  · rename_i hji
    have h1 := cuts_asc hcut j i hji hi
    have hjl : j < cuts.length := by omega
    rw [List.getElem?_eq_getElem hjl] at hj
    rw [getD_at hjl] at h1
    have hje : cuts[j] = c := Option.some.inj hj
    rw [hje] at h1
    have h2 := ((cutOk_iff hjl).1 (hcut j hjl)).1
    rw [hje] at h2
    have h3 := has_iff.1 h2
    omega
  · cases hj
theorem foldl_len' (cuts : List (Int × Int)) : ∀ ls : List PL, (cuts.foldl cutStep ls).length = ls.length := by
  induction cuts with
  | nil => intro ls; rfl
  | cons c cs ih => intro ls; rw [List.foldl_cons, ih]; simp [cutStep]
/-- The first i lines dropped. -/
def dropTo (ls : List PL) (i : Nat) : List PL := (ls.take i).map drop0 ++ ls.drop i
theorem dropTo_len (ls : List PL) (i : Nat) : (dropTo ls i).length = ls.length := by simp [dropTo]; omega
theorem dropTo_get {ls : List PL} {i : Nat} (hi : i < ls.length) : (dropTo ls i)[i]? = ls[i]? := by
  unfold dropTo
  rw [List.getElem?_append_right (by simp; omega)]
  simp [show min i ls.length = i from by omega]
theorem dropTo_succ {ls : List PL} {i : Nat} {l : PL} (h : ls[i]? = some l) : dropTo ls (i + 1) = (dropTo ls i).set i (drop0 l) := by
  have hi : i < ls.length := by
    rcases Nat.lt_or_ge i ls.length with h1 | h1
    · exact h1
    · rw [List.getElem?_eq_none h1] at h; cases h
  unfold dropTo
  rw [List.take_add_one, h, List.set_append_right _ _ (by simp; omega)]
  simp only [List.map_append, List.append_assoc, Option.toList, List.map_cons, List.map_nil, List.length_map, List.length_take]
  rw [List.getElem?_eq_getElem hi] at h
  rw [show i - min i ls.length = 0 from by omega, List.drop_eq_getElem_cons hi]
  rfl
theorem dropTo_all (ls : List PL) : dropTo ls ls.length = ls.map drop0 := by simp [dropTo]

theorem rcrash_any (R : RR) (A0 : Option Addr) (m cap : Nat) (cuts : List (Int × Int)) (hmc : m = cuts.length) (hm63 : m ≤ 9223372036854775807) (hps : ∀ x ∈ R.X, x.1.ps.length ≤ 1073741824) (w : World) (hm : RIn w R) (hc0 : CutsIn w A0 cuts (R.hp.map Prod.fst)) : Calls Tryd.prog 134 #[ptr R.p, .slice A0 m cap] w fun e w' => ∃ R' : RR, e = .returned (.int .i64 (if R.abs.cutsOk cuts then 0 else 1)) ∧ R'.p = R.p ∧ R'.abs = R.abs.crash cuts ∧ R'.ok ∧ St w (R.hp.map Prod.fst) w' R'.hp := by
  refine calls_walk_n (args := [ptr R.p, .slice A0 m cap]) Tryd.func134 rfl rfl rfl ?_
  have H := hm.start
  have hlen := hm.ok.len
  refine WC.seq ?_
  refine WC.region ?_
  refine WL.assign rfl rfl ?_
  refine (WL.done (WX.next ?_))
  refine WC.seq ?_
  refine WC.region ?_
  refine WL.move rfl rfl ?_
  refine WL.move rfl rfl ?_
  refine WL.call call181 rfl rfl ?_
  refine Calls.mono (rcuts_any R A0 m cap cuts hmc hm63 _ _ hm hc0) ?_
  rintro _ wx ⟨rfl, Hc⟩
  refine ⟨_, rfl, ?_⟩
  replace H := H.call0 Hc
  refine WL.assign rfl rfl ?_
  refine (WL.done (WX.next ?_))
  refine WC.seq ?_
  refine WC.seq ?_
  refine WC.region ?_
  refine WL.move rfl rfl ?_
  refine WL.notOp rfl rfl ?_
  refine (WL.done (WX.next ?_))
  first | refine WC.cond_dec rfl (fun c1 => ?_) (fun c1 => ?_) | refine WC.cond rfl (fun c1 => ?_) (fun c1 => ?_)
  · -- c1 T
    have hcok : R.abs.cutsOk cuts = false := by simpa only [Bool.not_eq_true'] using c1
    refine WC.seq ?_
    refine WC.region ?_
    refine WL.assign rfl rfl ?_
    refine (WL.done (WX.next ?_))
    refine (WC.ret (WX.then_ret ?_))
    refine ret_one rfl rfl ?_
    exact ⟨R, by rw [hcok]; rfl, rfl, by unfold PM.crash; rw [hcok]; rfl, hm.ok, H⟩
  · -- c1 F
    have hcok : R.abs.cutsOk cuts = true := by simpa only [Bool.not_eq_false'] using c1
    refine (WC.skip (WX.next ?_))
    refine WC.seq ?_
    refine WC.seq ?_
    refine WC.region ?_
    refine WL.assign rfl rfl ?_
    refine (WL.done (WX.next ?_))
    refine WC.block ?_
    -- loop 1: changed [6] kept [0, 1]
    refine WC.loop (Sub.cons (t := 0) rfl (Sub.cons (t := 1) rfl (Sub.nil _))) (fun q : RR × Nat => [(6, .int .i64 (q.2 : Int))]) (fun q i wx => q = m - i.2 ∧ i.2 ≤ m ∧ i.1.p = R.p ∧ i.1.abs = { R.abs with ls := (cuts.take i.2).foldl cutStep R.abs.ls } ∧ i.1.ok ∧ (∀ x ∈ i.1.X, x.1.ps.length ≤ 1073741824) ∧ St w (R.hp.map Prod.fst) wx i.1.hp) (m) ((R, 0)) (Sub.cons (t := 6) (by first | rfl | simp) (Sub.nil _)) (⟨rfl, Nat.zero_le _, rfl, rfl, hm.ok, hps, H⟩) ?_
    rintro k g wx hI N hN
    obtain ⟨R1, g⟩ := g
    obtain ⟨rfl, hg, hp1, ha1, hok1, hpx, H⟩ := hI
    change g ≤ m at hg
    obtain ⟨p1, lb1, lcap1, junk1, X1, span1, evs1, er1⟩ := R1
    change p1 = R.p at hp1
    subst hp1
    change RR.abs { p := R.p, lb := lb1, lcap := lcap1, junk := junk1, X := X1, span := span1, evs := evs1, er := er1 : RR } = { R.abs with ls := (cuts.take g).foldl cutStep R.abs.ls } at ha1
    change RR.ok { p := R.p, lb := lb1, lcap := lcap1, junk := junk1, X := X1, span := span1, evs := evs1, er := er1 : RR } at hok1
    change ∀ x ∈ X1, x.1.ps.length ≤ 1073741824 at hpx
    change St w (R.hp.map Prod.fst) wx (RR.hp { p := R.p, lb := lb1, lcap := lcap1, junk := junk1, X := X1, span := span1, evs := evs1, er := er1 : RR }) at H
    have hxl : X1.length = R.X.length := by
      have h := congrArg (fun M : PM => M.ls.length) ha1
      simp only [foldl_len', RR.abs_len] at h
      exact h
    have hxl2 : ({ p := R.p, lb := lb1, lcap := lcap1, junk := junk1, X := X1, span := span1, evs := evs1, er := er1 : RR }).X.length = R.X.length := hxl
    refine WC.seq ?_
    refine WC.seq ?_
    refine WC.region ?_
    refine WL.move rfl rfl ?_
    refine WL.move rfl rfl ?_
    refine WL.lenSlc isl50 rfl rfl ?_
    refine WL.bin rfl rfl binv_lss rfl ?_
    refine (WL.done (WX.next ?_))
    first | refine WC.cond_dec rfl (fun c2 => ?_) (fun c2 => ?_) | refine WC.cond rfl (fun c2 => ?_) (fun c2 => ?_)
    · -- c2 T
      change (g : Int) < (m : Int) at c2
      refine (WC.skip (WX.next ?_))
      refine WC.seq ?_
      refine WC.block ?_
      have hlt : g < cuts.length := by omega
      obtain ⟨b, o, cs, t, fr, rfl, hb, hbn, hcs⟩ : ∃ b o cs t fr, A0 = some ⟨b, o, none⟩ ∧ w.heap[b]? = some (.cells cs t fr) ∧ b ∉ R.hp.map Prod.fst ∧ ∀ j (h : j < cuts.length), cs[o + j * 2]? = some (.int .i64 (cuts[j]).1) ∧ cs[o + j * 2 + 1]? = some (.int .i64 (cuts[j]).2) := by
        rcases hc0 with h | h
        · rw [h] at hlt; simp at hlt
        · exact h
      obtain ⟨hc1, _, hc3, hc4⟩ := (cutOk_iff hlt).1 (List.all_eq_true.1 hcok g (List.mem_range.2 hlt))
      obtain ⟨hn0, hn1⟩ := RR.has_iff.1 hc1
      obtain ⟨k, hkk⟩ : ∃ k : Nat, (cuts[g]).1 = (k : Int) := ⟨(cuts[g]).1.toNat, by omega⟩
      obtain ⟨kp, hkp⟩ : ∃ kp : Nat, (cuts[g]).2 = (kp : Int) := ⟨(cuts[g]).2.toNat, by omega⟩
      have hcs1 : cs[o + g * 2]? = some (.int .i64 (k : Int)) := by rw [← hkk]; exact (hcs g hlt).1
      have hcs2 : cs[o + g * 2 + 1]? = some (.int .i64 (kp : Int)) := by rw [← hkp]; exact (hcs g hlt).2
      have hlk : ({ p := R.p, lb := lb1, lcap := lcap1, junk := junk1, X := X1, span := span1, evs := evs1, er := er1 : RR }).abs.line (k : Int) = R.abs.line (k : Int) := by
        rw [ha1]
        show ((cuts.take g).foldl cutStep R.abs.ls).getD (k : Int).toNat default = R.abs.ls.getD (k : Int).toNat default
        refine cut_other _ _ (fun c hc => ?_)
        have := cuts_apart hcok hlt c hc
        rw [hkk] at this
        exact this
      rw [hkk, hkp] at hc4
      rw [hkk] at hc1
      have hlps : (R.abs.line (k : Int)).ps.length ≤ 1073741824 := by
        obtain ⟨y, hy, e⟩ := List.mem_map.1 (line_mem hc1)
        rw [← e]; exact hps y hy
      replace H := H.drew
      refine WC.held (SX (World.drew wx) ((RR.hp { p := R.p, lb := lb1, lcap := lcap1, junk := junk1, X := X1, span := span1, evs := evs1, er := er1 : RR }).map Prod.fst)) (by kernel_rfl) ?_
      generalize World.drew wx = wb at H ⊢
      have HB : St wb ((RR.hp { p := R.p, lb := lb1, lcap := lcap1, junk := junk1, X := X1, span := span1, evs := evs1, er := er1 : RR }).map Prod.fst) wb (RR.hp { p := R.p, lb := lb1, lcap := lcap1, junk := junk1, X := X1, span := span1, evs := evs1, er := er1 : RR }) := St.start H.nd H.sat
      have hbn1 : b ∉ (RR.hp { p := R.p, lb := lb1, lcap := lcap1, junk := junk1, X := X1, span := span1, evs := evs1, er := er1 : RR }).map Prod.fst := H.notinS hb hbn
      refine WH.take 0 rfl (by kernel_rfl) (by kernel_rfl) (by kernel_rfl) (fun _ _ _ h => h) ⟨_, HB⟩ (fun w' hS => EX.move rfl) rfl ?_
      refine WH.take 1 rfl (by kernel_rfl) (by kernel_rfl) (by kernel_rfl) (fun _ _ _ h => h) ⟨_, HB⟩ (fun w' hS => EX.move rfl) rfl ?_
      refine WH.take 2 rfl (by kernel_rfl) (by kernel_rfl) (by kernel_rfl) (fun _ _ _ h => h) ⟨_, HB⟩ (fun w' hS => EX.move rfl) rfl ?_
      refine WH.take 3 rfl (by kernel_rfl) (by kernel_rfl) (by kernel_rfl) (fun _ _ _ h => h) ⟨_, HB⟩ (fun w' hS => EX.idxSlc (k := g) slc50 rfl rfl (by first | rfl | omega) (by omega)) rfl ?_
      refine WH.take 4 rfl (by kernel_rfl) (by kernel_rfl) (by kernel_rfl) (fun _ _ _ h => h) ⟨_, HB⟩ (fun w' hS => EX.fieldAddr fld109_0 rfl) rfl ?_
      first | refine WH.take 5 rfl (by kernel_rfl) (by kernel_rfl) (by kernel_rfl) (fun _ _ _ h => h) ⟨_, HB⟩ (fun w' hS => EX.load rfl (Rd.one ty3 (by rw [cell_of (hS.block (H.oldBlock hb hbn) hbn1), Nat.add_zero]; exact hcs1))) rfl ?_
      refine WH.take 6 rfl (by kernel_rfl) (by kernel_rfl) (by kernel_rfl) (fun _ _ _ h => h) ⟨_, HB⟩ (fun w' hS => EX.move rfl) rfl ?_
      refine WH.take 7 rfl (by kernel_rfl) (by kernel_rfl) (by kernel_rfl) (fun _ _ _ h => h) ⟨_, HB⟩ (fun w' hS => EX.move rfl) rfl ?_
      refine WH.take 8 rfl (by kernel_rfl) (by kernel_rfl) (by kernel_rfl) (fun _ _ _ h => h) ⟨_, HB⟩ (fun w' hS => EX.idxSlc (k := g) slc50 rfl rfl (by first | rfl | omega) (by omega)) rfl ?_
      refine WH.take 9 rfl (by kernel_rfl) (by kernel_rfl) (by kernel_rfl) (fun _ _ _ h => h) ⟨_, HB⟩ (fun w' hS => EX.fieldAddr fld109_1 rfl) rfl ?_
      first | refine WH.take 10 rfl (by kernel_rfl) (by kernel_rfl) (by kernel_rfl) (fun _ _ _ h => h) ⟨_, HB⟩ (fun w' hS => EX.load rfl (Rd.one ty3 (by rw [cell_of (hS.block (H.oldBlock hb hbn) hbn1)]; exact hcs2))) rfl ?_
      refine WH.hard 11 rfl (by kernel_rfl) ?_
      refine WL.call call180 rfl rfl ?_
      refine Calls.mono (rsettle_any { p := R.p, lb := lb1, lcap := lcap1, junk := junk1, X := X1, span := span1, evs := evs1, er := er1 : RR } k kp (by omega) (by rw [hlk]; omega) hpx _ (RIn.of (L := []) HB hok1)) ?_
      rintro _ wx ⟨R2, rfl, hp2, ha2, hok2, Hc⟩
      refine ⟨_, rfl, ?_⟩
      replace HB := HB.callM (L := []) Hc
      refine WL.done (WX.heldOn ⟨_, HB⟩ ?_)
      refine WH.done (by kernel_rfl) ?_
      replace H := H.callM (L := []) HB
      refine (WX.block_normal (WX.next ?_))
      refine WC.region ?_
      refine WL.move rfl rfl ?_
      refine WL.bin rfl rfl (iadd (by omega) (by omega)) rfl ?_
      refine WL.assign rfl rfl ?_
      refine (WL.done (WX.round ?_))
      have ha3 : R2.abs = { R.abs with ls := (cuts.take (g + 1)).foldl cutStep R.abs.ls } := by
        rw [ha2, ha1, take_fold hlt]
        unfold cutStep
        rw [hkk, hkp, Int.toNat_natCast, Int.toNat_natCast]
        rfl
      have hpx2 : ∀ x ∈ R2.X, x.1.ps.length ≤ 1073741824 := fun x hx => by
        have h1 : x.1 ∈ R2.abs.ls := List.mem_map_of_mem hx
        rw [ha2] at h1
        rcases List.mem_or_eq_of_mem_set h1 with h | h
        · obtain ⟨y, hy, e⟩ := List.mem_map.1 h
          rw [← e]; exact hpx y hy
        · rw [h, hlk]; exact Nat.le_trans (settle_le _ _) hlps
      exact hN _ (R2, g + 1) _ _ (by show m - (g + 1) < m - g; omega) ⟨rfl, by show g + 1 ≤ m; omega, hp2, ha3, hok2, hpx2, H⟩ (Sub.cons (t := 6) (by first | rfl | simp) (Sub.nil _)) (Sub.cons (t := 0) rfl (Sub.cons (t := 1) rfl (Sub.nil _)))
    · -- c2 F
      change ¬ (g : Int) < (m : Int) at c2
      refine (WC.exit (WX.then_exit (WX.then_exit (WX.block_exit (WX.next ?_)))))
      refine WC.seq ?_
      refine WC.seq ?_
      refine WC.region ?_
      refine WL.assign rfl rfl ?_
      refine (WL.done (WX.next ?_))
      refine WC.block ?_
      -- loop 2: changed [7] kept [0]
      have hgm : g = cuts.length := by omega
      rw [hgm, List.take_length] at ha1
      clear hg c2
      refine WC.loop (Sub.cons (t := 0) rfl (Sub.nil _)) (fun q : RR × Nat => [(7, .int .i64 (q.2 : Int))]) (fun q i wx => q = R.X.length - i.2 ∧ i.2 ≤ R.X.length ∧ i.1.p = R.p ∧ i.1.abs = { R.abs with ls := dropTo (cuts.foldl cutStep R.abs.ls) i.2 } ∧ i.1.ok ∧ St w (R.hp.map Prod.fst) wx i.1.hp) (R.X.length) (({ p := R.p, lb := lb1, lcap := lcap1, junk := junk1, X := X1, span := span1, evs := evs1, er := er1 : RR }, 0)) (Sub.cons (t := 7) (by first | rfl | simp) (Sub.nil _)) (⟨rfl, Nat.zero_le _, rfl, ha1, hok1, H⟩) ?_
      rintro k g wx hI N hN
      clear hxl hxl2 ha1 hok1 hpx H
      obtain ⟨R1, g⟩ := g
      obtain ⟨rfl, hg, hp1, ha1, hok1, H⟩ := hI
      change g ≤ R.X.length at hg
      obtain ⟨p1, lb1, lcap1, junk1, X1, span1, evs1, er1⟩ := R1
      change p1 = R.p at hp1
      subst hp1
      change RR.abs { p := R.p, lb := lb1, lcap := lcap1, junk := junk1, X := X1, span := span1, evs := evs1, er := er1 : RR } = { R.abs with ls := dropTo (cuts.foldl cutStep R.abs.ls) g } at ha1
      change RR.ok { p := R.p, lb := lb1, lcap := lcap1, junk := junk1, X := X1, span := span1, evs := evs1, er := er1 : RR } at hok1
      change St w (R.hp.map Prod.fst) wx (RR.hp { p := R.p, lb := lb1, lcap := lcap1, junk := junk1, X := X1, span := span1, evs := evs1, er := er1 : RR }) at H
      have hxl : X1.length = R.X.length := by
        have h := congrArg (fun M : PM => M.ls.length) ha1
        simp only [dropTo_len, foldl_len', RR.abs_len] at h
        exact h
      have hxl2 : ({ p := R.p, lb := lb1, lcap := lcap1, junk := junk1, X := X1, span := span1, evs := evs1, er := er1 : RR }).X.length = R.X.length := hxl
      refine WC.seq ?_
      refine WC.seq ?_
      refine WC.region ?_
      refine WL.move rfl rfl ?_
      refine WL.move rfl rfl ?_
      first | refine WL.nilCheck rfl rfl ?_ | refine WL.nilCheckFn rfl rfl ?_
      refine WL.fieldAddr fld89_0 rfl rfl ?_
      first | refine WL.load rfl (Rd.q0 (H.blk 0 rfl)) rfl ?_ | refine WL.load rfl (H.rd1 ty87 0 rfl rfl) rfl ?_ | refine WL.load rfl (H.rd1 ty87 1 rfl rfl) rfl ?_ | refine WL.load rfl (H.rdA ty87 0 rfl (by decide)) rfl ?_ | refine WL.load rfl (H.rdA ty87 1 rfl (by decide)) rfl ?_
      refine WL.lenSlc isl87 rfl rfl ?_
      refine WL.bin rfl rfl binv_lss rfl ?_
      refine (WL.done (WX.next ?_))
      first | refine WC.cond_dec rfl (fun c3 => ?_) (fun c3 => ?_) | refine WC.cond rfl (fun c3 => ?_) (fun c3 => ?_)
      · -- c3 T
        change (g : Int) < (X1.length : Int) at c3
        refine (WC.skip (WX.next ?_))
        refine WC.seq ?_
        refine WC.block ?_
        refine WC.seq ?_
        refine WC.region ?_
        have hgl : g < X1.length := by omega
        obtain ⟨A, l, r, B, hX, hA, hal, hok, hr, hso, hget⟩ := hok1.at (k := g) hgl
        replace H := St.focusR (L := []) hX H
        refine WL.move rfl rfl ?_
        first | refine WL.nilCheck rfl rfl ?_ | refine WL.nilCheckFn rfl rfl ?_
        refine WL.fieldAddr fld89_0 rfl rfl ?_
        first | refine WL.load rfl (Rd.q0 (H.blk 0 rfl)) rfl ?_ | refine WL.load rfl (H.rd1 ty87 0 rfl rfl) rfl ?_ | refine WL.load rfl (H.rd1 ty87 1 rfl rfl) rfl ?_ | refine WL.load rfl (H.rdA ty87 0 rfl (by decide)) rfl ?_ | refine WL.load rfl (H.rdA ty87 1 rfl (by decide)) rfl ?_
        refine WL.move rfl rfl ?_
        refine WL.idxSlc (k := g) slc87 rfl rfl (by first | rfl | omega) (by omega) rfl ?_
        refine WL.fieldAddr fld184_2 rfl rfl ?_
        refine WL.storeAt H ty52 1 rfl rfl rfl rfl (by simp [Value.cells, Value.oneCell']) (by rw [lineL_size hok.1]; omega) ?_
        intro wx H
        replace H := H.castH (H' := (R.p, structQ lb1 X1.length lcap1 span1 er1 evs1.length) :: (lb1, .cells (lineL (linesC A) { l with ps := [] } Row.none (linesC B ++ junk1)) 184) :: (r.hp 111 ++ (er1.hp 164 ++ pendHp A ++ pendHp B))) (by
          have e1 := wr_lineS (a := linesC A) (l := l) (r := r) (r' := Row.none) (ps' := []) (c := linesC B ++ junk1) (o := 0 + g * 11 + 9) (by omega) hok.1
          rw [← e1]; rfl)
        refine (WL.done (WX.next ?_))
        refine WC.region ?_
        refine WL.move rfl rfl ?_
        first | refine WL.nilCheck rfl rfl ?_ | refine WL.nilCheckFn rfl rfl ?_
        refine WL.fieldAddr fld89_0 rfl rfl ?_
        first | refine WL.load rfl (Rd.q0 (H.blk 0 rfl)) rfl ?_ | refine WL.load rfl (H.rd1 ty87 0 rfl rfl) rfl ?_ | refine WL.load rfl (H.rd1 ty87 1 rfl rfl) rfl ?_ | refine WL.load rfl (H.rdA ty87 0 rfl (by decide)) rfl ?_ | refine WL.load rfl (H.rdA ty87 1 rfl (by decide)) rfl ?_
        refine WL.move rfl rfl ?_
        refine WL.idxSlc (k := g) slc87 rfl rfl (by first | rfl | omega) (by omega) rfl ?_
        refine WL.fieldAddr fld184_3 rfl rfl ?_
        refine WL.storeAt H ty3 1 rfl rfl rfl rfl (by simp [Value.cells, Value.oneCell']) (by rw [lineL_size (by exact hok.1)]; omega) ?_
        intro wx H
        replace H := H.castH (H' := (R.p, structQ lb1 X1.length lcap1 span1 er1 evs1.length) :: (lb1, .cells (lineL (linesC A) (drop0 l) Row.none (linesC B ++ junk1)) 184) :: (r.hp 111 ++ (er1.hp 164 ++ pendHp A ++ pendHp B))) (by
          have e1 := wr_lineM (a := linesC A) (l := { l with ps := [] }) (r := Row.none) (z := 0) (c := linesC B ++ junk1) (o := 0 + g * 11 + 10) (by omega) hok.1
          exact congrArg (fun c => (R.p, structQ lb1 X1.length lcap1 span1 er1 evs1.length) :: (lb1, Obj.cells c 184) :: (r.hp 111 ++ (er1.hp 164 ++ pendHp A ++ pendHp B))) e1)
        replace H : St w (R.hp.map Prod.fst) wx ([] ++ qhp R.p lb1 X1.length lcap1 span1 er1 evs1.length (linesC A) (drop0 l) Row.none (linesC B ++ junk1) (er1.hp 164 ++ pendHp A ++ pendHp B)) := H.weaken (List.Sublist.cons_cons _ (List.Sublist.cons_cons _ (List.sublist_append_right _ _)))
        replace H := St.refocusR (L := []) (R := { p := R.p, lb := lb1, lcap := lcap1, junk := junk1, X := X1, span := span1, evs := evs1, er := er1 : RR }) hX H
        have hok2 := RR.ok.upd hok1 hX (l' := drop0 l) (r' := Row.none) ⟨hok.1, hok.2.1, hok.2.2.1, Nat.zero_le _, by simp [drop0]⟩ (fun h => absurd rfl h) ⟨rfl, rfl⟩
        refine (WL.done (WX.block_normal (WX.next ?_)))
        refine WC.region ?_
        refine WL.move rfl rfl ?_
        refine WL.bin rfl rfl (iadd (by omega) (by omega)) rfl ?_
        refine WL.assign rfl rfl ?_
        refine (WL.done (WX.round ?_))
        have ha3 : (RR.upd { p := R.p, lb := lb1, lcap := lcap1, junk := junk1, X := X1, span := span1, evs := evs1, er := er1 : RR } A B (drop0 l) Row.none).abs = { R.abs with ls := dropTo (cuts.foldl cutStep R.abs.ls) (g + 1) } := by
          have hll : (cuts.foldl cutStep R.abs.ls).length = R.X.length := by rw [foldl_len', RR.abs_len]
          have hgt : (cuts.foldl cutStep R.abs.ls)[g]? = some l := by
            rw [← dropTo_get (by omega)]
            have e : (RR.abs { p := R.p, lb := lb1, lcap := lcap1, junk := junk1, X := X1, span := span1, evs := evs1, er := er1 : RR }).ls = dropTo (cuts.foldl cutStep R.abs.ls) g := congrArg PM.ls ha1
            rw [← e]
            exact RR.abs_get hget
          rw [RR.abs_upd hX hA, ha1, dropTo_succ hgt]
        exact hN _ (RR.upd { p := R.p, lb := lb1, lcap := lcap1, junk := junk1, X := X1, span := span1, evs := evs1, er := er1 : RR } A B (drop0 l) Row.none, g + 1) _ _ (by show R.X.length - (g + 1) < R.X.length - g; omega) ⟨rfl, by show g + 1 ≤ R.X.length; omega, rfl, ha3, hok2, H⟩ (Sub.cons (t := 7) (by first | rfl | simp) (Sub.nil _)) (Sub.cons (t := 0) rfl (Sub.nil _))
      · -- c3 F
        change ¬ (g : Int) < (X1.length : Int) at c3
        refine (WC.exit (WX.then_exit (WX.then_exit (WX.block_exit (WX.next ?_)))))
        refine WC.seq ?_
        refine WC.region ?_
        refine WL.move rfl rfl ?_
        first | refine WL.nilCheck rfl rfl ?_ | refine WL.nilCheckFn rfl rfl ?_
        refine WL.fieldAddr fld89_1 rfl rfl ?_
        refine WL.storeAt H ty3 0 rfl rfl rfl rfl (by simp [Value.cells, Value.oneCell']) (show 0 + 1 + 1 ≤ 3 by omega) ?_
        intro wx H
        refine (WL.done (WX.next ?_))
        refine WC.seq ?_
        refine WC.region ?_
        refine WL.move rfl rfl ?_
        first | refine WL.nilCheck rfl rfl ?_ | refine WL.nilCheckFn rfl rfl ?_
        refine WL.fieldAddr fld89_2 rfl rfl ?_
        refine WL.storeAt H ty30 0 rfl rfl rfl rfl (by simp [Value.cells, Value.oneCell']) (Nat.le_refl 3) ?_
        intro wx H
        refine (WL.done (WX.next ?_))
        refine WC.seq ?_
        refine WC.region ?_
        refine WL.assign rfl rfl ?_
        refine (WL.done (WX.next ?_))
        refine (WC.ret ?_)
        refine ret_one rfl rfl ?_
        refine ⟨{ p := R.p, lb := lb1, lcap := lcap1, junk := junk1, X := X1, span := 0, evs := [], er := Row.none : RR }, by rw [hcok]; rfl, rfl, ?_, ⟨hok1.len, hok1.lcap, hok1.junk, hok1.lines, hok1.sound, by simp, ⟨rfl, rfl⟩, by show (0 : Int) ≤ 0 ∧ (0 : Int) ≤ 9223372036854775807; omega⟩, ?_⟩
        · unfold PM.crash
          rw [if_pos hcok, ← dropTo_all]
          have e := congrArg PM.ls ha1
          have hgl : g = (cuts.foldl cutStep R.abs.ls).length := by rw [foldl_len', RR.abs_len]; omega
          rw [← hgl]
          show PM.mk (X1.map Prod.fst) 0 [] = _
          rw [show X1.map Prod.fst = dropTo (cuts.foldl cutStep R.abs.ls) g from e]
        · exact H.weaken (List.Sublist.cons_cons _ (List.Sublist.cons_cons _ (List.sublist_append_right _ _)))

end Go.Proofs.YtkncbggnaobgeaaDoor

/- Walks of functions of the program; printed by a program of this session (walk.py) out of hand-written hints. -/
namespace Go.Proofs.YtkncbggnaobgeaaDoor
open Go.RowKit
set_option linter.unusedVariables false
set_option linter.unusedSimpArgs false
set_option maxRecDepth 100000

theorem app87 : AppT Tryd.prog 87 184 11 104 := appT_of (by kernel_rfl)
theorem flds164 : FldsI Tryd.prog 12 (Tryd.prog.fieldsOf 164).toList [(0, 1), (1, 1), (2, 1), (3, 1), (4, 8)] := by
  unfold Program.fieldsOf
  rw [Tryd.underlying164]
  exact .int (by decide) (by kernel_rfl) (by decide) (.int (by decide) (by kernel_rfl) (by decide) (.int (by decide) (by kernel_rfl) (by decide) (.int (by decide) (by kernel_rfl) (by decide) (.agg (n := 8) (by decide) eqI38 ty38 (by decide) .nil))))
theorem split12 {xs ys : List Int} (hx : xs.length = 12) (hy : ys.length = 12) : ([(0, 1), (1, 1), (2, 1), (3, 1), (4, 8)].all fun s : Nat × Nat => (xs.drop s.1).take s.2 == (ys.drop s.1).take s.2) = (xs == ys) := by
  rw [Bool.eq_iff_iff, List.all_eq_true, beq_iff_eq]
  constructor
  · intro h
    have g : ∀ s ∈ ([(0, 1), (1, 1), (2, 1), (3, 1), (4, 8)] : List (Nat × Nat)), (xs.drop s.1).take s.2 = (ys.drop s.1).take s.2 := fun s hs => by simpa using h s hs
    have h0 := g (0, 1) (by simp)
    have h1 := g (1, 1) (by simp)
    have h2 := g (2, 1) (by simp)
    have h3 := g (3, 1) (by simp)
    have h4 := g (4, 8) (by simp)
    have key : ∀ (a k : Nat) (zs : List Int), zs.drop a = (zs.drop a).take k ++ zs.drop (a + k) := fun a k zs => by
      rw [← List.drop_drop, List.take_append_drop]
    have e4 : xs.drop 4 = ys.drop 4 := by
      rw [List.take_of_length_le (by simp; omega), List.take_of_length_le (by simp; omega)] at h4; exact h4
    have e3 : xs.drop 3 = ys.drop 3 := by rw [key 3 1 xs, key 3 1 ys]; exact congr (congrArg HAppend.hAppend h3) e4
    have e2 : xs.drop 2 = ys.drop 2 := by rw [key 2 1 xs, key 2 1 ys]; exact congr (congrArg HAppend.hAppend h2) e3
    have e1 : xs.drop 1 = ys.drop 1 := by rw [key 1 1 xs, key 1 1 ys]; exact congr (congrArg HAppend.hAppend h1) e2
    have e0 : xs.drop 0 = ys.drop 0 := by rw [key 0 1 xs, key 0 1 ys]; exact congr (congrArg HAppend.hAppend h0) e1
    simpa using e0
  · rintro rfl s _; simp
theorem eqI164 : EqI5 Tryd.prog 164 12 := eqI_struct (by unfold Program.fieldsOf; rw [Tryd.underlying164]) rfl (by kernel_rfl) flds164 (fun xs ys hx hy => split12 hx hy)
theorem fill184n : Instr.fill (fun i => [(0, 8), (8, 1), (9, 1), (10, 1)][i]?) z184 [(1, .int .i64 (enc zeros8))] = some (lineC pl0 Row.none).toArray := by
  rw [enc_zero]; kernel_rfl
def repX (n : Nat) : List (PL × Row) := List.replicate n (pl0, Row.none)
theorem repX_succ (n : Nat) : linesC (repX (n + 1)) = linesC (repX n) ++ lineC pl0 Row.none := by
  unfold repX
  rw [List.replicate_succ', linesC_append]
  simp [linesC]
theorem repX_hp (n : Nat) : pendHp (repX n) = [] := by
  unfold repX pendHp
  induction n with
  | zero => rfl
  | succ n ih => rw [List.replicate_succ, List.flatMap_cons, ih]; rfl

theorem sameEvents_any (A A2 : Option Addr) (m m2 cap cap2 : Nat) (xs ys : List (List Int)) (hm : m = xs.length) (hm2 : m2 = ys.length) (w : World) (hx : RowsIn w A 12 xs) (hy : RowsIn w A2 12 ys) (hm63 : m ≤ 9223372036854775807) : Calls Tryd.prog 122 #[.slice A m cap, .slice A2 m2 cap2] w fun e w' => e = .returned (.bool (decide (xs = ys))) ∧ St w [] w' [] := by
  refine calls_walk_n (args := [.slice A m cap, .slice A2 m2 cap2]) Tryd.func122 rfl rfl rfl ?_
  have H := St.refl w
  refine WC.seq ?_
  refine WC.region ?_
  refine WL.assign rfl rfl ?_
  refine (WL.done (WX.next ?_))
  refine WC.seq ?_
  refine WC.seq ?_
  refine WC.region ?_
  refine WL.move rfl rfl ?_
  refine WL.lenSlc isl30 rfl rfl ?_
  refine WL.move rfl rfl ?_
  refine WL.lenSlc isl30 rfl rfl ?_
  refine WL.bin rfl rfl binv_neq rfl ?_
  refine (WL.done (WX.next ?_))
  first | refine WC.cond_dec rfl (fun c1 => ?_) (fun c1 => ?_) | refine WC.cond rfl (fun c1 => ?_) (fun c1 => ?_)
  · -- c1 T
    refine WC.seq ?_
    refine WC.region ?_
    refine WL.assign rfl rfl ?_
    refine (WL.done (WX.next ?_))
    refine (WC.ret (WX.then_ret ?_))
    refine ret_one rfl rfl ?_
    have hne : ¬ xs = ys := fun h => by rw [h] at hm; omega
    rw [decide_eq_false hne]
    exact ⟨rfl, H⟩
  · -- c1 F
    have hmm : xs.length = ys.length := by omega
    refine (WC.skip (WX.next ?_))
    refine WC.seq ?_
    refine WC.seq ?_
    refine WC.region ?_
    refine WL.assign rfl rfl ?_
    refine (WL.done (WX.next ?_))
    refine WC.block ?_
    -- loop 1: changed [5] kept [0, 1]
    refine WC.loop (Sub.cons (t := 0) rfl (Sub.cons (t := 1) rfl (Sub.nil _))) (fun i : Nat => [(5, .int .i64 (i : Int))]) (fun q i wx => q = m - i ∧ i ≤ m ∧ xs.take i = ys.take i ∧ St w [] wx []) (m) (0) (Sub.cons (t := 5) (by first | rfl | simp) (Sub.nil _)) (⟨rfl, by omega, rfl, H⟩) ?_
    rintro k g wx hI N hN
    obtain ⟨rfl, hg, hall, H⟩ := hI
    refine WC.seq ?_
    refine WC.seq ?_
    refine WC.region ?_
    refine WL.move rfl rfl ?_
    refine WL.move rfl rfl ?_
    refine WL.lenSlc isl30 rfl rfl ?_
    refine WL.bin rfl rfl binv_lss rfl ?_
    refine (WL.done (WX.next ?_))
    first | refine WC.cond_dec rfl (fun c2 => ?_) (fun c2 => ?_) | refine WC.cond rfl (fun c2 => ?_) (fun c2 => ?_)
    · -- c2 T
      refine (WC.skip (WX.next ?_))
      refine WC.seq ?_
      refine WC.block ?_
      refine WC.seq ?_
      have hlt : g < xs.length := by omega
      have hlt2 : g < ys.length := by omega
      have hx8 := hx.1 _ (List.getElem_mem hlt)
      have hy8 := hy.1 _ (List.getElem_mem hlt2)
      obtain ⟨b, o, rfl⟩ := hx.addr (by omega) hlt
      obtain ⟨b2, o2, rfl⟩ := hy.addr (by omega) hlt2
      replace H := H.drew
      refine WC.held (SX (World.drew wx) []) (by kernel_rfl) ?_
      generalize World.drew wx = wb at H ⊢
      have HB := St.refl wb
      refine WH.take 0 rfl (by kernel_rfl) (by kernel_rfl) (by kernel_rfl) (fun _ _ _ h => h) ⟨_, HB⟩ (fun w' hS => EX.move rfl) rfl ?_
      refine WH.take 1 rfl (by kernel_rfl) (by kernel_rfl) (by kernel_rfl) (fun _ _ _ h => h) ⟨_, HB⟩ (fun w' hS => EX.move rfl) rfl ?_
      refine WH.take 2 rfl (by kernel_rfl) (by kernel_rfl) (by kernel_rfl) (fun _ _ _ h => h) ⟨_, HB⟩ (fun w' hS => EX.idxSlc (k := g) slc30 rfl rfl (by first | rfl | omega) (by omega)) rfl ?_
      first | refine WH.take 3 rfl (by kernel_rfl) (by kernel_rfl) (by kernel_rfl) (fun _ _ _ h => h) ⟨_, HB⟩ (fun w' hS => EX.load rfl (((hx.keep H).keep (SX.st0 hS)).rd ty164 (by omega) hlt rfl)) rfl ?_
      refine WH.take 4 rfl (by kernel_rfl) (by kernel_rfl) (by kernel_rfl) (fun _ _ _ h => h) ⟨_, HB⟩ (fun w' hS => EX.move rfl) rfl ?_
      refine WH.take 5 rfl (by kernel_rfl) (by kernel_rfl) (by kernel_rfl) (fun _ _ _ h => h) ⟨_, HB⟩ (fun w' hS => EX.move rfl) rfl ?_
      refine WH.take 6 rfl (by kernel_rfl) (by kernel_rfl) (by kernel_rfl) (fun _ _ _ h => h) ⟨_, HB⟩ (fun w' hS => EX.idxSlc (k := g) slc30 rfl rfl (by first | rfl | omega) (by omega)) rfl ?_
      first | refine WH.take 7 rfl (by kernel_rfl) (by kernel_rfl) (by kernel_rfl) (fun _ _ _ h => h) ⟨_, HB⟩ (fun w' hS => EX.load rfl (((hy.keep H).keep (SX.st0 hS)).rd ty164 (by omega) hlt2 rfl)) rfl ?_
      refine WH.take 8 rfl (by kernel_rfl) (by kernel_rfl) (by kernel_rfl) (fun _ _ _ h => h) ⟨_, HB⟩ (fun w' hS => EX.bin rfl rfl (binv_agg_neq eqI164 (by kernel_rfl) hx8 hy8)) rfl ?_
      refine WH.done (by kernel_rfl) ?_
      replace H := H.call HB
      refine WX.next ?_
      first | refine WC.cond_dec rfl (fun c3 => ?_) (fun c3 => ?_) | refine WC.cond rfl (fun c3 => ?_) (fun c3 => ?_)
      · -- c3 T
        refine WC.seq ?_
        refine WC.region ?_
        refine WL.assign rfl rfl ?_
        refine (WL.done (WX.next ?_))
        refine (WC.ret (WX.block_ret (WX.then_ret (WX.then_ret (WX.block_ret (WX.then_ret ?_))))))
        refine ret_one rfl rfl ?_
        have hne : ¬ xs = ys := fun h => by subst h; simp at c3
        rw [decide_eq_false hne]
        exact ⟨rfl, H⟩
      · -- c3 F
        refine (WC.skip (WX.block_normal (WX.next ?_)))
        refine WC.region ?_
        refine WL.move rfl rfl ?_
        refine WL.bin rfl rfl (iadd (by omega) (by omega)) rfl ?_
        refine WL.assign rfl rfl ?_
        refine (WL.done (WX.round ?_))
        have heq : xs[g] = ys[g] := by simpa using c3
        exact hN _ (g+1) _ _ (by omega) ⟨rfl, by omega, take_eq_succ hlt hlt2 hall heq, H⟩ (Sub.cons (t := 5) (by first | rfl | simp) (Sub.nil _)) (Sub.cons (t := 0) rfl (Sub.cons (t := 1) rfl (Sub.nil _)))
    · -- c2 F
      refine (WC.exit (WX.then_exit (WX.then_exit (WX.block_exit (WX.next ?_)))))
      refine WC.seq ?_
      refine WC.region ?_
      refine WL.assign rfl rfl ?_
      refine (WL.done (WX.next ?_))
      refine (WC.ret ?_)
      refine ret_one rfl rfl ?_
      have heq : xs = ys := by rw [List.take_of_length_le (by omega), List.take_of_length_le (by omega)] at hall; exact hall
      rw [decide_eq_true heq]
      exact ⟨rfl, H⟩

theorem rnew_any (n : Int) (w : World) : Calls Tryd.prog 54 #[.int .i64 n] w fun e w' => ∃ p, e = .returned (ptr p) ∧ ((1 ≤ n ∧ n ≤ 4096 ∧ ∃ R : RR, R.p = p ∧ R.abs = PM.fresh n.toNat ∧ R.ok ∧ St w [] w' R.hp) ∨ (¬ (1 ≤ n ∧ n ≤ 4096) ∧ St w [] w' [(p, .cells #[.slice none 0 0, .int .i64 0, .slice none 0 0] 89)])) := by
  refine calls_walk_n (args := [.int .i64 n]) Tryd.func54 rfl rfl rfl ?_
  have H := St.refl w
  refine WC.seq ?_
  refine WC.region ?_
  refine WL.assign rfl rfl ?_
  refine (WL.done (WX.next ?_))
  refine WC.seq ?_
  refine WC.region ?_
  refine WL.build pla89 zer89 rfl rfl rfl ?_
  refine WL.box H rfl rfl ?_
  intro p wx hp hgep H
  change St w [] wx [(p, .cells #[.slice none 0 0, .int .i64 0, .slice none 0 0] 89)] at H
  refine WL.assign rfl rfl ?_
  refine (WL.done (WX.next ?_))
  refine WC.seq ?_
  refine WC.seq ?_
  refine WC.region ?_
  refine WL.move rfl rfl ?_
  refine WL.bin rfl rfl binv_gtr rfl ?_
  refine (WL.done (WX.next ?_))
  first | refine WC.cond_dec rfl (fun c1 => ?_) (fun c1 => ?_) | refine WC.cond rfl (fun c1 => ?_) (fun c1 => ?_)
  · -- c1 T
    refine WC.seq ?_
    refine WC.region ?_
    refine WL.move rfl rfl ?_
    refine WL.assign rfl rfl ?_
    refine (WL.done (WX.next ?_))
    refine (WC.ret (WX.then_ret ?_))
    refine ret_one rfl rfl ?_
    exact ⟨p, rfl, .inr ⟨by omega, H⟩⟩
  · -- c1 F
    refine (WC.skip (WX.next ?_))
    refine WC.seq ?_
    refine WC.region ?_
    refine WL.buildA (z := arrC zeros8) arr38 zer38 rfl rfl rfl ?_
    refine WL.call call32 rfl rfl ?_
    refine Calls.mono (refencode_any zeros8 rfl _) ?_
    rintro _ wx ⟨rfl, Hc⟩
    refine ⟨_, rfl, ?_⟩
    replace H := H.call0 Hc
    refine WL.assign rfl rfl ?_
    refine (WL.done (WX.next ?_))
    refine WC.seq ?_
    refine WC.seq ?_
    refine WC.region ?_
    refine WL.assign rfl rfl ?_
    refine (WL.done (WX.next ?_))
    refine WC.block ?_
    -- loop 1: changed [5] kept [0, 3, 4]
    refine WC.loop (Sub.cons (t := 0) rfl (Sub.cons (t := 3) rfl (Sub.cons (t := 4) rfl (Sub.nil _)))) (fun q : Row × Nat => [(5, .int .i64 (q.2 : Int))]) (fun q i wx => q = n.toNat - i.2 ∧ i.2 ≤ n.toNat ∧ i.1.ok 11 i.2 (linesC (repX i.2)) ∧ (i.2 = 0 → i.1 = Row.none) ∧ St w [] wx ((p, .cells #[i.1.val i.2, .int .i64 0, .slice none 0 0] 89) :: i.1.hp 184)) (n.toNat) ((Row.none, 0)) (Sub.cons (t := 5) (by first | rfl | simp) (Sub.nil _)) (⟨rfl, Nat.zero_le _, ⟨rfl, rfl⟩, fun _ => rfl, H⟩) ?_
    rintro k g wx hI N hN
    obtain ⟨r, g⟩ := g
    obtain ⟨rfl, hg, hr, hz0, H⟩ := hI
    change g ≤ n.toNat at hg
    change r.ok 11 g (linesC (repX g)) at hr
    change g = 0 → r = Row.none at hz0
    change St w [] wx ((p, .cells #[r.val g, .int .i64 0, .slice none 0 0] 89) :: r.hp 184) at H
    refine WC.seq ?_
    refine WC.seq ?_
    refine WC.region ?_
    refine WL.move rfl rfl ?_
    refine WL.move rfl rfl ?_
    refine WL.bin rfl rfl binv_lss rfl ?_
    refine (WL.done (WX.next ?_))
    first | refine WC.cond_dec rfl (fun c2 => ?_) (fun c2 => ?_) | refine WC.cond rfl (fun c2 => ?_) (fun c2 => ?_)
    · -- c2 T
      change (g : Int) < n at c2
      refine (WC.skip (WX.next ?_))
      refine WC.seq ?_
      refine WC.block ?_
      refine WC.region ?_
      refine WL.move rfl rfl ?_
      refine WL.move rfl rfl ?_
      first | refine WL.nilCheck rfl rfl ?_ | refine WL.nilCheckFn rfl rfl ?_
      refine WL.fieldAddr fld89_0 rfl rfl ?_
      first | refine WL.load rfl (Rd.one ty87 (by rw [cell_of (H.blk 0 rfl)]; rfl)) rfl ?_
      refine WL.move rfl rfl ?_
      refine WL.build (z := z184) pla184 zer184 rfl rfl fill184n ?_
      refine WL.buildSlice1 H Tryd.underlying87 (sz := 11) (by simp only [Tryd.underlying184]; exact ty184) (by omega) zer184 rfl rfl rfl rfl ?_
      intro gn wx hgn hggn H
      replace H : St w [] wx (r.hp 184 ++ [(gn, .cells (Value.agg (lineC pl0 Row.none).toArray).cells 184), (p, .cells #[r.val g, .int .i64 0, .slice none 0 0] 89)]) := H.perm (List.perm_append_comm (l₁ := [_, _]))
      refine WL.append (m := 1) (news := lineC pl0 Row.none) app87 H hr rfl rfl rfl (fun j u hj => by rw [addr_add, cell_of (H.sat (gn, _) (List.mem_append_right _ List.mem_cons_self)), Nat.zero_add]; simpa [Value.cells] using hj) (lineC_one _ _) (by simp only [maxLen]; omega) (by omega) rfl ?_
      intro r1 wx hr1 H
      replace H := H.perm (List.perm_append_comm (l₂ := [_, _]))
      first | refine WL.nilCheck rfl rfl ?_ | refine WL.nilCheckFn rfl rfl ?_
      refine WL.fieldAddr fld89_0 rfl rfl ?_
      refine WL.storeAt H ty87 1 rfl rfl rfl (Row.val_size _ _) (Row.val_one _ _) (show 0 + 0 + 1 ≤ 3 by omega) ?_
      intro wx H
      replace H : St w [] wx ((p, .cells #[r1.val (g + 1), .int .i64 0, .slice none 0 0] 89) :: r1.hp 184) := H.tail.castH (by rw [Row.val_cells]; rfl)
      rw [← repX_succ] at hr1
      refine (WL.done (WX.block_normal (WX.next ?_)))
      refine WC.region ?_
      refine WL.move rfl rfl ?_
      refine WL.bin rfl rfl (iadd (by omega) (by omega)) rfl ?_
      refine WL.assign rfl rfl ?_
      refine (WL.done (WX.round ?_))
      exact hN _ (r1, g + 1) _ _ (by show n.toNat - (g + 1) < n.toNat - g; omega) ⟨rfl, by show g + 1 ≤ n.toNat; omega, hr1, fun h => absurd h (Nat.succ_ne_zero g), H⟩ (Sub.cons (t := 5) (by first | rfl | simp) (Sub.nil _)) (Sub.cons (t := 0) rfl (Sub.cons (t := 3) rfl (Sub.cons (t := 4) rfl (Sub.nil _))))
    · -- c2 F
      change ¬ (g : Int) < n at c2
      refine (WC.exit (WX.then_exit (WX.then_exit (WX.block_exit (WX.next ?_)))))
      refine WC.seq ?_
      refine WC.region ?_
      refine WL.move rfl rfl ?_
      refine WL.assign rfl rfl ?_
      refine (WL.done (WX.next ?_))
      refine (WC.ret ?_)
      refine ret_one rfl rfl ?_
      obtain rfl : g = n.toNat := by omega
      rcases Nat.eq_zero_or_pos n.toNat with h0 | h0
      · refine ⟨p, rfl, .inr ⟨by omega, ?_⟩⟩
        obtain rfl := hz0 h0
        rw [h0] at H
        exact H
      · obtain ⟨lb, cap, cur, rfl⟩ := Row.is_some hr h0
        obtain ⟨k1, k2, k3, k4, k5, k6⟩ := hr
        have hxl : (repX n.toNat).length = n.toNat := by simp [repX]
        have hcur : cur = (linesC (repX n.toNat) ++ cur.toList.drop (n.toNat * 11)).toArray := by
          rw [← k5, List.take_append_drop]
        refine ⟨p, rfl, .inl ⟨by omega, by omega, { p := p, lb := lb, lcap := cap, junk := cur.toList.drop (n.toNat * 11), X := repX n.toNat, span := 0, evs := [], er := Row.none : RR }, rfl, ?_, ⟨?_, ?_, ?_, ?_, ?_, by simp, ⟨rfl, rfl⟩, by show (0 : Int) ≤ 0 ∧ (0 : Int) ≤ 9223372036854775807; omega⟩, ?_⟩⟩
        · show PM.mk ((repX n.toNat).map Prod.fst) 0 [] = _
          unfold PM.fresh repX
          simp
        · show 1 ≤ (repX n.toNat).length ∧ (repX n.toNat).length ≤ 4096; omega
        · show (repX n.toNat).length ≤ cap ∧ cap ≤ maxLen; rw [hxl]; exact ⟨k2, k3⟩
        · show (cur.toList.drop (n.toNat * 11)).length = 11 * (cap - (repX n.toNat).length)
          rw [List.length_drop, Array.length_toList, k4, hxl]; omega
        · intro x hx; rw [List.eq_of_mem_replicate hx]; exact ⟨pl0_ok, rfl, rfl⟩
        · intro x hx; rw [List.eq_of_mem_replicate hx]; exact fun h => absurd rfl h
        · refine H.castH ?_
          unfold RR.hp structQ
          simp only [repX_hp]
          rw [← hcur, hxl]
          rfl

end Go.Proofs.YtkncbggnaobgeaaDoor

/- The calls of the reference's memory for those who hold it. -/
namespace Go.Proofs.YtkncbggnaobgeaaDoor
open Go.RowKit
set_option linter.unusedVariables false
set_option linter.unusedSimpArgs false
set_option maxRecDepth 100000

/-- R lies at p, and is the plain memory M; there is not too much of it. -/
structure IsR (R : RR) (p : Nat) (M : PM) (k : Nat) : Prop where
  p : R.p = p
  abs : R.abs = M
  ok : R.ok
  sm : M.small k
section
variable {w0 w : World} {L : Hp} {R : RR} {p k : Nat} {M : PM}
theorem IsR.mem (hI : IsR R p M k) (H : St w0 [] w (L ++ R.hp)) : RIn w R := RIn.of H hI.ok
theorem IsR.len (hI : IsR R p M k) : R.X.length = M.ls.length := by rw [← hI.abs]; simp [RR.abs]
theorem IsR.evs (hI : IsR R p M k) : R.evs.length ≤ k := by have := hI.sm.ev; rw [← hI.abs] at this; exact this
theorem IsR.ps (hI : IsR R p M k) : ∀ x ∈ R.X, x.1.ps.length ≤ k := by
  intro x hx
  have := hI.sm.ps x.1 (by rw [← hI.abs]; exact List.mem_map_of_mem hx)
  exact this
theorem IsR.mono {k' : Nat} (hI : IsR R p M k) (h : k ≤ k') : IsR R p M k' := ⟨hI.p, hI.abs, hI.ok, hI.sm.mono h⟩
theorem CutsIn.keepR {A : Option Addr} {cuts : List (Int × Int)} (h : CutsIn w0 A cuts []) (H : St w0 [] w (L ++ R.hp)) : CutsIn w A cuts (R.hp.map Prod.fst) := by
  rcases h with h | ⟨b, o, cs, t, fr, h1, h2, _, h3⟩
  · exact .inl h
  · exact .inr ⟨b, o, cs, t, fr, h1, H.oldBlock h2 (by simp), fun hm => H.notin h2 (by rw [List.map_append]; exact List.mem_append_right _ hm), h3⟩
theorem r_load (at_ : Int) (ha : at_ ≤ 9223372036854775807) (hI : IsR R p M k) (H : St w0 [] w (L ++ R.hp)) : Calls Tryd.prog 135 #[ptr p, .int .i64 at_] w fun e w' => e = .returned (.tuple #[.int .i64 (M.load at_).1, .int .i64 (M.load at_).2]) ∧ St w0 [] w' (L ++ R.hp) := by
  have hm := hI.mem H
  obtain ⟨rfl, rfl, hok, hs⟩ := hI
  exact (rload_any R at_ ha w hm).mono fun e w' ⟨h, Hc⟩ => ⟨h, H.call0 Hc⟩
theorem r_store (at_ val : Int) (ha : at_ ≤ 9223372036854775807) (hk : k < 1073741824) (hI : IsR R p M k) (H : St w0 [] w (L ++ R.hp)) :
    Calls Tryd.prog 126 #[ptr p, .int .i64 at_, .int .i64 val] w fun e w' => ∃ R', e = .returned (.int .i64 (M.putErr at_ val)) ∧ IsR R' p (M.put 1 at_ val) (k + 1) ∧ St w0 [] w' (L ++ R'.hp) := by
  have hm := hI.mem H
  have h1 := hI.evs; have h2 := hI.ps
  obtain ⟨rfl, rfl, hok, hs⟩ := hI
  exact (rstore_any R at_ val ha (by omega) (fun x hx => Nat.lt_of_le_of_lt (h2 x hx) hk) w hm).mono fun e w' ⟨R', h, hp, ha', hok', Hc⟩ => ⟨R', h, ⟨hp, ha', hok', hs.put _ _ _⟩, H.callM Hc⟩
theorem r_publish (at_ val : Int) (ha : at_ ≤ 9223372036854775807) (hk : k < 1073741824) (hI : IsR R p M k) (H : St w0 [] w (L ++ R.hp)) :
    Calls Tryd.prog 127 #[ptr p, .int .i64 at_, .int .i64 val] w fun e w' => ∃ R', e = .returned (.int .i64 (M.putErr at_ val)) ∧ IsR R' p (M.put 2 at_ val) (k + 1) ∧ St w0 [] w' (L ++ R'.hp) := by
  have hm := hI.mem H
  have h1 := hI.evs; have h2 := hI.ps
  obtain ⟨rfl, rfl, hok, hs⟩ := hI
  exact (rpublish_any R at_ val ha (by omega) (fun x hx => Nat.lt_of_le_of_lt (h2 x hx) hk) w hm).mono fun e w' ⟨R', h, hp, ha', hok', Hc⟩ => ⟨R', h, ⟨hp, ha', hok', hs.put _ _ _⟩, H.callM Hc⟩
theorem r_span (n : Int) (hn : n ≤ 9223372036854775807) (hI : IsR R p M k) (H : St w0 [] w (L ++ R.hp)) :
    Calls Tryd.prog 128 #[ptr p, .int .i64 n] w fun e w' => ∃ R', e = .returned (.tuple #[]) ∧ IsR R' p { M with span := if 0 > n then 0 else n } k ∧ St w0 [] w' (L ++ R'.hp) := by
  have hm := hI.mem H
  obtain ⟨rfl, rfl, hok, hs⟩ := hI
  exact (rspan_any R n hn w hm).mono fun e w' ⟨R', h, hp, ha', hok', Hc⟩ => ⟨R', h, ⟨hp, ha', hok', ⟨hs.ev, hs.ps⟩⟩, H.callM Hc⟩
theorem r_flush (n : Int) (hk : k < 1073741824) (hI : IsR R p M k) (H : St w0 [] w (L ++ R.hp)) :
    Calls Tryd.prog 129 #[ptr p, .int .i64 n] w fun e w' => ∃ R', e = .returned (.int .i64 (if M.has n then 0 else 40)) ∧ IsR R' p (M.flush n) (k + 1) ∧ St w0 [] w' (L ++ R'.hp) := by
  have hm := hI.mem H
  have h1 := hI.evs
  obtain ⟨rfl, rfl, hok, hs⟩ := hI
  exact (rflush_any R n (by omega) w hm).mono fun e w' ⟨R', h, hp, ha', hok', Hc⟩ => ⟨R', h, ⟨hp, ha', hok', hs.flush _⟩, H.callM Hc⟩
theorem r_fence (hk : k < 1073741824) (hI : IsR R p M k) (H : St w0 [] w (L ++ R.hp)) :
    Calls Tryd.prog 130 #[ptr p] w fun e w' => ∃ R', e = .returned (.tuple #[]) ∧ IsR R' p M.fence (k + 1) ∧ St w0 [] w' (L ++ R'.hp) := by
  have hm := hI.mem H
  have h1 := hI.evs; have h2 := hI.ps
  obtain ⟨rfl, rfl, hok, hs⟩ := hI
  exact (rfence_any R (by omega) (fun x hx => Nat.le_trans (h2 x hx) (Nat.le_of_lt hk)) w hm).mono fun e w' ⟨R', h, hp, ha', hok', Hc⟩ => ⟨R', h, ⟨hp, ha', hok', hs.fence⟩, H.callM Hc⟩
theorem r_evict (n j : Int) (hk : k < 1073741824) (hI : IsR R p M k) (H : St w0 [] w (L ++ R.hp)) :
    Calls Tryd.prog 131 #[ptr p, .int .i64 n, .int .i64 j] w fun e w' => ∃ R', e = .returned (.int .i64 (M.evictErr n j)) ∧ IsR R' p (M.evict n j) (k + 1) ∧ St w0 [] w' (L ++ R'.hp) := by
  have hm := hI.mem H
  have h1 := hI.evs; have h2 := hI.ps
  obtain ⟨rfl, rfl, hok, hs⟩ := hI
  exact (revict_any R n j (by omega) (fun x hx => Nat.le_trans (h2 x hx) (Nat.le_of_lt hk)) w hm).mono fun e w' ⟨R', h, hp, ha', hok', Hc⟩ => ⟨R', h, ⟨hp, ha', hok', hs.evict _ _⟩, H.callM Hc⟩
theorem r_heal (n : Int) (xs : List Int) (hx8 : xs.length = 8) (hk : k < 1073741824) (hI : IsR R p M k) (H : St w0 [] w (L ++ R.hp)) :
    Calls Tryd.prog 132 #[ptr p, .int .i64 n, arr xs] w fun e w' => ∃ R', e = .returned (.int .i64 (M.healErr n xs)) ∧ IsR R' p (M.heal n xs) (k + 1) ∧ St w0 [] w' (L ++ R'.hp) := by
  have hm := hI.mem H
  have h1 := hI.evs
  obtain ⟨rfl, rfl, hok, hs⟩ := hI
  exact (rheal_any R n xs hx8 (by omega) w hm).mono fun e w' ⟨R', h, hp, ha', hok', Hc⟩ => ⟨R', h, ⟨hp, ha', hok', hs.heal _ _⟩, H.callM Hc⟩
theorem r_rot (n : Int) (xs : List Int) (hx8 : xs.length = 8) (bits : Int) (hk : k < 1073741824) (hI : IsR R p M k) (H : St w0 [] w (L ++ R.hp)) :
    Calls Tryd.prog 133 #[ptr p, .int .i64 n, arr xs, .int .i64 bits] w fun e w' => ∃ R', e = .returned (.int .i64 (M.rotErr n xs bits)) ∧ IsR R' p (M.rot n xs bits) (k + 1) ∧ St w0 [] w' (L ++ R'.hp) := by
  have hm := hI.mem H
  have h1 := hI.evs
  obtain ⟨rfl, rfl, hok, hs⟩ := hI
  exact (rrot_any R n xs hx8 bits (by omega) w hm).mono fun e w' ⟨R', h, hp, ha', hok', Hc⟩ => ⟨R', h, ⟨hp, ha', hok', hs.rot _ _ _⟩, H.callM Hc⟩
theorem r_crash (A0 : Option Addr) (m cap : Nat) (cuts : List (Int × Int)) (hmc : m = cuts.length) (hm63 : m ≤ 9223372036854775807) (hk : k ≤ 1073741824) (hI : IsR R p M k) (H : St w0 [] w (L ++ R.hp)) (hc0 : CutsIn w A0 cuts (R.hp.map Prod.fst)) :
    Calls Tryd.prog 134 #[ptr p, .slice A0 m cap] w fun e w' => ∃ R', e = .returned (.int .i64 (if M.cutsOk cuts then 0 else 1)) ∧ IsR R' p (M.crash cuts) k ∧ St w0 [] w' (L ++ R'.hp) := by
  have hm := hI.mem H
  have h2 := hI.ps
  obtain ⟨rfl, rfl, hok, hs⟩ := hI
  exact (rcrash_any R A0 m cap cuts hmc hm63 (fun x hx => Nat.le_trans (h2 x hx) hk) w hm hc0).mono fun e w' ⟨R', h, hp, ha', hok', Hc⟩ => ⟨R', h, ⟨hp, ha', hok', hs.crash _⟩, H.callM Hc⟩
end
/-! ### Readers that leave all as it is -/
section
variable {w : World} {R : RR} {p k : Nat} {M : PM}
theorem n_state (n : Int) (hI : IsR R p M k) (hm : RIn w R) : Calls Tryd.prog 123 #[ptr p, .int .i64 n] w fun e w' => e = .returned (.int .i64 (M.state n)) ∧ St w [] w' [] := by
  obtain ⟨rfl, rfl, hok, hs⟩ := hI
  exact rstate_any R n w hm
theorem n_pending (n : Int) (hk : k ≤ 1073741824) (hI : IsR R p M k) (hm : RIn w R) :
    Calls Tryd.prog 124 #[ptr p, .int .i64 n] w fun e w' => ∃ r : Row, e = .returned (r.val (M.pend n).length) ∧ r.ok 2 (M.pend n).length (flatP (M.pend n)) ∧ St w [] w' (r.hp 111) := by
  have h2 := hI.ps
  obtain ⟨rfl, rfl, hok, hs⟩ := hI
  exact rpending_any R n (fun x hx => Nat.le_trans (h2 x hx) hk) w hm
theorem n_seen (hI : IsR R p M k) (hm : RIn w R) : Calls Tryd.prog 121 #[ptr p] w fun e w' => ∃ r : Row, e = .returned (r.val M.ls.length) ∧ r.ok 8 M.ls.length (intsC (M.ls.map shown).flatten) ∧ St w [] w' (r.hp 38) := by
  have hl := hI.len
  obtain ⟨rfl, rfl, hok, hs⟩ := hI
  rw [← hl, ← seenC_rows]
  exact rseen_any R w hm
theorem n_image (hI : IsR R p M k) (hm : RIn w R) : Calls Tryd.prog 120 #[ptr p] w fun e w' => ∃ r : Row, e = .returned (r.val M.ls.length) ∧ r.ok 9 M.ls.length (intsC (imgC M.ls)) ∧ St w [] w' (r.hp 40) := by
  have hl := hI.len
  obtain ⟨rfl, rfl, hok, hs⟩ := hI
  rw [← hl]
  exact rimage_any R w hm
end
end Go.Proofs.YtkncbggnaobgeaaDoor

/- Walks of functions of the program; printed by a program of this session (walk.py) out of hand-written hints. -/
namespace Go.Proofs.YtkncbggnaobgeaaDoor
open Go.RowKit
set_option linter.unusedVariables false
set_option linter.unusedSimpArgs false
set_option maxRecDepth 100000

theorem rdo_any {w0 w : World} {L : Hp} {R : RR} {p k : Nat} {M : PM} (x : POp) (A : Option Addr) (cap : Nat) (hx : x.ok) (hc : CutsIn w0 A x.cuts []) (hk : k < 1073741824) (hI : IsR R p M k) (H : St w0 [] w (L ++ R.hp)) : Calls Tryd.prog 57 #[ptr p, .agg (opC x A cap).toArray] w fun e w' => ∃ R', e = .returned (.tuple #[.int .i64 (M.res x).1, .int .i64 (M.res x).2]) ∧ IsR R' p (M.do x) (k + 1) ∧ St w0 [] w' (L ++ R'.hp) := by
  refine calls_walk_n (args := [ptr p, .agg (opC x A cap).toArray]) Tryd.func57 rfl rfl rfl ?_
  
  refine WC.seq ?_
  refine WC.region ?_
  refine WL.box (v := .agg (opC x A cap).toArray) H rfl rfl ?_
  intro b3 wx hb3 hge3 H
  change St w0 [] wx ((b3, .cells (opC x A cap).toArray 60) :: (L ++ R.hp)) at H
  refine WL.assign rfl rfl ?_
  refine WL.assign rfl rfl ?_
  refine (WL.done (WX.next ?_))
  refine WC.seq ?_
  refine WC.seq ?_
  refine WC.region ?_
  refine WL.fieldAddr fld60_0 rfl rfl ?_
  first | refine WL.load rfl (H.rd1 ty3 0 rfl rfl) rfl ?_ | refine WL.load rfl (H.rdA ty3 0 rfl (by decide)) rfl ?_
  refine (WL.done (WX.next ?_))
  refine WC.block ?_
  refine WC.seq ?_
  refine WC.region ?_
  refine WL.bin rfl rfl binv_eql rfl ?_
  refine WL.assign rfl rfl ?_
  refine (WL.done (WX.next ?_))
  first | refine WC.cond_dec rfl (fun c1 => ?_) (fun c1 => ?_) | refine WC.cond rfl (fun c1 => ?_) (fun c1 => ?_)
  · -- c1 T
    refine WC.seq ?_
    refine WC.region ?_
    refine WL.move rfl rfl ?_
    refine WL.fieldAddr fld60_1 rfl rfl ?_
    first | refine WL.load rfl (H.rd1 ty3 0 rfl rfl) rfl ?_ | refine WL.load rfl (H.rdA ty3 0 rfl (by decide)) rfl ?_
    refine WL.fieldAddr fld60_2 rfl rfl ?_
    first | refine WL.load rfl (H.rd1 ty3 0 rfl rfl) rfl ?_ | refine WL.load rfl (H.rdA ty3 0 rfl (by decide)) rfl ?_
    refine WL.call call126 rfl rfl ?_
    refine Calls.mono (r_store (L := (b3, .cells (opC x A cap).toArray 60) :: L) x.a x.b hx.a.2 (by omega) hI H) ?_
    rintro _ wx ⟨R1, rfl, hI, H⟩
    refine ⟨_, rfl, ?_⟩
    refine WL.assign rfl rfl ?_
    refine WL.assign rfl rfl ?_
    refine (WL.done (WX.next ?_))
    refine (WC.ret (WX.block_ret (WX.then_ret ?_)))
    refine ret_two rfl rfl rfl ?_
    have e1 : M.do x = M.put 1 x.a x.b := by simp [PM.do, c1]
    have e2 : M.res x = (0, M.putErr x.a x.b) := by simp [PM.res, c1]
    rw [e1, e2]
    exact ⟨R1, rfl, hI.mono (by omega), H.tail⟩
  · -- c1 F
    refine WC.seq ?_
    refine WC.region ?_
    refine WL.bin rfl rfl binv_eql rfl ?_
    refine WL.assign rfl rfl ?_
    refine (WL.done (WX.next ?_))
    first | refine WC.cond_dec rfl (fun c2 => ?_) (fun c2 => ?_) | refine WC.cond rfl (fun c2 => ?_) (fun c2 => ?_)
    · -- c2 T
      refine WC.seq ?_
      refine WC.region ?_
      refine WL.move rfl rfl ?_
      refine WL.fieldAddr fld60_1 rfl rfl ?_
      first | refine WL.load rfl (H.rd1 ty3 0 rfl rfl) rfl ?_ | refine WL.load rfl (H.rdA ty3 0 rfl (by decide)) rfl ?_
      refine WL.fieldAddr fld60_2 rfl rfl ?_
      first | refine WL.load rfl (H.rd1 ty3 0 rfl rfl) rfl ?_ | refine WL.load rfl (H.rdA ty3 0 rfl (by decide)) rfl ?_
      refine WL.call call127 rfl rfl ?_
      refine Calls.mono (r_publish (L := (b3, .cells (opC x A cap).toArray 60) :: L) x.a x.b hx.a.2 (by omega) hI H) ?_
      rintro _ wx ⟨R1, rfl, hI, H⟩
      refine ⟨_, rfl, ?_⟩
      refine WL.assign rfl rfl ?_
      refine WL.assign rfl rfl ?_
      refine (WL.done (WX.next ?_))
      refine (WC.ret (WX.block_ret (WX.then_ret ?_)))
      refine ret_two rfl rfl rfl ?_
      have e1 : M.do x = M.put 2 x.a x.b := by simp [PM.do, c2]
      have e2 : M.res x = (0, M.putErr x.a x.b) := by simp [PM.res, c2]
      rw [e1, e2]
      exact ⟨R1, rfl, hI.mono (by omega), H.tail⟩
    · -- c2 F
      refine WC.seq ?_
      refine WC.region ?_
      refine WL.bin rfl rfl binv_eql rfl ?_
      refine WL.assign rfl rfl ?_
      refine (WL.done (WX.next ?_))
      first | refine WC.cond_dec rfl (fun c3 => ?_) (fun c3 => ?_) | refine WC.cond rfl (fun c3 => ?_) (fun c3 => ?_)
      · -- c3 T
        refine WC.seq ?_
        refine WC.region ?_
        refine WL.move rfl rfl ?_
        refine WL.fieldAddr fld60_1 rfl rfl ?_
        first | refine WL.load rfl (H.rd1 ty3 0 rfl rfl) rfl ?_ | refine WL.load rfl (H.rdA ty3 0 rfl (by decide)) rfl ?_
        refine WL.call call128 rfl rfl ?_
        refine Calls.mono (r_span (L := (b3, .cells (opC x A cap).toArray 60) :: L) x.a hx.a.2 hI H) ?_
        rintro _ wx ⟨R1, rfl, hI, H⟩
        refine ⟨_, rfl, ?_⟩
        refine (WL.done (WX.next ?_))
        refine WC.seq ?_
        refine WC.region ?_
        refine WL.assign rfl rfl ?_
        refine WL.assign rfl rfl ?_
        refine (WL.done (WX.next ?_))
        refine (WC.ret (WX.block_ret (WX.then_ret ?_)))
        refine ret_two rfl rfl rfl ?_
        have e1 : M.do x = { M with span := if 0 > x.a then 0 else x.a } := by simp [PM.do, c3]
        have e2 : M.res x = (0, 0) := by simp [PM.res, c3]
        rw [e1, e2]
        exact ⟨R1, rfl, hI.mono (by omega), H.tail⟩
      · -- c3 F
        refine WC.seq ?_
        refine WC.region ?_
        refine WL.bin rfl rfl binv_eql rfl ?_
        refine WL.assign rfl rfl ?_
        refine (WL.done (WX.next ?_))
        first | refine WC.cond_dec rfl (fun c4 => ?_) (fun c4 => ?_) | refine WC.cond rfl (fun c4 => ?_) (fun c4 => ?_)
        · -- c4 T
          refine WC.seq ?_
          refine WC.region ?_
          refine WL.move rfl rfl ?_
          refine WL.fieldAddr fld60_1 rfl rfl ?_
          first | refine WL.load rfl (H.rd1 ty3 0 rfl rfl) rfl ?_ | refine WL.load rfl (H.rdA ty3 0 rfl (by decide)) rfl ?_
          refine WL.call call129 rfl rfl ?_
          refine Calls.mono (r_flush (L := (b3, .cells (opC x A cap).toArray 60) :: L) x.a (by omega) hI H) ?_
          rintro _ wx ⟨R1, rfl, hI, H⟩
          refine ⟨_, rfl, ?_⟩
          refine WL.assign rfl rfl ?_
          refine WL.assign rfl rfl ?_
          refine (WL.done (WX.next ?_))
          refine (WC.ret (WX.block_ret (WX.then_ret ?_)))
          refine ret_two rfl rfl rfl ?_
          have e1 : M.do x = M.flush x.a := by simp [PM.do, c4]
          have e2 : M.res x = (0, if M.has x.a then 0 else 40) := by simp [PM.res, c4]
          rw [e1, e2]
          exact ⟨R1, rfl, hI.mono (by omega), H.tail⟩
        · -- c4 F
          refine WC.seq ?_
          refine WC.region ?_
          refine WL.bin rfl rfl binv_eql rfl ?_
          refine WL.assign rfl rfl ?_
          refine (WL.done (WX.next ?_))
          first | refine WC.cond_dec rfl (fun c5 => ?_) (fun c5 => ?_) | refine WC.cond rfl (fun c5 => ?_) (fun c5 => ?_)
          · -- c5 T
            refine WC.seq ?_
            refine WC.region ?_
            refine WL.move rfl rfl ?_
            refine WL.call call130 rfl rfl ?_
            refine Calls.mono (r_fence (L := (b3, .cells (opC x A cap).toArray 60) :: L) (by omega) hI H) ?_
            rintro _ wx ⟨R1, rfl, hI, H⟩
            refine ⟨_, rfl, ?_⟩
            refine (WL.done (WX.next ?_))
            refine WC.seq ?_
            refine WC.region ?_
            refine WL.assign rfl rfl ?_
            refine WL.assign rfl rfl ?_
            refine (WL.done (WX.next ?_))
            refine (WC.ret (WX.block_ret (WX.then_ret ?_)))
            refine ret_two rfl rfl rfl ?_
            have e1 : M.do x = M.fence := by simp [PM.do, c5]
            have e2 : M.res x = (0, 0) := by simp [PM.res, c5]
            rw [e1, e2]
            exact ⟨R1, rfl, hI.mono (by omega), H.tail⟩
          · -- c5 F
            refine WC.seq ?_
            refine WC.region ?_
            refine WL.bin rfl rfl binv_eql rfl ?_
            refine WL.assign rfl rfl ?_
            refine (WL.done (WX.next ?_))
            first | refine WC.cond_dec rfl (fun c6 => ?_) (fun c6 => ?_) | refine WC.cond rfl (fun c6 => ?_) (fun c6 => ?_)
            · -- c6 T
              refine WC.seq ?_
              refine WC.region ?_
              refine WL.move rfl rfl ?_
              refine WL.fieldAddr fld60_1 rfl rfl ?_
              first | refine WL.load rfl (H.rd1 ty3 0 rfl rfl) rfl ?_ | refine WL.load rfl (H.rdA ty3 0 rfl (by decide)) rfl ?_
              refine WL.fieldAddr fld60_2 rfl rfl ?_
              first | refine WL.load rfl (H.rd1 ty3 0 rfl rfl) rfl ?_ | refine WL.load rfl (H.rdA ty3 0 rfl (by decide)) rfl ?_
              refine WL.call call131 rfl rfl ?_
              refine Calls.mono (r_evict (L := (b3, .cells (opC x A cap).toArray 60) :: L) x.a x.b (by omega) hI H) ?_
              rintro _ wx ⟨R1, rfl, hI, H⟩
              refine ⟨_, rfl, ?_⟩
              refine WL.assign rfl rfl ?_
              refine WL.assign rfl rfl ?_
              refine (WL.done (WX.next ?_))
              refine (WC.ret (WX.block_ret (WX.then_ret ?_)))
              refine ret_two rfl rfl rfl ?_
              have e1 : M.do x = M.evict x.a x.b := by simp [PM.do, c6]
              have e2 : M.res x = (0, M.evictErr x.a x.b) := by simp [PM.res, c6]
              rw [e1, e2]
              exact ⟨R1, rfl, hI.mono (by omega), H.tail⟩
            · -- c6 F
              refine WC.seq ?_
              refine WC.region ?_
              refine WL.bin rfl rfl binv_eql rfl ?_
              refine WL.assign rfl rfl ?_
              refine (WL.done (WX.next ?_))
              first | refine WC.cond_dec rfl (fun c7 => ?_) (fun c7 => ?_) | refine WC.cond rfl (fun c7 => ?_) (fun c7 => ?_)
              · -- c7 T
                refine WC.seq ?_
                refine WC.region ?_
                refine WL.move rfl rfl ?_
                refine WL.fieldAddr fld60_1 rfl rfl ?_
                first | refine WL.load rfl (H.rd1 ty3 0 rfl rfl) rfl ?_ | refine WL.load rfl (H.rdA ty3 0 rfl (by decide)) rfl ?_
                refine WL.fieldAddr fld60_3 rfl rfl ?_
                first | refine WL.load rfl (Rd.opW (fr := (0, 0)) hx.w8 (H.blk 0 rfl)) rfl ?_
                refine WL.call call132 rfl rfl ?_
                refine Calls.mono (r_heal (L := (b3, .cells (opC x A cap).toArray 60) :: L) x.a x.ws hx.w8 (by omega) hI H) ?_
                rintro _ wx ⟨R1, rfl, hI, H⟩
                refine ⟨_, rfl, ?_⟩
                refine WL.assign rfl rfl ?_
                refine WL.assign rfl rfl ?_
                refine (WL.done (WX.next ?_))
                refine (WC.ret (WX.block_ret (WX.then_ret ?_)))
                refine ret_two rfl rfl rfl ?_
                have e1 : M.do x = M.heal x.a x.ws := by simp [PM.do, c7]
                have e2 : M.res x = (0, M.healErr x.a x.ws) := by simp [PM.res, c7]
                rw [e1, e2]
                exact ⟨R1, rfl, hI.mono (by omega), H.tail⟩
              · -- c7 F
                refine WC.seq ?_
                refine WC.region ?_
                refine WL.bin rfl rfl binv_eql rfl ?_
                refine WL.assign rfl rfl ?_
                refine (WL.done (WX.next ?_))
                first | refine WC.cond_dec rfl (fun c8 => ?_) (fun c8 => ?_) | refine WC.cond rfl (fun c8 => ?_) (fun c8 => ?_)
                · -- c8 T
                  refine WC.seq ?_
                  refine WC.region ?_
                  refine WL.move rfl rfl ?_
                  refine WL.fieldAddr fld60_1 rfl rfl ?_
                  first | refine WL.load rfl (H.rd1 ty3 0 rfl rfl) rfl ?_ | refine WL.load rfl (H.rdA ty3 0 rfl (by decide)) rfl ?_
                  refine WL.fieldAddr fld60_3 rfl rfl ?_
                  first | refine WL.load rfl (Rd.opW (fr := (0, 0)) hx.w8 (H.blk 0 rfl)) rfl ?_
                  refine WL.fieldAddr fld60_2 rfl rfl ?_
                  first | refine WL.load rfl (H.rd1 ty3 0 rfl rfl) rfl ?_ | refine WL.load rfl (H.rdA ty3 0 rfl (by decide)) rfl ?_
                  refine WL.call call133 rfl rfl ?_
                  refine Calls.mono (r_rot (L := (b3, .cells (opC x A cap).toArray 60) :: L) x.a x.ws hx.w8 x.b (by omega) hI H) ?_
                  rintro _ wx ⟨R1, rfl, hI, H⟩
                  refine ⟨_, rfl, ?_⟩
                  refine WL.assign rfl rfl ?_
                  refine WL.assign rfl rfl ?_
                  refine (WL.done (WX.next ?_))
                  refine (WC.ret (WX.block_ret (WX.then_ret ?_)))
                  refine ret_two rfl rfl rfl ?_
                  have e1 : M.do x = M.rot x.a x.ws x.b := by simp [PM.do, c8]
                  have e2 : M.res x = (0, M.rotErr x.a x.ws x.b) := by simp [PM.res, c8]
                  rw [e1, e2]
                  exact ⟨R1, rfl, hI.mono (by omega), H.tail⟩
                · -- c8 F
                  refine WC.seq ?_
                  refine WC.region ?_
                  refine WL.bin rfl rfl binv_eql rfl ?_
                  refine WL.assign rfl rfl ?_
                  refine (WL.done (WX.next ?_))
                  first | refine WC.cond_dec rfl (fun c9 => ?_) (fun c9 => ?_) | refine WC.cond rfl (fun c9 => ?_) (fun c9 => ?_)
                  · -- c9 T
                    refine WC.seq ?_
                    refine WC.region ?_
                    refine WL.move rfl rfl ?_
                    refine WL.fieldAddr fld60_4 rfl rfl ?_
                    first | refine WL.load rfl (Rd.opS (fr := (0, 0)) hx.w8 (H.blk 0 rfl)) rfl ?_
                    refine WL.call call134 rfl rfl ?_
                    refine Calls.mono (r_crash (L := (b3, .cells (opC x A cap).toArray 60) :: L) A x.cuts.length cap x.cuts rfl hx.n (by omega) hI H (hc.keepR (L := (b3, .cells (opC x A cap).toArray 60) :: L) H)) ?_
                    rintro _ wx ⟨R1, rfl, hI, H⟩
                    refine ⟨_, rfl, ?_⟩
                    refine WL.assign rfl rfl ?_
                    refine WL.assign rfl rfl ?_
                    refine (WL.done (WX.next ?_))
                    refine (WC.ret (WX.block_ret (WX.then_ret ?_)))
                    refine ret_two rfl rfl rfl ?_
                    have e1 : M.do x = M.crash x.cuts := by simp [PM.do, c9]
                    have e2 : M.res x = (0, if M.cutsOk x.cuts then 0 else 1) := by simp [PM.res, c9]
                    rw [e1, e2]
                    exact ⟨R1, rfl, hI.mono (by omega), H.tail⟩
                  · -- c9 F
                    refine WC.seq ?_
                    refine WC.region ?_
                    refine WL.bin rfl rfl binv_eql rfl ?_
                    refine WL.assign rfl rfl ?_
                    refine (WL.done (WX.next ?_))
                    first | refine WC.cond_dec rfl (fun c10 => ?_) (fun c10 => ?_) | refine WC.cond rfl (fun c10 => ?_) (fun c10 => ?_)
                    · -- c10 T
                      refine WC.seq ?_
                      refine WC.region ?_
                      have hp := hI.p
                      subst hp
                      replace H : St w0 [] wx (R.hp ++ ((b3, .cells (opC x A cap).toArray 60) :: L)) := H.perm (List.perm_append_comm (l₁ := (b3, _) :: L))
                      refine WL.move rfl rfl ?_
                      first | refine WL.nilCheck rfl rfl ?_ | refine WL.nilCheckFn rfl rfl ?_
                      refine WL.fieldAddr fld89_2 rfl rfl ?_
                      refine WL.storeAt H ty30 0 rfl rfl rfl rfl (by simp [Value.cells, Value.oneCell']) (Nat.le_refl 3) ?_
                      intro wx H
                      obtain ⟨R1, hI, H⟩ : ∃ R1, IsR R1 R.p { M with evs := [] } k ∧ St w0 [] wx ((b3, .cells (opC x A cap).toArray 60) :: (L ++ R1.hp)) := by
                        have hok := hI.ok
                        refine ⟨{ R with evs := [], er := Row.none }, ⟨rfl, by rw [← hI.abs]; rfl, ⟨hok.len, hok.lcap, hok.junk, hok.lines, hok.sound, by simp, ⟨rfl, rfl⟩, hok.span⟩, ⟨Nat.zero_le _, hI.sm.ps⟩⟩, ?_⟩
                        have H2 : St w0 [] wx (RR.hp { R with evs := [], er := Row.none } ++ ((b3, .cells (opC x A cap).toArray 60) :: L)) := H.weaken (List.Sublist.cons_cons _ (List.Sublist.cons_cons _ (List.Sublist.append (List.sublist_append_right _ _) (List.Sublist.refl _))))
                        exact H2.perm (List.perm_append_comm (l₂ := (b3, _) :: L))
                      refine (WL.done (WX.next ?_))
                      refine WC.seq ?_
                      refine WC.region ?_
                      refine WL.assign rfl rfl ?_
                      refine WL.assign rfl rfl ?_
                      refine (WL.done (WX.next ?_))
                      refine (WC.ret (WX.block_ret (WX.then_ret ?_)))
                      refine ret_two rfl rfl rfl ?_
                      have e1 : M.do x = { M with evs := [] } := by simp [PM.do, c10]
                      have e2 : M.res x = (0, 0) := by simp [PM.res, c10]
                      rw [e1, e2]
                      exact ⟨R1, rfl, hI.mono (by omega), H.tail⟩
                    · -- c10 F
                      refine (WC.skip (WX.block_normal (WX.next ?_)))
                      refine WC.seq ?_
                      refine WC.region ?_
                      refine WL.move rfl rfl ?_
                      refine WL.fieldAddr fld60_1 rfl rfl ?_
                      first | refine WL.load rfl (H.rd1 ty3 0 rfl rfl) rfl ?_ | refine WL.load rfl (H.rdA ty3 0 rfl (by decide)) rfl ?_
                      refine WL.call call135 rfl rfl ?_
                      refine Calls.mono (r_load (L := (b3, .cells (opC x A cap).toArray 60) :: L) x.a hx.a.2 hI H) ?_
                      rintro _ wx ⟨rfl, H⟩
                      refine ⟨_, rfl, ?_⟩
                      refine WL.extract rfl rfl rfl ?_
                      refine WL.extract rfl rfl rfl ?_
                      refine WL.assign rfl rfl ?_
                      refine WL.assign rfl rfl ?_
                      refine (WL.done (WX.next ?_))
                      refine (WC.ret ?_)
                      refine ret_two rfl rfl rfl ?_
                      have e1 : M.do x = M := by simp [PM.do, c1, c2, c3, c4, c5, c6, c7, c8, c9, c10]
                      have e2 : M.res x = M.load x.a := by simp [PM.res, c1, c2, c3, c4, c5, c6, c7, c8, c9, c10]
                      rw [e1, e2]
                      exact ⟨R, rfl, hI.mono (by omega), H.tail⟩

end Go.Proofs.YtkncbggnaobgeaaDoor

/- Walks of functions of the program; printed by a program of this session (walk.py) out of hand-written hints. -/
namespace Go.Proofs.YtkncbggnaobgeaaDoor
open Go.RowKit
set_option linter.unusedVariables false
set_option linter.unusedSimpArgs false
set_option maxRecDepth 100000

theorem ImgIn.row {w : World} {r : Row} {n : Nat} {T : TypeId} {ls : List PL} (hr : r.ok 9 n (intsC (imgC ls))) (hs : ∀ q ∈ r.hp T, w.heap[q.1]? = some q.2) (hne : ls ≠ [] → 0 < n) : ∃ A cap, r.val n = .slice A n cap ∧ ImgIn w A (ls.map bare) := by
  have hnil : ∀ xs : List PL, intsC (imgC xs) = [] → xs.map bare = [] := fun xs h => by
    cases xs with
    | nil => rfl
    | cons x xs => exfalso; unfold intsC imgC at h; simp at h
  cases r with
  | none => exact ⟨none, 0, rfl, .inl (hnil _ hr.2)⟩
  | nul a => exact ⟨some a, 0, rfl, .inl (hnil _ hr.2)⟩
  | some g cap cur =>
    refine ⟨_, _, rfl, .inr ⟨g, 0, cur, T, _, rfl, hs _ List.mem_cons_self, fun j u hj => ?_⟩⟩
    rw [flatI_bare] at hj
    rw [Nat.zero_add]
    exact Row.ok_get hr (by unfold intsC; rw [List.getElem?_map, hj]; rfl)
theorem x_sameImage {w : World} {g : Nat} {r : Row} {ls : List PL} (h8 : ∀ x ∈ ls.map bare, x.1.length = 8) (ha : w.heap[g]? = some (.cells (arrC (imgC ls)) 40)) (hr : r.ok 9 ls.length (intsC (imgC ls))) (hs : ∀ q ∈ r.hp 40, w.heap[q.1]? = some q.2) (hl : ls.length ≤ 4096) :
    Calls Tryd.prog 28 #[.slice (some ⟨g, 0, none⟩) ls.length ls.length, r.val ls.length] w fun e w' => e = .returned (.bool true) ∧ St w [] w' [] := by
  obtain ⟨A, cap, e1, hi⟩ := ImgIn.row hr hs (fun h => List.length_pos_iff.2 h)
  rw [e1]
  refine (sameImage_any (some ⟨g, 0, none⟩) A ls.length ls.length ls.length cap (ls.map bare) (ls.map bare) (by simp) (by simp) h8 h8 w (ImgIn.block ha) hi (by omega)).mono fun e w' ⟨h, Hc⟩ => ⟨?_, Hc⟩
  rw [h, decide_eq_true rfl]
theorem x_sameSeen {w : World} {g : Nat} {r : Row} {ls : List PL} (h8 : ∀ x ∈ ls.map shown, x.length = 8) (ha : w.heap[g]? = some (.cells (arrC (seenC ls)) 38)) (hr : r.ok 8 ls.length (intsC (ls.map shown).flatten)) (hs : ∀ q ∈ r.hp 38, w.heap[q.1]? = some q.2) (hl : ls.length ≤ 4096) :
    Calls Tryd.prog 42 #[.slice (some ⟨g, 0, none⟩) ls.length ls.length, r.val ls.length] w fun e w' => e = .returned (.bool true) ∧ St w [] w' [] := by
  obtain ⟨A, cap, e1, hi⟩ := RowsIn.row (n := ls.length) h8 (by simp) hr hs
  rw [e1]
  refine (sameSeen_any (some ⟨g, 0, none⟩) A ls.length ls.length ls.length cap (ls.map shown) (ls.map shown) (by simp) (by simp) w (RowsIn.seen h8 ha) hi (by omega)).mono fun e w' ⟨h, Hc⟩ => ⟨?_, Hc⟩
  rw [h, decide_eq_true rfl]
theorem x_sameEvents {w : World} {r1 r2 : Row} {es fs : List (List Int)} (he : fs = es) (h12 : ∀ v ∈ es, v.length = 12) (hr1 : r1.ok 12 es.length (flatE es)) (hr2 : r2.ok 12 fs.length (flatE fs)) (h1 : ∀ q ∈ r1.hp 164, w.heap[q.1]? = some q.2) (h2 : ∀ q ∈ r2.hp 164, w.heap[q.1]? = some q.2) (hl : es.length ≤ 1073741824) :
    Calls Tryd.prog 122 #[r1.val es.length, r2.val fs.length] w fun e w' => e = .returned (.bool true) ∧ St w [] w' [] := by
  subst he
  rw [flatE_ints] at hr1 hr2
  obtain ⟨A1, c1, e1, k1⟩ := RowsIn.row (n := fs.length) (xs := fs) h12 rfl hr1 h1
  obtain ⟨A2, c2, e2, k2⟩ := RowsIn.row (n := fs.length) (xs := fs) h12 rfl hr2 h2
  rw [e1, e2]
  refine (sameEvents_any A1 A2 _ _ c1 c2 fs fs rfl rfl w k1 k2 (by omega)).mono fun e w' ⟨h, Hc⟩ => ⟨?_, Hc⟩
  rw [h, decide_eq_true rfl]
theorem m_events' {w : World} {R : RM} {p k : Nat} {M : PM} (hk : k ≤ 1073741824) (hI : Is R p M k) (hm : MemIn w R) :
    Calls Tryd.prog 27 #[ptr p] w fun e w' => ∃ r : Row, e = .returned (r.val M.evs.length) ∧ r.ok 12 M.evs.length (flatE M.evs) ∧ St w [] w' (r.hp 164) := by
  have h1 := hI.evs
  obtain ⟨rfl, rfl, hok, hs⟩ := hI
  exact events_any R (by omega) w hm
theorem pend_leI {R : RM} {p k : Nat} {M : PM} (hI : Is R p M k) (n : Int) : (M.pend n).length ≤ k := by
  unfold PM.pend
  split
  · rename_i h; exact hI.sm.ps _ (line_mem h)
  · exact Nat.zero_le _
theorem m_state {w : World} {R : RM} {p k : Nat} {M : PM} (n : Int) (hI : Is R p M k) (hm : MemIn w R) (hL : L64 w) : Calls Tryd.prog 31 #[ptr p, .int .i64 n] w fun e w' => e = .returned (.int .i64 (M.state n)) ∧ St w [] w' [] := by
  obtain ⟨rfl, rfl, hok, hs⟩ := hI
  rw [← state_abs]
  exact (state_any R n w hm hL).mono fun e w' ⟨h, Hc⟩ => ⟨h, Hc⟩

theorem same_any {R : RM} {Q : RR} {p q k : Nat} {M : PM} (hI : Is R p M k) (hJ : IsR Q q M k) (hk : k ≤ 1073741824) (w : World) (hm : MemIn w R) (hn : RIn w Q) (hL : L64 w) : Calls Tryd.prog 55 #[ptr p, ptr q] w fun e w' => e = .returned (.bool true) ∧ St w [] w' [] := by
  refine calls_walk_n (args := [ptr p, ptr q]) Tryd.func55 rfl rfl rfl ?_
  have H := St.refl w
  have hq := hJ.p
  subst hq
  have hlens := hI.lens
  have hlq := hJ.len
  have hev : Q.evs = M.evs := congrArg PM.evs hJ.abs
  have hel : M.evs.length ≤ k := hI.sm.ev
  refine WC.seq ?_
  refine WC.region ?_
  refine WL.assign rfl rfl ?_
  refine (WL.done (WX.next ?_))
  refine WC.seq ?_
  refine WC.seq ?_
  replace H := H.drew
  refine WC.held (SX (World.drew w) []) (by kernel_rfl) ?_
  generalize World.drew w = wb at H ⊢
  have HB := St.refl wb
  refine WH.take 0 rfl (by kernel_rfl) (by kernel_rfl) (by kernel_rfl) (fun _ _ _ h => h) ⟨_, HB⟩ (fun w' hS => EX.move rfl) rfl ?_
  refine WH.take 2 rfl (by kernel_rfl) (by kernel_rfl) (by kernel_rfl) (fun _ _ _ h => h) ⟨_, HB⟩ (fun w' hS => EX.move rfl) rfl ?_
  refine WH.take 3 rfl (by kernel_rfl) (by kernel_rfl) (by kernel_rfl) (fun _ _ _ h => h) ⟨_, HB⟩ (fun w' hS => EX.nilCheck rfl) rfl ?_
  refine WH.take 4 rfl (by kernel_rfl) (by kernel_rfl) (by kernel_rfl) (fun _ _ _ h => h) ⟨_, HB⟩ (fun w' hS => EX.fieldAddr fld89_0 rfl) rfl ?_
  first | refine WH.take 5 rfl (by kernel_rfl) (by kernel_rfl) (by kernel_rfl) (fun _ _ _ h => h) ⟨_, HB⟩ (fun w' hS => EX.load rfl (Rd.q0 (H.oldBlock hn.b0 (by simp)))) rfl ?_ | refine WH.take 5 rfl (by kernel_rfl) (by kernel_rfl) (by kernel_rfl) (fun _ _ _ h => h) ⟨_, HB⟩ (fun w' hS => EX.load rfl (Rd.q0 (hS.block (H.oldBlock hn.b0 (by simp)) (by simp)))) rfl ?_
  refine WH.take 6 rfl (by kernel_rfl) (by kernel_rfl) (by kernel_rfl) (fun _ _ _ h => h) ⟨_, HB⟩ (fun w' hS => EX.lenSlc isl87 rfl) rfl ?_
  refine WH.hard 1 rfl (by kernel_rfl) ?_
  refine WL.call call26 rfl rfl ?_
  refine Calls.mono (m_lines hI ((hm.old H).old HB)) ?_
  rintro _ wx ⟨rfl, rfl⟩
  refine ⟨_, rfl, ?_⟩
  refine WL.done (WX.heldOn ⟨_, HB⟩ ?_)
  refine WH.take 7 rfl (by kernel_rfl) (by kernel_rfl) (by kernel_rfl) (fun _ _ _ h => h) ⟨_, HB⟩ (fun w' hS => EX.bin rfl rfl (binv_neq)) rfl ?_
  refine WH.take 8 rfl (by kernel_rfl) (by kernel_rfl) (by kernel_rfl) (fun _ _ _ h => h) ⟨_, HB⟩ (fun w' hS => EX.move rfl) rfl ?_
  first | refine WH.splitD (t := 14) rfl (fun g1 => ?_) (fun g1 => ?_) | refine WH.split (t := 14) rfl (fun g1 => ?_) (fun g1 => ?_)
  · -- g1 True
    exact absurd (congrArg Int.ofNat hlq.symm) g1
  · -- g1 False
    refine WH.takeYes 9 rfl (by kernel_rfl) (by kernel_rfl) (by kernel_rfl) (fun _ _ _ h => h) ⟨_, HB⟩ rfl rfl (fun w' hS => EX.move rfl) rfl ?_
    refine WH.takeYes 11 rfl (by kernel_rfl) (by kernel_rfl) (by kernel_rfl) (fun _ _ _ h => h) ⟨_, HB⟩ rfl rfl (fun w' hS => EX.move rfl) rfl ?_
    refine WH.hard 10 rfl (by kernel_rfl) ?_
    refine WL.yes rfl rfl ?_
    refine WL.call call29 rfl rfl ?_
    refine Calls.mono (m_image hI ((hm.old H).old HB)) ?_
    rintro _ wx ⟨ga, rfl, Hc⟩
    refine ⟨_, rfl, ?_⟩
    replace HB := HB.call Hc
    refine WL.done (WX.heldOn ⟨_, HB⟩ ?_)
    refine WH.hard 12 rfl (by kernel_rfl) ?_
    refine WL.yes rfl rfl ?_
    refine WL.call call120 rfl rfl ?_
    refine Calls.mono (n_image hJ ((hn.old H).old HB)) ?_
    rintro _ wx ⟨rb, rfl, hrb, Hc⟩
    refine ⟨_, rfl, ?_⟩
    replace HB := HB.call Hc
    refine WL.done (WX.heldOn ⟨_, HB⟩ ?_)
    refine WH.hard 13 rfl (by kernel_rfl) ?_
    refine WL.yes rfl rfl ?_
    refine WL.call call28 rfl rfl ?_
    refine Calls.mono (x_sameImage hI.bare8 (HB.sat (ga, .cells (arrC (imgC M.ls)) 40) (by simp)) hrb (fun q hq => HB.sat q (by simp [hq])) (by omega)) ?_
    rintro _ wx ⟨rfl, Hc⟩
    refine ⟨_, rfl, ?_⟩
    replace HB := HB.call0 Hc
    refine WL.done (WX.heldOn ⟨_, HB⟩ ?_)
    refine WH.takeYes 14 rfl (by kernel_rfl) (by kernel_rfl) (by kernel_rfl) (fun _ _ _ h => h) ⟨_, HB⟩ rfl rfl (fun w' hS => EX.notOp rfl) rfl ?_
    refine WH.take 15 rfl (by kernel_rfl) (by kernel_rfl) (by kernel_rfl) (fun _ _ _ h => h) ⟨_, HB⟩ (fun w' hS => EX.pickF rfl rfl) rfl ?_
    refine WH.take 16 rfl (by kernel_rfl) (by kernel_rfl) (by kernel_rfl) (fun _ _ _ h => h) ⟨_, HB⟩ (fun w' hS => EX.move rfl) rfl ?_
    first | refine WH.splitD (t := 22) rfl (fun g2 => ?_) (fun g2 => ?_) | refine WH.split (t := 22) rfl (fun g2 => ?_) (fun g2 => ?_)
    · -- g2 True
      cases g2
    · -- g2 False
      refine WH.takeYes 17 rfl (by kernel_rfl) (by kernel_rfl) (by kernel_rfl) (fun _ _ _ h => h) ⟨_, HB⟩ rfl rfl (fun w' hS => EX.move rfl) rfl ?_
      refine WH.takeYes 19 rfl (by kernel_rfl) (by kernel_rfl) (by kernel_rfl) (fun _ _ _ h => h) ⟨_, HB⟩ rfl rfl (fun w' hS => EX.move rfl) rfl ?_
      refine WH.hard 18 rfl (by kernel_rfl) ?_
      refine WL.yes rfl rfl ?_
      refine WL.call call34 rfl rfl ?_
      refine Calls.mono (m_seen hI ((hm.old H).old HB) ((hL.of0 H).of0 HB)) ?_
      rintro _ wx ⟨gs, rfl, Hc⟩
      refine ⟨_, rfl, ?_⟩
      replace HB := HB.call Hc
      refine WL.done (WX.heldOn ⟨_, HB⟩ ?_)
      refine WH.hard 20 rfl (by kernel_rfl) ?_
      refine WL.yes rfl rfl ?_
      refine WL.call call121 rfl rfl ?_
      refine Calls.mono (n_seen hJ ((hn.old H).old HB)) ?_
      rintro _ wx ⟨rs, rfl, hrs, Hc⟩
      refine ⟨_, rfl, ?_⟩
      replace HB := HB.call Hc
      refine WL.done (WX.heldOn ⟨_, HB⟩ ?_)
      refine WH.hard 21 rfl (by kernel_rfl) ?_
      refine WL.yes rfl rfl ?_
      refine WL.call call42 rfl rfl ?_
      refine Calls.mono (x_sameSeen hI.shown8 (HB.sat (gs, .cells (arrC (seenC M.ls)) 38) (by simp)) hrs (fun q hq => HB.sat q (by simp [hq])) (by omega)) ?_
      rintro _ wx ⟨rfl, Hc⟩
      refine ⟨_, rfl, ?_⟩
      replace HB := HB.call0 Hc
      refine WL.done (WX.heldOn ⟨_, HB⟩ ?_)
      refine WH.takeYes 22 rfl (by kernel_rfl) (by kernel_rfl) (by kernel_rfl) (fun _ _ _ h => h) ⟨_, HB⟩ rfl rfl (fun w' hS => EX.notOp rfl) rfl ?_
      refine WH.take 23 rfl (by kernel_rfl) (by kernel_rfl) (by kernel_rfl) (fun _ _ _ h => h) ⟨_, HB⟩ (fun w' hS => EX.pickF rfl rfl) rfl ?_
      refine WH.take 24 rfl (by kernel_rfl) (by kernel_rfl) (by kernel_rfl) (fun _ _ _ h => h) ⟨_, HB⟩ (fun w' hS => EX.move rfl) rfl ?_
      first | refine WH.splitD (t := 30) rfl (fun g3 => ?_) (fun g3 => ?_) | refine WH.split (t := 30) rfl (fun g3 => ?_) (fun g3 => ?_)
      · -- g3 True
        cases g3
      · -- g3 False
        refine WH.takeYes 25 rfl (by kernel_rfl) (by kernel_rfl) (by kernel_rfl) (fun _ _ _ h => h) ⟨_, HB⟩ rfl rfl (fun w' hS => EX.move rfl) rfl ?_
        refine WH.takeYes 27 rfl (by kernel_rfl) (by kernel_rfl) (by kernel_rfl) (fun _ _ _ h => h) ⟨_, HB⟩ rfl rfl (fun w' hS => EX.move rfl) rfl ?_
        refine WH.takeYes 28 rfl (by kernel_rfl) (by kernel_rfl) (by kernel_rfl) (fun _ _ _ h => h) ⟨_, HB⟩ rfl rfl (fun w' hS => EX.nilCheck rfl) rfl ?_
        refine WH.takeYes 29 rfl (by kernel_rfl) (by kernel_rfl) (by kernel_rfl) (fun _ _ _ h => h) ⟨_, HB⟩ rfl rfl (fun w' hS => EX.fieldAddr fld89_2 rfl) rfl ?_
        first | refine WH.takeYes 30 rfl (by kernel_rfl) (by kernel_rfl) (by kernel_rfl) (fun _ _ _ h => h) ⟨_, HB⟩ rfl rfl (fun w' hS => EX.load rfl (Rd.q2 (hS.block (H.oldBlock hn.b0 (by simp)) (by simp)))) rfl ?_
        refine WH.hard 26 rfl (by kernel_rfl) ?_
        refine WL.yes rfl rfl ?_
        refine WL.call call27 rfl rfl ?_
        refine Calls.mono (m_events' hk hI ((hm.old H).old HB)) ?_
        rintro _ wx ⟨re, rfl, hre, Hc⟩
        refine ⟨_, rfl, ?_⟩
        replace HB := HB.call Hc
        refine WL.done (WX.heldOn ⟨_, HB⟩ ?_)
        refine WH.hard 31 rfl (by kernel_rfl) ?_
        refine WL.yes rfl rfl ?_
        refine WL.call call122 rfl rfl ?_
        refine Calls.mono (x_sameEvents hev (by rw [← hev]; exact hJ.ok.evs) hre hJ.ok.er (fun q hq => HB.sat q (by simp [hq])) (fun q hq => HB.oldBlock (H.oldBlock (hn.erow q hq) (by simp)) (by simp)) (by omega)) ?_
        rintro _ wx ⟨rfl, Hc⟩
        refine ⟨_, rfl, ?_⟩
        replace HB := HB.call0 Hc
        refine WL.done (WX.heldOn ⟨_, HB⟩ ?_)
        refine WH.takeYes 32 rfl (by kernel_rfl) (by kernel_rfl) (by kernel_rfl) (fun _ _ _ h => h) ⟨_, HB⟩ rfl rfl (fun w' hS => EX.notOp rfl) rfl ?_
        refine WH.take 33 rfl (by kernel_rfl) (by kernel_rfl) (by kernel_rfl) (fun _ _ _ h => h) ⟨_, HB⟩ (fun w' hS => EX.pickF rfl rfl) rfl ?_
        refine WH.done (by kernel_rfl) ?_
        replace H := H.call HB
        refine WX.next ?_
        refine WC.cond_false rfl (rfl) ?_
        refine (WC.skip (WX.next ?_))
        refine WC.seq ?_
        refine WC.seq ?_
        refine WC.region ?_
        refine WL.assign rfl rfl ?_
        refine (WL.done (WX.next ?_))
        refine WC.block ?_
        -- loop 1: changed [5] kept [0, 1]
        replace H := H.weaken (List.nil_sublist _)
        refine WC.loop (Sub.cons (t := 0) rfl (Sub.cons (t := 1) rfl (Sub.nil _))) (fun i : Nat => [(5, .int .i64 ((i : Int) - 1))]) (fun q i wx => q = (M.ls.length + 2) - i ∧ i ≤ M.ls.length + 2 ∧ St w [] wx []) (M.ls.length + 2) (0) (Sub.cons (t := 5) (by first | rfl | simp) (Sub.nil _)) (⟨rfl, by omega, H⟩) ?_
        rintro k9 g wx hI9 N hN
        obtain ⟨rfl, hg, H⟩ := hI9
        refine WC.seq ?_
        refine WC.seq ?_
        refine WC.region ?_
        refine WL.move rfl rfl ?_
        refine WL.move rfl rfl ?_
        first | refine WL.nilCheck rfl rfl ?_ | refine WL.nilCheckFn rfl rfl ?_
        refine WL.fieldAddr fld89_0 rfl rfl ?_
        first | refine WL.load rfl (Rd.q0 (H.oldBlock hn.b0 (by simp))) rfl ?_ | refine WL.load rfl (Rd.q0 (hS.block (H.oldBlock hn.b0 (by simp)) (by simp))) rfl ?_
        refine WL.lenSlc isl87 rfl rfl ?_
        refine WL.bin rfl rfl binv_leq rfl ?_
        refine (WL.done (WX.next ?_))
        first | refine WC.cond_dec rfl (fun c2 => ?_) (fun c2 => ?_) | refine WC.cond rfl (fun c2 => ?_) (fun c2 => ?_)
        · -- c2 T
          refine (WC.skip (WX.next ?_))
          refine WC.seq ?_
          refine WC.block ?_
          refine WC.seq ?_
          refine WC.region ?_
          refine WL.move rfl rfl ?_
          refine WL.move rfl rfl ?_
          refine WL.call call31 rfl rfl ?_
          refine Calls.mono (m_state ((g : Int) - 1) hI (hm.old H) (hL.of0 H)) ?_
          rintro _ wx ⟨rfl, Hc⟩
          refine ⟨_, rfl, ?_⟩
          replace H := H.call0 Hc
          refine WL.move rfl rfl ?_
          refine WL.move rfl rfl ?_
          refine WL.call call123 rfl rfl ?_
          refine Calls.mono (n_state ((g : Int) - 1) hJ (hn.old H)) ?_
          rintro _ wx ⟨rfl, Hc⟩
          refine ⟨_, rfl, ?_⟩
          replace H := H.call0 Hc
          refine WL.bin rfl rfl binv_neq rfl ?_
          refine WL.move rfl rfl ?_
          refine WL.known (t := 56) rfl (b := false) (decide_eq_false (fun h => h rfl)) ?_
          refine WL.yes rfl rfl ?_
          refine WL.move rfl rfl ?_
          refine WL.yes rfl rfl ?_
          refine WL.move rfl rfl ?_
          refine WL.yes rfl rfl ?_
          refine WL.call call39 rfl rfl ?_
          refine Calls.mono (m_pending ((g : Int) - 1) hk hI (hm.old H)) ?_
          rintro _ wx ⟨r1, rfl, hr1, Hc⟩
          refine ⟨_, rfl, ?_⟩
          replace H := H.call Hc
          refine WL.yes rfl rfl ?_
          refine WL.move rfl rfl ?_
          refine WL.yes rfl rfl ?_
          refine WL.move rfl rfl ?_
          refine WL.yes rfl rfl ?_
          refine WL.call call124 rfl rfl ?_
          refine Calls.mono (n_pending ((g : Int) - 1) hk hJ (hn.old H)) ?_
          rintro _ wx ⟨r2, rfl, hr2, Hc⟩
          refine ⟨_, rfl, ?_⟩
          replace H := H.call Hc
          refine WL.yes rfl rfl ?_
          refine WL.call call45 rfl rfl ?_
          refine Calls.mono (m_sameStores hr1 hr2 (fun q hq => H.sat q (by simp [hq])) (fun q hq => H.sat q (by simp [hq])) (Nat.le_trans (pend_leI hI _) (Nat.le_trans hk (by decide)))) ?_
          rintro _ wx ⟨rfl, Hc⟩
          refine ⟨_, rfl, ?_⟩
          replace H := H.call0 Hc
          refine WL.yes rfl rfl ?_
          refine WL.notOp rfl rfl ?_
          refine WL.pickF rfl rfl rfl ?_
          refine (WL.done (WX.next ?_))
          refine WC.cond_false rfl (by rw [decide_eq_true rfl]; rfl) ?_
          refine (WC.skip (WX.block_normal (WX.next ?_)))
          refine WC.region ?_
          refine WL.move rfl rfl ?_
          refine WL.bin rfl rfl (iadd (by omega) (by omega)) rfl ?_
          refine WL.assign rfl rfl ?_
          refine (WL.done (WX.round ?_))
          exact hN _ (g+1) _ _ (by omega) ⟨rfl, by omega, H.weaken (List.nil_sublist _)⟩ (Sub.cons (t := 5) (by first | rfl | simp) (Sub.nil _)) (Sub.cons (t := 0) rfl (Sub.cons (t := 1) rfl (Sub.nil _)))
        · -- c2 F
          refine (WC.exit (WX.then_exit (WX.then_exit (WX.block_exit (WX.next ?_)))))
          refine WC.seq ?_
          refine WC.region ?_
          refine WL.assign rfl rfl ?_
          refine (WL.done (WX.next ?_))
          refine (WC.ret ?_)
          refine ret_one rfl rfl ?_
          exact ⟨rfl, H⟩

end Go.Proofs.YtkncbggnaobgeaaDoor
