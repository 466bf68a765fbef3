/- Walks of functions of the program; printed by a program of this session (walk.py) out of hand-written hints. -/
import Derived.Test.YtkncbggnaobgeaaDoorMem5
namespace Go.Proofs.YtkncbggnaobgeaaDoor
open Go.RowKit
set_option linter.unusedVariables false
set_option linter.unusedSimpArgs false
set_option maxRecDepth 100000

instance : Inhabited PL := ⟨{ ws := zeros8, c := 0, ps := [], mark := 0 }⟩
def PM.has (M : PM) (n : Int) : Bool := decide (0 ≤ n) && decide (n < M.ls.length)
def PM.line (M : PM) (n : Int) : PL := M.ls.getD n.toNat default
theorem abs_has (R : RM) (n : Int) : R.abs.has n = pHas R n := by simp [PM.has, pHas, RM.abs]
theorem abs_line {R : RM} {k : Nat} {l : PL} {r : Row} (h : R.X[k]? = some (l, r)) : R.abs.line (k : Int) = l := by
  simp [PM.line, RM.abs, h]
def PM.putErr (M : PM) (at_ val : Int) : Int :=
  if at_ < 0 then 40 else if M.has (at_ / 8) then (if isWord val then (if (chk (M.line (at_ / 8)).ws (M.line (at_ / 8)).c).1 = 2 then 9 else 0) else 1) else 40
def PM.put (M : PM) (kind at_ val : Int) : PM :=
  if M.putErr at_ val = 0 then { M with ls := M.ls.set (at_ / 8).toNat { M.line (at_ / 8) with ps := (M.line (at_ / 8)).ps ++ [(at_ % 8, val)] }, evs := M.evs ++ [[kind, at_, val, M.span, 0, 0, 0, 0, 0, 0, 0, 0]] } else M
theorem abs_upd {R : RM} {A B : List (PL × Row)} {l l' : PL} {r r' : Row} {mp : List (Int × Nat)} {clk k : Nat} (hX : R.X = A ++ (l, r) :: B) (hA : A.length = k) : (R.upd A B l' r' mp clk).abs = { R.abs with ls := R.abs.ls.set k l' } := by
  subst hA
  simp [RM.abs, RM.upd, hX]
theorem abs_noted (R : RM) (v : List Int) (er : Row) : (R.noted v er).abs = { R.abs with evs := R.abs.evs ++ [v] } := rfl
theorem fhp_p {w0 w : World} {S : List Nat} {p lb len lcap mb : Nat} {mp : List (Int × Nat)} {clk : Nat} {span : Int} {er : Row} {ne : Nat} {a : List Value} {l : PL} {r : Row} {c : List Value} {Z : Hp} (H : St w0 S w (fhp p lb len lcap mb mp clk span er ne a l r c Z)) :
    p ∉ lb :: (r.hp 111).map Prod.fst := by
  have h := (List.nodup_cons.1 H.nd).1
  intro hm
  refine h ?_
  rw [List.map_cons, List.map_cons, List.map_append]
  rcases List.mem_cons.1 hm with rfl | hm
  · exact List.mem_cons_self
  · exact List.mem_cons_of_mem _ (List.mem_cons_of_mem _ (List.mem_append_left _ hm))
theorem fhp_take {w0 w : World} {S : List Nat} {p lb len lcap mb : Nat} {mp : List (Int × Nat)} {clk : Nat} {span : Int} {er : Row} {ne : Nat} {a : List Value} {l : PL} {r : Row} {c : List Value} {Z : Hp} (H : St w0 S w (fhp p lb len lcap mb mp clk span er ne a l r c Z)) :
    St w (lb :: (r.hp 111).map Prod.fst) w ((lb, .cells (lineL a l r c) 158) :: r.hp 111) := by
  have h : St w0 S w ((lb, .cells (lineL a l r c) 158) :: r.hp 111) := H.weaken (List.Sublist.cons _ (List.Sublist.cons_cons _ (List.Sublist.cons _ (List.sublist_append_left _ _))))
  exact St.start h.nd h.sat
theorem fhp_give {w0 w w' : World} {S : List Nat} {J : Hp} {p lb len lcap mb : Nat} {mp : List (Int × Nat)} {clk : Nat} {span : Int} {er : Row} {ne : Nat} {a : List Value} {l l' : PL} {r r' : Row} {c : List Value} {Z : Hp} (H : St w0 S w (fhp p lb len lcap mb mp clk span er ne a l r c Z))
    (HB : St w (lb :: (r.hp 111).map Prod.fst) w' (J ++ ((lb, .cells (lineL a l' r' c) 158) :: r'.hp 111))) : St w0 S w' (fhp p lb len lcap mb mp clk span er ne a l' r' c Z) := by
  have h1 : St w0 S w (((p, structO lb len lcap mb span er ne) :: (mb, mO mp clk) :: Z) ++ ((lb, .cells (lineL a l r c) 158) :: r.hp 111)) := H.perm (by
    unfold fhp
    rw [List.cons_append]
    refine List.Perm.cons _ ?_
    rw [List.cons_append]
    refine (List.Perm.swap _ _ _).trans (List.Perm.cons _ ?_)
    exact (List.Perm.cons _ List.perm_append_comm).trans List.perm_middle.symm)
  have h2 := h1.callM HB
  have h3 : St w0 S w' (((p, structO lb len lcap mb span er ne) :: (mb, mO mp clk) :: Z) ++ ((lb, .cells (lineL a l' r' c) 158) :: r'.hp 111)) := h2.weaken (List.Sublist.append_left (List.sublist_append_right _ _) _)
  refine h3.perm ?_
  unfold fhp
  rw [List.cons_append]
  refine List.Perm.cons _ ?_
  rw [List.cons_append]
  refine ((List.Perm.cons _ (List.perm_middle.trans (List.Perm.cons _ List.perm_append_comm))).trans (List.Perm.swap _ _ _))

theorem put_any (R : RM) (kind at_ val : Int) (ha : -9223372036854775808 ≤ at_ ∧ at_ ≤ 9223372036854775807) (hsm : R.evs.length < 1073741824) (hps : ∀ x ∈ R.X, x.1.ps.length < 1073741824) (w : World) (hm : MemIn w R) (hL : L64 w) : Calls Tryd.prog 125 #[.pointer (some ⟨R.p, 0, none⟩), .int .i64 kind, .int .i64 at_, .int .i64 val, .func (.func 106) #[.pointer (some ⟨R.p, 0, none⟩)] #[]] w fun e w' => ∃ R' : RM, e = .returned (.int .i64 (R.abs.putErr at_ val)) ∧ R'.p = R.p ∧ R'.abs = R.abs.put kind at_ val ∧ R'.ok ∧ St w (R.hp.map Prod.fst) w' R'.hp := by
  refine calls_walk_n (args := [.pointer (some ⟨R.p, 0, none⟩), .int .i64 kind, .int .i64 at_, .int .i64 val, .func (.func 106) #[.pointer (some ⟨R.p, 0, none⟩)] #[]]) Tryd.func125 rfl rfl rfl ?_
  have H := hm.start
  refine WC.seq ?_
  refine WC.region ?_
  refine WL.assign rfl rfl ?_
  refine (WL.done (WX.next ?_))
  refine WC.seq ?_
  refine WC.seq ?_
  refine WC.region ?_
  refine WL.move rfl rfl ?_
  refine WL.bin rfl rfl (iquoT (by omega) (by omega) (by omega)) rfl ?_
  refine WL.assign rfl rfl ?_
  refine (WL.done (WX.next ?_))
  refine WC.block ?_
  refine WC.seq ?_
  refine WC.region ?_
  refine WL.move rfl rfl ?_
  refine WL.bin rfl rfl binv_lss rfl ?_
  refine WL.move rfl rfl ?_
  first | refine WL.splitD (t := 43) rfl (fun g1 => ?_) (fun g1 => ?_) | refine WL.split (t := 43) rfl (fun g1 => ?_) (fun g1 => ?_)
  · -- g1 True
    refine WL.no rfl rfl rfl ?_
    refine WL.no rfl rfl rfl ?_
    refine WL.no rfl rfl rfl ?_
    refine WL.no rfl rfl rfl ?_
    refine WL.pickT rfl rfl rfl ?_
    refine WL.assign rfl rfl ?_
    refine (WL.done (WX.next ?_))
    refine WC.cond_true rfl (rfl) ?_
    refine WC.seq ?_
    refine WC.region ?_
    refine WL.assign rfl rfl ?_
    refine (WL.done (WX.next ?_))
    refine (WC.ret (WX.block_ret (WX.then_ret ?_)))
    refine ret_one rfl rfl ?_
    have e1 : R.abs.putErr at_ val = 40 := by unfold PM.putErr; rw [if_pos g1]
    exact ⟨R, by rw [e1], rfl, by unfold PM.put; rw [e1, if_neg (by decide)], hm.ok, H⟩
  · -- g1 False
    obtain ⟨q, rfl⟩ : ∃ q : Nat, at_ = (q : Int) := ⟨at_.toNat, by omega⟩
    have hq : (q : Int).tdiv 8 = ((q / 8 : Nat) : Int) := by rw [Int.tdiv_eq_ediv_of_nonneg (by omega)]; omega
    rw [hq]
    refine WL.yes rfl rfl ?_
    refine WL.move rfl rfl ?_
    refine WL.yes rfl rfl ?_
    refine WL.move rfl rfl ?_
    refine WL.yes rfl rfl ?_
    refine WL.call call101 rfl rfl ?_
    refine Calls.mono (has_any R _ _ hm) ?_
    rintro _ wx ⟨rfl, hwx⟩
    refine ⟨_, rfl, ?_⟩
    rw [hwx]
    refine WL.yes rfl rfl ?_
    refine WL.notOp rfl rfl ?_
    refine WL.pickF rfl rfl rfl ?_
    refine WL.assign rfl rfl ?_
    refine (WL.done (WX.next ?_))
    first | refine WC.cond_dec rfl (fun c2 => ?_) (fun c2 => ?_) | refine WC.cond rfl (fun c2 => ?_) (fun c2 => ?_)
    · -- c2 T
      have hh : pHas R ((q / 8 : Nat) : Int) = false := by simpa only [Bool.not_eq_true'] using c2
      have hq2 : (q : Int) / 8 = ((q / 8 : Nat) : Int) := by omega
      refine WC.seq ?_
      refine WC.region ?_
      refine WL.assign rfl rfl ?_
      refine (WL.done (WX.next ?_))
      refine (WC.ret (WX.block_ret (WX.then_ret ?_)))
      refine ret_one rfl rfl ?_
      have e1 : R.abs.putErr (q : Int) val = 40 := by unfold PM.putErr; rw [if_neg g1, abs_has, hq2, hh]; rfl
      exact ⟨R, by rw [e1], rfl, by unfold PM.put; rw [e1, if_neg (by decide)], hm.ok, H⟩
    · -- c2 F
      have hh : pHas R ((q / 8 : Nat) : Int) = true := by simpa only [Bool.not_eq_false'] using c2
      obtain ⟨hn0, hn1⟩ := pHas_iff.1 hh
      obtain ⟨k, hk⟩ : ∃ k : Nat, k = q / 8 := ⟨_, rfl⟩
      rw [← hk] at hn0 hn1 hh ⊢
      have hk2 : (q : Int) / 8 = (k : Int) := by omega
      obtain ⟨A, l, r, B, hX, hA, hal, hok, hr, hget⟩ := hm.ok.at (k := k) (by omega)
      have hpk : l.ps.length < 1073741824 := hps (l, r) (List.mem_of_getElem? hget)
      refine WC.seq ?_
      refine WC.region ?_
      refine WL.move rfl rfl ?_
      refine WL.call call166 rfl rfl ?_
      refine Calls.mono (word_any _ _) ?_
      rintro _ wx ⟨rfl, hwx⟩
      refine ⟨_, rfl, ?_⟩
      rw [hwx]
      refine WL.notOp rfl rfl ?_
      refine WL.assign rfl rfl ?_
      refine (WL.done (WX.next ?_))
      first | refine WC.cond_dec rfl (fun c3 => ?_) (fun c3 => ?_) | refine WC.cond rfl (fun c3 => ?_) (fun c3 => ?_)
      · -- c3 T
        have hwd : isWord val = false := by simpa only [Bool.not_eq_true'] using c3
        refine WC.seq ?_
        refine WC.region ?_
        refine WL.assign rfl rfl ?_
        refine (WL.done (WX.next ?_))
        refine (WC.ret (WX.block_ret (WX.then_ret ?_)))
        refine ret_one rfl rfl ?_
        have e1 : R.abs.putErr (q : Int) val = 1 := by unfold PM.putErr; rw [if_neg g1, abs_has, hk2, hh, if_pos rfl, hwd]; rfl
        exact ⟨R, by rw [e1], rfl, by unfold PM.put; rw [e1, if_neg (by decide)], hm.ok, H⟩
      · -- c3 F
        have hwd : isWord val = true := by simpa only [Bool.not_eq_false'] using c3
        refine WC.seq ?_
        refine WC.region ?_
        refine WL.move rfl rfl ?_
        refine WL.move rfl rfl ?_
        refine WL.call call31 rfl rfl ?_
        refine Calls.mono (state_any R _ _ hm hL) ?_
        rintro _ wx ⟨rfl, Hc⟩
        refine ⟨_, rfl, ?_⟩
        replace H := H.call0 Hc
        refine WL.bin rfl rfl binv_eql rfl ?_
        refine WL.assign rfl rfl ?_
        refine (WL.done (WX.next ?_))
        first | refine WC.cond_dec rfl (fun c4 => ?_) (fun c4 => ?_) | refine WC.cond rfl (fun c4 => ?_) (fun c4 => ?_)
        · -- c4 T
          have hst : (chk l.ws l.c).1 = 2 := by rw [hh, if_pos rfl, Int.toNat_natCast, hget] at c4; exact c4
          refine WC.seq ?_
          refine WC.region ?_
          refine WL.assign rfl rfl ?_
          refine (WL.done (WX.next ?_))
          refine (WC.ret (WX.block_ret (WX.then_ret ?_)))
          refine ret_one rfl rfl ?_
          have e1 : R.abs.putErr (q : Int) val = 9 := by unfold PM.putErr; rw [if_neg g1, abs_has, hk2, hh, if_pos rfl, hwd, if_pos rfl, abs_line hget, if_pos hst]
          exact ⟨R, by rw [e1], rfl, by unfold PM.put; rw [e1, if_neg (by decide)], hm.ok, H⟩
        · -- c4 F
          have hst : ¬ (chk l.ws l.c).1 = 2 := by rw [hh, if_pos rfl, Int.toNat_natCast, hget] at c4; exact c4
          have hwr := Row.le_max hr
          refine WC.seqJ (Sub.cons (t := 0) rfl (Sub.cons (t := 1) rfl (Sub.cons (t := 2) rfl (Sub.cons (t := 3) rfl (Sub.cons (t := 4) rfl (Sub.cons (t := 11) rfl (Sub.nil _))))))) (fun _ : Row => []) (fun r1 wx => r1.ok 2 (l.ps.length + 1) (flatP l.ps ++ [.int .i64 ((q : Int) % 8), .int .i64 val]) ∧ St w (R.hp.map Prod.fst) wx (fhp R.p R.lb R.X.length R.lcap R.mb R.mp R.clk R.span R.er R.evs.length (linesC A) { l with ps := l.ps ++ [((q : Int) % 8, val)] } r1 (linesC B ++ R.junk) (R.er.hp 164 ++ pendHp A ++ pendHp B))) (fun N hN => ?_) (fun r1 wx hJ => ?_)
          · -- first
            replace H := (St.focus (L := []) hX H).drew
            refine WC.held (SX (World.drew wx) (R.lb :: (r.hp 111).map Prod.fst)) (by kernel_rfl) ?_
            generalize World.drew wx = wb at H ⊢
            have hpn := fhp_p H
            have HB := fhp_take H
            refine WH.take 0 rfl (by kernel_rfl) (by kernel_rfl) (by kernel_rfl) (fun _ _ _ h => h) ⟨_, HB⟩ (fun w' hS => EX.move rfl) rfl ?_
            refine WH.take 1 rfl (by kernel_rfl) (by kernel_rfl) (by kernel_rfl) (fun _ _ _ h => h) ⟨_, HB⟩ (fun w' hS => EX.nilCheck rfl) rfl ?_
            refine WH.take 2 rfl (by kernel_rfl) (by kernel_rfl) (by kernel_rfl) (fun _ _ _ h => h) ⟨_, HB⟩ (fun w' hS => EX.fieldAddr fld161_0 rfl) rfl ?_
            first | refine WH.take 3 rfl (by kernel_rfl) (by kernel_rfl) (by kernel_rfl) (fun _ _ _ h => h) ⟨_, HB⟩ (fun w' hS => EX.load rfl (hS.rd1 ty156 (H.blk 0 rfl) hpn rfl)) rfl ?_
            refine WH.take 4 rfl (by kernel_rfl) (by kernel_rfl) (by kernel_rfl) (fun _ _ _ h => h) ⟨_, HB⟩ (fun w' hS => EX.move rfl) rfl ?_
            refine WH.take 5 rfl (by kernel_rfl) (by kernel_rfl) (by kernel_rfl) (fun _ _ _ h => h) ⟨_, HB⟩ (fun w' hS => EX.move rfl) rfl ?_
            refine WH.take 6 rfl (by kernel_rfl) (by kernel_rfl) (by kernel_rfl) (fun _ _ _ h => h) ⟨_, HB⟩ (fun w' hS => EX.nilCheck rfl) rfl ?_
            refine WH.take 7 rfl (by kernel_rfl) (by kernel_rfl) (by kernel_rfl) (fun _ _ _ h => h) ⟨_, HB⟩ (fun w' hS => EX.fieldAddr fld161_0 rfl) rfl ?_
            first | refine WH.take 8 rfl (by kernel_rfl) (by kernel_rfl) (by kernel_rfl) (fun _ _ _ h => h) ⟨_, HB⟩ (fun w' hS => EX.load rfl (hS.rd1 ty156 (H.blk 0 rfl) hpn rfl)) rfl ?_
            refine WH.take 9 rfl (by kernel_rfl) (by kernel_rfl) (by kernel_rfl) (fun _ _ _ h => h) ⟨_, HB⟩ (fun w' hS => EX.move rfl) rfl ?_
            refine WH.take 10 rfl (by kernel_rfl) (by kernel_rfl) (by kernel_rfl) (fun _ _ _ h => h) ⟨_, HB⟩ (fun w' hS => EX.idxSlc (k := k) slc156 rfl rfl (by first | rfl | omega) (by omega)) rfl ?_
            refine WH.take 11 rfl (by kernel_rfl) (by kernel_rfl) (by kernel_rfl) (fun _ _ _ h => h) ⟨_, HB⟩ (fun w' hS => EX.fieldAddr fld158_1 rfl) rfl ?_
            refine WH.take 13 rfl (by kernel_rfl) (by kernel_rfl) (by kernel_rfl) (fun _ _ _ h => h) ⟨_, HB⟩ (fun w' hS => EX.move rfl) rfl ?_
            refine WH.take 14 rfl (by kernel_rfl) (by kernel_rfl) (by kernel_rfl) (fun _ _ _ h => h) ⟨_, HB⟩ (fun w' hS => EX.bin rfl rfl (irem (by omega) (by omega))) rfl ?_
            refine WH.take 15 rfl (by kernel_rfl) (by kernel_rfl) (by kernel_rfl) (fun _ _ _ h => h) ⟨_, HB⟩ (fun w' hS => EX.move rfl) rfl ?_
            refine WH.take 16 rfl (by kernel_rfl) (by kernel_rfl) (by kernel_rfl) (fun _ _ _ h => h) ⟨_, HB⟩ (fun w' hS => EX.build pla111 zer111 rfl rfl) rfl ?_
            refine WH.hard2 12 17 rfl rfl (by kernel_rfl) ?_ ?_
            · -- op 12 first
              first | refine WL.load rfl (Rd.lineS ty52 (HB.blk 0 rfl) (by omega) hok.1) rfl ?_ | refine WL.load rfl (Rd.lineS ty52 (HB.blk 1 rfl) (by omega) hok.1) rfl ?_
              refine WL.done (WX.heldOn ⟨_, HB⟩ ?_)
              refine WH.hard 17 rfl (by kernel_rfl) ?_
              refine WL.buildSlice1 HB Tryd.underlying52 (sz := 2) (by simp only [Tryd.underlying111]; exact ty111) (by omega) zer111 rfl rfl rfl rfl ?_
              intro g wx hg hgg HB
              refine WL.done (WX.heldOn ⟨_, HB⟩ ?_)
              refine WH.hard 18 rfl (by kernel_rfl) ?_
              replace HB := St.perm (H := [_, _] ++ r.hp 111) HB List.perm_append_comm
              refine WL.append (m := 1) (news := [.int .i64 ((q : Int) % 8), .int .i64 val]) app52 HB hr rfl rfl rfl (fun j u hj => by rw [addr_add, cell_of (HB.sat _ (List.mem_append_right _ List.mem_cons_self)), Nat.zero_add]; simpa [Value.cells] using hj) (by simp [Value.oneCell']) (by simp only [maxLen]; omega) (by omega) rfl ?_
              intro r1 wx hr1 HB
              replace HB := St.perm HB List.perm_append_comm
              refine WL.done (WX.heldOn ⟨_, HB⟩ ?_)
              refine WH.take 19 rfl (by kernel_rfl) (by kernel_rfl) (by kernel_rfl) (fun _ _ _ h => h) ⟨_, HB⟩ (fun w' hS => EX.idxSlc (k := k) slc156 rfl rfl (by first | rfl | omega) (by omega)) rfl ?_
              refine WH.take 20 rfl (by kernel_rfl) (by kernel_rfl) (by kernel_rfl) (fun _ _ _ h => h) ⟨_, HB⟩ (fun w' hS => EX.fieldAddr fld158_1 rfl) rfl ?_
              refine WH.hard 21 rfl (by kernel_rfl) ?_
              refine WL.storeAt HB ty52 1 rfl rfl rfl (Row.val_size _ _) (Row.val_one _ _) (by rw [lineL_size hok.1]; omega) ?_
              intro wx HB
              replace HB := HB.castH (H' := [(g, .cells #[.int .i64 ((q : Int) % 8), .int .i64 val] 111)] ++ ((R.lb, .cells (lineL (linesC A) { l with ps := l.ps ++ [((q : Int) % 8, val)] } r1 (linesC B ++ R.junk)) 158) :: r1.hp 111)) (by
                have e1 := wr_lineS (a := linesC A) (l := l) (r := r) (r' := r1) (ps' := l.ps ++ [((q : Int) % 8, val)]) (c := linesC B ++ R.junk) (o := 0 + k * 11 + 9) (by omega) hok.1
                rw [← e1, Row.val_cells, List.length_append]; rfl)
              refine WL.done (WX.heldOn ⟨_, HB⟩ ?_)
              refine WH.done (by kernel_rfl) ?_
              replace H := fhp_give (J := [(g, _)]) H HB
              refine WX.round ?_
              exact hN _ _ _ ⟨hr1, H⟩ (Sub.nil _) (Sub.cons (t := 0) rfl (Sub.cons (t := 1) rfl (Sub.cons (t := 2) rfl (Sub.cons (t := 3) rfl (Sub.cons (t := 4) rfl (Sub.cons (t := 11) rfl (Sub.nil _)))))))
            · -- op 17 first
              refine WL.buildSlice1 HB Tryd.underlying52 (sz := 2) (by simp only [Tryd.underlying111]; exact ty111) (by omega) zer111 rfl rfl rfl rfl ?_
              intro g wx hg hgg HB
              refine WL.done (WX.heldOn ⟨_, HB⟩ ?_)
              refine WH.hard 12 rfl (by kernel_rfl) ?_
              first | refine WL.load rfl (Rd.lineS ty52 (HB.blk 0 rfl) (by omega) hok.1) rfl ?_ | refine WL.load rfl (Rd.lineS ty52 (HB.blk 1 rfl) (by omega) hok.1) rfl ?_
              refine WL.done (WX.heldOn ⟨_, HB⟩ ?_)
              refine WH.hard 18 rfl (by kernel_rfl) ?_
              replace HB := St.perm (H := [_, _] ++ r.hp 111) HB List.perm_append_comm
              refine WL.append (m := 1) (news := [.int .i64 ((q : Int) % 8), .int .i64 val]) app52 HB hr rfl rfl rfl (fun j u hj => by rw [addr_add, cell_of (HB.sat _ (List.mem_append_right _ List.mem_cons_self)), Nat.zero_add]; simpa [Value.cells] using hj) (by simp [Value.oneCell']) (by simp only [maxLen]; omega) (by omega) rfl ?_
              intro r1 wx hr1 HB
              replace HB := St.perm HB List.perm_append_comm
              refine WL.done (WX.heldOn ⟨_, HB⟩ ?_)
              refine WH.take 19 rfl (by kernel_rfl) (by kernel_rfl) (by kernel_rfl) (fun _ _ _ h => h) ⟨_, HB⟩ (fun w' hS => EX.idxSlc (k := k) slc156 rfl rfl (by first | rfl | omega) (by omega)) rfl ?_
              refine WH.take 20 rfl (by kernel_rfl) (by kernel_rfl) (by kernel_rfl) (fun _ _ _ h => h) ⟨_, HB⟩ (fun w' hS => EX.fieldAddr fld158_1 rfl) rfl ?_
              refine WH.hard 21 rfl (by kernel_rfl) ?_
              refine WL.storeAt HB ty52 1 rfl rfl rfl (Row.val_size _ _) (Row.val_one _ _) (by rw [lineL_size hok.1]; omega) ?_
              intro wx HB
              replace HB := HB.castH (H' := [(g, .cells #[.int .i64 ((q : Int) % 8), .int .i64 val] 111)] ++ ((R.lb, .cells (lineL (linesC A) { l with ps := l.ps ++ [((q : Int) % 8, val)] } r1 (linesC B ++ R.junk)) 158) :: r1.hp 111)) (by
                have e1 := wr_lineS (a := linesC A) (l := l) (r := r) (r' := r1) (ps' := l.ps ++ [((q : Int) % 8, val)]) (c := linesC B ++ R.junk) (o := 0 + k * 11 + 9) (by omega) hok.1
                rw [← e1, Row.val_cells, List.length_append]; rfl)
              refine WL.done (WX.heldOn ⟨_, HB⟩ ?_)
              refine WH.done (by kernel_rfl) ?_
              replace H := fhp_give (J := [(g, _)]) H HB
              refine WX.round ?_
              exact hN _ _ _ ⟨hr1, H⟩ (Sub.nil _) (Sub.cons (t := 0) rfl (Sub.cons (t := 1) rfl (Sub.cons (t := 2) rfl (Sub.cons (t := 3) rfl (Sub.cons (t := 4) rfl (Sub.cons (t := 11) rfl (Sub.nil _)))))))
          · -- join
            obtain ⟨hr1, H⟩ := hJ
            replace hr1 : r1.ok 2 (l.ps.length + 1) (flatP (l.ps ++ [((q : Int) % 8, val)])) := by rw [flatP_append]; exact hr1
            refine WC.region ?_
            refine WL.move rfl rfl ?_
            first | refine WL.nilCheck rfl rfl ?_ | refine WL.nilCheckFn rfl rfl ?_
            refine WL.fieldAddr fld161_1 rfl rfl ?_
            first | refine WL.load rfl (H.rd1 ty159 0 rfl rfl) rfl ?_ | refine WL.load rfl (H.rd1 ty159 1 rfl rfl) rfl ?_ | refine WL.load rfl (H.rd1 ty159 2 rfl rfl) rfl ?_ | refine WL.load rfl (H.rdA ty159 0 rfl (by decide)) rfl ?_ | refine WL.load rfl (H.rdA ty159 1 rfl (by decide)) rfl ?_ | refine WL.load rfl (H.rdA ty159 2 rfl (by decide)) rfl ?_
            refine WL.move rfl rfl ?_
            refine WL.mapUpdate H map159 2 rfl rfl rfl rfl ?_
            intro wx H
            refine (WL.done (WX.block_normal (WX.next ?_)))
            refine WC.seq ?_
            refine WC.region ?_
            replace H := St.refocus (L := []) (l' := { l with ps := l.ps ++ [((q : Int) % 8, val)] }) (r' := r1) (mp := mIns R.mp R.clk k) (clk := mClk R.mp R.clk k) hX H
            have hok2 : (R.upd A B { l with ps := l.ps ++ [((q : Int) % 8, val)] } r1 (mIns R.mp R.clk k) (mClk R.mp R.clk k)).ok := by
              refine hm.ok.upd hX hA ⟨hok.1, hok.2.1, hok.2.2.1, ?_, ?_⟩ (by rw [List.length_append]; exact hr1) (mIns_ok hm.ok.map) (fun x => ?_)
              · have := hok.2.2.2.1; show l.mark ≤ (l.ps ++ _).length; rw [List.length_append]; omega
              · intro p hp
                rcases List.mem_append.1 hp with hp | hp
                · exact hok.2.2.2.2 p hp
                · simp only [List.mem_singleton] at hp; subst hp; exact ⟨by show 0 ≤ (q : Int) % 8; omega, by show (q : Int) % 8 < 8; omega, hwd⟩
              · rw [mIns_keys]
                by_cases hx : x = (k : Int)
                · simp [hx]
                · simp [hx]
            refine WL.move rfl rfl ?_
            refine WL.move rfl rfl ?_
            refine WL.move rfl rfl ?_
            refine WL.move rfl rfl ?_
            refine WL.move rfl rfl ?_
            first | refine WL.nilCheck rfl rfl ?_ | refine WL.nilCheckFn rfl rfl ?_
            refine WL.fieldAddr fld161_2 rfl rfl ?_
            first | refine WL.load rfl (H.rd1 ty3 0 rfl rfl) rfl ?_ | refine WL.load rfl (H.rd1 ty3 1 rfl rfl) rfl ?_ | refine WL.load rfl (H.rd1 ty3 2 rfl rfl) rfl ?_ | refine WL.load rfl (H.rdA ty3 0 rfl (by decide)) rfl ?_ | refine WL.load rfl (H.rdA ty3 1 rfl (by decide)) rfl ?_ | refine WL.load rfl (H.rdA ty3 2 rfl (by decide)) rfl ?_
            refine WL.build pla164 zer164 rfl rfl rfl ?_
            refine WL.callVal (fi := [.pointer (some ⟨R.p, 0, none⟩)]) (ca := []) call106 rfl rfl rfl ?_
            refine Calls.mono (note_any (R.upd A B { l with ps := l.ps ++ [((q : Int) % 8, val)] } r1 (mIns R.mp R.clk k) (mClk R.mp R.clk k)) [kind, (q : Int), val, R.span, 0, 0, 0, 0, 0, 0, 0, 0] rfl hsm _ hok2 (St.start H.nd H.sat)) ?_
            rintro _ wx ⟨er, rfl, hok3, Hc⟩
            refine ⟨_, rfl, ?_⟩
            replace H := H.callM (L := []) Hc
            refine (WL.done (WX.next ?_))
            refine WC.seq ?_
            refine WC.region ?_
            refine WL.assign rfl rfl ?_
            refine (WL.done (WX.next ?_))
            refine (WC.ret ?_)
            refine ret_one rfl rfl ?_
            have e1 : R.abs.putErr (q : Int) val = 0 := by unfold PM.putErr; rw [if_neg g1, abs_has, hk2, hh, if_pos rfl, hwd, if_pos rfl, abs_line hget, if_neg hst]
            refine ⟨(R.upd A B { l with ps := l.ps ++ [((q : Int) % 8, val)] } r1 (mIns R.mp R.clk k) (mClk R.mp R.clk k)).noted [kind, (q : Int), val, R.span, 0, 0, 0, 0, 0, 0, 0, 0] er, by rw [e1], rfl, ?_, hok3, H⟩
            have e2 := abs_upd (l' := { l with ps := l.ps ++ [((q : Int) % 8, val)] }) (r' := r1) (mp := mIns R.mp R.clk k) (clk := mClk R.mp R.clk k) hX hA
            unfold PM.put
            rw [e1, if_pos rfl, hk2, abs_line hget, Int.toNat_natCast]
            rw [abs_noted, e2]
            rfl

end Go.Proofs.YtkncbggnaobgeaaDoor
