/- Walks of functions of the program; printed by a program of this session (walk.py) out of hand-written hints. -/
import Derived.Test.YtkncbggnaobgeaaDoorMem12
namespace Go.Proofs.YtkncbggnaobgeaaDoor
open Go.RowKit
set_option linter.unusedVariables false
set_option linter.unusedSimpArgs false
set_option maxRecDepth 100000

def xorTo (ws xs : List Int) : Nat → List Int
  | 0 => ws
  | i + 1 => (xorTo ws xs i).set i ((((xorTo ws xs i).getD i 0).toNat ^^^ (xs.getD i 0).toNat : Nat) : Int)
theorem xorTo_len (ws xs : List Int) : ∀ i, (xorTo ws xs i).length = ws.length
  | 0 => rfl
  | i + 1 => by simp [xorTo, xorTo_len ws xs i]
theorem word_nat {ws : List Int} (h : isWords ws = true) {i : Nat} (hi : i < ws.length) : (ws.getD i 0).toNat < 2 ^ 40 ∧ ws.getD i 0 = ((ws.getD i 0).toNat : Int) := by
  have := isWords_get h hi
  omega
theorem xorTo_words {ws xs : List Int} (h8 : ws.length = 8) (hx8 : xs.length = 8) (hw : isWords ws = true) (hx : isWords xs = true) : ∀ i, i ≤ 8 → isWords (xorTo ws xs i) = true
  | 0, _ => hw
  | i + 1, hi => by
    have ih := xorTo_words h8 hx8 hw hx i (by omega)
    have h1 := (word_nat ih (i := i) (by rw [xorTo_len]; omega)).1
    have h2 := (word_nat hx (i := i) (by omega)).1
    have h3 : ((xorTo ws xs i).getD i 0).toNat ^^^ (xs.getD i 0).toNat < 2 ^ 40 := Nat.xor_lt_two_pow h1 h2
    exact isWords_set ih (isWord_iff.2 ⟨by omega, by omega⟩)
theorem split_list {xs : List Int} {i : Nat} (hi : i < xs.length) : ∃ u v, xs = u ++ xs.getD i 0 :: v ∧ u.length = i := by
  obtain ⟨A, x, B, h, hA⟩ := split_at hi
  refine ⟨A, B, ?_, hA⟩
  have : xs.getD i 0 = x := by subst hA; rw [h]; simp [List.getD]
  rw [this]; exact h
theorem len8 {xs : List Int} (h : xs.length = 8) : ∃ a b c d e f g i, xs = [a, b, c, d, e, f, g, i] := by
  match xs, h with
  | [a, b, c, d, e, f, g, i], _ => exact ⟨a, b, c, d, e, f, g, i, rfl⟩
def z164 : Array Value := #[.int .i64 0, .int .i64 0, .int .i64 0, .int .i64 0, .int .i64 0, .int .i64 0, .int .i64 0, .int .i64 0, .int .i64 0, .int .i64 0, .int .i64 0, .int .i64 0]
theorem fill_rot (x0 x1 x2 x3 x4 x5 x6 x7 a b c : Int) : Instr.fill (fun i => [(0, 1), (1, 1), (2, 1), (3, 1), (4, 8)][i]?) z164 [(0, .int .i64 a), (1, .int .i64 b), (4, arr [x0, x1, x2, x3, x4, x5, x6, x7]), (2, .int .i64 c)] = some (arrC [a, b, c, 0, x0, x1, x2, x3, x4, x5, x6, x7]) := by kernel_rfl
theorem fill_heal (x0 x1 x2 x3 x4 x5 x6 x7 a b : Int) : Instr.fill (fun i => [(0, 1), (1, 1), (2, 1), (3, 1), (4, 8)][i]?) z164 [(0, .int .i64 a), (1, .int .i64 b), (4, arr [x0, x1, x2, x3, x4, x5, x6, x7])] = some (arrC [a, b, 0, 0, x0, x1, x2, x3, x4, x5, x6, x7]) := by kernel_rfl
section
variable {P : Program} {w w' : World} {T t : TypeId} {k b o i : Nat} {a c : List Value} {l : PL} {r : Row}
theorem lineL_wi {u v : List Int} {x : Int} (h : l.ws = u ++ x :: v) : lineL a l r c = ((a ++ intsC u) ++ ([Value.int .i64 x] ++ (intsC v ++ ([Value.int .i64 l.c] ++ ([r.val l.ps.length] ++ ([Value.int .i64 (l.mark : Int)] ++ c)))))).toArray := by
  rw [lineL_w, h]; simp [intsC]
theorem Rd.lineWi (hT : tyB P T false k = true) (h : w.heap[b]? = some (.cells (lineL a l r c) t)) (ho : o = a.length + i) (hi : i < l.ws.length) : Rd P w T ⟨b, o, none⟩ (.int .i64 (l.ws.getD i 0)) := by
  obtain ⟨u, v, hu, hul⟩ := split_list hi
  rw [lineL_wi hu] at h
  exact Rd.mid1 hT h (by simp [intsC, hul, ho])
theorem wr_lineWi {z : Int} (ho : o = a.length + i) (hi : i < l.ws.length) : wr (lineL a l r c) o [.int .i64 z] = lineL a { l with ws := l.ws.set i z } r c := by
  obtain ⟨u, v, hu, hul⟩ := split_list hi
  have h2 : ({ l with ws := l.ws.set i z } : PL).ws = u ++ z :: v := by
    show l.ws.set i z = _
    rw [hu, ← hul]; simp
  rw [lineL_wi hu, wr_mid (by simp [intsC, hul, ho]) (by simp), lineL_wi h2]
end
def PM.rotErr (M : PM) (n : Int) (xs : List Int) (bits : Int) : Int :=
  if M.has n then (if isWords xs && isCode bits then (if (M.line n).ps = [] then 0 else 4) else 1) else 40
def PM.rot (M : PM) (n : Int) (xs : List Int) (bits : Int) : PM :=
  if M.rotErr n xs bits = 0 then { M with ls := M.ls.set n.toNat { M.line n with ws := xorTo (M.line n).ws xs 8, c := (((M.line n).c.toNat ^^^ bits.toNat : Nat) : Int) }, evs := M.evs ++ [[7, n, bits, 0] ++ xs] } else M

theorem rot_any (R : RM) (n : Int) (xs : List Int) (hx8 : xs.length = 8) (bits : Int) (hsm : R.evs.length < 1073741824) (w : World) (hm : MemIn w R) : Calls Tryd.prog 51 #[.pointer (some ⟨R.p, 0, none⟩), .int .i64 n, arr xs, .int .i64 bits] w fun e w' => ∃ R' : RM, e = .returned (.int .i64 (R.abs.rotErr n xs bits)) ∧ R'.p = R.p ∧ R'.abs = R.abs.rot n xs bits ∧ R'.ok ∧ St w (R.hp.map Prod.fst) w' R'.hp := by
  refine calls_walk_n (args := [.pointer (some ⟨R.p, 0, none⟩), .int .i64 n, arr xs, .int .i64 bits]) Tryd.func51 rfl rfl rfl ?_
  have H := hm.start
  refine WC.seq ?_
  refine WC.region ?_
  refine WL.boxArr H rfl rfl ?_
  intro b6 wx hb6 hge6 H
  refine WL.assign rfl rfl ?_
  refine (WL.done (WX.next ?_))
  refine WC.seq ?_
  refine WC.block ?_
  refine WC.seq ?_
  refine WC.region ?_
  refine WL.move rfl rfl ?_
  refine WL.move rfl rfl ?_
  refine WL.call call101 rfl rfl ?_
  refine Calls.mono (has_any R _ _ (hm.keep (L := [_]) H)) ?_
  rintro _ wx ⟨rfl, rfl⟩
  refine ⟨_, rfl, ?_⟩
  refine WL.notOp rfl rfl ?_
  refine WL.assign rfl rfl ?_
  refine (WL.done (WX.next ?_))
  first | refine WC.cond_dec rfl (fun c1 => ?_) (fun c1 => ?_) | refine WC.cond rfl (fun c1 => ?_) (fun c1 => ?_)
  · -- c1 T
    have hh : pHas R n = false := by simpa only [Bool.not_eq_true'] using c1
    refine WC.seq ?_
    refine WC.region ?_
    refine WL.assign rfl rfl ?_
    refine (WL.done (WX.next ?_))
    refine (WC.ret (WX.block_ret (WX.then_ret ?_)))
    refine ret_one rfl rfl ?_
    have e1 : R.abs.rotErr n xs bits = 40 := by unfold PM.rotErr; rw [abs_has, hh]; rfl
    exact ⟨R, by rw [e1], rfl, by unfold PM.rot; rw [e1, if_neg (by decide)], hm.ok, H.tail⟩
  · -- c1 F
    have hh : pHas R n = true := by simpa only [Bool.not_eq_false'] using c1
    refine WC.seq ?_
    refine WC.region ?_
    first | refine WL.load rfl (H.rdArr ty38 0 rfl hx8) rfl ?_ | refine WL.load rfl (H.rd1 ty38 0 rfl rfl) rfl ?_ | refine WL.load rfl (H.rd1 ty38 1 rfl rfl) rfl ?_ | refine WL.load rfl (H.rd1 ty38 2 rfl rfl) rfl ?_ | refine WL.load rfl (H.rd1 ty38 3 rfl rfl) rfl ?_ | refine WL.load rfl (H.rdA ty38 0 rfl (by decide)) rfl ?_ | refine WL.load rfl (H.rdA ty38 1 rfl (by decide)) rfl ?_ | refine WL.load rfl (H.rdA ty38 2 rfl (by decide)) rfl ?_ | refine WL.load rfl (H.rdA ty38 3 rfl (by decide)) rfl ?_
    refine WL.call call98 rfl rfl ?_
    refine Calls.mono (words_any xs hx8 _) ?_
    rintro _ wx ⟨rfl, Hc⟩
    refine ⟨_, rfl, ?_⟩
    replace H := H.call0 Hc
    refine WL.notOp rfl rfl ?_
    refine WL.move rfl rfl ?_
    first | refine WL.splitD (t := 20) rfl (fun g1 => ?_) (fun g1 => ?_) | refine WL.split (t := 20) rfl (fun g1 => ?_) (fun g1 => ?_)
    · -- g1 True
      refine WL.no rfl rfl rfl ?_
      refine WL.no rfl rfl rfl ?_
      refine WL.pickT rfl rfl rfl ?_
      refine WL.move rfl rfl ?_
      refine WL.no rfl rfl rfl ?_
      refine WL.no rfl rfl rfl ?_
      refine WL.pickT rfl rfl rfl ?_
      refine WL.assign rfl rfl ?_
      refine (WL.done (WX.next ?_))
      refine WC.cond_true rfl (rfl) ?_
      refine WC.seq ?_
      refine WC.region ?_
      refine WL.assign rfl rfl ?_
      refine (WL.done (WX.next ?_))
      refine (WC.ret (WX.block_ret (WX.then_ret ?_)))
      refine ret_one rfl rfl ?_
      have hxw : isWords xs = false := by simpa only [Bool.not_eq_true'] using g1
      have e1 : R.abs.rotErr n xs bits = 1 := by unfold PM.rotErr; rw [abs_has, hh, if_pos rfl, hxw]; rfl
      exact ⟨R, by rw [e1], rfl, by unfold PM.rot; rw [e1, if_neg (by decide)], hm.ok, H.tail⟩
    · -- g1 False
      refine WL.yes rfl rfl ?_
      refine WL.move rfl rfl ?_
      refine WL.yes rfl rfl ?_
      refine WL.bin rfl rfl binv_lss rfl ?_
      refine WL.pickF rfl rfl rfl ?_
      refine WL.move rfl rfl ?_
      first | refine WL.splitD (t := 24) rfl (fun g2 => ?_) (fun g2 => ?_) | refine WL.split (t := 24) rfl (fun g2 => ?_) (fun g2 => ?_)
      · -- g2 True
        refine WL.no rfl rfl rfl ?_
        refine WL.no rfl rfl rfl ?_
        refine WL.pickT rfl rfl rfl ?_
        refine WL.assign rfl rfl ?_
        refine (WL.done (WX.next ?_))
        refine WC.cond_true rfl (rfl) ?_
        refine WC.seq ?_
        refine WC.region ?_
        refine WL.assign rfl rfl ?_
        refine (WL.done (WX.next ?_))
        refine (WC.ret (WX.block_ret (WX.then_ret ?_)))
        refine ret_one rfl rfl ?_
        have hcb : isCode bits = false := isCode_no (by omega)
        have e1 : R.abs.rotErr n xs bits = 1 := by unfold PM.rotErr; rw [abs_has, hh, if_pos rfl, hcb, Bool.and_false]; rfl
        exact ⟨R, by rw [e1], rfl, by unfold PM.rot; rw [e1, if_neg (by decide)], hm.ok, H.tail⟩
      · -- g2 False
        refine WL.yes rfl rfl ?_
        refine WL.move rfl rfl ?_
        refine WL.yes rfl rfl ?_
        refine WL.bin rfl rfl binv_geq rfl ?_
        refine WL.pickF rfl rfl rfl ?_
        refine WL.assign rfl rfl ?_
        refine (WL.done (WX.next ?_))
        first | refine WC.cond_dec rfl (fun c4 => ?_) (fun c4 => ?_) | refine WC.cond rfl (fun c4 => ?_) (fun c4 => ?_)
        · -- c4 T
          refine WC.seq ?_
          refine WC.region ?_
          refine WL.assign rfl rfl ?_
          refine (WL.done (WX.next ?_))
          refine (WC.ret (WX.block_ret (WX.then_ret ?_)))
          refine ret_one rfl rfl ?_
          have hcb : isCode bits = false := isCode_no (by omega)
          have e1 : R.abs.rotErr n xs bits = 1 := by unfold PM.rotErr; rw [abs_has, hh, if_pos rfl, hcb, Bool.and_false]; rfl
          exact ⟨R, by rw [e1], rfl, by unfold PM.rot; rw [e1, if_neg (by decide)], hm.ok, H.tail⟩
        · -- c4 F
          refine WC.seq ?_
          refine WC.region ?_
          obtain ⟨hn0, hn1⟩ := pHas_iff.1 hh
          obtain ⟨k, rfl⟩ : ∃ k : Nat, n = (k : Int) := ⟨n.toNat, by omega⟩
          obtain ⟨A, l, r, B, hX, hA, hal, hok, hr, hget⟩ := hm.ok.at (k := k) (by omega)
          replace H := St.focus (L := [(b6, .cells (arrC xs) 38)]) hX H
          have hwx : isWords xs = true := by simpa only [Bool.not_eq_false'] using g1
          have hcb : isCode bits = true := isCode_iff.2 (by omega)
          have hlc := isCode_iff.1 hok.2.2.1
          have hlc2 : l.c.toNat ^^^ bits.toNat < 2 ^ 10 := Nat.xor_lt_two_pow (by omega) (by omega)
          refine WL.move rfl rfl ?_
          first | refine WL.nilCheck rfl rfl ?_ | refine WL.nilCheckFn rfl rfl ?_
          refine WL.fieldAddr fld161_0 rfl rfl ?_
          first | refine WL.load rfl (H.rd1 ty156 0 rfl rfl) rfl ?_ | refine WL.load rfl (H.rd1 ty156 1 rfl rfl) rfl ?_ | refine WL.load rfl (H.rd1 ty156 2 rfl rfl) rfl ?_ | refine WL.load rfl (H.rd1 ty156 3 rfl rfl) rfl ?_ | refine WL.load rfl (H.rdA ty156 0 rfl (by decide)) rfl ?_ | refine WL.load rfl (H.rdA ty156 1 rfl (by decide)) rfl ?_ | refine WL.load rfl (H.rdA ty156 2 rfl (by decide)) rfl ?_ | refine WL.load rfl (H.rdA ty156 3 rfl (by decide)) rfl ?_
          refine WL.move rfl rfl ?_
          refine WL.idxSlc (k := k) slc156 rfl rfl (by first | rfl | omega) (by omega) rfl ?_
          refine WL.fieldAddr fld158_1 rfl rfl ?_
          first | refine WL.load rfl (Rd.lineS ty52 (H.blk 2 rfl) (by omega) hok.1) rfl ?_
          refine WL.lenR isl52 rfl rfl ?_
          refine WL.bin rfl rfl binv_gtr rfl ?_
          refine WL.assign rfl rfl ?_
          refine (WL.done (WX.next ?_))
          first | refine WC.cond_dec rfl (fun c5 => ?_) (fun c5 => ?_) | refine WC.cond rfl (fun c5 => ?_) (fun c5 => ?_)
          · -- c5 T
            refine WC.seq ?_
            refine WC.region ?_
            refine WL.assign rfl rfl ?_
            refine (WL.done (WX.next ?_))
            refine (WC.ret (WX.block_ret (WX.then_ret ?_)))
            refine ret_one rfl rfl ?_
            have hp : ¬ l.ps = [] := fun h => by rw [h] at c5; exact absurd c5 (by simp)
            have e1 : R.abs.rotErr (k : Int) xs bits = 4 := by unfold PM.rotErr; rw [abs_has, hh, if_pos rfl, hwx, hcb, Bool.and_true, if_pos rfl, abs_line hget, if_neg hp]
            exact ⟨R, by rw [e1], rfl, by unfold PM.rot; rw [e1, if_neg (by decide)], hm.ok, (St.unfocus (L := [_]) hX H).tail⟩
          · -- c5 F
            refine (WC.skip (WX.block_normal (WX.next ?_)))
            refine WC.seq ?_
            refine WC.seq ?_
            refine WC.region ?_
            first | refine WL.load rfl (H.rdArr ty38 0 rfl hx8) rfl ?_ | refine WL.load rfl (H.rd1 ty38 0 rfl rfl) rfl ?_ | refine WL.load rfl (H.rd1 ty38 1 rfl rfl) rfl ?_ | refine WL.load rfl (H.rd1 ty38 2 rfl rfl) rfl ?_ | refine WL.load rfl (H.rd1 ty38 3 rfl rfl) rfl ?_ | refine WL.load rfl (H.rdA ty38 0 rfl (by decide)) rfl ?_ | refine WL.load rfl (H.rdA ty38 1 rfl (by decide)) rfl ?_ | refine WL.load rfl (H.rdA ty38 2 rfl (by decide)) rfl ?_ | refine WL.load rfl (H.rdA ty38 3 rfl (by decide)) rfl ?_
            refine WL.move rfl rfl ?_
            refine (WL.done (WX.next ?_))
            refine WC.block ?_
            -- loop 1: changed [40] kept [0, 1, 3, 6, 39]
            refine WC.loop (Sub.cons (t := 0) rfl (Sub.cons (t := 1) rfl (Sub.cons (t := 3) rfl (Sub.cons (t := 6) rfl (Sub.cons (t := 39) rfl (Sub.nil _)))))) (fun i : Nat => [(40, .int .i64 (i : Int))]) (fun q i wx => q = 8 - i ∧ i ≤ 8 ∧ St w (R.hp.map Prod.fst) wx ((b6, .cells (arrC xs) 38) :: fhp R.p R.lb R.X.length R.lcap R.mb R.mp R.clk R.span R.er R.evs.length (linesC A) { l with ws := xorTo l.ws xs i } r (linesC B ++ R.junk) (R.er.hp 164 ++ pendHp A ++ pendHp B))) (8) (0) (Sub.cons (t := 40) (by first | rfl | simp) (Sub.nil _)) (⟨rfl, by omega, H⟩) ?_
            rintro k g wx hI N hN
            obtain ⟨rfl, hg, H⟩ := hI
            refine WC.seq ?_
            refine WC.region ?_
            refine WL.bin rfl rfl binv_lss rfl ?_
            refine (WL.done (WX.next ?_))
            refine WC.seq ?_
            first | refine WC.cond_dec rfl (fun c6 => ?_) (fun c6 => ?_) | refine WC.cond rfl (fun c6 => ?_) (fun c6 => ?_)
            · -- c6 T
              refine (WC.skip (WX.next ?_))
              refine WC.seq ?_
              refine WC.block ?_
              refine WC.seq ?_
              refine WC.region ?_
              refine WL.move rfl rfl ?_
              refine WL.indexArr (ws := _) arr38 (by assumption) rfl rfl (by first | rfl | omega) (by omega) rfl ?_ (by intro el h; rw [Tryd.underlying38] at h; cases h; exact ty3)
              refine WL.assign rfl rfl ?_
              refine WL.assign rfl rfl ?_
              refine (WL.done (WX.next ?_))
              replace H := H.drew
              have hv1 := word_nat (xorTo_words hok.1 hx8 hok.2.1 hwx g (by omega)) (i := g) (by rw [xorTo_len, hok.1]; omega)
              have hv2 := word_nat hwx (i := g) (by omega)
              refine WC.held (SX (World.drew wx) [R.lb]) (by kernel_rfl) ?_
              generalize World.drew wx = wb at H ⊢
              have HB := H.single 2 rfl
              refine WH.take 0 rfl (by kernel_rfl) (by kernel_rfl) (by kernel_rfl) (fun _ _ _ h => h) ⟨_, HB⟩ (fun w' hS => EX.move rfl) rfl ?_
              refine WH.take 1 rfl (by kernel_rfl) (by kernel_rfl) (by kernel_rfl) (fun _ _ _ h => h) ⟨_, HB⟩ (fun w' hS => EX.nilCheck rfl) rfl ?_
              refine WH.take 2 rfl (by kernel_rfl) (by kernel_rfl) (by kernel_rfl) (fun _ _ _ h => h) ⟨_, HB⟩ (fun w' hS => EX.fieldAddr fld161_0 rfl) rfl ?_
              first | refine WH.take 3 rfl (by kernel_rfl) (by kernel_rfl) (by kernel_rfl) (fun _ _ _ h => h) ⟨_, HB⟩ (fun w' hS => EX.load rfl (hS.rd1 ty156 (H.blk 0 rfl) (by simpa using H.ne 0 2 rfl rfl rfl) rfl)) rfl ?_ | refine WH.take 3 rfl (by kernel_rfl) (by kernel_rfl) (by kernel_rfl) (fun _ _ _ h => h) ⟨_, HB⟩ (fun w' hS => EX.load rfl (hS.rdA ty156 (H.blk 0 rfl) (by simpa using H.ne 0 2 rfl rfl rfl) (by decide))) rfl ?_ | refine WH.take 3 rfl (by kernel_rfl) (by kernel_rfl) (by kernel_rfl) (fun _ _ _ h => h) ⟨_, HB⟩ (fun w' hS => EX.load rfl (hS.rd1 ty156 (H.blk 1 rfl) (by simpa using H.ne 1 2 rfl rfl rfl) rfl)) rfl ?_ | refine WH.take 3 rfl (by kernel_rfl) (by kernel_rfl) (by kernel_rfl) (fun _ _ _ h => h) ⟨_, HB⟩ (fun w' hS => EX.load rfl (hS.rdA ty156 (H.blk 1 rfl) (by simpa using H.ne 1 2 rfl rfl rfl) (by decide))) rfl ?_ | refine WH.take 3 rfl (by kernel_rfl) (by kernel_rfl) (by kernel_rfl) (fun _ _ _ h => h) ⟨_, HB⟩ (fun w' hS => EX.load rfl (hS.rd1 ty156 (H.blk 3 rfl) (by simpa using H.ne 3 2 rfl rfl rfl) rfl)) rfl ?_ | refine WH.take 3 rfl (by kernel_rfl) (by kernel_rfl) (by kernel_rfl) (fun _ _ _ h => h) ⟨_, HB⟩ (fun w' hS => EX.load rfl (hS.rdA ty156 (H.blk 3 rfl) (by simpa using H.ne 3 2 rfl rfl rfl) (by decide))) rfl ?_
              refine WH.take 4 rfl (by kernel_rfl) (by kernel_rfl) (by kernel_rfl) (fun _ _ _ h => h) ⟨_, HB⟩ (fun w' hS => EX.move rfl) rfl ?_
              refine WH.take 5 rfl (by kernel_rfl) (by kernel_rfl) (by kernel_rfl) (fun _ _ _ h => h) ⟨_, HB⟩ (fun w' hS => EX.move rfl) rfl ?_
              refine WH.take 6 rfl (by kernel_rfl) (by kernel_rfl) (by kernel_rfl) (fun _ _ _ h => h) ⟨_, HB⟩ (fun w' hS => EX.idxSlc (k := k) slc156 rfl rfl (by first | rfl | omega) (by omega)) rfl ?_
              refine WH.take 7 rfl (by kernel_rfl) (by kernel_rfl) (by kernel_rfl) (fun _ _ _ h => h) ⟨_, HB⟩ (fun w' hS => EX.fieldAddr fld158_0 rfl) rfl ?_
              refine WH.take 8 rfl (by kernel_rfl) (by kernel_rfl) (by kernel_rfl) (fun _ _ _ h => h) ⟨_, HB⟩ (fun w' hS => EX.fieldAddr fld40_0 rfl) rfl ?_
              refine WH.take 9 rfl (by kernel_rfl) (by kernel_rfl) (by kernel_rfl) (fun _ _ _ h => h) ⟨_, HB⟩ (fun w' hS => EX.idxArr (k := g) arr38 rfl rfl (by first | rfl | omega) (by omega)) rfl ?_
              refine WH.take 11 rfl (by kernel_rfl) (by kernel_rfl) (by kernel_rfl) (fun _ _ _ h => h) ⟨_, HB⟩ (fun w' hS => EX.move rfl) rfl ?_
              refine WH.take 13 rfl (by kernel_rfl) (by kernel_rfl) (by kernel_rfl) (fun _ _ _ h => h) ⟨_, HB⟩ (fun w' hS => EX.idxSlc (k := k) slc156 rfl rfl (by first | rfl | omega) (by omega)) rfl ?_
              refine WH.take 14 rfl (by kernel_rfl) (by kernel_rfl) (by kernel_rfl) (fun _ _ _ h => h) ⟨_, HB⟩ (fun w' hS => EX.fieldAddr fld158_0 rfl) rfl ?_
              refine WH.take 15 rfl (by kernel_rfl) (by kernel_rfl) (by kernel_rfl) (fun _ _ _ h => h) ⟨_, HB⟩ (fun w' hS => EX.fieldAddr fld40_0 rfl) rfl ?_
              refine WH.hard 10 rfl (by kernel_rfl) ?_
              refine WL.load rfl (Rd.lineWi ty3 (HB.blk 0 rfl) (i := g) (by omega) (by rw [xorTo_len, hok.1]; omega)) rfl ?_
              refine WL.done (WX.heldOn ⟨_, HB⟩ ?_)
              refine WH.take 12 rfl (by kernel_rfl) (by kernel_rfl) (by kernel_rfl) (fun _ _ _ h => h) ⟨_, HB⟩ (fun w' hS => EX.bin rfl rfl (ixorN (a := ((xorTo l.ws xs g).getD g 0).toNat) (b := (xs.getD g 0).toNat) hv1.2 hv2.2 (by omega) (by omega))) rfl ?_
              refine WH.take 16 rfl (by kernel_rfl) (by kernel_rfl) (by kernel_rfl) (fun _ _ _ h => h) ⟨_, HB⟩ (fun w' hS => EX.idxArr (k := g) arr38 rfl rfl (by first | rfl | omega) (by omega)) rfl ?_
              refine WH.hard 17 rfl (by kernel_rfl) ?_
              refine WL.storeAt HB ty3 0 rfl rfl rfl rfl (by simp [Value.cells, Value.oneCell']) (by rw [lineL_size (by rw [xorTo_len]; exact hok.1)]; omega) ?_
              intro wx HB
              replace HB := HB.castH (H' := [(R.lb, .cells (lineL (linesC A) { l with ws := xorTo l.ws xs (g + 1) } r (linesC B ++ R.junk)) 158)]) (by
                have e1 := wr_lineWi (a := linesC A) (l := { l with ws := xorTo l.ws xs g }) (r := r) (c := linesC B ++ R.junk) (o := 0 + k * 11 + 0 + 0 + g * 1) (i := g) (z := ((((xorTo l.ws xs g).getD g 0).toNat ^^^ (xs.getD g 0).toNat : Nat) : Int)) (by omega) (by rw [xorTo_len, hok.1]; omega)
                exact congrArg (fun c => [(R.lb, Obj.cells c 158)]) e1)
              refine WL.done (WX.heldOn ⟨_, HB⟩ ?_)
              refine WH.done (by kernel_rfl) ?_
              replace H := H.back (N := []) 2 rfl HB rfl
              refine (WX.block_normal (WX.next ?_))
              refine WC.region ?_
              refine WL.bin rfl rfl (iadd (by omega) (by omega)) rfl ?_
              refine WL.move rfl rfl ?_
              refine (WL.done (WX.round ?_))
              exact hN _ (g+1) _ _ (by omega) ⟨rfl, by omega, H⟩ (Sub.cons (t := 40) (by first | rfl | simp) (Sub.nil _)) (Sub.cons (t := 0) rfl (Sub.cons (t := 1) rfl (Sub.cons (t := 3) rfl (Sub.cons (t := 6) rfl (Sub.cons (t := 39) rfl (Sub.nil _))))))
            · -- c6 F
              obtain rfl : g = 8 := by omega
              refine (WC.exit (WX.then_exit (WX.then_exit (WX.block_exit (WX.next ?_)))))
              refine WC.seq ?_
              refine WC.region ?_
              refine WL.move rfl rfl ?_
              first | refine WL.nilCheck rfl rfl ?_ | refine WL.nilCheckFn rfl rfl ?_
              refine WL.fieldAddr fld161_0 rfl rfl ?_
              first | refine WL.load rfl (H.rd1 ty156 0 rfl rfl) rfl ?_ | refine WL.load rfl (H.rd1 ty156 1 rfl rfl) rfl ?_ | refine WL.load rfl (H.rd1 ty156 2 rfl rfl) rfl ?_ | refine WL.load rfl (H.rd1 ty156 3 rfl rfl) rfl ?_ | refine WL.load rfl (H.rdA ty156 0 rfl (by decide)) rfl ?_ | refine WL.load rfl (H.rdA ty156 1 rfl (by decide)) rfl ?_ | refine WL.load rfl (H.rdA ty156 2 rfl (by decide)) rfl ?_ | refine WL.load rfl (H.rdA ty156 3 rfl (by decide)) rfl ?_
              refine WL.move rfl rfl ?_
              refine WL.idxSlc (k := k) slc156 rfl rfl (by first | rfl | omega) (by omega) rfl ?_
              refine WL.fieldAddr fld158_0 rfl rfl ?_
              refine WL.fieldAddr fld40_1 rfl rfl ?_
              first | refine WL.load rfl (Rd.lineCo ty3 (H.blk 2 rfl) (by omega) (by rw [xorTo_len]; exact hok.1)) rfl ?_
              refine WL.move rfl rfl ?_
              refine WL.bin rfl rfl (ixorN (a := l.c.toNat) (b := bits.toNat) (by show l.c = _; omega) (by omega) (by omega) (by omega)) rfl ?_
              refine WL.idxSlc (k := k) slc156 rfl rfl (by first | rfl | omega) (by omega) rfl ?_
              refine WL.fieldAddr fld158_0 rfl rfl ?_
              refine WL.fieldAddr fld40_1 rfl rfl ?_
              refine WL.storeAt H ty3 2 rfl rfl rfl rfl (by simp [Value.cells, Value.oneCell']) (by rw [lineL_size (by rw [xorTo_len]; exact hok.1)]; omega) ?_
              intro wx H
              replace H := H.castH (H' := (b6, .cells (arrC xs) 38) :: fhp R.p R.lb R.X.length R.lcap R.mb R.mp R.clk R.span R.er R.evs.length (linesC A) { l with ws := xorTo l.ws xs 8, c := ((l.c.toNat ^^^ bits.toNat : Nat) : Int) } r (linesC B ++ R.junk) (R.er.hp 164 ++ pendHp A ++ pendHp B)) (by
                have e1 := wr_lineC (a := linesC A) (l := { l with ws := xorTo l.ws xs 8 }) (r := r) (c := linesC B ++ R.junk) (o := 0 + k * 11 + 0 + 8) (z := ((l.c.toNat ^^^ bits.toNat : Nat) : Int)) (by omega) (by rw [xorTo_len]; exact hok.1)
                unfold fhp; rw [← e1]; rfl)
              replace H := St.refocus (L := [(b6, .cells (arrC xs) 38)]) hX H
              have hok2 : (R.upd A B { l with ws := xorTo l.ws xs 8, c := ((l.c.toNat ^^^ bits.toNat : Nat) : Int) } r R.mp R.clk).ok := hm.ok.upd hX hA ⟨by show (xorTo l.ws xs 8).length = 8; rw [xorTo_len]; exact hok.1, xorTo_words hok.1 hx8 hok.2.1 hwx 8 (Nat.le_refl _), isCode_iff.2 (by show 0 ≤ ((l.c.toNat ^^^ bits.toNat : Nat) : Int) ∧ ((l.c.toNat ^^^ bits.toNat : Nat) : Int) ≤ 1023; omega), hok.2.2.2.1, hok.2.2.2.2⟩ hr hm.ok.map (keys_same hm.ok hget Iff.rfl)
              refine (WL.done (WX.next ?_))
              refine WC.seq ?_
              refine WC.region ?_
              refine WL.move rfl rfl ?_
              refine WL.move rfl rfl ?_
              first | refine WL.load rfl (H.rdArr ty38 0 rfl hx8) rfl ?_ | refine WL.load rfl (H.rd1 ty38 0 rfl rfl) rfl ?_ | refine WL.load rfl (H.rd1 ty38 1 rfl rfl) rfl ?_ | refine WL.load rfl (H.rd1 ty38 2 rfl rfl) rfl ?_ | refine WL.load rfl (H.rd1 ty38 3 rfl rfl) rfl ?_ | refine WL.load rfl (H.rdA ty38 0 rfl (by decide)) rfl ?_ | refine WL.load rfl (H.rdA ty38 1 rfl (by decide)) rfl ?_ | refine WL.load rfl (H.rdA ty38 2 rfl (by decide)) rfl ?_ | refine WL.load rfl (H.rdA ty38 3 rfl (by decide)) rfl ?_
              refine WL.move rfl rfl ?_
              obtain ⟨x0, x1, x2, x3, x4, x5, x6, x7, rfl⟩ := len8 hx8
              refine WL.build (z := z164) pla164 zer164 rfl rfl (fill_rot _ _ _ _ _ _ _ _ _ _ _) ?_
              refine WL.call call106 rfl rfl ?_
              refine Calls.mono (note_any (R.upd A B _ r R.mp R.clk) [7, (k : Int), bits, 0, x0, x1, x2, x3, x4, x5, x6, x7] rfl hsm _ hok2 (St.start H.tail.nd H.tail.sat)) ?_
              rintro _ wx ⟨er, rfl, hok3, Hc⟩
              refine ⟨_, rfl, ?_⟩
              replace H := St.callM (L := [(b6, _)]) H Hc
              refine (WL.done (WX.next ?_))
              refine WC.seq ?_
              refine WC.region ?_
              refine WL.assign rfl rfl ?_
              refine (WL.done (WX.next ?_))
              refine (WC.ret ?_)
              refine ret_one rfl rfl ?_
              have hp : l.ps = [] := List.eq_nil_of_length_eq_zero (by omega)
              have e1 : R.abs.rotErr (k : Int) [x0, x1, x2, x3, x4, x5, x6, x7] bits = 0 := by unfold PM.rotErr; rw [abs_has, hh, if_pos rfl, hwx, hcb, Bool.and_true, if_pos rfl, abs_line hget, if_pos hp]
              refine ⟨(R.upd A B { l with ws := xorTo l.ws [x0, x1, x2, x3, x4, x5, x6, x7] 8, c := ((l.c.toNat ^^^ bits.toNat : Nat) : Int) } r R.mp R.clk).noted (7 :: (k : Int) :: bits :: 0 :: [x0, x1, x2, x3, x4, x5, x6, x7]) er, by rw [e1], rfl, ?_, hok3, H.tail⟩
              unfold PM.rot
              rw [e1, if_pos rfl, abs_noted, abs_upd hX hA, abs_line hget, Int.toNat_natCast]
              rfl

end Go.Proofs.YtkncbggnaobgeaaDoor
