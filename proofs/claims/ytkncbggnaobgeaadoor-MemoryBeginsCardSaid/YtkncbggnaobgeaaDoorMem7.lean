/- Walks of functions of the program; printed by a program of this session (walk.py) out of hand-written hints. -/
import Derived.Test.YtkncbggnaobgeaaDoorMem6
namespace Go.Proofs.YtkncbggnaobgeaaDoor
open Go.RowKit
set_option linter.unusedVariables false
set_option linter.unusedSimpArgs false
set_option maxRecDepth 100000

theorem fix_words {ws : List Int} {c : Int} (h8 : ws.length = 8) (hw : isWords ws = true) : isWords (fix ws c).1 = true := by
  unfold fix
  split
  · rename_i hv
    rw [Bool.and_eq_true] at hv
    rcases chk_cases (ws := ws) hv.2 with h | h | ⟨x, y, h, hxy⟩
    · rw [h]; exact hw
    · rw [h]; rfl
    · rw [h]
      show isWords (flipBit ws c ((x : Int).toNat) ((y : Int).toNat)).1 = true
      rw [Int.toNat_natCast, Int.toNat_natCast]
      unfold flipBit
      split
      · exact hw
      · exact (flip_words h8 hw (g := x) (b := y) (by omega) (by omega)).2
  · rfl
theorem isWords_set {ws : List Int} {i : Nat} {v : Int} (hw : isWords ws = true) (hv : isWord v = true) : isWords (ws.set i v) = true := by
  unfold isWords at hw ⊢
  rw [List.all_eq_true] at hw ⊢
  intro x hx
  rcases List.mem_or_eq_of_mem_set hx with hx | rfl
  · exact hw x hx
  · exact hv
theorem putAll_words {ws : List Int} {ps : List (Int × Int)} (hw : isWords ws = true) (hp : ∀ p ∈ ps, isWord p.2 = true) : isWords (putAll ws ps) = true := by
  unfold putAll
  induction ps generalizing ws with
  | nil => exact hw
  | cons p ps ih => exact ih (isWords_set hw (hp p List.mem_cons_self)) (fun q hq => hp q (List.mem_cons_of_mem _ hq))
theorem pShow_words {l : PL} {k : Nat} (h : l.ok) : isWords (pShow l k).1 = true := by
  unfold pShow
  split
  · exact putAll_words (fix_words h.1 h.2.1) (fun p hp => (h.2.2.2.2 p (List.mem_of_mem_take hp)).2.2)
  · rfl
theorem pSettle_ok {l : PL} {k : Nat} (h : l.ok) : (pSettle l k).ok := by
  unfold pSettle
  split
  · exact h
  · refine ⟨pShow_len h.1, pShow_words h, enc_code (pShow_words h), ?_, fun p hp => h.2.2.2.2 p (List.mem_of_mem_drop hp)⟩
    have := h.2.2.2.1
    show l.mark - k ≤ (l.ps.drop k).length
    rw [List.length_drop]; omega
theorem keys_same {R : RM} (h : R.ok) {k : Nat} {l : PL} {r : Row} (hget : R.X[k]? = some (l, r)) {ps : List (Int × Int)} (hps : ps ≠ [] ↔ l.ps ≠ []) : ∀ x : Int, x ∈ R.mp.map Prod.fst ↔ (x ≠ (k : Int) ∧ x ∈ R.mp.map Prod.fst) ∨ (x = (k : Int) ∧ ps ≠ []) := by
  intro x
  by_cases hx : x = (k : Int)
  · subst hx
    rw [h.busy, hps]
    simp [hget]
  · simp [hx]
theorem n3_focus {w : World} {R : RM} (hm : MemIn w R) {A B : List (PL × Row)} {l : PL} {r : Row} (hX : R.X = A ++ (l, r) :: B) :
    3 ∉ (fhp R.p R.lb R.X.length R.lcap R.mb R.mp R.clk R.span R.er R.evs.length (linesC A) l r (linesC B ++ R.junk) (R.er.hp 164 ++ pendHp A ++ pendHp B)).map Prod.fst :=
  fun h => hm.n3 (((hp_focus hX).map Prod.fst).mem_iff.2 h)
def PM.flush (M : PM) (n : Int) : PM := if M.has n then { M with ls := M.ls.set n.toNat { M.line n with mark := (M.line n).ps.length }, evs := M.evs ++ [[3, n, 0, 0, 0, 0, 0, 0, 0, 0, 0, 0]] } else M
def PM.evictErr (M : PM) (n k : Int) : Int := if M.has n then (if k < 1 ∨ (M.line n).ps.length < k then 1 else 0) else 40
def PM.evict (M : PM) (n k : Int) : PM := if M.evictErr n k = 0 then { M with ls := M.ls.set n.toNat (pSettle (M.line n) k.toNat), evs := M.evs ++ [[5, n, k, 0, 0, 0, 0, 0, 0, 0, 0, 0]] } else M

theorem store_any (R : RM) (at_ val : Int) (ha : -9223372036854775808 ≤ at_ ∧ at_ ≤ 9223372036854775807) (hsm : R.evs.length < 1073741824) (hps : ∀ x ∈ R.X, x.1.ps.length < 1073741824) (w : World) (hm : MemIn w R) (hL : L64 w) : Calls Tryd.prog 56 #[.pointer (some ⟨R.p, 0, none⟩), .int .i64 at_, .int .i64 val] w fun e w' => ∃ R' : RM, e = .returned (.int .i64 (R.abs.putErr at_ val)) ∧ R'.p = R.p ∧ R'.abs = R.abs.put 1 at_ val ∧ R'.ok ∧ St w (R.hp.map Prod.fst) w' R'.hp := by
  refine calls_walk_n (args := [.pointer (some ⟨R.p, 0, none⟩), .int .i64 at_, .int .i64 val]) Tryd.func56 rfl rfl rfl ?_
  have H := hm.start
  refine WC.seq ?_
  refine WC.region ?_
  refine WL.assign rfl rfl ?_
  refine (WL.done (WX.next ?_))
  refine WC.seq ?_
  refine WC.region ?_
  refine WL.move rfl rfl ?_
  refine WL.move rfl rfl ?_
  refine WL.move rfl rfl ?_
  refine WL.move rfl rfl ?_
  refine WL.makeFunc (us := _) (vs := _) rfl rfl rfl ?_
  refine WL.call call125 rfl rfl ?_
  refine Calls.mono (put_any R 1 at_ val ha hsm hps _ hm hL) ?_
  rintro _ wx ⟨R1, rfl, hp1, ha1, hok1, Hc⟩
  refine ⟨_, rfl, ?_⟩
  replace H := H.callM (L := []) Hc
  refine WL.assign rfl rfl ?_
  refine (WL.done (WX.next ?_))
  refine (WC.ret ?_)
  refine ret_one rfl rfl ?_
  exact ⟨R1, rfl, hp1, ha1, hok1, H⟩

theorem publish_any (R : RM) (at_ val : Int) (ha : -9223372036854775808 ≤ at_ ∧ at_ ≤ 9223372036854775807) (hsm : R.evs.length < 1073741824) (hps : ∀ x ∈ R.X, x.1.ps.length < 1073741824) (w : World) (hm : MemIn w R) (hL : L64 w) : Calls Tryd.prog 110 #[.pointer (some ⟨R.p, 0, none⟩), .int .i64 at_, .int .i64 val] w fun e w' => ∃ R' : RM, e = .returned (.int .i64 (R.abs.putErr at_ val)) ∧ R'.p = R.p ∧ R'.abs = R.abs.put 2 at_ val ∧ R'.ok ∧ St w (R.hp.map Prod.fst) w' R'.hp := by
  refine calls_walk_n (args := [.pointer (some ⟨R.p, 0, none⟩), .int .i64 at_, .int .i64 val]) Tryd.func110 rfl rfl rfl ?_
  have H := hm.start
  refine WC.seq ?_
  refine WC.region ?_
  refine WL.assign rfl rfl ?_
  refine (WL.done (WX.next ?_))
  refine WC.seq ?_
  refine WC.region ?_
  refine WL.move rfl rfl ?_
  refine WL.move rfl rfl ?_
  refine WL.move rfl rfl ?_
  refine WL.move rfl rfl ?_
  refine WL.makeFunc (us := _) (vs := _) rfl rfl rfl ?_
  refine WL.call call125 rfl rfl ?_
  refine Calls.mono (put_any R 2 at_ val ha hsm hps _ hm hL) ?_
  rintro _ wx ⟨R1, rfl, hp1, ha1, hok1, Hc⟩
  refine ⟨_, rfl, ?_⟩
  replace H := H.callM (L := []) Hc
  refine WL.assign rfl rfl ?_
  refine (WL.done (WX.next ?_))
  refine (WC.ret ?_)
  refine ret_one rfl rfl ?_
  exact ⟨R1, rfl, hp1, ha1, hok1, H⟩

theorem flush_any (R : RM) (n : Int) (hsm : R.evs.length < 1073741824) (w : World) (hm : MemIn w R) : Calls Tryd.prog 35 #[.pointer (some ⟨R.p, 0, none⟩), .int .i64 n] w fun e w' => ∃ R' : RM, e = .returned (.int .i64 (if R.abs.has n then 0 else 40)) ∧ R'.p = R.p ∧ R'.abs = R.abs.flush n ∧ R'.ok ∧ St w (R.hp.map Prod.fst) w' R'.hp := by
  refine calls_walk_n (args := [.pointer (some ⟨R.p, 0, none⟩), .int .i64 n]) Tryd.func35 rfl rfl rfl ?_
  have H := hm.start
  refine WC.seq ?_
  refine WC.region ?_
  refine WL.assign rfl rfl ?_
  refine (WL.done (WX.next ?_))
  refine WC.seq ?_
  refine WC.seq ?_
  refine WC.region ?_
  refine WL.move rfl rfl ?_
  refine WL.move rfl rfl ?_
  refine WL.call call101 rfl rfl ?_
  refine Calls.mono (has_any R _ _ hm) ?_
  rintro _ wx ⟨rfl, rfl⟩
  refine ⟨_, rfl, ?_⟩
  refine WL.notOp rfl rfl ?_
  refine (WL.done (WX.next ?_))
  first | refine WC.cond_dec rfl (fun c1 => ?_) (fun c1 => ?_) | refine WC.cond rfl (fun c1 => ?_) (fun c1 => ?_)
  · -- c1 T
    have hh : pHas R n = false := by simpa only [Bool.not_eq_true'] using c1
    refine WC.seq ?_
    refine WC.region ?_
    refine WL.assign rfl rfl ?_
    refine (WL.done (WX.next ?_))
    refine (WC.ret (WX.then_ret ?_))
    refine ret_one rfl rfl ?_
    have e1 : R.abs.has n = false := by rw [abs_has]; exact hh
    exact ⟨R, by rw [e1]; rfl, rfl, by unfold PM.flush; rw [e1]; rfl, hm.ok, H⟩
  · -- c1 F
    have hh : pHas R n = true := by simpa only [Bool.not_eq_false'] using c1
    obtain ⟨hn0, hn1⟩ := pHas_iff.1 hh
    obtain ⟨k, rfl⟩ : ∃ k : Nat, n = (k : Int) := ⟨n.toNat, by omega⟩
    obtain ⟨A, l, r, B, hX, hA, hal, hok, hr, hget⟩ := hm.ok.at (k := k) (by omega)
    refine (WC.skip (WX.next ?_))
    refine WC.seq ?_
    replace H := (St.focus (L := []) hX H).drew
    refine WC.held (SX (World.drew wx) [R.lb]) (by kernel_rfl) ?_
    generalize World.drew wx = wb at H ⊢
    have HB := H.single 1 rfl
    refine WH.take 0 rfl (by kernel_rfl) (by kernel_rfl) (by kernel_rfl) (fun _ _ _ h => h) ⟨_, HB⟩ (fun w' hS => EX.move rfl) rfl ?_
    refine WH.take 1 rfl (by kernel_rfl) (by kernel_rfl) (by kernel_rfl) (fun _ _ _ h => h) ⟨_, HB⟩ (fun w' hS => EX.nilCheck rfl) rfl ?_
    refine WH.take 2 rfl (by kernel_rfl) (by kernel_rfl) (by kernel_rfl) (fun _ _ _ h => h) ⟨_, HB⟩ (fun w' hS => EX.fieldAddr fld161_0 rfl) rfl ?_
    first | refine WH.take 3 rfl (by kernel_rfl) (by kernel_rfl) (by kernel_rfl) (fun _ _ _ h => h) ⟨_, HB⟩ (fun w' hS => EX.load rfl (hS.rd1 ty156 (H.blk 0 rfl) (by simpa using H.ne 0 1 rfl rfl rfl) rfl)) rfl ?_ | refine WH.take 3 rfl (by kernel_rfl) (by kernel_rfl) (by kernel_rfl) (fun _ _ _ h => h) ⟨_, HB⟩ (fun w' hS => EX.load rfl (hS.rdA ty156 (H.blk 0 rfl) (by simpa using H.ne 0 1 rfl rfl rfl) (by decide))) rfl ?_ | refine WH.take 3 rfl (by kernel_rfl) (by kernel_rfl) (by kernel_rfl) (fun _ _ _ h => h) ⟨_, HB⟩ (fun w' hS => EX.load rfl (hS.rd1 ty156 (H.blk 2 rfl) (by simpa using H.ne 2 1 rfl rfl rfl) rfl)) rfl ?_ | refine WH.take 3 rfl (by kernel_rfl) (by kernel_rfl) (by kernel_rfl) (fun _ _ _ h => h) ⟨_, HB⟩ (fun w' hS => EX.load rfl (hS.rdA ty156 (H.blk 2 rfl) (by simpa using H.ne 2 1 rfl rfl rfl) (by decide))) rfl ?_
    refine WH.take 4 rfl (by kernel_rfl) (by kernel_rfl) (by kernel_rfl) (fun _ _ _ h => h) ⟨_, HB⟩ (fun w' hS => EX.move rfl) rfl ?_
    refine WH.take 5 rfl (by kernel_rfl) (by kernel_rfl) (by kernel_rfl) (fun _ _ _ h => h) ⟨_, HB⟩ (fun w' hS => EX.move rfl) rfl ?_
    refine WH.take 6 rfl (by kernel_rfl) (by kernel_rfl) (by kernel_rfl) (fun _ _ _ h => h) ⟨_, HB⟩ (fun w' hS => EX.nilCheck rfl) rfl ?_
    refine WH.take 7 rfl (by kernel_rfl) (by kernel_rfl) (by kernel_rfl) (fun _ _ _ h => h) ⟨_, HB⟩ (fun w' hS => EX.fieldAddr fld161_0 rfl) rfl ?_
    first | refine WH.take 8 rfl (by kernel_rfl) (by kernel_rfl) (by kernel_rfl) (fun _ _ _ h => h) ⟨_, HB⟩ (fun w' hS => EX.load rfl (hS.rd1 ty156 (H.blk 0 rfl) (by simpa using H.ne 0 1 rfl rfl rfl) rfl)) rfl ?_ | refine WH.take 8 rfl (by kernel_rfl) (by kernel_rfl) (by kernel_rfl) (fun _ _ _ h => h) ⟨_, HB⟩ (fun w' hS => EX.load rfl (hS.rdA ty156 (H.blk 0 rfl) (by simpa using H.ne 0 1 rfl rfl rfl) (by decide))) rfl ?_ | refine WH.take 8 rfl (by kernel_rfl) (by kernel_rfl) (by kernel_rfl) (fun _ _ _ h => h) ⟨_, HB⟩ (fun w' hS => EX.load rfl (hS.rd1 ty156 (H.blk 2 rfl) (by simpa using H.ne 2 1 rfl rfl rfl) rfl)) rfl ?_ | refine WH.take 8 rfl (by kernel_rfl) (by kernel_rfl) (by kernel_rfl) (fun _ _ _ h => h) ⟨_, HB⟩ (fun w' hS => EX.load rfl (hS.rdA ty156 (H.blk 2 rfl) (by simpa using H.ne 2 1 rfl rfl rfl) (by decide))) rfl ?_
    refine WH.take 9 rfl (by kernel_rfl) (by kernel_rfl) (by kernel_rfl) (fun _ _ _ h => h) ⟨_, HB⟩ (fun w' hS => EX.move rfl) rfl ?_
    refine WH.take 10 rfl (by kernel_rfl) (by kernel_rfl) (by kernel_rfl) (fun _ _ _ h => h) ⟨_, HB⟩ (fun w' hS => EX.idxSlc (k := k) slc156 rfl rfl (by first | rfl | omega) (by omega)) rfl ?_
    refine WH.take 11 rfl (by kernel_rfl) (by kernel_rfl) (by kernel_rfl) (fun _ _ _ h => h) ⟨_, HB⟩ (fun w' hS => EX.fieldAddr fld158_1 rfl) rfl ?_
    refine WH.hard 12 rfl (by kernel_rfl) ?_
    refine WL.load rfl (Rd.lineS ty52 (HB.blk 0 rfl) (by omega) hok.1) rfl ?_
    refine WL.done (WX.heldOn ⟨_, HB⟩ ?_)
    refine WH.take 13 rfl (by kernel_rfl) (by kernel_rfl) (by kernel_rfl) (fun _ _ _ h => h) ⟨_, HB⟩ (fun w' hS => EX.lenR isl52 rfl) rfl ?_
    refine WH.take 14 rfl (by kernel_rfl) (by kernel_rfl) (by kernel_rfl) (fun _ _ _ h => h) ⟨_, HB⟩ (fun w' hS => EX.idxSlc (k := k) slc156 rfl rfl (by first | rfl | omega) (by omega)) rfl ?_
    refine WH.take 15 rfl (by kernel_rfl) (by kernel_rfl) (by kernel_rfl) (fun _ _ _ h => h) ⟨_, HB⟩ (fun w' hS => EX.fieldAddr fld158_2 rfl) rfl ?_
    refine WH.hard 16 rfl (by kernel_rfl) ?_
    refine WL.storeAt HB ty3 0 rfl rfl rfl rfl (by simp [Value.cells, Value.oneCell']) (by rw [lineL_size hok.1]; omega) ?_
    intro wx HB
    replace HB := HB.castH (H' := [(R.lb, .cells (lineL (linesC A) { l with mark := l.ps.length } r (linesC B ++ R.junk)) 158)]) (by
      have e1 := wr_lineM (a := linesC A) (l := l) (r := r) (c := linesC B ++ R.junk) (o := 0 + k * 11 + 10) (z := l.ps.length) (by omega) hok.1
      rw [← e1]; rfl)
    refine WL.done (WX.heldOn ⟨_, HB⟩ ?_)
    refine WH.done (by kernel_rfl) ?_
    replace H := H.back (N := []) 1 rfl HB rfl
    refine WX.next ?_
    refine WC.seq ?_
    refine WC.region ?_
    replace H := St.refocus (L := []) (l' := { l with mark := l.ps.length }) (r' := r) (mp := R.mp) (clk := R.clk) hX H
    have hok2 : (R.upd A B { l with mark := l.ps.length } r R.mp R.clk).ok := hm.ok.upd hX hA ⟨hok.1, hok.2.1, hok.2.2.1, Nat.le_refl _, hok.2.2.2.2⟩ hr hm.ok.map (keys_same hm.ok hget Iff.rfl)
    refine WL.move rfl rfl ?_
    refine WL.move rfl rfl ?_
    refine WL.build pla164 zer164 rfl rfl rfl ?_
    refine WL.call call106 rfl rfl ?_
    refine Calls.mono (note_any (R.upd A B { l with mark := l.ps.length } r R.mp R.clk) [3, (k : Int), 0, 0, 0, 0, 0, 0, 0, 0, 0, 0] rfl hsm _ hok2 (St.start H.nd H.sat)) ?_
    rintro _ wx ⟨er, rfl, hok3, Hc⟩
    refine ⟨_, rfl, ?_⟩
    replace H := H.callM (L := []) Hc
    refine (WL.done (WX.next ?_))
    refine WC.seq ?_
    refine WC.region ?_
    refine WL.assign rfl rfl ?_
    refine (WL.done (WX.next ?_))
    refine (WC.ret ?_)
    refine ret_one rfl rfl ?_
    have e1 : R.abs.has (k : Int) = true := by rw [abs_has]; exact hh
    refine ⟨(R.upd A B { l with mark := l.ps.length } r R.mp R.clk).noted [3, (k : Int), 0, 0, 0, 0, 0, 0, 0, 0, 0, 0] er, by rw [e1]; rfl, rfl, ?_, hok3, H⟩
    unfold PM.flush
    rw [e1, if_pos rfl, abs_noted, abs_upd hX hA, abs_line hget, Int.toNat_natCast]

theorem evict_any (R : RM) (n k : Int) (hsm : R.evs.length < 1073741824) (hps : ∀ x ∈ R.X, x.1.ps.length ≤ 1073741824) (w : World) (hm : MemIn w R) (hL : L64 w) : Calls Tryd.prog 40 #[.pointer (some ⟨R.p, 0, none⟩), .int .i64 n, .int .i64 k] w fun e w' => ∃ R' : RM, e = .returned (.int .i64 (R.abs.evictErr n k)) ∧ R'.p = R.p ∧ R'.abs = R.abs.evict n k ∧ R'.ok ∧ St w (R.hp.map Prod.fst) w' R'.hp := by
  refine calls_walk_n (args := [.pointer (some ⟨R.p, 0, none⟩), .int .i64 n, .int .i64 k]) Tryd.func40 rfl rfl rfl ?_
  have H := hm.start
  refine WC.seq ?_
  refine WC.region ?_
  refine WL.assign rfl rfl ?_
  refine (WL.done (WX.next ?_))
  refine WC.seq ?_
  refine WC.seq ?_
  refine WC.region ?_
  refine WL.move rfl rfl ?_
  refine WL.move rfl rfl ?_
  refine WL.call call101 rfl rfl ?_
  refine Calls.mono (has_any R _ _ hm) ?_
  rintro _ wx ⟨rfl, rfl⟩
  refine ⟨_, rfl, ?_⟩
  refine WL.notOp rfl rfl ?_
  refine (WL.done (WX.next ?_))
  first | refine WC.cond_dec rfl (fun c1 => ?_) (fun c1 => ?_) | refine WC.cond rfl (fun c1 => ?_) (fun c1 => ?_)
  · -- c1 T
    have hh : pHas R n = false := by simpa only [Bool.not_eq_true'] using c1
    refine WC.seq ?_
    refine WC.region ?_
    refine WL.assign rfl rfl ?_
    refine (WL.done (WX.next ?_))
    refine (WC.ret (WX.then_ret ?_))
    refine ret_one rfl rfl ?_
    have e1 : R.abs.evictErr n k = 40 := by unfold PM.evictErr; rw [abs_has, hh]; rfl
    exact ⟨R, by rw [e1], rfl, by unfold PM.evict; rw [e1, if_neg (by decide)], hm.ok, H⟩
  · -- c1 F
    have hh : pHas R n = true := by simpa only [Bool.not_eq_false'] using c1
    obtain ⟨hn0, hn1⟩ := pHas_iff.1 hh
    obtain ⟨j, rfl⟩ : ∃ j : Nat, n = (j : Int) := ⟨n.toNat, by omega⟩
    obtain ⟨A, l, r, B, hX, hA, hal, hok, hr, hget⟩ := hm.ok.at (k := j) (by omega)
    replace H := St.focus (L := []) hX H
    refine (WC.skip (WX.next ?_))
    refine WC.seq ?_
    refine WC.seq ?_
    refine WC.region ?_
    refine WL.move rfl rfl ?_
    refine WL.bin rfl rfl binv_lss rfl ?_
    refine WL.move rfl rfl ?_
    first | refine WL.splitD (t := 13) rfl (fun g1 => ?_) (fun g1 => ?_) | refine WL.split (t := 13) rfl (fun g1 => ?_) (fun g1 => ?_)
    · -- g1 True
      refine WL.no rfl rfl rfl ?_
      refine WL.no rfl rfl rfl ?_
      refine WL.no rfl rfl rfl ?_
      refine WL.no rfl rfl rfl ?_
      refine WL.no rfl rfl rfl ?_
      refine WL.no rfl rfl rfl ?_
      refine WL.no rfl rfl rfl ?_
      refine WL.no rfl rfl rfl ?_
      refine WL.no rfl rfl rfl ?_
      refine WL.no rfl rfl rfl ?_
      refine WL.no rfl rfl rfl ?_
      refine WL.pickT rfl rfl rfl ?_
      refine (WL.done (WX.next ?_))
      refine WC.cond_true rfl (rfl) ?_
      refine WC.seq ?_
      refine WC.region ?_
      refine WL.assign rfl rfl ?_
      refine (WL.done (WX.next ?_))
      refine (WC.ret (WX.then_ret ?_))
      refine ret_one rfl rfl ?_
      have e1 : R.abs.evictErr (j : Int) k = 1 := by unfold PM.evictErr; rw [abs_has, hh, if_pos rfl, abs_line hget, if_pos (by omega)]
      exact ⟨R, by rw [e1], rfl, by unfold PM.evict; rw [e1, if_neg (by decide)], hm.ok, St.unfocus (L := []) hX H⟩
    · -- g1 False
      refine WL.yes rfl rfl ?_
      refine WL.move rfl rfl ?_
      refine WL.yes rfl rfl ?_
      refine WL.move rfl rfl ?_
      refine WL.yes rfl rfl ?_
      first | refine WL.nilCheck rfl rfl ?_ | refine WL.nilCheckFn rfl rfl ?_
      refine WL.yes rfl rfl ?_
      refine WL.fieldAddr fld161_0 rfl rfl ?_
      refine WL.yes rfl rfl ?_
      first | refine WL.load rfl (H.rd1 ty156 0 rfl rfl) rfl ?_ | refine WL.load rfl (H.rd1 ty156 1 rfl rfl) rfl ?_ | refine WL.load rfl (H.rd1 ty156 2 rfl rfl) rfl ?_ | refine WL.load rfl (H.rdA ty156 0 rfl (by decide)) rfl ?_ | refine WL.load rfl (H.rdA ty156 1 rfl (by decide)) rfl ?_ | refine WL.load rfl (H.rdA ty156 2 rfl (by decide)) rfl ?_
      refine WL.yes rfl rfl ?_
      refine WL.move rfl rfl ?_
      refine WL.yes rfl rfl ?_
      refine WL.idxSlc (k := j) slc156 rfl rfl (by first | rfl | omega) (by omega) rfl ?_
      refine WL.yes rfl rfl ?_
      refine WL.fieldAddr fld158_1 rfl rfl ?_
      refine WL.yes rfl rfl ?_
      first | refine WL.load rfl (Rd.lineS ty52 (H.blk 1 rfl) (by omega) hok.1) rfl ?_
      refine WL.yes rfl rfl ?_
      refine WL.lenR isl52 rfl rfl ?_
      refine WL.yes rfl rfl ?_
      refine WL.bin rfl rfl binv_gtr rfl ?_
      refine WL.pickF rfl rfl rfl ?_
      refine (WL.done (WX.next ?_))
      first | refine WC.cond_dec rfl (fun c3 => ?_) (fun c3 => ?_) | refine WC.cond rfl (fun c3 => ?_) (fun c3 => ?_)
      · -- c3 T
        refine WC.seq ?_
        refine WC.region ?_
        refine WL.assign rfl rfl ?_
        refine (WL.done (WX.next ?_))
        refine (WC.ret (WX.then_ret ?_))
        refine ret_one rfl rfl ?_
        have e1 : R.abs.evictErr (j : Int) k = 1 := by unfold PM.evictErr; rw [abs_has, hh, if_pos rfl, abs_line hget, if_pos (by omega)]
        exact ⟨R, by rw [e1], rfl, by unfold PM.evict; rw [e1, if_neg (by decide)], hm.ok, St.unfocus (L := []) hX H⟩
      · -- c3 F
        refine (WC.skip (WX.next ?_))
        refine WC.seq ?_
        refine WC.region ?_
        obtain ⟨kk, rfl⟩ : ∃ kk : Nat, k = (kk : Int) := ⟨k.toNat, by omega⟩
        refine WL.move rfl rfl ?_
        refine WL.move rfl rfl ?_
        refine WL.move rfl rfl ?_
        refine WL.call call107 rfl rfl ?_
        refine Calls.mono (settle_any _ _ _ _ _ _ _ _ _ _ _ l r _ _ j kk (by omega) hal hok hr (by omega) (hps (l, r) (List.mem_of_getElem? hget)) _ hL (n3_focus hm hX) (St.start H.nd H.sat)) ?_
        rintro _ wx ⟨r', rfl, hr', Hc⟩
        refine ⟨_, rfl, ?_⟩
        replace H := H.callM (L := []) Hc
        refine (WL.done (WX.next ?_))
        refine WC.seq ?_
        refine WC.region ?_
        rw [if_neg (by omega), if_neg (by omega)] at H
        replace H := St.refocus (L := []) hX H
        have hok2 : (R.upd A B (pSettle l kk) r' (pRest R.mp R.clk j (pSettle l kk).ps).1 (pRest R.mp R.clk j (pSettle l kk).ps).2).ok := hm.ok.upd hX hA (pSettle_ok hok) hr' (pRest_ok hm.ok.map) (fun x => pRest_keys hm.ok.map)
        refine WL.move rfl rfl ?_
        refine WL.move rfl rfl ?_
        refine WL.move rfl rfl ?_
        refine WL.build pla164 zer164 rfl rfl rfl ?_
        refine WL.call call106 rfl rfl ?_
        refine Calls.mono (note_any (R.upd A B (pSettle l kk) r' (pRest R.mp R.clk j (pSettle l kk).ps).1 (pRest R.mp R.clk j (pSettle l kk).ps).2) [5, (j : Int), (kk : Int), 0, 0, 0, 0, 0, 0, 0, 0, 0] rfl hsm _ hok2 (St.start H.nd H.sat)) ?_
        rintro _ wx ⟨er, rfl, hok3, Hc⟩
        refine ⟨_, rfl, ?_⟩
        replace H := H.callM (L := []) Hc
        refine (WL.done (WX.next ?_))
        refine WC.seq ?_
        refine WC.region ?_
        refine WL.assign rfl rfl ?_
        refine (WL.done (WX.next ?_))
        refine (WC.ret ?_)
        refine ret_one rfl rfl ?_
        have e1 : R.abs.evictErr (j : Int) (kk : Int) = 0 := by unfold PM.evictErr; rw [abs_has, hh, if_pos rfl, abs_line hget, if_neg (by omega)]
        refine ⟨(R.upd A B (pSettle l kk) r' (pRest R.mp R.clk j (pSettle l kk).ps).1 (pRest R.mp R.clk j (pSettle l kk).ps).2).noted [5, (j : Int), (kk : Int), 0, 0, 0, 0, 0, 0, 0, 0, 0] er, by rw [e1], rfl, ?_, hok3, H⟩
        unfold PM.evict
        rw [e1, if_pos rfl, abs_noted, abs_upd hX hA, abs_line hget, Int.toNat_natCast, Int.toNat_natCast]

end Go.Proofs.YtkncbggnaobgeaaDoor
