/- Walks of functions of the program; printed by a program of this session (walk.py) out of hand-written hints. -/
import Derived.Test.YtkncbggnaobgeaaDoorModc
namespace Go.Proofs.YtkncbggnaobgeaaDoor
open Go.RowKit
set_option linter.unusedVariables false
set_option linter.unusedSimpArgs false
set_option maxRecDepth 100000

/-- Cuts that were handed over. -/
def CutsIn (w : World) (A : Option Addr) (cuts : List (Int × Int)) (bad : List Nat) : Prop := cuts = [] ∨ ∃ b o cs t fr, A = some ⟨b, o, none⟩ ∧ w.heap[b]? = some (.cells cs t fr) ∧ b ∉ bad ∧ ∀ j (h : j < cuts.length), cs[o + j * 2]? = some (.int .i64 (cuts[j]).1) ∧ cs[o + j * 2 + 1]? = some (.int .i64 (cuts[j]).2)
def cutOk (M : PM) (cuts : List (Int × Int)) (j : Nat) : Bool :=
  M.has (cuts.getD j (0, 0)).1 && (decide (j = 0) || decide ((cuts.getD (j - 1) (0, 0)).1 < (cuts.getD j (0, 0)).1)) && decide (0 ≤ (cuts.getD j (0, 0)).2) && decide ((cuts.getD j (0, 0)).2 ≤ (M.line (cuts.getD j (0, 0)).1).ps.length)
def PM.cutsOk (M : PM) (cuts : List (Int × Int)) : Bool := (List.range cuts.length).all (cutOk M cuts)
theorem getD_at {cuts : List (Int × Int)} {g : Nat} (hg : g < cuts.length) : cuts.getD g (0, 0) = cuts[g] := by simp [List.getD, List.getElem?_eq_getElem hg]
theorem cutOk_iff {M : PM} {cuts : List (Int × Int)} {g : Nat} (hg : g < cuts.length) : cutOk M cuts g = true ↔ M.has (cuts[g]).1 = true ∧ (g = 0 ∨ (cuts.getD (g - 1) (0, 0)).1 < (cuts[g]).1) ∧ 0 ≤ (cuts[g]).2 ∧ (cuts[g]).2 ≤ (M.line (cuts[g]).1).ps.length := by
  unfold cutOk
  rw [getD_at hg]
  simp only [Bool.and_eq_true, Bool.or_eq_true, decide_eq_true_eq]
  constructor
  · rintro ⟨⟨⟨h1, h2⟩, h3⟩, h4⟩; exact ⟨h1, h2, h3, h4⟩
  · rintro ⟨h1, h2, h3, h4⟩; exact ⟨⟨⟨h1, h2⟩, h3⟩, h4⟩
theorem cutsOk_bad {M : PM} {cuts : List (Int × Int)} {g : Nat} (hg : g < cuts.length) (h : ¬ cutOk M cuts g = true) : M.cutsOk cuts = false := by
  unfold PM.cutsOk
  rw [List.all_eq_false]
  exact ⟨g, List.mem_range.2 hg, h⟩
def PM.crash (M : PM) (cuts : List (Int × Int)) : PM :=
  if M.cutsOk cuts then { ls := (cuts.foldl cutStep M.ls).map drop0, span := 0, evs := [] } else M
theorem cuts_asc {M : PM} {cuts : List (Int × Int)} (h : ∀ j, j < cuts.length → cutOk M cuts j = true) : ∀ i j, i < j → ∀ hj : j < cuts.length, (cuts.getD i (0, 0)).1 < (cuts[j]).1 := by
  intro i j hij
  induction j with
  | zero => omega
  | succ j ih =>
    intro hj
    have h1 := ((cutOk_iff hj).1 (h _ hj)).2.1
    rcases h1 with h1 | h1
    · omega
    · rw [show j + 1 - 1 = j from rfl] at h1
      rcases Nat.lt_or_ge i j with hl | hg
      · have := ih hl (by omega)
        rw [getD_at (by omega)] at h1
        omega
      · have : i = j := by omega
        subst this; exact h1

theorem crash_any (R : RM) (A0 : Option Addr) (m cap : Nat) (cuts : List (Int × Int)) (hmc : m = cuts.length) (hm63 : m ≤ 9223372036854775807) (hps : ∀ x ∈ R.X, x.1.ps.length ≤ 1073741824) (w : World) (hm : MemIn w R) (hL : L64 w) (hc0 : CutsIn w A0 cuts (R.hp.map Prod.fst)) : Calls Tryd.prog 37 #[.pointer (some ⟨R.p, 0, none⟩), .slice A0 m cap] w fun e w' => ∃ R' : RM, e = .returned (.int .i64 (if R.abs.cutsOk cuts then 0 else 1)) ∧ R'.p = R.p ∧ R'.abs = R.abs.crash cuts ∧ R'.ok ∧ St w (R.hp.map Prod.fst) w' R'.hp := by
  refine calls_walk_n (args := [.pointer (some ⟨R.p, 0, none⟩), .slice A0 m cap]) Tryd.func37 rfl rfl rfl ?_
  have H := hm.start
  have h3lt : 3 < w.heap.size := by obtain ⟨t, fr, h⟩ := hL; exact lt_of_some h
  have hSS : ∀ k ∈ R.hp.map Prod.fst, 3 < k := fun k hk => by obtain ⟨q, hq, rfl⟩ := List.mem_map.1 hk; exact hm.hi q hq
  refine WC.seq ?_
  refine WC.region ?_
  refine WL.assign rfl rfl ?_
  refine (WL.done (WX.next ?_))
  refine WC.seq ?_
  refine WC.seq ?_
  refine WC.region ?_
  refine WL.move rfl rfl ?_
  refine WL.lenSlc isl50 rfl rfl ?_
  refine WL.move rfl rfl ?_
  refine (WL.done (WX.next ?_))
  refine WC.block ?_
  -- loop 1: changed [12] kept [0, 1, 10, 11]
  refine WC.loop (Sub.cons (t := 0) rfl (Sub.cons (t := 1) rfl (Sub.cons (t := 10) rfl (Sub.cons (t := 11) rfl (Sub.nil _))))) (fun i : Nat => [(12, .int .i64 (i : Int))]) (fun q i wx => q = m - i ∧ i ≤ m ∧ ((List.range i).all (cutOk R.abs cuts)) = true ∧ St w (R.hp.map Prod.fst) wx R.hp) (m) (0) (Sub.cons (t := 12) (by first | rfl | simp) (Sub.nil _)) (⟨rfl, by omega, by simp, H⟩) ?_
  rintro k g wx hI N hN
  obtain ⟨rfl, hg, hall, H⟩ := hI
  refine WC.seq ?_
  refine WC.region ?_
  refine WL.bin rfl rfl binv_lss rfl ?_
  refine (WL.done (WX.next ?_))
  refine WC.seq ?_
  first | refine WC.cond_dec rfl (fun c1 => ?_) (fun c1 => ?_) | refine WC.cond rfl (fun c1 => ?_) (fun c1 => ?_)
  · -- c1 T
    refine (WC.skip (WX.next ?_))
    refine WC.seq ?_
    refine WC.block ?_
    refine WC.seq ?_
    refine WC.region ?_
    have hlt : g < cuts.length := by omega
    obtain ⟨b, o, cs, t, fr, rfl, hb, hbn, hcs⟩ : ∃ b o cs t fr, A0 = some ⟨b, o, none⟩ ∧ w.heap[b]? = some (.cells cs t fr) ∧ b ∉ R.hp.map Prod.fst ∧ ∀ j (h : j < cuts.length), cs[o + j * 2]? = some (.int .i64 (cuts[j]).1) ∧ cs[o + j * 2 + 1]? = some (.int .i64 (cuts[j]).2) := by
      rcases hc0 with h | h
      · rw [h] at hlt; simp at hlt
      · exact h
    refine WL.move rfl rfl ?_
    refine WL.idxSlc (k := g) slc50 rfl rfl (by first | rfl | omega) (by omega) rfl ?_
    refine WL.load rfl (Rd.pair ty109 (H.oldBlock hb hbn) (hcs g hlt).1 (hcs g hlt).2) rfl ?_
    refine WL.alloc H zer109 rfl ?_
    intro b6 wx hb6 hge6 H
    refine WL.assign rfl rfl ?_
    first | (refine WL.storeAt H ty109 0 rfl rfl rfl rfl (by simp [Value.cells, Value.oneCell']) (by first | decide | (simp only [wr_size]; decide) | simp [wr_size]) ?_) | (refine WL.storeAt H ty109 1 rfl rfl rfl rfl (by simp [Value.cells, Value.oneCell']) (by first | decide | (simp only [wr_size]; decide) | simp [wr_size]) ?_) | (refine WL.storeAt H ty109 2 rfl rfl rfl rfl (by simp [Value.cells, Value.oneCell']) (by first | decide | (simp only [wr_size]; decide) | simp [wr_size]) ?_) | (refine WL.storeAt H ty109 3 rfl rfl rfl rfl (by simp [Value.cells, Value.oneCell']) (by first | decide | (simp only [wr_size]; decide) | simp [wr_size]) ?_)
    intro wx H
    refine (WL.done (WX.next ?_))
    refine WC.seq ?_
    replace H := H.drew
    refine WC.held (SX (World.drew wx) []) (by kernel_rfl) ?_
    generalize World.drew wx = wb at H ⊢
    have HB := St.refl wb
    refine WH.take 0 rfl (by kernel_rfl) (by kernel_rfl) (by kernel_rfl) (fun _ _ _ h => h) ⟨_, HB⟩ (fun w' hS => EX.move rfl) rfl ?_
    refine WH.take 1 rfl (by kernel_rfl) (by kernel_rfl) (by kernel_rfl) (fun _ _ _ h => h) ⟨_, HB⟩ (fun w' hS => EX.fieldAddr fld109_0 rfl) rfl ?_
    first | refine WH.take 2 rfl (by kernel_rfl) (by kernel_rfl) (by kernel_rfl) (fun _ _ _ h => h) ⟨_, HB⟩ (fun w' hS => EX.load rfl (hS.rd1 ty3 (H.blk 0 rfl) (by simp) rfl)) rfl ?_ | refine WH.take 2 rfl (by kernel_rfl) (by kernel_rfl) (by kernel_rfl) (fun _ _ _ h => h) ⟨_, HB⟩ (fun w' hS => EX.load rfl (hS.rdA ty3 (H.blk 0 rfl) (by simp) (by decide))) rfl ?_ | refine WH.take 2 rfl (by kernel_rfl) (by kernel_rfl) (by kernel_rfl) (fun _ _ _ h => h) ⟨_, HB⟩ (fun w' hS => EX.load rfl (hS.rd1 ty3 (H.blk 1 rfl) (by simp) rfl)) rfl ?_ | refine WH.take 2 rfl (by kernel_rfl) (by kernel_rfl) (by kernel_rfl) (fun _ _ _ h => h) ⟨_, HB⟩ (fun w' hS => EX.load rfl (hS.rdA ty3 (H.blk 1 rfl) (by simp) (by decide))) rfl ?_ | refine WH.take 2 rfl (by kernel_rfl) (by kernel_rfl) (by kernel_rfl) (fun _ _ _ h => h) ⟨_, HB⟩ (fun w' hS => EX.load rfl (hS.rd1 ty3 (H.blk 2 rfl) (by simp) rfl)) rfl ?_ | refine WH.take 2 rfl (by kernel_rfl) (by kernel_rfl) (by kernel_rfl) (fun _ _ _ h => h) ⟨_, HB⟩ (fun w' hS => EX.load rfl (hS.rdA ty3 (H.blk 2 rfl) (by simp) (by decide))) rfl ?_ | refine WH.take 2 rfl (by kernel_rfl) (by kernel_rfl) (by kernel_rfl) (fun _ _ _ h => h) ⟨_, HB⟩ (fun w' hS => EX.load rfl (hS.rd1 ty3 (H.blk 3 rfl) (by simp) rfl)) rfl ?_ | refine WH.take 2 rfl (by kernel_rfl) (by kernel_rfl) (by kernel_rfl) (fun _ _ _ h => h) ⟨_, HB⟩ (fun w' hS => EX.load rfl (hS.rdA ty3 (H.blk 3 rfl) (by simp) (by decide))) rfl ?_
    refine WH.hard 3 rfl (by kernel_rfl) ?_
    refine WL.call call101 rfl rfl ?_
    refine Calls.mono (has_any R _ _ (hm.keep (L := [_]) (H.call0 HB))) ?_
    rintro _ wx ⟨rfl, rfl⟩
    refine ⟨_, rfl, ?_⟩
    refine WL.done (WX.heldOn ⟨_, HB⟩ ?_)
    refine WH.take 4 rfl (by kernel_rfl) (by kernel_rfl) (by kernel_rfl) (fun _ _ _ h => h) ⟨_, HB⟩ (fun w' hS => EX.notOp rfl) rfl ?_
    refine WH.take 5 rfl (by kernel_rfl) (by kernel_rfl) (by kernel_rfl) (fun _ _ _ h => h) ⟨_, HB⟩ (fun w' hS => EX.move rfl) rfl ?_
    first | refine WH.splitD (t := 22) rfl (fun g1 => ?_) (fun g1 => ?_) | refine WH.split (t := 22) rfl (fun g1 => ?_) (fun g1 => ?_)
    · -- g1 True
      refine WH.takeNo 6 rfl (by kernel_rfl) (by kernel_rfl) (by kernel_rfl) (fun _ _ _ h => h) ⟨_, HB⟩ rfl rfl rfl ?_
      refine WH.takeNo 7 rfl (by kernel_rfl) (by kernel_rfl) (by kernel_rfl) (fun _ _ _ h => h) ⟨_, HB⟩ rfl rfl rfl ?_
      refine WH.takeNo 8 rfl (by kernel_rfl) (by kernel_rfl) (by kernel_rfl) (fun _ _ _ h => h) ⟨_, HB⟩ rfl rfl rfl ?_
      refine WH.takeNoU 9 rfl (by kernel_rfl) (by kernel_rfl) (by kernel_rfl) (fun _ _ _ h => h) ⟨_, HB⟩ rfl rfl rfl rfl ?_
      refine WH.takeNoU 10 rfl (by kernel_rfl) (by kernel_rfl) (by kernel_rfl) (fun _ _ _ h => h) ⟨_, HB⟩ rfl rfl rfl rfl ?_
      refine WH.takeNoU 11 rfl (by kernel_rfl) (by kernel_rfl) (by kernel_rfl) (fun _ _ _ h => h) ⟨_, HB⟩ rfl rfl rfl rfl ?_
      refine WH.takeNoU 12 rfl (by kernel_rfl) (by kernel_rfl) (by kernel_rfl) (fun _ _ _ h => h) ⟨_, HB⟩ rfl rfl rfl rfl ?_
      refine WH.takeNoU 13 rfl (by kernel_rfl) (by kernel_rfl) (by kernel_rfl) (fun _ _ _ h => h) ⟨_, HB⟩ rfl rfl rfl rfl ?_
      refine WH.takeNoU 14 rfl (by kernel_rfl) (by kernel_rfl) (by kernel_rfl) (fun _ _ _ h => h) ⟨_, HB⟩ rfl rfl rfl rfl ?_
      refine WH.takeNoU 15 rfl (by kernel_rfl) (by kernel_rfl) (by kernel_rfl) (fun _ _ _ h => h) ⟨_, HB⟩ rfl rfl rfl rfl ?_
      have hprev := (hcs (g - 1) (by omega)).1
      refine WH.takeNoU 16 rfl (by kernel_rfl) (by kernel_rfl) (by kernel_rfl) (fun _ _ _ h => h) ⟨_, HB⟩ rfl rfl rfl rfl ?_
      refine WH.takeNoU 17 rfl (by kernel_rfl) (by kernel_rfl) (by kernel_rfl) (fun _ _ _ h => h) ⟨_, HB⟩ rfl rfl rfl rfl ?_
      refine WH.takeNo 18 rfl (by kernel_rfl) (by kernel_rfl) (by kernel_rfl) (fun _ _ _ h => h) ⟨_, HB⟩ rfl rfl rfl ?_
      refine WH.take 19 rfl (by kernel_rfl) (by kernel_rfl) (by kernel_rfl) (fun _ _ _ h => h) ⟨_, HB⟩ (fun w' hS => EX.pickT rfl rfl) rfl ?_
      refine WH.take 20 rfl (by kernel_rfl) (by kernel_rfl) (by kernel_rfl) (fun _ _ _ h => h) ⟨_, HB⟩ (fun w' hS => EX.move rfl) rfl ?_
      refine WH.takeNo 21 rfl (by kernel_rfl) (by kernel_rfl) (by kernel_rfl) (fun _ _ _ h => h) ⟨_, HB⟩ rfl rfl rfl ?_
      refine WH.takeNo 22 rfl (by kernel_rfl) (by kernel_rfl) (by kernel_rfl) (fun _ _ _ h => h) ⟨_, HB⟩ rfl rfl rfl ?_
      refine WH.takeNo 23 rfl (by kernel_rfl) (by kernel_rfl) (by kernel_rfl) (fun _ _ _ h => h) ⟨_, HB⟩ rfl rfl rfl ?_
      refine WH.take 24 rfl (by kernel_rfl) (by kernel_rfl) (by kernel_rfl) (fun _ _ _ h => h) ⟨_, HB⟩ (fun w' hS => EX.pickT rfl rfl) rfl ?_
      refine WH.take 25 rfl (by kernel_rfl) (by kernel_rfl) (by kernel_rfl) (fun _ _ _ h => h) ⟨_, HB⟩ (fun w' hS => EX.move rfl) rfl ?_
      refine WH.takeNo 26 rfl (by kernel_rfl) (by kernel_rfl) (by kernel_rfl) (fun _ _ _ h => h) ⟨_, HB⟩ rfl rfl rfl ?_
      refine WH.takeNo 27 rfl (by kernel_rfl) (by kernel_rfl) (by kernel_rfl) (fun _ _ _ h => h) ⟨_, HB⟩ rfl rfl rfl ?_
      refine WH.takeNo 28 rfl (by kernel_rfl) (by kernel_rfl) (by kernel_rfl) (fun _ _ _ h => h) ⟨_, HB⟩ rfl rfl rfl ?_
      refine WH.takeNo 29 rfl (by kernel_rfl) (by kernel_rfl) (by kernel_rfl) (fun _ _ _ h => h) ⟨_, HB⟩ rfl rfl rfl ?_
      refine WH.takeNo 30 rfl (by kernel_rfl) (by kernel_rfl) (by kernel_rfl) (fun _ _ _ h => h) ⟨_, HB⟩ rfl rfl rfl ?_
      refine WH.takeNo 31 rfl (by kernel_rfl) (by kernel_rfl) (by kernel_rfl) (fun _ _ _ h => h) ⟨_, HB⟩ rfl rfl rfl ?_
      refine WH.takeNo 32 rfl (by kernel_rfl) (by kernel_rfl) (by kernel_rfl) (fun _ _ _ h => h) ⟨_, HB⟩ rfl rfl rfl ?_
      refine WH.takeNo 33 rfl (by kernel_rfl) (by kernel_rfl) (by kernel_rfl) (fun _ _ _ h => h) ⟨_, HB⟩ rfl rfl rfl ?_
      refine WH.takeNo 34 rfl (by kernel_rfl) (by kernel_rfl) (by kernel_rfl) (fun _ _ _ h => h) ⟨_, HB⟩ rfl rfl rfl ?_
      refine WH.takeNo 35 rfl (by kernel_rfl) (by kernel_rfl) (by kernel_rfl) (fun _ _ _ h => h) ⟨_, HB⟩ rfl rfl rfl ?_
      refine WH.takeNo 36 rfl (by kernel_rfl) (by kernel_rfl) (by kernel_rfl) (fun _ _ _ h => h) ⟨_, HB⟩ rfl rfl rfl ?_
      refine WH.takeNo 37 rfl (by kernel_rfl) (by kernel_rfl) (by kernel_rfl) (fun _ _ _ h => h) ⟨_, HB⟩ rfl rfl rfl ?_
      refine WH.takeNo 38 rfl (by kernel_rfl) (by kernel_rfl) (by kernel_rfl) (fun _ _ _ h => h) ⟨_, HB⟩ rfl rfl rfl ?_
      refine WH.take 39 rfl (by kernel_rfl) (by kernel_rfl) (by kernel_rfl) (fun _ _ _ h => h) ⟨_, HB⟩ (fun w' hS => EX.pickT rfl rfl) rfl ?_
      refine WH.done (by kernel_rfl) ?_
      replace H := H.call HB
      refine WX.next ?_
      refine WC.cond_true rfl (rfl) ?_
      refine WC.seq ?_
      refine WC.region ?_
      refine WL.assign rfl rfl ?_
      refine (WL.done (WX.next ?_))
      refine (WC.ret (WX.block_ret (WX.then_ret (WX.then_ret (WX.block_ret (WX.then_ret ?_))))))
      refine ret_one rfl rfl ?_
      have e1 : R.abs.cutsOk cuts = false := cutsOk_bad hlt (fun h => by have h2 := (cutOk_iff hlt).1 h; rw [abs_has] at h2; rw [h2.1] at g1; cases g1)
      rw [e1]
      exact ⟨R, rfl, rfl, by unfold PM.crash; rw [e1]; rfl, hm.ok, H.tail⟩
    · -- g1 False
      refine WH.takeYes 6 rfl (by kernel_rfl) (by kernel_rfl) (by kernel_rfl) (fun _ _ _ h => h) ⟨_, HB⟩ rfl rfl (fun w' hS => EX.move rfl) rfl ?_
      refine WH.takeYes 7 rfl (by kernel_rfl) (by kernel_rfl) (by kernel_rfl) (fun _ _ _ h => h) ⟨_, HB⟩ rfl rfl (fun w' hS => EX.bin rfl rfl (binv_gtr)) rfl ?_
      refine WH.takeYes 8 rfl (by kernel_rfl) (by kernel_rfl) (by kernel_rfl) (fun _ _ _ h => h) ⟨_, HB⟩ rfl rfl (fun w' hS => EX.move rfl) rfl ?_
      first | refine WH.splitD (t := 25) rfl (fun g2 => ?_) (fun g2 => ?_) | refine WH.split (t := 25) rfl (fun g2 => ?_) (fun g2 => ?_)
      · -- g2 True
        refine WH.takeYes 9 rfl (by kernel_rfl) (by kernel_rfl) (by kernel_rfl) (fun _ _ _ h => h) ⟨_, HB⟩ rfl rfl (fun w' hS => EX.fieldAddr fld109_0 rfl) rfl ?_
        first | refine WH.takeYes 10 rfl (by kernel_rfl) (by kernel_rfl) (by kernel_rfl) (fun _ _ _ h => h) ⟨_, HB⟩ rfl rfl (fun w' hS => EX.load rfl (hS.rd1 ty3 (H.blk 0 rfl) (by simp) rfl)) rfl ?_ | refine WH.takeYes 10 rfl (by kernel_rfl) (by kernel_rfl) (by kernel_rfl) (fun _ _ _ h => h) ⟨_, HB⟩ rfl rfl (fun w' hS => EX.load rfl (hS.rdA ty3 (H.blk 0 rfl) (by simp) (by decide))) rfl ?_ | refine WH.takeYes 10 rfl (by kernel_rfl) (by kernel_rfl) (by kernel_rfl) (fun _ _ _ h => h) ⟨_, HB⟩ rfl rfl (fun w' hS => EX.load rfl (hS.rd1 ty3 (H.blk 1 rfl) (by simp) rfl)) rfl ?_ | refine WH.takeYes 10 rfl (by kernel_rfl) (by kernel_rfl) (by kernel_rfl) (fun _ _ _ h => h) ⟨_, HB⟩ rfl rfl (fun w' hS => EX.load rfl (hS.rdA ty3 (H.blk 1 rfl) (by simp) (by decide))) rfl ?_ | refine WH.takeYes 10 rfl (by kernel_rfl) (by kernel_rfl) (by kernel_rfl) (fun _ _ _ h => h) ⟨_, HB⟩ rfl rfl (fun w' hS => EX.load rfl (hS.rd1 ty3 (H.blk 2 rfl) (by simp) rfl)) rfl ?_ | refine WH.takeYes 10 rfl (by kernel_rfl) (by kernel_rfl) (by kernel_rfl) (fun _ _ _ h => h) ⟨_, HB⟩ rfl rfl (fun w' hS => EX.load rfl (hS.rdA ty3 (H.blk 2 rfl) (by simp) (by decide))) rfl ?_ | refine WH.takeYes 10 rfl (by kernel_rfl) (by kernel_rfl) (by kernel_rfl) (fun _ _ _ h => h) ⟨_, HB⟩ rfl rfl (fun w' hS => EX.load rfl (hS.rd1 ty3 (H.blk 3 rfl) (by simp) rfl)) rfl ?_ | refine WH.takeYes 10 rfl (by kernel_rfl) (by kernel_rfl) (by kernel_rfl) (fun _ _ _ h => h) ⟨_, HB⟩ rfl rfl (fun w' hS => EX.load rfl (hS.rdA ty3 (H.blk 3 rfl) (by simp) (by decide))) rfl ?_
        refine WH.takeYes 11 rfl (by kernel_rfl) (by kernel_rfl) (by kernel_rfl) (fun _ _ _ h => h) ⟨_, HB⟩ rfl rfl (fun w' hS => EX.move rfl) rfl ?_
        refine WH.takeYes 12 rfl (by kernel_rfl) (by kernel_rfl) (by kernel_rfl) (fun _ _ _ h => h) ⟨_, HB⟩ rfl rfl (fun w' hS => EX.move rfl) rfl ?_
        refine WH.takeYes 13 rfl (by kernel_rfl) (by kernel_rfl) (by kernel_rfl) (fun _ _ _ h => h) ⟨_, HB⟩ rfl rfl (fun w' hS => EX.bin rfl rfl (isub (by omega) (by omega))) rfl ?_
        refine WH.takeYes 14 rfl (by kernel_rfl) (by kernel_rfl) (by kernel_rfl) (fun _ _ _ h => h) ⟨_, HB⟩ rfl rfl (fun w' hS => EX.idxSlc (k := g - 1) slc50 rfl rfl (by first | rfl | omega) (by omega)) rfl ?_
        refine WH.takeYes 15 rfl (by kernel_rfl) (by kernel_rfl) (by kernel_rfl) (fun _ _ _ h => h) ⟨_, HB⟩ rfl rfl (fun w' hS => EX.fieldAddr fld109_0 rfl) rfl ?_
        have hprev := (hcs (g - 1) (by omega)).1
        first | refine WH.takeYes 16 rfl (by kernel_rfl) (by kernel_rfl) (by kernel_rfl) (fun _ _ _ h => h) ⟨_, HB⟩ rfl rfl (fun w' hS => EX.load rfl (Rd.one ty3 (by rw [cell_of (hS.block (H.oldBlock hb hbn) (by simp)), Nat.add_zero]; exact hprev))) rfl ?_
        refine WH.takeYes 17 rfl (by kernel_rfl) (by kernel_rfl) (by kernel_rfl) (fun _ _ _ h => h) ⟨_, HB⟩ rfl rfl (fun w' hS => EX.bin rfl rfl (binv_leq)) rfl ?_
        refine WH.takeYes 18 rfl (by kernel_rfl) (by kernel_rfl) (by kernel_rfl) (fun _ _ _ h => h) ⟨_, HB⟩ rfl rfl (fun w' hS => EX.pickT rfl rfl) rfl ?_
        refine WH.take 19 rfl (by kernel_rfl) (by kernel_rfl) (by kernel_rfl) (fun _ _ _ h => h) ⟨_, HB⟩ (fun w' hS => EX.pickF rfl rfl) rfl ?_
        refine WH.take 20 rfl (by kernel_rfl) (by kernel_rfl) (by kernel_rfl) (fun _ _ _ h => h) ⟨_, HB⟩ (fun w' hS => EX.move rfl) rfl ?_
        first | refine WH.splitD (t := 37) rfl (fun g3 => ?_) (fun g3 => ?_) | refine WH.split (t := 37) rfl (fun g3 => ?_) (fun g3 => ?_)
        · -- g3 True
          refine WH.takeNo 21 rfl (by kernel_rfl) (by kernel_rfl) (by kernel_rfl) (fun _ _ _ h => h) ⟨_, HB⟩ rfl rfl rfl ?_
          refine WH.takeNo 22 rfl (by kernel_rfl) (by kernel_rfl) (by kernel_rfl) (fun _ _ _ h => h) ⟨_, HB⟩ rfl rfl rfl ?_
          refine WH.takeNo 23 rfl (by kernel_rfl) (by kernel_rfl) (by kernel_rfl) (fun _ _ _ h => h) ⟨_, HB⟩ rfl rfl rfl ?_
          refine WH.take 24 rfl (by kernel_rfl) (by kernel_rfl) (by kernel_rfl) (fun _ _ _ h => h) ⟨_, HB⟩ (fun w' hS => EX.pickT rfl rfl) rfl ?_
          refine WH.take 25 rfl (by kernel_rfl) (by kernel_rfl) (by kernel_rfl) (fun _ _ _ h => h) ⟨_, HB⟩ (fun w' hS => EX.move rfl) rfl ?_
          refine WH.takeNo 26 rfl (by kernel_rfl) (by kernel_rfl) (by kernel_rfl) (fun _ _ _ h => h) ⟨_, HB⟩ rfl rfl rfl ?_
          refine WH.takeNo 27 rfl (by kernel_rfl) (by kernel_rfl) (by kernel_rfl) (fun _ _ _ h => h) ⟨_, HB⟩ rfl rfl rfl ?_
          refine WH.takeNo 28 rfl (by kernel_rfl) (by kernel_rfl) (by kernel_rfl) (fun _ _ _ h => h) ⟨_, HB⟩ rfl rfl rfl ?_
          refine WH.takeNo 29 rfl (by kernel_rfl) (by kernel_rfl) (by kernel_rfl) (fun _ _ _ h => h) ⟨_, HB⟩ rfl rfl rfl ?_
          refine WH.takeNo 30 rfl (by kernel_rfl) (by kernel_rfl) (by kernel_rfl) (fun _ _ _ h => h) ⟨_, HB⟩ rfl rfl rfl ?_
          refine WH.takeNo 31 rfl (by kernel_rfl) (by kernel_rfl) (by kernel_rfl) (fun _ _ _ h => h) ⟨_, HB⟩ rfl rfl rfl ?_
          refine WH.takeNo 32 rfl (by kernel_rfl) (by kernel_rfl) (by kernel_rfl) (fun _ _ _ h => h) ⟨_, HB⟩ rfl rfl rfl ?_
          refine WH.takeNo 33 rfl (by kernel_rfl) (by kernel_rfl) (by kernel_rfl) (fun _ _ _ h => h) ⟨_, HB⟩ rfl rfl rfl ?_
          refine WH.takeNo 34 rfl (by kernel_rfl) (by kernel_rfl) (by kernel_rfl) (fun _ _ _ h => h) ⟨_, HB⟩ rfl rfl rfl ?_
          refine WH.takeNo 35 rfl (by kernel_rfl) (by kernel_rfl) (by kernel_rfl) (fun _ _ _ h => h) ⟨_, HB⟩ rfl rfl rfl ?_
          refine WH.takeNo 36 rfl (by kernel_rfl) (by kernel_rfl) (by kernel_rfl) (fun _ _ _ h => h) ⟨_, HB⟩ rfl rfl rfl ?_
          refine WH.takeNo 37 rfl (by kernel_rfl) (by kernel_rfl) (by kernel_rfl) (fun _ _ _ h => h) ⟨_, HB⟩ rfl rfl rfl ?_
          refine WH.takeNo 38 rfl (by kernel_rfl) (by kernel_rfl) (by kernel_rfl) (fun _ _ _ h => h) ⟨_, HB⟩ rfl rfl rfl ?_
          refine WH.take 39 rfl (by kernel_rfl) (by kernel_rfl) (by kernel_rfl) (fun _ _ _ h => h) ⟨_, HB⟩ (fun w' hS => EX.pickT rfl rfl) rfl ?_
          refine WH.done (by kernel_rfl) ?_
          replace H := H.call HB
          refine WX.next ?_
          refine WC.cond_true rfl (rfl) ?_
          refine WC.seq ?_
          refine WC.region ?_
          refine WL.assign rfl rfl ?_
          refine (WL.done (WX.next ?_))
          refine (WC.ret (WX.block_ret (WX.then_ret (WX.then_ret (WX.block_ret (WX.then_ret ?_))))))
          refine ret_one rfl rfl ?_
          have e1 : R.abs.cutsOk cuts = false := cutsOk_bad hlt (fun h => by have h2 := (cutOk_iff hlt).1 h; rw [getD_at (by omega)] at h2; omega)
          rw [e1]
          exact ⟨R, rfl, rfl, by unfold PM.crash; rw [e1]; rfl, hm.ok, H.tail⟩
        · -- g3 False
          refine WH.takeYes 21 rfl (by kernel_rfl) (by kernel_rfl) (by kernel_rfl) (fun _ _ _ h => h) ⟨_, HB⟩ rfl rfl (fun w' hS => EX.fieldAddr fld109_1 rfl) rfl ?_
          first | refine WH.takeYes 22 rfl (by kernel_rfl) (by kernel_rfl) (by kernel_rfl) (fun _ _ _ h => h) ⟨_, HB⟩ rfl rfl (fun w' hS => EX.load rfl (hS.rd1 ty3 (H.blk 0 rfl) (by simp) rfl)) rfl ?_ | refine WH.takeYes 22 rfl (by kernel_rfl) (by kernel_rfl) (by kernel_rfl) (fun _ _ _ h => h) ⟨_, HB⟩ rfl rfl (fun w' hS => EX.load rfl (hS.rdA ty3 (H.blk 0 rfl) (by simp) (by decide))) rfl ?_ | refine WH.takeYes 22 rfl (by kernel_rfl) (by kernel_rfl) (by kernel_rfl) (fun _ _ _ h => h) ⟨_, HB⟩ rfl rfl (fun w' hS => EX.load rfl (hS.rd1 ty3 (H.blk 1 rfl) (by simp) rfl)) rfl ?_ | refine WH.takeYes 22 rfl (by kernel_rfl) (by kernel_rfl) (by kernel_rfl) (fun _ _ _ h => h) ⟨_, HB⟩ rfl rfl (fun w' hS => EX.load rfl (hS.rdA ty3 (H.blk 1 rfl) (by simp) (by decide))) rfl ?_ | refine WH.takeYes 22 rfl (by kernel_rfl) (by kernel_rfl) (by kernel_rfl) (fun _ _ _ h => h) ⟨_, HB⟩ rfl rfl (fun w' hS => EX.load rfl (hS.rd1 ty3 (H.blk 2 rfl) (by simp) rfl)) rfl ?_ | refine WH.takeYes 22 rfl (by kernel_rfl) (by kernel_rfl) (by kernel_rfl) (fun _ _ _ h => h) ⟨_, HB⟩ rfl rfl (fun w' hS => EX.load rfl (hS.rdA ty3 (H.blk 2 rfl) (by simp) (by decide))) rfl ?_ | refine WH.takeYes 22 rfl (by kernel_rfl) (by kernel_rfl) (by kernel_rfl) (fun _ _ _ h => h) ⟨_, HB⟩ rfl rfl (fun w' hS => EX.load rfl (hS.rd1 ty3 (H.blk 3 rfl) (by simp) rfl)) rfl ?_ | refine WH.takeYes 22 rfl (by kernel_rfl) (by kernel_rfl) (by kernel_rfl) (fun _ _ _ h => h) ⟨_, HB⟩ rfl rfl (fun w' hS => EX.load rfl (hS.rdA ty3 (H.blk 3 rfl) (by simp) (by decide))) rfl ?_
          refine WH.takeYes 23 rfl (by kernel_rfl) (by kernel_rfl) (by kernel_rfl) (fun _ _ _ h => h) ⟨_, HB⟩ rfl rfl (fun w' hS => EX.bin rfl rfl (binv_lss)) rfl ?_
          refine WH.take 24 rfl (by kernel_rfl) (by kernel_rfl) (by kernel_rfl) (fun _ _ _ h => h) ⟨_, HB⟩ (fun w' hS => EX.pickF rfl rfl) rfl ?_
          refine WH.take 25 rfl (by kernel_rfl) (by kernel_rfl) (by kernel_rfl) (fun _ _ _ h => h) ⟨_, HB⟩ (fun w' hS => EX.move rfl) rfl ?_
          first | refine WH.splitD (t := 42) rfl (fun g4 => ?_) (fun g4 => ?_) | refine WH.split (t := 42) rfl (fun g4 => ?_) (fun g4 => ?_)
          · -- g4 True
            refine WH.takeNo 26 rfl (by kernel_rfl) (by kernel_rfl) (by kernel_rfl) (fun _ _ _ h => h) ⟨_, HB⟩ rfl rfl rfl ?_
            refine WH.takeNo 27 rfl (by kernel_rfl) (by kernel_rfl) (by kernel_rfl) (fun _ _ _ h => h) ⟨_, HB⟩ rfl rfl rfl ?_
            refine WH.takeNo 28 rfl (by kernel_rfl) (by kernel_rfl) (by kernel_rfl) (fun _ _ _ h => h) ⟨_, HB⟩ rfl rfl rfl ?_
            refine WH.takeNo 29 rfl (by kernel_rfl) (by kernel_rfl) (by kernel_rfl) (fun _ _ _ h => h) ⟨_, HB⟩ rfl rfl rfl ?_
            refine WH.takeNo 30 rfl (by kernel_rfl) (by kernel_rfl) (by kernel_rfl) (fun _ _ _ h => h) ⟨_, HB⟩ rfl rfl rfl ?_
            refine WH.takeNo 31 rfl (by kernel_rfl) (by kernel_rfl) (by kernel_rfl) (fun _ _ _ h => h) ⟨_, HB⟩ rfl rfl rfl ?_
            refine WH.takeNo 32 rfl (by kernel_rfl) (by kernel_rfl) (by kernel_rfl) (fun _ _ _ h => h) ⟨_, HB⟩ rfl rfl rfl ?_
            refine WH.takeNo 33 rfl (by kernel_rfl) (by kernel_rfl) (by kernel_rfl) (fun _ _ _ h => h) ⟨_, HB⟩ rfl rfl rfl ?_
            refine WH.takeNo 34 rfl (by kernel_rfl) (by kernel_rfl) (by kernel_rfl) (fun _ _ _ h => h) ⟨_, HB⟩ rfl rfl rfl ?_
            refine WH.takeNo 35 rfl (by kernel_rfl) (by kernel_rfl) (by kernel_rfl) (fun _ _ _ h => h) ⟨_, HB⟩ rfl rfl rfl ?_
            refine WH.takeNo 36 rfl (by kernel_rfl) (by kernel_rfl) (by kernel_rfl) (fun _ _ _ h => h) ⟨_, HB⟩ rfl rfl rfl ?_
            refine WH.takeNo 37 rfl (by kernel_rfl) (by kernel_rfl) (by kernel_rfl) (fun _ _ _ h => h) ⟨_, HB⟩ rfl rfl rfl ?_
            refine WH.takeNo 38 rfl (by kernel_rfl) (by kernel_rfl) (by kernel_rfl) (fun _ _ _ h => h) ⟨_, HB⟩ rfl rfl rfl ?_
            refine WH.take 39 rfl (by kernel_rfl) (by kernel_rfl) (by kernel_rfl) (fun _ _ _ h => h) ⟨_, HB⟩ (fun w' hS => EX.pickT rfl rfl) rfl ?_
            refine WH.done (by kernel_rfl) ?_
            replace H := H.call HB
            refine WX.next ?_
            refine WC.cond_true rfl (rfl) ?_
            refine WC.seq ?_
            refine WC.region ?_
            refine WL.assign rfl rfl ?_
            refine (WL.done (WX.next ?_))
            refine (WC.ret (WX.block_ret (WX.then_ret (WX.then_ret (WX.block_ret (WX.then_ret ?_))))))
            refine ret_one rfl rfl ?_
            have e1 : R.abs.cutsOk cuts = false := cutsOk_bad hlt (fun h => by have h2 := (cutOk_iff hlt).1 h; omega)
            rw [e1]
            exact ⟨R, rfl, rfl, by unfold PM.crash; rw [e1]; rfl, hm.ok, H.tail⟩
          · -- g4 False
            have hh : pHas R (cuts[g]).1 = true := by simpa only [Bool.not_eq_false'] using g1
            obtain ⟨hn0, hn1⟩ := pHas_iff.1 hh
            obtain ⟨kk, hkk⟩ : ∃ k : Nat, (cuts[g]).1 = (k : Int) := ⟨(cuts[g]).1.toNat, by omega⟩
            obtain ⟨A, l, r, B, hX, hA, hal, hok, hr, hget⟩ := hm.ok.at (k := kk) (by omega)
            refine WH.takeYes 26 rfl (by kernel_rfl) (by kernel_rfl) (by kernel_rfl) (fun _ _ _ h => h) ⟨_, HB⟩ rfl rfl (fun w' hS => EX.fieldAddr fld109_1 rfl) rfl ?_
            first | refine WH.takeYes 27 rfl (by kernel_rfl) (by kernel_rfl) (by kernel_rfl) (fun _ _ _ h => h) ⟨_, HB⟩ rfl rfl (fun w' hS => EX.load rfl (hS.rd1 ty3 (H.blk 0 rfl) (by simp) rfl)) rfl ?_ | refine WH.takeYes 27 rfl (by kernel_rfl) (by kernel_rfl) (by kernel_rfl) (fun _ _ _ h => h) ⟨_, HB⟩ rfl rfl (fun w' hS => EX.load rfl (hS.rdA ty3 (H.blk 0 rfl) (by simp) (by decide))) rfl ?_ | refine WH.takeYes 27 rfl (by kernel_rfl) (by kernel_rfl) (by kernel_rfl) (fun _ _ _ h => h) ⟨_, HB⟩ rfl rfl (fun w' hS => EX.load rfl (hS.rd1 ty3 (H.blk 1 rfl) (by simp) rfl)) rfl ?_ | refine WH.takeYes 27 rfl (by kernel_rfl) (by kernel_rfl) (by kernel_rfl) (fun _ _ _ h => h) ⟨_, HB⟩ rfl rfl (fun w' hS => EX.load rfl (hS.rdA ty3 (H.blk 1 rfl) (by simp) (by decide))) rfl ?_ | refine WH.takeYes 27 rfl (by kernel_rfl) (by kernel_rfl) (by kernel_rfl) (fun _ _ _ h => h) ⟨_, HB⟩ rfl rfl (fun w' hS => EX.load rfl (hS.rd1 ty3 (H.blk 2 rfl) (by simp) rfl)) rfl ?_ | refine WH.takeYes 27 rfl (by kernel_rfl) (by kernel_rfl) (by kernel_rfl) (fun _ _ _ h => h) ⟨_, HB⟩ rfl rfl (fun w' hS => EX.load rfl (hS.rdA ty3 (H.blk 2 rfl) (by simp) (by decide))) rfl ?_ | refine WH.takeYes 27 rfl (by kernel_rfl) (by kernel_rfl) (by kernel_rfl) (fun _ _ _ h => h) ⟨_, HB⟩ rfl rfl (fun w' hS => EX.load rfl (hS.rd1 ty3 (H.blk 3 rfl) (by simp) rfl)) rfl ?_ | refine WH.takeYes 27 rfl (by kernel_rfl) (by kernel_rfl) (by kernel_rfl) (fun _ _ _ h => h) ⟨_, HB⟩ rfl rfl (fun w' hS => EX.load rfl (hS.rdA ty3 (H.blk 3 rfl) (by simp) (by decide))) rfl ?_
            refine WH.takeYes 28 rfl (by kernel_rfl) (by kernel_rfl) (by kernel_rfl) (fun _ _ _ h => h) ⟨_, HB⟩ rfl rfl (fun w' hS => EX.move rfl) rfl ?_
            refine WH.takeYes 29 rfl (by kernel_rfl) (by kernel_rfl) (by kernel_rfl) (fun _ _ _ h => h) ⟨_, HB⟩ rfl rfl (fun w' hS => EX.nilCheck rfl) rfl ?_
            refine WH.takeYes 30 rfl (by kernel_rfl) (by kernel_rfl) (by kernel_rfl) (fun _ _ _ h => h) ⟨_, HB⟩ rfl rfl (fun w' hS => EX.fieldAddr fld161_0 rfl) rfl ?_
            first | refine WH.takeYes 31 rfl (by kernel_rfl) (by kernel_rfl) (by kernel_rfl) (fun _ _ _ h => h) ⟨_, HB⟩ rfl rfl (fun w' hS => EX.load rfl (hS.rd1 ty156 (H.blk 0 rfl) (by simp) rfl)) rfl ?_ | refine WH.takeYes 31 rfl (by kernel_rfl) (by kernel_rfl) (by kernel_rfl) (fun _ _ _ h => h) ⟨_, HB⟩ rfl rfl (fun w' hS => EX.load rfl (hS.rdA ty156 (H.blk 0 rfl) (by simp) (by decide))) rfl ?_ | refine WH.takeYes 31 rfl (by kernel_rfl) (by kernel_rfl) (by kernel_rfl) (fun _ _ _ h => h) ⟨_, HB⟩ rfl rfl (fun w' hS => EX.load rfl (hS.rd1 ty156 (H.blk 1 rfl) (by simp) rfl)) rfl ?_ | refine WH.takeYes 31 rfl (by kernel_rfl) (by kernel_rfl) (by kernel_rfl) (fun _ _ _ h => h) ⟨_, HB⟩ rfl rfl (fun w' hS => EX.load rfl (hS.rdA ty156 (H.blk 1 rfl) (by simp) (by decide))) rfl ?_ | refine WH.takeYes 31 rfl (by kernel_rfl) (by kernel_rfl) (by kernel_rfl) (fun _ _ _ h => h) ⟨_, HB⟩ rfl rfl (fun w' hS => EX.load rfl (hS.rd1 ty156 (H.blk 2 rfl) (by simp) rfl)) rfl ?_ | refine WH.takeYes 31 rfl (by kernel_rfl) (by kernel_rfl) (by kernel_rfl) (fun _ _ _ h => h) ⟨_, HB⟩ rfl rfl (fun w' hS => EX.load rfl (hS.rdA ty156 (H.blk 2 rfl) (by simp) (by decide))) rfl ?_ | refine WH.takeYes 31 rfl (by kernel_rfl) (by kernel_rfl) (by kernel_rfl) (fun _ _ _ h => h) ⟨_, HB⟩ rfl rfl (fun w' hS => EX.load rfl (hS.rd1 ty156 (H.blk 3 rfl) (by simp) rfl)) rfl ?_ | refine WH.takeYes 31 rfl (by kernel_rfl) (by kernel_rfl) (by kernel_rfl) (fun _ _ _ h => h) ⟨_, HB⟩ rfl rfl (fun w' hS => EX.load rfl (hS.rdA ty156 (H.blk 3 rfl) (by simp) (by decide))) rfl ?_
            refine WH.takeYes 32 rfl (by kernel_rfl) (by kernel_rfl) (by kernel_rfl) (fun _ _ _ h => h) ⟨_, HB⟩ rfl rfl (fun w' hS => EX.fieldAddr fld109_0 rfl) rfl ?_
            first | refine WH.takeYes 33 rfl (by kernel_rfl) (by kernel_rfl) (by kernel_rfl) (fun _ _ _ h => h) ⟨_, HB⟩ rfl rfl (fun w' hS => EX.load rfl (hS.rd1 ty3 (H.blk 0 rfl) (by simp) rfl)) rfl ?_ | refine WH.takeYes 33 rfl (by kernel_rfl) (by kernel_rfl) (by kernel_rfl) (fun _ _ _ h => h) ⟨_, HB⟩ rfl rfl (fun w' hS => EX.load rfl (hS.rdA ty3 (H.blk 0 rfl) (by simp) (by decide))) rfl ?_ | refine WH.takeYes 33 rfl (by kernel_rfl) (by kernel_rfl) (by kernel_rfl) (fun _ _ _ h => h) ⟨_, HB⟩ rfl rfl (fun w' hS => EX.load rfl (hS.rd1 ty3 (H.blk 1 rfl) (by simp) rfl)) rfl ?_ | refine WH.takeYes 33 rfl (by kernel_rfl) (by kernel_rfl) (by kernel_rfl) (fun _ _ _ h => h) ⟨_, HB⟩ rfl rfl (fun w' hS => EX.load rfl (hS.rdA ty3 (H.blk 1 rfl) (by simp) (by decide))) rfl ?_ | refine WH.takeYes 33 rfl (by kernel_rfl) (by kernel_rfl) (by kernel_rfl) (fun _ _ _ h => h) ⟨_, HB⟩ rfl rfl (fun w' hS => EX.load rfl (hS.rd1 ty3 (H.blk 2 rfl) (by simp) rfl)) rfl ?_ | refine WH.takeYes 33 rfl (by kernel_rfl) (by kernel_rfl) (by kernel_rfl) (fun _ _ _ h => h) ⟨_, HB⟩ rfl rfl (fun w' hS => EX.load rfl (hS.rdA ty3 (H.blk 2 rfl) (by simp) (by decide))) rfl ?_ | refine WH.takeYes 33 rfl (by kernel_rfl) (by kernel_rfl) (by kernel_rfl) (fun _ _ _ h => h) ⟨_, HB⟩ rfl rfl (fun w' hS => EX.load rfl (hS.rd1 ty3 (H.blk 3 rfl) (by simp) rfl)) rfl ?_ | refine WH.takeYes 33 rfl (by kernel_rfl) (by kernel_rfl) (by kernel_rfl) (fun _ _ _ h => h) ⟨_, HB⟩ rfl rfl (fun w' hS => EX.load rfl (hS.rdA ty3 (H.blk 3 rfl) (by simp) (by decide))) rfl ?_
            refine WH.takeYes 34 rfl (by kernel_rfl) (by kernel_rfl) (by kernel_rfl) (fun _ _ _ h => h) ⟨_, HB⟩ rfl rfl (fun w' hS => EX.idxSlc (k := kk) slc156 rfl rfl (by first | rfl | omega) (by omega)) rfl ?_
            refine WH.takeYes 35 rfl (by kernel_rfl) (by kernel_rfl) (by kernel_rfl) (fun _ _ _ h => h) ⟨_, HB⟩ rfl rfl (fun w' hS => EX.fieldAddr fld158_1 rfl) rfl ?_
            first | refine WH.takeYes 36 rfl (by kernel_rfl) (by kernel_rfl) (by kernel_rfl) (fun _ _ _ h => h) ⟨_, HB⟩ rfl rfl (fun w' hS => EX.load rfl (Rd.lineS ty52 (hS.block (RM.line_at (L := [_]) hX H) (by simp)) (by omega) hok.1)) rfl ?_
            refine WH.takeYes 37 rfl (by kernel_rfl) (by kernel_rfl) (by kernel_rfl) (fun _ _ _ h => h) ⟨_, HB⟩ rfl rfl (fun w' hS => EX.lenR isl52 rfl) rfl ?_
            refine WH.takeYes 38 rfl (by kernel_rfl) (by kernel_rfl) (by kernel_rfl) (fun _ _ _ h => h) ⟨_, HB⟩ rfl rfl (fun w' hS => EX.bin rfl rfl (binv_gtr)) rfl ?_
            refine WH.take 39 rfl (by kernel_rfl) (by kernel_rfl) (by kernel_rfl) (fun _ _ _ h => h) ⟨_, HB⟩ (fun w' hS => EX.pickF rfl rfl) rfl ?_
            refine WH.done (by kernel_rfl) ?_
            replace H := H.call HB
            refine WX.next ?_
            first | refine WC.cond_dec rfl (fun c5 => ?_) (fun c5 => ?_) | refine WC.cond rfl (fun c5 => ?_) (fun c5 => ?_)
            · -- c5 T
              refine WC.seq ?_
              refine WC.region ?_
              refine WL.assign rfl rfl ?_
              refine (WL.done (WX.next ?_))
              refine (WC.ret (WX.block_ret (WX.then_ret (WX.then_ret (WX.block_ret (WX.then_ret ?_))))))
              refine ret_one rfl rfl ?_
              have e1 : R.abs.cutsOk cuts = false := cutsOk_bad hlt (fun h => by have h2 := (cutOk_iff hlt).1 h; rw [hkk, abs_line hget] at h2; omega)
              rw [e1]
              exact ⟨R, rfl, rfl, by unfold PM.crash; rw [e1]; rfl, hm.ok, H.tail⟩
            · -- c5 F
              refine (WC.skip (WX.block_normal (WX.next ?_)))
              refine WC.region ?_
              refine WL.bin rfl rfl (iadd (by omega) (by omega)) rfl ?_
              refine WL.move rfl rfl ?_
              refine (WL.done (WX.round ?_))
              have hgood : cutOk R.abs cuts g = true := (cutOk_iff hlt).2 ⟨by rw [abs_has]; exact hh, .inr (by rw [getD_at (by omega)]; omega), by omega, by rw [hkk, abs_line hget]; omega⟩
              exact hN _ (g+1) _ _ (by omega) ⟨rfl, by omega, by rw [List.range_succ, List.all_append, hall]; simpa using hgood, H.tail⟩ (Sub.cons (t := 12) (by first | rfl | simp) (Sub.nil _)) (Sub.cons (t := 0) rfl (Sub.cons (t := 1) rfl (Sub.cons (t := 10) rfl (Sub.cons (t := 11) rfl (Sub.nil _)))))
      · -- g2 False
        refine WH.takeNo 9 rfl (by kernel_rfl) (by kernel_rfl) (by kernel_rfl) (fun _ _ _ h => h) ⟨_, HB⟩ rfl rfl rfl ?_
        refine WH.takeNo 10 rfl (by kernel_rfl) (by kernel_rfl) (by kernel_rfl) (fun _ _ _ h => h) ⟨_, HB⟩ rfl rfl rfl ?_
        refine WH.takeNo 11 rfl (by kernel_rfl) (by kernel_rfl) (by kernel_rfl) (fun _ _ _ h => h) ⟨_, HB⟩ rfl rfl rfl ?_
        refine WH.takeNo 12 rfl (by kernel_rfl) (by kernel_rfl) (by kernel_rfl) (fun _ _ _ h => h) ⟨_, HB⟩ rfl rfl rfl ?_
        refine WH.takeNo 13 rfl (by kernel_rfl) (by kernel_rfl) (by kernel_rfl) (fun _ _ _ h => h) ⟨_, HB⟩ rfl rfl rfl ?_
        refine WH.takeNo 14 rfl (by kernel_rfl) (by kernel_rfl) (by kernel_rfl) (fun _ _ _ h => h) ⟨_, HB⟩ rfl rfl rfl ?_
        refine WH.takeNo 15 rfl (by kernel_rfl) (by kernel_rfl) (by kernel_rfl) (fun _ _ _ h => h) ⟨_, HB⟩ rfl rfl rfl ?_
        have hprev := (hcs (g - 1) (by omega)).1
        refine WH.takeNo 16 rfl (by kernel_rfl) (by kernel_rfl) (by kernel_rfl) (fun _ _ _ h => h) ⟨_, HB⟩ rfl rfl rfl ?_
        refine WH.takeNo 17 rfl (by kernel_rfl) (by kernel_rfl) (by kernel_rfl) (fun _ _ _ h => h) ⟨_, HB⟩ rfl rfl rfl ?_
        refine WH.takeYes 18 rfl (by kernel_rfl) (by kernel_rfl) (by kernel_rfl) (fun _ _ _ h => h) ⟨_, HB⟩ rfl rfl (fun w' hS => EX.pickF rfl rfl) rfl ?_
        refine WH.take 19 rfl (by kernel_rfl) (by kernel_rfl) (by kernel_rfl) (fun _ _ _ h => h) ⟨_, HB⟩ (fun w' hS => EX.pickF rfl rfl) rfl ?_
        refine WH.take 20 rfl (by kernel_rfl) (by kernel_rfl) (by kernel_rfl) (fun _ _ _ h => h) ⟨_, HB⟩ (fun w' hS => EX.move rfl) rfl ?_
        refine WH.takeYes 21 rfl (by kernel_rfl) (by kernel_rfl) (by kernel_rfl) (fun _ _ _ h => h) ⟨_, HB⟩ rfl rfl (fun w' hS => EX.fieldAddr fld109_1 rfl) rfl ?_
        first | refine WH.takeYes 22 rfl (by kernel_rfl) (by kernel_rfl) (by kernel_rfl) (fun _ _ _ h => h) ⟨_, HB⟩ rfl rfl (fun w' hS => EX.load rfl (hS.rd1 ty3 (H.blk 0 rfl) (by simp) rfl)) rfl ?_ | refine WH.takeYes 22 rfl (by kernel_rfl) (by kernel_rfl) (by kernel_rfl) (fun _ _ _ h => h) ⟨_, HB⟩ rfl rfl (fun w' hS => EX.load rfl (hS.rdA ty3 (H.blk 0 rfl) (by simp) (by decide))) rfl ?_ | refine WH.takeYes 22 rfl (by kernel_rfl) (by kernel_rfl) (by kernel_rfl) (fun _ _ _ h => h) ⟨_, HB⟩ rfl rfl (fun w' hS => EX.load rfl (hS.rd1 ty3 (H.blk 1 rfl) (by simp) rfl)) rfl ?_ | refine WH.takeYes 22 rfl (by kernel_rfl) (by kernel_rfl) (by kernel_rfl) (fun _ _ _ h => h) ⟨_, HB⟩ rfl rfl (fun w' hS => EX.load rfl (hS.rdA ty3 (H.blk 1 rfl) (by simp) (by decide))) rfl ?_ | refine WH.takeYes 22 rfl (by kernel_rfl) (by kernel_rfl) (by kernel_rfl) (fun _ _ _ h => h) ⟨_, HB⟩ rfl rfl (fun w' hS => EX.load rfl (hS.rd1 ty3 (H.blk 2 rfl) (by simp) rfl)) rfl ?_ | refine WH.takeYes 22 rfl (by kernel_rfl) (by kernel_rfl) (by kernel_rfl) (fun _ _ _ h => h) ⟨_, HB⟩ rfl rfl (fun w' hS => EX.load rfl (hS.rdA ty3 (H.blk 2 rfl) (by simp) (by decide))) rfl ?_ | refine WH.takeYes 22 rfl (by kernel_rfl) (by kernel_rfl) (by kernel_rfl) (fun _ _ _ h => h) ⟨_, HB⟩ rfl rfl (fun w' hS => EX.load rfl (hS.rd1 ty3 (H.blk 3 rfl) (by simp) rfl)) rfl ?_ | refine WH.takeYes 22 rfl (by kernel_rfl) (by kernel_rfl) (by kernel_rfl) (fun _ _ _ h => h) ⟨_, HB⟩ rfl rfl (fun w' hS => EX.load rfl (hS.rdA ty3 (H.blk 3 rfl) (by simp) (by decide))) rfl ?_
        refine WH.takeYes 23 rfl (by kernel_rfl) (by kernel_rfl) (by kernel_rfl) (fun _ _ _ h => h) ⟨_, HB⟩ rfl rfl (fun w' hS => EX.bin rfl rfl (binv_lss)) rfl ?_
        refine WH.take 24 rfl (by kernel_rfl) (by kernel_rfl) (by kernel_rfl) (fun _ _ _ h => h) ⟨_, HB⟩ (fun w' hS => EX.pickF rfl rfl) rfl ?_
        refine WH.take 25 rfl (by kernel_rfl) (by kernel_rfl) (by kernel_rfl) (fun _ _ _ h => h) ⟨_, HB⟩ (fun w' hS => EX.move rfl) rfl ?_
        first | refine WH.splitD (t := 42) rfl (fun g5 => ?_) (fun g5 => ?_) | refine WH.split (t := 42) rfl (fun g5 => ?_) (fun g5 => ?_)
        · -- g5 True
          refine WH.takeNo 26 rfl (by kernel_rfl) (by kernel_rfl) (by kernel_rfl) (fun _ _ _ h => h) ⟨_, HB⟩ rfl rfl rfl ?_
          refine WH.takeNo 27 rfl (by kernel_rfl) (by kernel_rfl) (by kernel_rfl) (fun _ _ _ h => h) ⟨_, HB⟩ rfl rfl rfl ?_
          refine WH.takeNo 28 rfl (by kernel_rfl) (by kernel_rfl) (by kernel_rfl) (fun _ _ _ h => h) ⟨_, HB⟩ rfl rfl rfl ?_
          refine WH.takeNo 29 rfl (by kernel_rfl) (by kernel_rfl) (by kernel_rfl) (fun _ _ _ h => h) ⟨_, HB⟩ rfl rfl rfl ?_
          refine WH.takeNo 30 rfl (by kernel_rfl) (by kernel_rfl) (by kernel_rfl) (fun _ _ _ h => h) ⟨_, HB⟩ rfl rfl rfl ?_
          refine WH.takeNo 31 rfl (by kernel_rfl) (by kernel_rfl) (by kernel_rfl) (fun _ _ _ h => h) ⟨_, HB⟩ rfl rfl rfl ?_
          refine WH.takeNo 32 rfl (by kernel_rfl) (by kernel_rfl) (by kernel_rfl) (fun _ _ _ h => h) ⟨_, HB⟩ rfl rfl rfl ?_
          refine WH.takeNo 33 rfl (by kernel_rfl) (by kernel_rfl) (by kernel_rfl) (fun _ _ _ h => h) ⟨_, HB⟩ rfl rfl rfl ?_
          refine WH.takeNo 34 rfl (by kernel_rfl) (by kernel_rfl) (by kernel_rfl) (fun _ _ _ h => h) ⟨_, HB⟩ rfl rfl rfl ?_
          refine WH.takeNo 35 rfl (by kernel_rfl) (by kernel_rfl) (by kernel_rfl) (fun _ _ _ h => h) ⟨_, HB⟩ rfl rfl rfl ?_
          refine WH.takeNo 36 rfl (by kernel_rfl) (by kernel_rfl) (by kernel_rfl) (fun _ _ _ h => h) ⟨_, HB⟩ rfl rfl rfl ?_
          refine WH.takeNo 37 rfl (by kernel_rfl) (by kernel_rfl) (by kernel_rfl) (fun _ _ _ h => h) ⟨_, HB⟩ rfl rfl rfl ?_
          refine WH.takeNo 38 rfl (by kernel_rfl) (by kernel_rfl) (by kernel_rfl) (fun _ _ _ h => h) ⟨_, HB⟩ rfl rfl rfl ?_
          refine WH.take 39 rfl (by kernel_rfl) (by kernel_rfl) (by kernel_rfl) (fun _ _ _ h => h) ⟨_, HB⟩ (fun w' hS => EX.pickT rfl rfl) rfl ?_
          refine WH.done (by kernel_rfl) ?_
          replace H := H.call HB
          refine WX.next ?_
          refine WC.cond_true rfl (rfl) ?_
          refine WC.seq ?_
          refine WC.region ?_
          refine WL.assign rfl rfl ?_
          refine (WL.done (WX.next ?_))
          refine (WC.ret (WX.block_ret (WX.then_ret (WX.then_ret (WX.block_ret (WX.then_ret ?_))))))
          refine ret_one rfl rfl ?_
          have e1 : R.abs.cutsOk cuts = false := cutsOk_bad hlt (fun h => by have h2 := (cutOk_iff hlt).1 h; omega)
          rw [e1]
          exact ⟨R, rfl, rfl, by unfold PM.crash; rw [e1]; rfl, hm.ok, H.tail⟩
        · -- g5 False
          have hh : pHas R (cuts[g]).1 = true := by simpa only [Bool.not_eq_false'] using g1
          obtain ⟨hn0, hn1⟩ := pHas_iff.1 hh
          obtain ⟨kk, hkk⟩ : ∃ k : Nat, (cuts[g]).1 = (k : Int) := ⟨(cuts[g]).1.toNat, by omega⟩
          obtain ⟨A, l, r, B, hX, hA, hal, hok, hr, hget⟩ := hm.ok.at (k := kk) (by omega)
          refine WH.takeYes 26 rfl (by kernel_rfl) (by kernel_rfl) (by kernel_rfl) (fun _ _ _ h => h) ⟨_, HB⟩ rfl rfl (fun w' hS => EX.fieldAddr fld109_1 rfl) rfl ?_
          first | refine WH.takeYes 27 rfl (by kernel_rfl) (by kernel_rfl) (by kernel_rfl) (fun _ _ _ h => h) ⟨_, HB⟩ rfl rfl (fun w' hS => EX.load rfl (hS.rd1 ty3 (H.blk 0 rfl) (by simp) rfl)) rfl ?_ | refine WH.takeYes 27 rfl (by kernel_rfl) (by kernel_rfl) (by kernel_rfl) (fun _ _ _ h => h) ⟨_, HB⟩ rfl rfl (fun w' hS => EX.load rfl (hS.rdA ty3 (H.blk 0 rfl) (by simp) (by decide))) rfl ?_ | refine WH.takeYes 27 rfl (by kernel_rfl) (by kernel_rfl) (by kernel_rfl) (fun _ _ _ h => h) ⟨_, HB⟩ rfl rfl (fun w' hS => EX.load rfl (hS.rd1 ty3 (H.blk 1 rfl) (by simp) rfl)) rfl ?_ | refine WH.takeYes 27 rfl (by kernel_rfl) (by kernel_rfl) (by kernel_rfl) (fun _ _ _ h => h) ⟨_, HB⟩ rfl rfl (fun w' hS => EX.load rfl (hS.rdA ty3 (H.blk 1 rfl) (by simp) (by decide))) rfl ?_ | refine WH.takeYes 27 rfl (by kernel_rfl) (by kernel_rfl) (by kernel_rfl) (fun _ _ _ h => h) ⟨_, HB⟩ rfl rfl (fun w' hS => EX.load rfl (hS.rd1 ty3 (H.blk 2 rfl) (by simp) rfl)) rfl ?_ | refine WH.takeYes 27 rfl (by kernel_rfl) (by kernel_rfl) (by kernel_rfl) (fun _ _ _ h => h) ⟨_, HB⟩ rfl rfl (fun w' hS => EX.load rfl (hS.rdA ty3 (H.blk 2 rfl) (by simp) (by decide))) rfl ?_ | refine WH.takeYes 27 rfl (by kernel_rfl) (by kernel_rfl) (by kernel_rfl) (fun _ _ _ h => h) ⟨_, HB⟩ rfl rfl (fun w' hS => EX.load rfl (hS.rd1 ty3 (H.blk 3 rfl) (by simp) rfl)) rfl ?_ | refine WH.takeYes 27 rfl (by kernel_rfl) (by kernel_rfl) (by kernel_rfl) (fun _ _ _ h => h) ⟨_, HB⟩ rfl rfl (fun w' hS => EX.load rfl (hS.rdA ty3 (H.blk 3 rfl) (by simp) (by decide))) rfl ?_
          refine WH.takeYes 28 rfl (by kernel_rfl) (by kernel_rfl) (by kernel_rfl) (fun _ _ _ h => h) ⟨_, HB⟩ rfl rfl (fun w' hS => EX.move rfl) rfl ?_
          refine WH.takeYes 29 rfl (by kernel_rfl) (by kernel_rfl) (by kernel_rfl) (fun _ _ _ h => h) ⟨_, HB⟩ rfl rfl (fun w' hS => EX.nilCheck rfl) rfl ?_
          refine WH.takeYes 30 rfl (by kernel_rfl) (by kernel_rfl) (by kernel_rfl) (fun _ _ _ h => h) ⟨_, HB⟩ rfl rfl (fun w' hS => EX.fieldAddr fld161_0 rfl) rfl ?_
          first | refine WH.takeYes 31 rfl (by kernel_rfl) (by kernel_rfl) (by kernel_rfl) (fun _ _ _ h => h) ⟨_, HB⟩ rfl rfl (fun w' hS => EX.load rfl (hS.rd1 ty156 (H.blk 0 rfl) (by simp) rfl)) rfl ?_ | refine WH.takeYes 31 rfl (by kernel_rfl) (by kernel_rfl) (by kernel_rfl) (fun _ _ _ h => h) ⟨_, HB⟩ rfl rfl (fun w' hS => EX.load rfl (hS.rdA ty156 (H.blk 0 rfl) (by simp) (by decide))) rfl ?_ | refine WH.takeYes 31 rfl (by kernel_rfl) (by kernel_rfl) (by kernel_rfl) (fun _ _ _ h => h) ⟨_, HB⟩ rfl rfl (fun w' hS => EX.load rfl (hS.rd1 ty156 (H.blk 1 rfl) (by simp) rfl)) rfl ?_ | refine WH.takeYes 31 rfl (by kernel_rfl) (by kernel_rfl) (by kernel_rfl) (fun _ _ _ h => h) ⟨_, HB⟩ rfl rfl (fun w' hS => EX.load rfl (hS.rdA ty156 (H.blk 1 rfl) (by simp) (by decide))) rfl ?_ | refine WH.takeYes 31 rfl (by kernel_rfl) (by kernel_rfl) (by kernel_rfl) (fun _ _ _ h => h) ⟨_, HB⟩ rfl rfl (fun w' hS => EX.load rfl (hS.rd1 ty156 (H.blk 2 rfl) (by simp) rfl)) rfl ?_ | refine WH.takeYes 31 rfl (by kernel_rfl) (by kernel_rfl) (by kernel_rfl) (fun _ _ _ h => h) ⟨_, HB⟩ rfl rfl (fun w' hS => EX.load rfl (hS.rdA ty156 (H.blk 2 rfl) (by simp) (by decide))) rfl ?_ | refine WH.takeYes 31 rfl (by kernel_rfl) (by kernel_rfl) (by kernel_rfl) (fun _ _ _ h => h) ⟨_, HB⟩ rfl rfl (fun w' hS => EX.load rfl (hS.rd1 ty156 (H.blk 3 rfl) (by simp) rfl)) rfl ?_ | refine WH.takeYes 31 rfl (by kernel_rfl) (by kernel_rfl) (by kernel_rfl) (fun _ _ _ h => h) ⟨_, HB⟩ rfl rfl (fun w' hS => EX.load rfl (hS.rdA ty156 (H.blk 3 rfl) (by simp) (by decide))) rfl ?_
          refine WH.takeYes 32 rfl (by kernel_rfl) (by kernel_rfl) (by kernel_rfl) (fun _ _ _ h => h) ⟨_, HB⟩ rfl rfl (fun w' hS => EX.fieldAddr fld109_0 rfl) rfl ?_
          first | refine WH.takeYes 33 rfl (by kernel_rfl) (by kernel_rfl) (by kernel_rfl) (fun _ _ _ h => h) ⟨_, HB⟩ rfl rfl (fun w' hS => EX.load rfl (hS.rd1 ty3 (H.blk 0 rfl) (by simp) rfl)) rfl ?_ | refine WH.takeYes 33 rfl (by kernel_rfl) (by kernel_rfl) (by kernel_rfl) (fun _ _ _ h => h) ⟨_, HB⟩ rfl rfl (fun w' hS => EX.load rfl (hS.rdA ty3 (H.blk 0 rfl) (by simp) (by decide))) rfl ?_ | refine WH.takeYes 33 rfl (by kernel_rfl) (by kernel_rfl) (by kernel_rfl) (fun _ _ _ h => h) ⟨_, HB⟩ rfl rfl (fun w' hS => EX.load rfl (hS.rd1 ty3 (H.blk 1 rfl) (by simp) rfl)) rfl ?_ | refine WH.takeYes 33 rfl (by kernel_rfl) (by kernel_rfl) (by kernel_rfl) (fun _ _ _ h => h) ⟨_, HB⟩ rfl rfl (fun w' hS => EX.load rfl (hS.rdA ty3 (H.blk 1 rfl) (by simp) (by decide))) rfl ?_ | refine WH.takeYes 33 rfl (by kernel_rfl) (by kernel_rfl) (by kernel_rfl) (fun _ _ _ h => h) ⟨_, HB⟩ rfl rfl (fun w' hS => EX.load rfl (hS.rd1 ty3 (H.blk 2 rfl) (by simp) rfl)) rfl ?_ | refine WH.takeYes 33 rfl (by kernel_rfl) (by kernel_rfl) (by kernel_rfl) (fun _ _ _ h => h) ⟨_, HB⟩ rfl rfl (fun w' hS => EX.load rfl (hS.rdA ty3 (H.blk 2 rfl) (by simp) (by decide))) rfl ?_ | refine WH.takeYes 33 rfl (by kernel_rfl) (by kernel_rfl) (by kernel_rfl) (fun _ _ _ h => h) ⟨_, HB⟩ rfl rfl (fun w' hS => EX.load rfl (hS.rd1 ty3 (H.blk 3 rfl) (by simp) rfl)) rfl ?_ | refine WH.takeYes 33 rfl (by kernel_rfl) (by kernel_rfl) (by kernel_rfl) (fun _ _ _ h => h) ⟨_, HB⟩ rfl rfl (fun w' hS => EX.load rfl (hS.rdA ty3 (H.blk 3 rfl) (by simp) (by decide))) rfl ?_
          refine WH.takeYes 34 rfl (by kernel_rfl) (by kernel_rfl) (by kernel_rfl) (fun _ _ _ h => h) ⟨_, HB⟩ rfl rfl (fun w' hS => EX.idxSlc (k := kk) slc156 rfl rfl (by first | rfl | omega) (by omega)) rfl ?_
          refine WH.takeYes 35 rfl (by kernel_rfl) (by kernel_rfl) (by kernel_rfl) (fun _ _ _ h => h) ⟨_, HB⟩ rfl rfl (fun w' hS => EX.fieldAddr fld158_1 rfl) rfl ?_
          first | refine WH.takeYes 36 rfl (by kernel_rfl) (by kernel_rfl) (by kernel_rfl) (fun _ _ _ h => h) ⟨_, HB⟩ rfl rfl (fun w' hS => EX.load rfl (Rd.lineS ty52 (hS.block (RM.line_at (L := [_]) hX H) (by simp)) (by omega) hok.1)) rfl ?_
          refine WH.takeYes 37 rfl (by kernel_rfl) (by kernel_rfl) (by kernel_rfl) (fun _ _ _ h => h) ⟨_, HB⟩ rfl rfl (fun w' hS => EX.lenR isl52 rfl) rfl ?_
          refine WH.takeYes 38 rfl (by kernel_rfl) (by kernel_rfl) (by kernel_rfl) (fun _ _ _ h => h) ⟨_, HB⟩ rfl rfl (fun w' hS => EX.bin rfl rfl (binv_gtr)) rfl ?_
          refine WH.take 39 rfl (by kernel_rfl) (by kernel_rfl) (by kernel_rfl) (fun _ _ _ h => h) ⟨_, HB⟩ (fun w' hS => EX.pickF rfl rfl) rfl ?_
          refine WH.done (by kernel_rfl) ?_
          replace H := H.call HB
          refine WX.next ?_
          first | refine WC.cond_dec rfl (fun c7 => ?_) (fun c7 => ?_) | refine WC.cond rfl (fun c7 => ?_) (fun c7 => ?_)
          · -- c7 T
            refine WC.seq ?_
            refine WC.region ?_
            refine WL.assign rfl rfl ?_
            refine (WL.done (WX.next ?_))
            refine (WC.ret (WX.block_ret (WX.then_ret (WX.then_ret (WX.block_ret (WX.then_ret ?_))))))
            refine ret_one rfl rfl ?_
            have e1 : R.abs.cutsOk cuts = false := cutsOk_bad hlt (fun h => by have h2 := (cutOk_iff hlt).1 h; rw [hkk, abs_line hget] at h2; omega)
            rw [e1]
            exact ⟨R, rfl, rfl, by unfold PM.crash; rw [e1]; rfl, hm.ok, H.tail⟩
          · -- c7 F
            refine (WC.skip (WX.block_normal (WX.next ?_)))
            refine WC.region ?_
            refine WL.bin rfl rfl (iadd (by omega) (by omega)) rfl ?_
            refine WL.move rfl rfl ?_
            refine (WL.done (WX.round ?_))
            have hgood : cutOk R.abs cuts g = true := (cutOk_iff hlt).2 ⟨by rw [abs_has]; exact hh, .inl (by omega), by omega, by rw [hkk, abs_line hget]; omega⟩
            exact hN _ (g+1) _ _ (by omega) ⟨rfl, by omega, by rw [List.range_succ, List.all_append, hall]; simpa using hgood, H.tail⟩ (Sub.cons (t := 12) (by first | rfl | simp) (Sub.nil _)) (Sub.cons (t := 0) rfl (Sub.cons (t := 1) rfl (Sub.cons (t := 10) rfl (Sub.cons (t := 11) rfl (Sub.nil _)))))
  · -- c1 F
    refine (WC.exit (WX.then_exit (WX.then_exit (WX.block_exit (WX.next ?_)))))
    refine WC.seq ?_
    refine WC.seq ?_
    refine WC.region ?_
    refine WL.move rfl rfl ?_
    refine WL.lenSlc isl50 rfl rfl ?_
    refine WL.move rfl rfl ?_
    refine (WL.done (WX.next ?_))
    refine WC.block ?_
    -- loop 2: changed [60] kept [0, 58, 59]
    obtain rfl : m = g := by omega
    have hcut : ∀ j, j < cuts.length → cutOk R.abs cuts j = true := fun j hj => List.all_eq_true.1 hall j (List.mem_range.2 (by omega))
    have hcutsOk : R.abs.cutsOk cuts = true := by unfold PM.cutsOk; rw [← hmc]; exact hall
    have hasc : ∀ i j, i < j → ∀ hj : j < cuts.length, (cuts.getD i (0, 0)).1 < (cuts[j]).1 := cuts_asc hcut
    clear hall hg
    refine WC.loop (Sub.cons (t := 0) rfl (Sub.cons (t := 58) rfl (Sub.cons (t := 59) rfl (Sub.nil _)))) (fun g : RM × Nat => [(60, .int .i64 (g.2 : Int))]) (fun q g wx => q = m - g.2 ∧ g.2 ≤ m ∧ Settling R (R.like g.1) cuts g.2 ∧ St w (R.hp.map Prod.fst) wx (R.like g.1).hp) (m) ((R, 0)) (Sub.cons (t := 60) (by first | rfl | simp) (Sub.nil _)) (⟨rfl, Nat.zero_le _, Settling.start hm.ok cuts, H⟩) ?_
    rintro k g wx hI N hN
    obtain ⟨g1, i⟩ := g
    obtain ⟨rfl, hg, hF, H⟩ := hI
    change i ≤ m at hg
    change Settling R (R.like g1) cuts i at hF
    change St _ _ _ (R.like g1).hp at H
    refine WC.seq ?_
    refine WC.region ?_
    refine WL.bin rfl rfl binv_lss rfl ?_
    refine (WL.done (WX.next ?_))
    refine WC.seq ?_
    first | refine WC.cond_dec rfl (fun c8 => ?_) (fun c8 => ?_) | refine WC.cond rfl (fun c8 => ?_) (fun c8 => ?_)
    · -- c8 T
      refine (WC.skip (WX.next ?_))
      refine WC.seq ?_
      refine WC.block ?_
      refine WC.seq ?_
      refine WC.region ?_
      have hlt : i < cuts.length := by omega
      obtain ⟨b, o, cs, t, fr, rfl, hb, hbn, hcs⟩ : ∃ b o cs t fr, A0 = some ⟨b, o, none⟩ ∧ w.heap[b]? = some (.cells cs t fr) ∧ b ∉ R.hp.map Prod.fst ∧ ∀ j (h : j < cuts.length), cs[o + j * 2]? = some (.int .i64 (cuts[j]).1) ∧ cs[o + j * 2 + 1]? = some (.int .i64 (cuts[j]).2) := by
        rcases hc0 with h | h
        · rw [h] at hlt; simp at hlt
        · exact h
      obtain ⟨hc1, _, hc3, hc4⟩ := (cutOk_iff hlt).1 (hcut i hlt)
      rw [abs_has] at hc1
      obtain ⟨hn0, hn1⟩ := pHas_iff.1 hc1
      obtain ⟨k, hkk⟩ : ∃ k : Nat, (cuts[i]).1 = (k : Int) := ⟨(cuts[i]).1.toNat, by omega⟩
      obtain ⟨kp, hkp⟩ : ∃ kp : Nat, (cuts[i]).2 = (kp : Int) := ⟨(cuts[i]).2.toNat, by omega⟩
      have hklt : k < (R.like g1).X.length := by rw [hF.len]; omega
      obtain ⟨A, l, r, B, hX, hA, hal, hok, hr, hget⟩ := hF.ok.at (k := k) hklt
      obtain ⟨⟨l0, r0⟩, hx⟩ : ∃ x, R.X[k]? = some x := ⟨_, List.getElem?_eq_getElem (by omega)⟩
      obtain ⟨x', hx', hle⟩ := hF.rest k (l0, r0) hx (fun c hc => by
        obtain ⟨j, hj⟩ := List.getElem?_of_mem hc
        rw [List.getElem?_take] at hj
        split at hj
        · rename_i hji
          have h1 := hasc j i hji hlt
          rw [List.getD, hj] at h1
          intro he
          rw [hkk, ← he] at h1
          exact absurd h1 (Int.lt_irrefl _)
        · cases hj)
      rw [hget] at hx'
      cases hx'
      change l = l0 at hle
      rw [hkk, abs_line hx, ← hle, hkp] at hc4
      have hpl : l.ps.length ≤ 1073741824 := by rw [hle]; exact hps (l0, r0) (List.mem_of_getElem? hx)
      have hkey : kp ≠ 0 → (k : Int) ∈ (R.like g1).mp.map Prod.fst := fun hne => (hF.ok.busy k).2 ⟨by omega, (l, r), by rw [Int.toNat_natCast]; exact hget, fun h => by rw [h] at hc4; simp at hc4; omega⟩
      have hcs1 := (hcs i hlt).1
      have hcs2 := (hcs i hlt).2
      rw [hkk] at hcs1
      rw [hkp] at hcs2
      refine WL.idxSlc slc50 rfl rfl (by first | rfl | omega) (by omega) rfl ?_
      refine WL.load rfl (Rd.pair ty109 (H.oldBlock hb hbn) hcs1 hcs2) rfl ?_
      refine WL.alloc H zer109 rfl ?_
      intro b8 wx hb8 hge8 H
      first | (refine WL.storeAt H ty109 0 rfl rfl rfl rfl (by simp [Value.cells, Value.oneCell']) (by first | decide | (simp only [wr_size]; decide) | simp [wr_size]) ?_) | (refine WL.storeAt H ty109 1 rfl rfl rfl rfl (by simp [Value.cells, Value.oneCell']) (by first | decide | (simp only [wr_size]; decide) | simp [wr_size]) ?_) | (refine WL.storeAt H ty109 2 rfl rfl rfl rfl (by simp [Value.cells, Value.oneCell']) (by first | decide | (simp only [wr_size]; decide) | simp [wr_size]) ?_) | (refine WL.storeAt H ty109 3 rfl rfl rfl rfl (by simp [Value.cells, Value.oneCell']) (by first | decide | (simp only [wr_size]; decide) | simp [wr_size]) ?_)
      intro wx H
      refine (WL.done (WX.next ?_))
      refine WC.region ?_
      refine WL.move rfl rfl ?_
      refine WL.fieldAddr fld109_0 rfl rfl ?_
      first | refine WL.load rfl (H.rd1 ty3 0 rfl rfl) rfl ?_ | refine WL.load rfl (H.rd1 ty3 1 rfl rfl) rfl ?_ | refine WL.load rfl (H.rd1 ty3 2 rfl rfl) rfl ?_ | refine WL.load rfl (H.rd1 ty3 3 rfl rfl) rfl ?_ | refine WL.load rfl (H.rdA ty3 0 rfl (by decide)) rfl ?_ | refine WL.load rfl (H.rdA ty3 1 rfl (by decide)) rfl ?_ | refine WL.load rfl (H.rdA ty3 2 rfl (by decide)) rfl ?_ | refine WL.load rfl (H.rdA ty3 3 rfl (by decide)) rfl ?_
      refine WL.fieldAddr fld109_1 rfl rfl ?_
      first | refine WL.load rfl (H.rd1 ty3 0 rfl rfl) rfl ?_ | refine WL.load rfl (H.rd1 ty3 1 rfl rfl) rfl ?_ | refine WL.load rfl (H.rd1 ty3 2 rfl rfl) rfl ?_ | refine WL.load rfl (H.rd1 ty3 3 rfl rfl) rfl ?_ | refine WL.load rfl (H.rdA ty3 0 rfl (by decide)) rfl ?_ | refine WL.load rfl (H.rdA ty3 1 rfl (by decide)) rfl ?_ | refine WL.load rfl (H.rdA ty3 2 rfl (by decide)) rfl ?_ | refine WL.load rfl (H.rdA ty3 3 rfl (by decide)) rfl ?_
      have hm1 : MemIn _ (R.like g1) := MemIn.of (L := [_]) H hF.ok hSS h3lt
      refine WL.call call107 rfl rfl ?_
      refine Calls.mono (settle_any (R.like g1).p _ _ _ _ _ _ _ _ _ _ l r _ _ k kp hklt hal hok hr (by omega) hpl _ (hL.of H hm.n3) (n3_focus hm1 hX) (St.start ((St.focus (L := [_]) hX H).weaken (List.sublist_append_right _ _)).nd ((St.focus (L := [_]) hX H).weaken (List.sublist_append_right _ _)).sat)) ?_
      rintro _ wx ⟨r', rfl, hr', Hc⟩
      refine ⟨_, rfl, ?_⟩
      replace H := (St.focus (L := [(b8, _)]) hX H).callM Hc
      have hcl : (if kp = 0 then (R.like g1).clk else (pRest (R.like g1).mp (R.like g1).clk k (pSettle l kp).ps).2) = R.clk := by
        split
        · rfl
        · rename_i h0; exact (pRest_in (hkey h0)).1
      rw [hcl] at H
      replace H := St.refocus (L := [_]) hX H
      have hps0 : kp = 0 → (pSettle l kp).ps = l.ps := fun h => by rw [h]; rfl
      have hok2 : ((R.like g1).upd A B (pSettle l kp) r' (if kp = 0 then (R.like g1).mp else (pRest (R.like g1).mp R.clk k (pSettle l kp).ps).1) R.clk).ok := by
        refine hF.ok.upd hX hA (pSettle_ok hok) hr' ?_ ?_
        · split
          · exact hF.ok.map
          · rename_i h0
            have h := pRest_ok (n := (k : Int)) (ps := (pSettle l kp).ps) hF.ok.map
            rw [(pRest_in (hkey h0)).1] at h
            exact h
        · split
          · rename_i h0
            rw [hps0 h0]
            exact keys_same hF.ok hget Iff.rfl
          · exact fun x => pRest_keys hF.ok.map
      have hF2 := hF.step hlt hX hA hkk hkp hget hok2
      refine (WL.done (WX.block_normal (WX.next ?_)))
      refine WC.region ?_
      refine WL.bin rfl rfl (iadd (by omega) (by omega)) rfl ?_
      refine WL.move rfl rfl ?_
      refine (WL.done (WX.round ?_))
      exact hN _ ((R.like g1).upd A B (pSettle l kp) r' (if kp = 0 then (R.like g1).mp else (pRest (R.like g1).mp R.clk k (pSettle l kp).ps).1) R.clk, i + 1) _ _ (by show m - (i + 1) < m - i; omega) ⟨rfl, by show i + 1 ≤ m; omega, hF2, H.tail⟩ (Sub.cons (t := 60) (by first | rfl | simp) (Sub.nil _)) (Sub.cons (t := 0) rfl (Sub.cons (t := 58) rfl (Sub.cons (t := 59) rfl (Sub.nil _))))
    · -- c8 F
      refine (WC.exit (WX.then_exit (WX.then_exit (WX.block_exit (WX.next ?_)))))
      refine WC.seq ?_
      refine WC.seq ?_
      refine WC.region ?_
      refine WL.move rfl rfl ?_
      first | refine WL.nilCheck rfl rfl ?_ | refine WL.nilCheckFn rfl rfl ?_
      refine WL.fieldAddr fld161_1 rfl rfl ?_
      first | refine WL.load rfl (H.rd1 ty159 0 rfl rfl) rfl ?_ | refine WL.load rfl (H.rd1 ty159 1 rfl rfl) rfl ?_ | refine WL.load rfl (H.rd1 ty159 2 rfl rfl) rfl ?_ | refine WL.load rfl (H.rdA ty159 0 rfl (by decide)) rfl ?_ | refine WL.load rfl (H.rdA ty159 1 rfl (by decide)) rfl ?_ | refine WL.load rfl (H.rdA ty159 2 rfl (by decide)) rfl ?_
      refine WL.rangeMap H map159 rfl (H.blk 2 rfl) rfl ?_
      intro it wx hit hgit H
      refine (WL.done (WX.next ?_))
      refine WC.block ?_
      -- loop 3: changed [] kept [0, 75]
      refine WC.loop (Sub.cons (t := 0) rfl (Sub.cons (t := 75) rfl (Sub.nil _))) (fun _ : List (PL × Row) × Array Nat => []) (fun q g wx => q = left (R.like g1).mp g.2 ∧ Clearing (R.like g1) g.1 g.2 ∧ St w (R.hp.map Prod.fst) wx ((it, .mapIter (some R.mb) R.clk g.2 R.clk) :: ((R.like g1).xs g.1).hp)) (left (R.like g1).mp #[]) (((R.like g1).X, #[])) (Sub.nil _) (⟨rfl, Clearing.start _, H⟩) ?_
      rintro k g wx hI N hN
      obtain ⟨X, seen⟩ := g
      obtain ⟨rfl, hC, H⟩ := hI
      change Clearing (R.like g1) X seen at hC
      change St _ _ _ ((it, .mapIter (some R.mb) R.clk seen R.clk) :: ((R.like g1).xs X).hp) at H
      refine WC.seq ?_
      refine WC.region ?_
      refine WL.nextB H 0 rfl rfl (H.blk 3 rfl) (fun x hx => hF.ok.map.1 x hx) (Nat.le_refl _) rfl ?_
      intro bb cs wx hcs hNo hYes
      refine WL.extract rfl hcs rfl ?_
      refine (WL.done (WX.next ?_))
      refine WC.seq ?_
      first | refine WC.cond_dec rfl (fun c9 => ?_) (fun c9 => ?_) | refine WC.cond rfl (fun c9 => ?_) (fun c9 => ?_)
      · -- c9 T
        obtain ⟨kk, bn, hmem, hns, H⟩ := hYes c9
        obtain ⟨hk0, y, hy, hyp⟩ := (hF.ok.busy kk).1 (List.mem_map_of_mem (f := Prod.fst) hmem)
        obtain ⟨k, rfl⟩ : ∃ k : Nat, kk = (k : Int) := ⟨kk.toNat, by omega⟩
        rw [Int.toNat_natCast] at hy
        have hklt : k < (R.like g1).X.length := by
          rcases Nat.lt_or_ge k (R.like g1).X.length with hl | hg
          · exact hl
          · rw [List.getElem?_eq_none hg] at hy; cases hy
        obtain ⟨A, l, r, B, x, hX, hA, hal, h8, hx, hd⟩ := hC.at hF.ok hklt
        have hlX : X.length = (R.like g1).X.length := hC.len
        have hkX : k < ((R.like g1).xs X).X.length := by show k < X.length; omega
        refine (WC.skip (WX.next ?_))
        refine WC.block ?_
        refine WC.seq ?_
        refine WC.region ?_
        refine WL.entry (seen := seen) (bn := bn) (k := (k : Int)) rfl (H.blk 0 rfl) (H.blk 3 rfl) (find_born hF.ok.map.2.1 hmem) rfl ?_
        refine WL.extract rfl rfl rfl ?_
        refine WL.assign rfl rfl ?_
        refine (WL.done (WX.next ?_))
        replace H := (St.focus (L := [(it, .mapIter (some R.mb) R.clk (seen.push bn) R.clk)]) (R := (R.like g1).xs X) hX H).drew
        refine WC.held (SX (World.drew wx) [(R.like g1).lb]) (by kernel_rfl) ?_
        generalize World.drew wx = wb at H ⊢
        have HB := H.single 2 rfl
        refine WH.take 0 rfl (by kernel_rfl) (by kernel_rfl) (by kernel_rfl) (fun _ _ _ h => h) ⟨_, HB⟩ (fun w' hS => EX.move rfl) rfl ?_
        refine WH.take 1 rfl (by kernel_rfl) (by kernel_rfl) (by kernel_rfl) (fun _ _ _ h => h) ⟨_, HB⟩ (fun w' hS => EX.nilCheck rfl) rfl ?_
        refine WH.take 2 rfl (by kernel_rfl) (by kernel_rfl) (by kernel_rfl) (fun _ _ _ h => h) ⟨_, HB⟩ (fun w' hS => EX.fieldAddr fld161_0 rfl) rfl ?_
        first | refine WH.take 3 rfl (by kernel_rfl) (by kernel_rfl) (by kernel_rfl) (fun _ _ _ h => h) ⟨_, HB⟩ (fun w' hS => EX.load rfl (hS.rd1 ty156 (H.blk 1 rfl) (fun h => H.ne 1 2 rfl rfl rfl (List.mem_singleton.1 h)) rfl)) rfl ?_
        refine WH.take 4 rfl (by kernel_rfl) (by kernel_rfl) (by kernel_rfl) (fun _ _ _ h => h) ⟨_, HB⟩ (fun w' hS => EX.move rfl) rfl ?_
        refine WH.take 5 rfl (by kernel_rfl) (by kernel_rfl) (by kernel_rfl) (fun _ _ _ h => h) ⟨_, HB⟩ (fun w' hS => EX.move rfl) rfl ?_
        refine WH.take 6 rfl (by kernel_rfl) (by kernel_rfl) (by kernel_rfl) (fun _ _ _ h => h) ⟨_, HB⟩ (fun w' hS => EX.nilCheck rfl) rfl ?_
        refine WH.take 7 rfl (by kernel_rfl) (by kernel_rfl) (by kernel_rfl) (fun _ _ _ h => h) ⟨_, HB⟩ (fun w' hS => EX.fieldAddr fld161_0 rfl) rfl ?_
        first | refine WH.take 8 rfl (by kernel_rfl) (by kernel_rfl) (by kernel_rfl) (fun _ _ _ h => h) ⟨_, HB⟩ (fun w' hS => EX.load rfl (hS.rd1 ty156 (H.blk 1 rfl) (fun h => H.ne 1 2 rfl rfl rfl (List.mem_singleton.1 h)) rfl)) rfl ?_
        refine WH.take 9 rfl (by kernel_rfl) (by kernel_rfl) (by kernel_rfl) (fun _ _ _ h => h) ⟨_, HB⟩ (fun w' hS => EX.move rfl) rfl ?_
        refine WH.take 10 rfl (by kernel_rfl) (by kernel_rfl) (by kernel_rfl) (fun _ _ _ h => h) ⟨_, HB⟩ (fun w' hS => EX.idxSlc (k := k) slc156 rfl rfl (by first | rfl | omega) (hkX)) rfl ?_
        refine WH.take 11 rfl (by kernel_rfl) (by kernel_rfl) (by kernel_rfl) (fun _ _ _ h => h) ⟨_, HB⟩ (fun w' hS => EX.fieldAddr fld158_1 rfl) rfl ?_
        refine WH.hard 12 rfl (by kernel_rfl) ?_
        refine WL.storeAt HB ty52 0 rfl rfl rfl rfl (by simp [Value.cells, Value.oneCell']) (by rw [lineL_size (by exact h8)]; omega) ?_
        intro wx HB
        first
        | replace HB := HB.castH (H' := [((R.like g1).lb, .cells (lineL (linesC A) { l with ps := [] } Row.none (linesC B ++ (R.like g1).junk)) 158)]) (by have e1 := wr_lineS (a := linesC A) (l := l) (r := r) (c := linesC B ++ (R.like g1).junk) (o := 0 + k * 11 + 9) (r' := Row.none) (ps' := []) (by omega) h8; exact congrArg (fun c => [((R.like g1).lb, Obj.cells c 158)]) e1)
        | replace HB := HB.castH (H' := [((R.like g1).lb, .cells (lineL (linesC A) (drop0 l) Row.none (linesC B ++ (R.like g1).junk)) 158)]) (by have e1 := wr_lineS (a := linesC A) (l := { l with mark := 0 }) (r := r) (c := linesC B ++ (R.like g1).junk) (o := 0 + k * 11 + 9) (r' := Row.none) (ps' := []) (by omega) h8; exact congrArg (fun c => [((R.like g1).lb, Obj.cells c 158)]) e1)
        refine WL.done (WX.heldOn ⟨_, HB⟩ ?_)
        refine WH.take 13 rfl (by kernel_rfl) (by kernel_rfl) (by kernel_rfl) (fun _ _ _ h => h) ⟨_, HB⟩ (fun w' hS => EX.idxSlc (k := k) slc156 rfl rfl (by first | rfl | omega) (hkX)) rfl ?_
        refine WH.take 14 rfl (by kernel_rfl) (by kernel_rfl) (by kernel_rfl) (fun _ _ _ h => h) ⟨_, HB⟩ (fun w' hS => EX.fieldAddr fld158_2 rfl) rfl ?_
        refine WH.hard 15 rfl (by kernel_rfl) ?_
        refine WL.storeAt HB ty3 0 rfl rfl rfl rfl (by simp [Value.cells, Value.oneCell']) (by rw [lineL_size (by exact h8)]; omega) ?_
        intro wx HB
        first
        | replace HB := HB.castH (H' := [((R.like g1).lb, .cells (lineL (linesC A) (drop0 l) Row.none (linesC B ++ (R.like g1).junk)) 158)]) (by have e1 := wr_lineM (a := linesC A) (l := { l with ps := [] }) (r := Row.none) (c := linesC B ++ (R.like g1).junk) (o := 0 + k * 11 + 10) (z := 0) (by omega) h8; exact congrArg (fun c => [((R.like g1).lb, Obj.cells c 158)]) e1)
        | replace HB := HB.castH (H' := [((R.like g1).lb, .cells (lineL (linesC A) { l with mark := 0 } r (linesC B ++ (R.like g1).junk)) 158)]) (by have e1 := wr_lineM (a := linesC A) (l := l) (r := r) (c := linesC B ++ (R.like g1).junk) (o := 0 + k * 11 + 10) (z := 0) (by omega) h8; exact congrArg (fun c => [((R.like g1).lb, Obj.cells c 158)]) e1)
        refine WL.done (WX.heldOn ⟨_, HB⟩ ?_)
        refine WH.done (by kernel_rfl) ?_
        replace H := St.dropped hX (H.back (N := []) 2 rfl HB rfl)
        refine (WX.block_normal (WX.round ?_))
        exact hN _ (A ++ (drop0 l, Row.none) :: B, seen.push bn) _ _ (left_push hmem hns) ⟨rfl, hC.step hF.ok hX hA hx hd hmem, H⟩ (Sub.nil _) (Sub.cons (t := 0) rfl (Sub.cons (t := 75) rfl (Sub.nil _)))
      · -- c9 F
        obtain ⟨hall, H⟩ := hNo c9
        refine (WC.exit (WX.then_exit (WX.then_exit (WX.block_exit (WX.next ?_)))))
        refine WC.seq ?_
        refine WC.region ?_
        refine WL.move rfl rfl ?_
        first | refine WL.nilCheck rfl rfl ?_ | refine WL.nilCheckFn rfl rfl ?_
        refine WL.fieldAddr fld161_1 rfl rfl ?_
        first | refine WL.load rfl (H.rd1 ty159 0 rfl rfl) rfl ?_ | refine WL.load rfl (H.rd1 ty159 1 rfl rfl) rfl ?_ | refine WL.load rfl (H.rd1 ty159 2 rfl rfl) rfl ?_ | refine WL.load rfl (H.rdA ty159 0 rfl (by decide)) rfl ?_ | refine WL.load rfl (H.rdA ty159 1 rfl (by decide)) rfl ?_ | refine WL.load rfl (H.rdA ty159 2 rfl (by decide)) rfl ?_
        refine WL.clearMap H map159 3 rfl rfl ?_
        intro wx H
        refine (WL.done (WX.next ?_))
        refine WC.seq ?_
        refine WC.region ?_
        refine WL.move rfl rfl ?_
        refine WL.move rfl rfl ?_
        first | refine WL.nilCheck rfl rfl ?_ | refine WL.nilCheckFn rfl rfl ?_
        refine WL.fieldAddr fld161_2 rfl rfl ?_
        first | (refine WL.storeAt H ty3 0 rfl rfl rfl rfl (by simp [Value.cells, Value.oneCell']) (by first | decide | (simp only [wr_size]; decide) | simp [wr_size]) ?_) | (refine WL.storeAt H ty3 1 rfl rfl rfl rfl (by simp [Value.cells, Value.oneCell']) (by first | decide | (simp only [wr_size]; decide) | simp [wr_size]) ?_) | (refine WL.storeAt H ty3 2 rfl rfl rfl rfl (by simp [Value.cells, Value.oneCell']) (by first | decide | (simp only [wr_size]; decide) | simp [wr_size]) ?_)
        intro wx H
        first | refine WL.nilCheck rfl rfl ?_ | refine WL.nilCheckFn rfl rfl ?_
        refine WL.fieldAddr fld161_3 rfl rfl ?_
        refine WL.storeAt H ty30 1 rfl rfl rfl rfl (by simp [Value.cells, Value.oneCell']) (Nat.le_refl 4) ?_
        intro wx H
        refine (WL.done (WX.next ?_))
        refine WC.seq ?_
        refine WC.region ?_
        refine WL.assign rfl rfl ?_
        refine (WL.done (WX.next ?_))
        refine (WC.ret ?_)
        refine ret_one rfl rfl ?_
        have hcutI : i = cuts.length := by omega
        obtain ⟨hd1, hd2⟩ := hC.done hF.ok hall
        refine ⟨(R.like g1).crashed X, by rw [hcutsOk]; rfl, rfl, ?_, RM.crashed_ok hF.ok hC.len hd2, ?_⟩
        · unfold PM.crash
          rw [if_pos hcutsOk]
          have e1 := hF.ls
          rw [hcutI, List.take_length] at e1
          rw [← e1]
          show PM.mk (X.map Prod.fst) 0 [] = PM.mk (((R.like g1).X.map Prod.fst).map drop0) 0 []
          rw [hd1, List.map_map]
          rfl
        · exact H.tail.weaken (List.Sublist.cons_cons _ (List.Sublist.cons_cons _ (List.Sublist.cons_cons _ (List.sublist_append_right _ _))))

end Go.Proofs.YtkncbggnaobgeaaDoor
