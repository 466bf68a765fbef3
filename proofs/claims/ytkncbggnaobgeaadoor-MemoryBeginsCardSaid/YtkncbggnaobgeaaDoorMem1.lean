/- Walks of functions of the program; printed by a program of this session (walk.py) out of hand-written hints. -/
import Derived.Test.YtkncbggnaobgeaaDoorCode5
import Derived.Test.YtkncbggnaobgeaaDoorTya
namespace Go.Proofs.YtkncbggnaobgeaaDoor
open Go.RowKit
set_option linter.unusedVariables false
set_option linter.unusedSimpArgs false
set_option maxRecDepth 100000

theorem RM.ok.l8 {R : RM} (h : R.ok) : ∀ x ∈ R.X, x.1.ws.length = 8 := fun x hx => (h.lines x hx).1.1
/-- The eyes on line k. -/
theorem RM.ok.at {R : RM} (h : R.ok) {k : Nat} (hk : k < R.X.length) : ∃ A l r B, R.X = A ++ (l, r) :: B ∧ A.length = k ∧ (linesC A).length = 11 * k ∧ l.ok ∧ r.ok 2 l.ps.length (flatP l.ps) ∧ R.X[k]? = some (l, r) := by
  obtain ⟨A, ⟨l, r⟩, B, hX, hA⟩ := split_at hk
  have hmem : (l, r) ∈ R.X := by rw [hX]; simp
  refine ⟨A, l, r, B, hX, hA, ?_, (h.lines _ hmem).1, (h.lines _ hmem).2, ?_⟩
  · rw [linesC_length (fun x hx => h.l8 x (by rw [hX]; exact List.mem_append_left _ hx)), hA]
  · rw [hX, List.getElem?_append_right (by omega), hA, Nat.sub_self]; rfl
def pHas (R : RM) (n : Int) : Bool := decide (0 ≤ n) && decide (n < R.X.length)
theorem pHas_iff {R : RM} {n : Int} : pHas R n = true ↔ 0 ≤ n ∧ n < R.X.length := by simp [pHas]
theorem pHas_no {R : RM} {n : Int} : pHas R n = false ↔ ¬ (0 ≤ n ∧ n < R.X.length) := by
  cases h : pHas R n with
  | true => simp [pHas_iff.1 h]
  | false => simp; intro h1; have : ¬ (0 ≤ n ∧ n < R.X.length) := fun hh => by rw [pHas_iff.2 hh] at h; cases h
             omega

theorem has_any (R : RM) (n : Int) (w : World) (hm : MemIn w R) : Calls Tryd.prog 101 #[.pointer (some ⟨R.p, 0, none⟩), .int .i64 n] w fun e w' => e = .returned (.bool (pHas R n)) ∧ w' = w := by
  refine calls_walk_n (args := [.pointer (some ⟨R.p, 0, none⟩), .int .i64 n]) Tryd.func101 rfl rfl rfl ?_
  have H := hm.start
  refine WC.seq ?_
  refine WC.region ?_
  refine WL.assign rfl rfl ?_
  refine (WL.done (WX.next ?_))
  refine WC.seq ?_
  refine WC.region ?_
  refine WL.move rfl rfl ?_
  refine WL.bin rfl rfl binv_geq rfl ?_
  refine WL.move rfl rfl ?_
  first | refine WL.splitD (t := 7) rfl (fun g1 => ?_) (fun g1 => ?_) | refine WL.split (t := 7) rfl (fun g1 => ?_) (fun g1 => ?_)
  · -- g1 True
    refine WL.yes rfl rfl ?_
    refine WL.move rfl rfl ?_
    refine WL.yes rfl rfl ?_
    refine WL.move rfl rfl ?_
    refine WL.yes rfl rfl ?_
    first | refine WL.nilCheck rfl rfl ?_ | refine WL.nilCheckFn rfl rfl ?_
    refine WL.yes rfl rfl ?_
    refine WL.fieldAddr fld161_0 rfl rfl ?_
    refine WL.yes rfl rfl ?_
    first | refine WL.load rfl (H.rd1 ty156 0 rfl rfl) rfl ?_ | refine WL.load rfl (H.rd1 ty156 1 rfl rfl) rfl ?_ | refine WL.load rfl (H.rd1 ty156 2 rfl rfl) rfl ?_ | refine WL.load rfl (H.rdA ty156 0 rfl (by decide)) rfl ?_ | refine WL.load rfl (H.rdA ty156 1 rfl (by decide)) rfl ?_ | refine WL.load rfl (H.rdA ty156 2 rfl (by decide)) rfl ?_
    refine WL.yes rfl rfl ?_
    refine WL.lenSlc isl156 rfl rfl ?_
    refine WL.yes rfl rfl ?_
    refine WL.bin rfl rfl binv_lss rfl ?_
    refine WL.pickT rfl rfl rfl ?_
    refine WL.assign rfl rfl ?_
    refine (WL.done (WX.next ?_))
    refine (WC.ret ?_)
    refine ret_one rfl rfl ?_
    exact ⟨by unfold pHas; simp [g1], rfl⟩
  · -- g1 False
    refine WL.no rfl rfl rfl ?_
    refine WL.no rfl rfl rfl ?_
    refine WL.no rfl rfl rfl ?_
    refine WL.no rfl rfl rfl ?_
    refine WL.no rfl rfl rfl ?_
    refine WL.no rfl rfl rfl ?_
    refine WL.no rfl rfl rfl ?_
    refine WL.pickF rfl rfl rfl ?_
    refine WL.assign rfl rfl ?_
    refine (WL.done (WX.next ?_))
    refine (WC.ret ?_)
    refine ret_one rfl rfl ?_
    exact ⟨by unfold pHas; simp [g1], rfl⟩

theorem lines_any (R : RM) (w : World) (hm : MemIn w R) : Calls Tryd.prog 26 #[.pointer (some ⟨R.p, 0, none⟩)] w fun e w' => e = .returned (.int .i64 (R.X.length : Int)) ∧ w' = w := by
  refine calls_walk_n (args := [.pointer (some ⟨R.p, 0, none⟩)]) Tryd.func26 rfl rfl rfl ?_
  have H := hm.start
  refine WC.seq ?_
  refine WC.region ?_
  refine WL.assign rfl rfl ?_
  refine (WL.done (WX.next ?_))
  refine WC.seq ?_
  refine WC.region ?_
  refine WL.move rfl rfl ?_
  first | refine WL.nilCheck rfl rfl ?_ | refine WL.nilCheckFn rfl rfl ?_
  refine WL.fieldAddr fld161_0 rfl rfl ?_
  first | refine WL.load rfl (H.rd1 ty156 0 rfl rfl) rfl ?_ | refine WL.load rfl (H.rd1 ty156 1 rfl rfl) rfl ?_ | refine WL.load rfl (H.rd1 ty156 2 rfl rfl) rfl ?_ | refine WL.load rfl (H.rdA ty156 0 rfl (by decide)) rfl ?_ | refine WL.load rfl (H.rdA ty156 1 rfl (by decide)) rfl ?_ | refine WL.load rfl (H.rdA ty156 2 rfl (by decide)) rfl ?_
  refine WL.lenSlc isl156 rfl rfl ?_
  refine WL.assign rfl rfl ?_
  refine (WL.done (WX.next ?_))
  refine (WC.ret ?_)
  refine ret_one rfl rfl ?_
  exact ⟨rfl, rfl⟩

theorem state_any (R : RM) (n : Int) (w : World) (hm : MemIn w R) (hL : L64 w) : Calls Tryd.prog 31 #[.pointer (some ⟨R.p, 0, none⟩), .int .i64 n] w fun e w' => e = .returned (.int .i64 (if pHas R n then (match R.X[n.toNat]? with | some x => (chk x.1.ws x.1.c).1 | none => 0) else -1)) ∧ St w [] w' [] := by
  refine calls_walk_n (args := [.pointer (some ⟨R.p, 0, none⟩), .int .i64 n]) Tryd.func31 rfl rfl rfl ?_
  have H := hm.start
  refine WC.seq ?_
  refine WC.region ?_
  refine WL.assign rfl rfl ?_
  refine (WL.done (WX.next ?_))
  refine WC.seq ?_
  refine WC.seq ?_
  refine WC.region ?_
  refine WL.move rfl rfl ?_
  refine WL.move rfl rfl ?_
  refine WL.call call101 rfl rfl ?_
  refine Calls.mono (has_any R n _ hm) ?_
  rintro _ wx ⟨rfl, rfl⟩
  refine ⟨_, rfl, ?_⟩
  refine WL.notOp rfl rfl ?_
  refine (WL.done (WX.next ?_))
  first | refine WC.cond_dec rfl (fun c1 => ?_) (fun c1 => ?_) | refine WC.cond rfl (fun c1 => ?_) (fun c1 => ?_)
  · -- c1 T
    have hh : pHas R n = false := by cases hh : pHas R n <;> simp [hh] at c1 ⊢
    refine WC.seq ?_
    refine WC.region ?_
    refine WL.assign rfl rfl ?_
    refine (WL.done (WX.next ?_))
    refine (WC.ret (WX.then_ret ?_))
    refine ret_one rfl rfl ?_
    rw [hh]
    exact ⟨rfl, H.same (L := []) hm.sat⟩
  · -- c1 F
    have hh : pHas R n = true := by cases hh : pHas R n <;> simp [hh] at c1 ⊢
    obtain ⟨hn0, hn1⟩ := pHas_iff.1 hh
    obtain ⟨k, rfl⟩ : ∃ k : Nat, n = (k : Int) := ⟨n.toNat, by omega⟩
    obtain ⟨A, l, r, B, hX, hA, ha, hok, hr, hget⟩ := hm.ok.at (k := k) (by omega)
    replace H := St.focus (L := []) hX H
    refine (WC.skip (WX.next ?_))
    refine WC.seq ?_
    replace H := H.drew
    refine WC.held (SX (World.drew wx) []) (by kernel_rfl) ?_
    generalize World.drew wx = wb at H ⊢
    have HB := St.refl wb
    refine WH.take 0 rfl (by kernel_rfl) (by kernel_rfl) (by kernel_rfl) (fun _ _ _ h => h) ⟨_, HB⟩ (fun w' hS => EX.move rfl) rfl ?_
    refine WH.take 1 rfl (by kernel_rfl) (by kernel_rfl) (by kernel_rfl) (fun _ _ _ h => h) ⟨_, HB⟩ (fun w' hS => EX.nilCheck rfl) rfl ?_
    refine WH.take 2 rfl (by kernel_rfl) (by kernel_rfl) (by kernel_rfl) (fun _ _ _ h => h) ⟨_, HB⟩ (fun w' hS => EX.fieldAddr fld161_0 rfl) rfl ?_
    first | refine WH.take 3 rfl (by kernel_rfl) (by kernel_rfl) (by kernel_rfl) (fun _ _ _ h => h) ⟨_, HB⟩ (fun w' hS => EX.load rfl (hS.rd1 ty156 (H.blk 0 rfl) (by simp) rfl)) rfl ?_ | refine WH.take 3 rfl (by kernel_rfl) (by kernel_rfl) (by kernel_rfl) (fun _ _ _ h => h) ⟨_, HB⟩ (fun w' hS => EX.load rfl (hS.rdA ty156 (H.blk 0 rfl) (by simp) (by decide))) rfl ?_ | refine WH.take 3 rfl (by kernel_rfl) (by kernel_rfl) (by kernel_rfl) (fun _ _ _ h => h) ⟨_, HB⟩ (fun w' hS => EX.load rfl (hS.rd1 ty156 (H.blk 1 rfl) (by simp) rfl)) rfl ?_ | refine WH.take 3 rfl (by kernel_rfl) (by kernel_rfl) (by kernel_rfl) (fun _ _ _ h => h) ⟨_, HB⟩ (fun w' hS => EX.load rfl (hS.rdA ty156 (H.blk 1 rfl) (by simp) (by decide))) rfl ?_ | refine WH.take 3 rfl (by kernel_rfl) (by kernel_rfl) (by kernel_rfl) (fun _ _ _ h => h) ⟨_, HB⟩ (fun w' hS => EX.load rfl (hS.rd1 ty156 (H.blk 2 rfl) (by simp) rfl)) rfl ?_ | refine WH.take 3 rfl (by kernel_rfl) (by kernel_rfl) (by kernel_rfl) (fun _ _ _ h => h) ⟨_, HB⟩ (fun w' hS => EX.load rfl (hS.rdA ty156 (H.blk 2 rfl) (by simp) (by decide))) rfl ?_
    refine WH.take 4 rfl (by kernel_rfl) (by kernel_rfl) (by kernel_rfl) (fun _ _ _ h => h) ⟨_, HB⟩ (fun w' hS => EX.move rfl) rfl ?_
    refine WH.take 5 rfl (by kernel_rfl) (by kernel_rfl) (by kernel_rfl) (fun _ _ _ h => h) ⟨_, HB⟩ (fun w' hS => EX.idxSlc (k := k) slc156 rfl rfl (by first | rfl | omega) (by omega)) rfl ?_
    refine WH.take 6 rfl (by kernel_rfl) (by kernel_rfl) (by kernel_rfl) (fun _ _ _ h => h) ⟨_, HB⟩ (fun w' hS => EX.fieldAddr fld158_0 rfl) rfl ?_
    refine WH.take 7 rfl (by kernel_rfl) (by kernel_rfl) (by kernel_rfl) (fun _ _ _ h => h) ⟨_, HB⟩ (fun w' hS => EX.fieldAddr fld40_0 rfl) rfl ?_
    first | refine WH.take 8 rfl (by kernel_rfl) (by kernel_rfl) (by kernel_rfl) (fun _ _ _ h => h) ⟨_, HB⟩ (fun w' hS => EX.load rfl (Rd.lineW ty38 (hS.choose_spec.sat _ (List.mem_cons_of_mem _ List.mem_cons_self)) (by omega) hok.1)) rfl ?_ | refine WH.take 8 rfl (by kernel_rfl) (by kernel_rfl) (by kernel_rfl) (fun _ _ _ h => h) ⟨_, HB⟩ (fun w' hS => EX.load rfl (Rd.lineW ty38 (hS.block (H.blk 1 rfl) (by simp)) (by omega) hok.1)) rfl ?_
    refine WH.take 9 rfl (by kernel_rfl) (by kernel_rfl) (by kernel_rfl) (fun _ _ _ h => h) ⟨_, HB⟩ (fun w' hS => EX.move rfl) rfl ?_
    refine WH.take 10 rfl (by kernel_rfl) (by kernel_rfl) (by kernel_rfl) (fun _ _ _ h => h) ⟨_, HB⟩ (fun w' hS => EX.nilCheck rfl) rfl ?_
    refine WH.take 11 rfl (by kernel_rfl) (by kernel_rfl) (by kernel_rfl) (fun _ _ _ h => h) ⟨_, HB⟩ (fun w' hS => EX.fieldAddr fld161_0 rfl) rfl ?_
    first | refine WH.take 12 rfl (by kernel_rfl) (by kernel_rfl) (by kernel_rfl) (fun _ _ _ h => h) ⟨_, HB⟩ (fun w' hS => EX.load rfl (hS.rd1 ty156 (H.blk 0 rfl) (by simp) rfl)) rfl ?_ | refine WH.take 12 rfl (by kernel_rfl) (by kernel_rfl) (by kernel_rfl) (fun _ _ _ h => h) ⟨_, HB⟩ (fun w' hS => EX.load rfl (hS.rdA ty156 (H.blk 0 rfl) (by simp) (by decide))) rfl ?_ | refine WH.take 12 rfl (by kernel_rfl) (by kernel_rfl) (by kernel_rfl) (fun _ _ _ h => h) ⟨_, HB⟩ (fun w' hS => EX.load rfl (hS.rd1 ty156 (H.blk 1 rfl) (by simp) rfl)) rfl ?_ | refine WH.take 12 rfl (by kernel_rfl) (by kernel_rfl) (by kernel_rfl) (fun _ _ _ h => h) ⟨_, HB⟩ (fun w' hS => EX.load rfl (hS.rdA ty156 (H.blk 1 rfl) (by simp) (by decide))) rfl ?_ | refine WH.take 12 rfl (by kernel_rfl) (by kernel_rfl) (by kernel_rfl) (fun _ _ _ h => h) ⟨_, HB⟩ (fun w' hS => EX.load rfl (hS.rd1 ty156 (H.blk 2 rfl) (by simp) rfl)) rfl ?_ | refine WH.take 12 rfl (by kernel_rfl) (by kernel_rfl) (by kernel_rfl) (fun _ _ _ h => h) ⟨_, HB⟩ (fun w' hS => EX.load rfl (hS.rdA ty156 (H.blk 2 rfl) (by simp) (by decide))) rfl ?_
    refine WH.take 13 rfl (by kernel_rfl) (by kernel_rfl) (by kernel_rfl) (fun _ _ _ h => h) ⟨_, HB⟩ (fun w' hS => EX.move rfl) rfl ?_
    refine WH.take 14 rfl (by kernel_rfl) (by kernel_rfl) (by kernel_rfl) (fun _ _ _ h => h) ⟨_, HB⟩ (fun w' hS => EX.idxSlc (k := k) slc156 rfl rfl (by first | rfl | omega) (by omega)) rfl ?_
    refine WH.take 15 rfl (by kernel_rfl) (by kernel_rfl) (by kernel_rfl) (fun _ _ _ h => h) ⟨_, HB⟩ (fun w' hS => EX.fieldAddr fld158_0 rfl) rfl ?_
    refine WH.take 16 rfl (by kernel_rfl) (by kernel_rfl) (by kernel_rfl) (fun _ _ _ h => h) ⟨_, HB⟩ (fun w' hS => EX.fieldAddr fld40_1 rfl) rfl ?_
    first | refine WH.take 17 rfl (by kernel_rfl) (by kernel_rfl) (by kernel_rfl) (fun _ _ _ h => h) ⟨_, HB⟩ (fun w' hS => EX.load rfl (Rd.lineCo ty3 (hS.block (H.blk 1 rfl) (by simp)) (by omega) hok.1)) rfl ?_
    refine WH.hard 18 rfl (by kernel_rfl) ?_
    refine WL.call call102 rfl rfl ?_
    refine Calls.mono (chk_any l.ws hok.1 l.c _ (hL.of H hm.n3)) ?_
    rintro _ wx ⟨rfl, Hc⟩
    refine ⟨_, rfl, ?_⟩
    replace HB := HB.call0 Hc
    refine WL.done (WX.heldOn ⟨_, HB⟩ ?_)
    refine WH.take 19 rfl (by kernel_rfl) (by kernel_rfl) (by kernel_rfl) (fun _ _ _ h => h) ⟨_, HB⟩ (fun w' hS => EX.move rfl) rfl ?_
    refine WH.take 20 rfl (by kernel_rfl) (by kernel_rfl) (by kernel_rfl) (fun _ _ _ h => h) ⟨_, HB⟩ (fun w' hS => EX.extract rfl rfl) rfl ?_
    refine WH.take 21 rfl (by kernel_rfl) (by kernel_rfl) (by kernel_rfl) (fun _ _ _ h => h) ⟨_, HB⟩ (fun w' hS => EX.extract rfl rfl) rfl ?_
    refine WH.take 22 rfl (by kernel_rfl) (by kernel_rfl) (by kernel_rfl) (fun _ _ _ h => h) ⟨_, HB⟩ (fun w' hS => EX.extract rfl rfl) rfl ?_
    refine WH.take 23 rfl (by kernel_rfl) (by kernel_rfl) (by kernel_rfl) (fun _ _ _ h => h) ⟨_, HB⟩ (fun w' hS => EX.assign rfl) rfl ?_
    refine WH.take 24 rfl (by kernel_rfl) (by kernel_rfl) (by kernel_rfl) (fun _ _ _ h => h) ⟨_, HB⟩ (fun w' hS => EX.assign rfl) rfl ?_
    refine WH.take 25 rfl (by kernel_rfl) (by kernel_rfl) (by kernel_rfl) (fun _ _ _ h => h) ⟨_, HB⟩ (fun w' hS => EX.assign rfl) rfl ?_
    refine WH.done (by kernel_rfl) ?_
    replace H := H.call0 HB
    refine WX.next ?_
    refine WC.seq ?_
    refine WC.region ?_
    refine WL.move rfl rfl ?_
    refine WL.assign rfl rfl ?_
    refine (WL.done (WX.next ?_))
    refine (WC.ret ?_)
    refine ret_one rfl rfl ?_
    refine ⟨by simp only [hh, if_true, Int.toNat_natCast, hget], ?_⟩
    exact ((St.unfocus (L := []) hX H).same (L := []) hm.sat)

end Go.Proofs.YtkncbggnaobgeaaDoor
