/- Walks of functions of the program; printed by a program of this session (walk.py) out of hand-written hints. -/
import Derived.Test.YtkncbggnaobgeaaDoorMem7
namespace Go.Proofs.YtkncbggnaobgeaaDoor
open Go.RowKit
set_option linter.unusedVariables false
set_option linter.unusedSimpArgs false
set_option maxRecDepth 100000

theorem cloneE_row (r : Row) (n : Nat) (xs : List Value) (hok : r.ok 12 n xs) (h1 : ∀ u ∈ xs, u.oneCell' = true) (w : World) (hs : ∀ q ∈ r.hp 164, w.heap[q.1]? = some q.2) (hn : n ≤ 1073741824) :
    Calls Tryd.prog 100 #[r.val n] w fun e w' => ∃ r' : Row, e = .returned (r'.val n) ∧ r'.ok 12 n xs ∧ St w [] w' (r'.hp 164) := by
  cases r with
  | none =>
    obtain ⟨rfl, rfl⟩ := hok
    refine (cloneE_nil w).mono ?_
    rintro _ _ ⟨rfl, rfl⟩
    exact ⟨.none, rfl, ⟨rfl, rfl⟩, St.refl _⟩
  | some g cap cur => exact cloneE_any g 0 n cap cur 164 w (hs _ List.mem_cons_self) xs hok.1 (fun j u hj => by rw [Nat.zero_add]; exact Row.ok_get hok hj) h1 hn
theorem cloneP_row (r : Row) (n : Nat) (xs : List Value) (hok : r.ok 2 n xs) (h1 : ∀ u ∈ xs, u.oneCell' = true) (w : World) (hs : ∀ q ∈ r.hp 111, w.heap[q.1]? = some q.2) (hn : n ≤ 1073741824) :
    Calls Tryd.prog 108 #[r.val n] w fun e w' => ∃ r' : Row, e = .returned (r'.val n) ∧ r'.ok 2 n xs ∧ St w [] w' (r'.hp 111) := by
  cases r with
  | none =>
    obtain ⟨rfl, rfl⟩ := hok
    refine (cloneP_nil w).mono ?_
    rintro _ _ ⟨rfl, rfl⟩
    exact ⟨.none, rfl, ⟨rfl, rfl⟩, St.refl _⟩
  | some g cap cur => exact cloneP_any g 0 n cap cur 111 w (hs _ List.mem_cons_self) xs hok.1 (fun j u hj => by rw [Nat.zero_add]; exact Row.ok_get hok hj) h1 hn
def PM.pend (M : PM) (n : Int) : List (Int × Int) := if M.has n then (M.line n).ps else []
theorem RM.er_mem {R : RM} : ∀ q ∈ R.er.hp 164, q ∈ R.hp := fun q hq => List.mem_cons_of_mem _ (List.mem_cons_of_mem _ (List.mem_cons_of_mem _ (List.mem_append_left _ hq)))
/-- New blocks alone: nothing that lay has changed. -/
theorem St.sameL {w w' : World} {M L : Hp} (h : St w (M.map Prod.fst) w' (L ++ M)) (hs : ∀ q ∈ M, w.heap[q.1]? = some q.2) : St w [] w' L := by
  refine ⟨h.os, h.tape, h.output, h.size, fun k hk _ => ?_, h.nd.sublist ((List.sublist_append_left _ _).map _), fun q hq => h.sat q (List.mem_append_left _ hq), fun q hq => .inr ?_⟩
  · by_cases hm : k ∈ M.map Prod.fst
    · obtain ⟨q, hq, rfl⟩ := List.mem_map.1 hm
      rw [h.sat q (List.mem_append_right _ hq), hs q hq]
    · exact h.old k hk hm
  · rcases h.own q (List.mem_append_left _ hq) with hm | hg
    · exfalso
      have hnd := h.nd
      rw [List.map_append, List.nodup_append] at hnd
      exact hnd.2.2 _ (List.mem_map_of_mem hq) _ hm rfl
    · exact hg

theorem span_any (R : RM) (n : Int) (hn : n ≤ 9223372036854775807) (w : World) (hm : MemIn w R) : Calls Tryd.prog 61 #[.pointer (some ⟨R.p, 0, none⟩), .int .i64 n] w fun e w' => ∃ R' : RM, e = .returned (.tuple #[]) ∧ R'.p = R.p ∧ R'.abs = { R.abs with span := if 0 > n then 0 else n } ∧ R'.ok ∧ St w (R.hp.map Prod.fst) w' R'.hp := by
  refine calls_walk_n (args := [.pointer (some ⟨R.p, 0, none⟩), .int .i64 n]) Tryd.func61 rfl rfl rfl ?_
  have H := hm.start
  refine WC.region ?_
  refine WL.move rfl rfl ?_
  refine WL.move rfl rfl ?_
  refine WL.max2 rfl rfl rfl ?_
  first | refine WL.nilCheck rfl rfl ?_ | refine WL.nilCheckFn rfl rfl ?_
  refine WL.fieldAddr fld161_2 rfl rfl ?_
  first | (refine WL.storeAt H ty3 0 rfl rfl rfl rfl (by simp [Value.cells, Value.oneCell']) (by first | decide | (simp only [wr_size]; decide) | simp [wr_size]) ?_) | (refine WL.storeAt H ty3 1 rfl rfl rfl rfl (by simp [Value.cells, Value.oneCell']) (by first | decide | (simp only [wr_size]; decide) | simp [wr_size]) ?_) | (refine WL.storeAt H ty3 2 rfl rfl rfl rfl (by simp [Value.cells, Value.oneCell']) (by first | decide | (simp only [wr_size]; decide) | simp [wr_size]) ?_)
  intro wx H
  refine (WL.done ?_)
  refine end_none rfl ?_
  refine ⟨{ R with span := if 0 > n then 0 else n }, rfl, rfl, rfl, ⟨hm.ok.len, hm.ok.lcap, hm.ok.junk, hm.ok.lines, hm.ok.map, hm.ok.busy, hm.ok.evs, hm.ok.er, ?_⟩, H⟩
  show 0 ≤ (if 0 > n then 0 else n) ∧ (if 0 > n then 0 else n) ≤ _
  split <;> omega

theorem forget_any (R : RM) (w : World) (hm : MemIn w R) : Calls Tryd.prog 112 #[.pointer (some ⟨R.p, 0, none⟩)] w fun e w' => ∃ R' : RM, e = .returned (.tuple #[]) ∧ R'.p = R.p ∧ R'.abs = { R.abs with evs := [] } ∧ R'.ok ∧ St w (R.hp.map Prod.fst) w' R'.hp := by
  refine calls_walk_n (args := [.pointer (some ⟨R.p, 0, none⟩)]) Tryd.func112 rfl rfl rfl ?_
  have H := hm.start
  refine WC.region ?_
  refine WL.move rfl rfl ?_
  first | refine WL.nilCheck rfl rfl ?_ | refine WL.nilCheckFn rfl rfl ?_
  refine WL.fieldAddr fld161_3 rfl rfl ?_
  refine WL.storeAt H ty30 0 rfl rfl rfl rfl (by simp [Value.cells, Value.oneCell']) (Nat.le_refl 4) ?_
  intro wx H
  refine (WL.done ?_)
  refine end_none rfl ?_
  refine ⟨{ R with evs := [], er := .none }, rfl, rfl, rfl, ⟨hm.ok.len, hm.ok.lcap, hm.ok.junk, hm.ok.lines, hm.ok.map, hm.ok.busy, by simp, ⟨rfl, rfl⟩, hm.ok.span⟩, ?_⟩
  exact H.weaken (List.Sublist.cons_cons _ (List.Sublist.cons_cons _ (List.Sublist.cons_cons _ (List.sublist_append_right _ _))))

theorem events_any (R : RM) (hsm : R.evs.length ≤ 1073741824) (w : World) (hm : MemIn w R) : Calls Tryd.prog 27 #[.pointer (some ⟨R.p, 0, none⟩)] w fun e w' => ∃ r : Row, e = .returned (r.val R.evs.length) ∧ r.ok 12 R.evs.length (flatE R.evs) ∧ St w [] w' (r.hp 164) := by
  refine calls_walk_n (args := [.pointer (some ⟨R.p, 0, none⟩)]) Tryd.func27 rfl rfl rfl ?_
  have H := hm.start
  refine WC.seq ?_
  refine WC.region ?_
  refine WL.assign rfl rfl ?_
  refine (WL.done (WX.next ?_))
  refine WC.seq ?_
  refine WC.region ?_
  refine WL.move rfl rfl ?_
  first | refine WL.nilCheck rfl rfl ?_ | refine WL.nilCheckFn rfl rfl ?_
  refine WL.fieldAddr fld161_3 rfl rfl ?_
  first | refine WL.load rfl (H.rd1 ty30 0 rfl rfl) rfl ?_ | refine WL.load rfl (H.rd1 ty30 1 rfl rfl) rfl ?_ | refine WL.load rfl (H.rd1 ty30 2 rfl rfl) rfl ?_ | refine WL.load rfl (H.rdA ty30 0 rfl (by decide)) rfl ?_ | refine WL.load rfl (H.rdA ty30 1 rfl (by decide)) rfl ?_ | refine WL.load rfl (H.rdA ty30 2 rfl (by decide)) rfl ?_
  refine WL.call call100 rfl rfl ?_
  refine Calls.mono (cloneE_row R.er R.evs.length _ hm.ok.er (flatE_one _) _ (fun q hq => H.sat q (RM.er_mem q hq)) hsm) ?_
  rintro _ wx ⟨r', rfl, hr', Hc⟩
  refine ⟨_, rfl, ?_⟩
  replace H := H.call Hc
  refine WL.assign rfl rfl ?_
  refine (WL.done (WX.next ?_))
  refine (WC.ret ?_)
  refine ret_one rfl rfl ?_
  exact ⟨r', rfl, hr', St.sameL H hm.sat⟩

theorem pending_any (R : RM) (n : Int) (hps : ∀ x ∈ R.X, x.1.ps.length ≤ 1073741824) (w : World) (hm : MemIn w R) : Calls Tryd.prog 39 #[.pointer (some ⟨R.p, 0, none⟩), .int .i64 n] w fun e w' => ∃ r : Row, e = .returned (r.val (R.abs.pend n).length) ∧ r.ok 2 (R.abs.pend n).length (flatP (R.abs.pend n)) ∧ St w [] w' (r.hp 111) := by
  refine calls_walk_n (args := [.pointer (some ⟨R.p, 0, none⟩), .int .i64 n]) Tryd.func39 rfl rfl rfl ?_
  have H := hm.start
  refine WC.seq ?_
  refine WC.region ?_
  refine WL.assign rfl rfl ?_
  refine (WL.done (WX.next ?_))
  refine WC.seq ?_
  refine WC.seq ?_
  refine WC.region ?_
  refine WL.move rfl rfl ?_
  refine WL.move rfl rfl ?_
  refine WL.call call101 rfl rfl ?_
  refine Calls.mono (has_any R _ _ hm) ?_
  rintro _ wx ⟨rfl, rfl⟩
  refine ⟨_, rfl, ?_⟩
  refine WL.notOp rfl rfl ?_
  refine (WL.done (WX.next ?_))
  first | refine WC.cond_dec rfl (fun c1 => ?_) (fun c1 => ?_) | refine WC.cond rfl (fun c1 => ?_) (fun c1 => ?_)
  · -- c1 T
    have hh : pHas R n = false := by simpa only [Bool.not_eq_true'] using c1
    refine WC.seq ?_
    refine WC.region ?_
    refine WL.assign rfl rfl ?_
    refine (WL.done (WX.next ?_))
    refine (WC.ret (WX.then_ret ?_))
    refine ret_one rfl rfl ?_
    have e1 : R.abs.pend n = [] := by unfold PM.pend; rw [abs_has, hh]; rfl
    rw [e1]
    exact ⟨.none, rfl, ⟨rfl, rfl⟩, H.same (L := []) hm.sat⟩
  · -- c1 F
    have hh : pHas R n = true := by simpa only [Bool.not_eq_false'] using c1
    obtain ⟨hn0, hn1⟩ := pHas_iff.1 hh
    obtain ⟨k, rfl⟩ : ∃ k : Nat, n = (k : Int) := ⟨n.toNat, by omega⟩
    obtain ⟨A, l, r, B, hX, hA, hal, hok, hr, hget⟩ := hm.ok.at (k := k) (by omega)
    replace H := St.focus (L := []) hX H
    refine (WC.skip (WX.next ?_))
    refine WC.seq ?_
    refine WC.region ?_
    refine WL.move rfl rfl ?_
    first | refine WL.nilCheck rfl rfl ?_ | refine WL.nilCheckFn rfl rfl ?_
    refine WL.fieldAddr fld161_0 rfl rfl ?_
    first | refine WL.load rfl (H.rd1 ty156 0 rfl rfl) rfl ?_ | refine WL.load rfl (H.rd1 ty156 1 rfl rfl) rfl ?_ | refine WL.load rfl (H.rd1 ty156 2 rfl rfl) rfl ?_ | refine WL.load rfl (H.rdA ty156 0 rfl (by decide)) rfl ?_ | refine WL.load rfl (H.rdA ty156 1 rfl (by decide)) rfl ?_ | refine WL.load rfl (H.rdA ty156 2 rfl (by decide)) rfl ?_
    refine WL.move rfl rfl ?_
    refine WL.idxSlc (k := k) slc156 rfl rfl (by first | rfl | omega) (by omega) rfl ?_
    refine WL.fieldAddr fld158_1 rfl rfl ?_
    first | refine WL.load rfl (Rd.lineS ty52 (H.blk 1 rfl) (by omega) hok.1) rfl ?_
    refine WL.call call108 rfl rfl ?_
    refine Calls.mono (cloneP_row r l.ps.length _ hr (flatP_one _) _ (fun q hq => H.sat q (fhp_row q hq)) (hps (l, r) (List.mem_of_getElem? hget))) ?_
    rintro _ wx ⟨r', rfl, hr', Hc⟩
    refine ⟨_, rfl, ?_⟩
    replace H := H.call Hc
    refine WL.assign rfl rfl ?_
    refine (WL.done (WX.next ?_))
    refine (WC.ret ?_)
    refine ret_one rfl rfl ?_
    have e1 : R.abs.pend (k : Int) = l.ps := by unfold PM.pend; rw [abs_has, hh, if_pos rfl, abs_line hget]
    rw [e1]
    exact ⟨r', rfl, hr', St.sameL (St.unfocus hX H) hm.sat⟩

end Go.Proofs.YtkncbggnaobgeaaDoor
