/- Walks of functions of the program; printed by a program of this session (walk.py) out of hand-written hints. -/
import Derived.Test.YtkncbggnaobgeaaDoorMem3
namespace Go.Proofs.YtkncbggnaobgeaaDoor
open Go.RowKit
set_option linter.unusedVariables false
set_option linter.unusedSimpArgs false
set_option maxRecDepth 100000

/-- What a line's being busy or not makes of the map. -/
def pRest (mp : List (Int × Nat)) (clk : Nat) (n : Int) (ps : List (Int × Int)) : List (Int × Nat) × Nat := if ps = [] then (mDel mp n, clk) else (mIns mp clk n, mClk mp clk n)
theorem fhp_row {p lb len lcap mb : Nat} {mp : List (Int × Nat)} {clk : Nat} {span : Int} {er : Row} {ne : Nat} {a : List Value} {l : PL} {r : Row} {c : List Value} {Z : Hp} : ∀ q ∈ r.hp 111, q ∈ fhp p lb len lcap mb mp clk span er ne a l r c Z :=
  fun q hq => List.mem_cons_of_mem _ (List.mem_cons_of_mem _ (List.mem_cons_of_mem _ (List.mem_append_left _ hq)))
theorem St.castH {w0 w : World} {S : List Nat} {H H' : Hp} (h : St w0 S w H) (e : H = H') : St w0 S w H' := e ▸ h
theorem St.put3 {w0 w : World} {S : List Nat} {M K : Hp} {x y z : Nat × Obj} (h : St w0 S w (M ++ x :: y :: z :: K)) : St w0 S w (x :: y :: z :: (M ++ K)) := by
  refine h.perm (List.perm_middle.trans (List.Perm.cons _ (List.perm_middle.trans (List.Perm.cons _ List.perm_middle))))
theorem pSettle_len {l : PL} {k : Nat} (h8 : l.ws.length = 8) : (pSettle l k).ws.length = 8 := by
  unfold pSettle
  split
  · exact h8
  · exact pShow_len h8
/-- What a load of an address gives. -/
def pLoad (R : RM) (at_ : Int) : Int × Int :=
  if at_ < 0 then (0, 40) else if pHas R (at_ / 8) then
    (match R.X[(at_ / 8).toNat]? with
    | some x => if (pShow x.1 x.1.ps.length).2 = 0 then ((pShow x.1 x.1.ps.length).1.getD (at_ % 8).toNat 0, 0) else (0, 9)
    | none => (0, 0))
  else (0, 40)
section
variable {P : Program} {ops : Array Oper} {Q : Exit → Act → World → Prop} {n : Nat} {ds : List Deferred} {e e' : Env} {w w' w0 : World} {rest : List Oper} {S : List Nat} {H : Hp}
variable {d : Nat} {v : Value} {ty : TypeId} {pos : String} {af : Array Edge}
theorem WL.sliceLoR {T : TypeId} {sz k m g cap : Nat} {cur : Array Value} {x y : Operand} {kd : IntKind} {z : Int} (hT : slcB P T sz = true) (hx : ev e x = some ((Row.some g cap cur).val m)) (hy : ev e y = some (.int kd z)) (hz : z = (k : Int)) (hk : k ≤ m) (hdn : Nat.blt d n = true)
    (h : WL P ops Q n ds rest ((d, .slice (some ⟨g, if cap = k then 0 else k * sz, none⟩) (m - k) (cap - k)) :: e) w) : WL P ops Q n ds ({ dst := some d, op := .slice T x (some y) none none, type := ty, pos, after := af, guard := none } :: rest) e w := by
  refine WL.sliceLo hT hx hy hz hk hdn ?_
  have e1 : (if cap = k then (⟨g, 0, none⟩ : Addr) else ⟨g, 0 + k * sz, none⟩) = ⟨g, if cap = k then 0 else k * sz, none⟩ := by split <;> simp
  rw [e1]
  exact h
end

theorem load_any (R : RM) (at_ : Int) (ha : at_ ≤ 9223372036854775807) (w : World) (hm : MemIn w R) (hL : L64 w) : Calls Tryd.prog 96 #[.pointer (some ⟨R.p, 0, none⟩), .int .i64 at_] w fun e w' => e = .returned (.tuple #[.int .i64 (pLoad R at_).1, .int .i64 (pLoad R at_).2]) ∧ St w [] w' [] := by
  refine calls_walk_n (args := [.pointer (some ⟨R.p, 0, none⟩), .int .i64 at_]) Tryd.func96 rfl rfl rfl ?_
  have H := hm.start
  refine WC.seq ?_
  refine WC.region ?_
  refine WL.assign rfl rfl ?_
  refine WL.assign rfl rfl ?_
  refine (WL.done (WX.next ?_))
  refine WC.seq ?_
  refine WC.seq ?_
  refine WC.region ?_
  refine WL.move rfl rfl ?_
  refine WL.bin rfl rfl binv_lss rfl ?_
  refine WL.move rfl rfl ?_
  first | refine WL.splitD (t := 11) rfl (fun g1 => ?_) (fun g1 => ?_) | refine WL.split (t := 11) rfl (fun g1 => ?_) (fun g1 => ?_)
  · -- g1 True
    refine WL.no rfl rfl rfl ?_
    refine WL.no rfl rfl rfl ?_
    refine WL.no rfl rfl rfl ?_
    refine WL.no rfl rfl rfl ?_
    refine WL.no rfl rfl rfl ?_
    refine WL.pickT rfl rfl rfl ?_
    refine (WL.done (WX.next ?_))
    refine WC.cond_true rfl (rfl) ?_
    refine WC.seq ?_
    refine WC.region ?_
    refine WL.assign rfl rfl ?_
    refine WL.assign rfl rfl ?_
    refine (WL.done (WX.next ?_))
    refine (WC.ret (WX.then_ret ?_))
    refine ret_two rfl rfl rfl ?_
    have e1 : pLoad R at_ = (0, 40) := by unfold pLoad; rw [if_pos g1]
    rw [e1]
    exact ⟨rfl, H.same (L := []) hm.sat⟩
  · -- g1 False
    obtain ⟨q, rfl⟩ : ∃ q : Nat, at_ = (q : Int) := ⟨at_.toNat, by omega⟩
    refine WL.yes rfl rfl ?_
    refine WL.move rfl rfl ?_
    refine WL.yes rfl rfl ?_
    refine WL.move rfl rfl ?_
    refine WL.yes rfl rfl ?_
    refine WL.bin rfl rfl (iquo (by omega) (by omega) (by omega)) rfl ?_
    refine WL.yes rfl rfl ?_
    refine WL.call call101 rfl rfl ?_
    refine Calls.mono (has_any R _ _ hm) ?_
    rintro _ wx ⟨rfl, rfl⟩
    refine ⟨_, rfl, ?_⟩
    refine WL.yes rfl rfl ?_
    refine WL.notOp rfl rfl ?_
    refine WL.pickF rfl rfl rfl ?_
    refine (WL.done (WX.next ?_))
    first | refine WC.cond_dec rfl (fun c2 => ?_) (fun c2 => ?_) | refine WC.cond rfl (fun c2 => ?_) (fun c2 => ?_)
    · -- c2 T
      refine WC.seq ?_
      refine WC.region ?_
      refine WL.assign rfl rfl ?_
      refine WL.assign rfl rfl ?_
      refine (WL.done (WX.next ?_))
      refine (WC.ret (WX.then_ret ?_))
      refine ret_two rfl rfl rfl ?_
      have hh : pHas R ((q : Int) / 8) = false := by cases hh : pHas R ((q : Int) / 8) <;> simp [hh] at c2 ⊢
      have e1 : pLoad R (q : Int) = (0, 40) := by unfold pLoad; rw [if_neg (by omega), hh]; rfl
      rw [e1]
      exact ⟨rfl, H.same (L := []) hm.sat⟩
    · -- c2 F
      have hh : pHas R ((q : Int) / 8) = true := by cases hh : pHas R ((q : Int) / 8) <;> simp [hh] at c2 ⊢
      obtain ⟨hn0, hn1⟩ := pHas_iff.1 hh
      obtain ⟨k, hk⟩ : ∃ k : Nat, k = q / 8 := ⟨_, rfl⟩
      obtain ⟨A, l, r, B, hX, hA, hal, hok, hr, hget⟩ := hm.ok.at (k := k) (by omega)
      replace H := St.focus (L := []) hX H
      refine (WC.skip (WX.next ?_))
      refine WC.seq ?_
      refine WC.region ?_
      refine WL.move rfl rfl ?_
      first | refine WL.nilCheck rfl rfl ?_ | refine WL.nilCheckFn rfl rfl ?_
      refine WL.fieldAddr fld161_0 rfl rfl ?_
      first | refine WL.load rfl (H.rd1 ty156 0 rfl rfl) rfl ?_ | refine WL.load rfl (H.rd1 ty156 1 rfl rfl) rfl ?_ | refine WL.load rfl (H.rd1 ty156 2 rfl rfl) rfl ?_ | refine WL.load rfl (H.rdA ty156 0 rfl (by decide)) rfl ?_ | refine WL.load rfl (H.rdA ty156 1 rfl (by decide)) rfl ?_ | refine WL.load rfl (H.rdA ty156 2 rfl (by decide)) rfl ?_
      refine WL.move rfl rfl ?_
      refine WL.bin rfl rfl (iquo (by omega) (by omega) (by omega)) rfl ?_
      refine WL.idxSlc (k := k) slc156 rfl rfl (by first | rfl | omega) (by omega) rfl ?_
      refine WL.assign rfl rfl ?_
      refine (WL.done (WX.next ?_))
      refine WC.seq ?_
      refine WC.region ?_
      refine WL.move rfl rfl ?_
      refine WL.move rfl rfl ?_
      first | refine WL.nilCheck rfl rfl ?_ | refine WL.nilCheckFn rfl rfl ?_
      refine WL.fieldAddr fld158_1 rfl rfl ?_
      first | refine WL.load rfl (Rd.lineS ty52 (H.blk 1 rfl) (by omega) hok.1) rfl ?_
      refine WL.lenR isl52 rfl rfl ?_
      refine WL.call call105 rfl rfl ?_
      refine Calls.mono (shows_any R.lb (0 + k * 11) (linesC A) l r _ l.ps.length _ (H.blk 1 rfl) (by omega) hok hr (fun q hq => H.sat q (fhp_row q hq)) (Nat.le_refl _) (hL.of H hm.n3)) ?_
      rintro _ wx ⟨rfl, Hc⟩
      refine ⟨_, rfl, ?_⟩
      replace H := H.call0 Hc
      refine WL.move rfl rfl ?_
      refine WL.extract rfl rfl rfl ?_
      refine WL.extract rfl rfl rfl ?_
      refine WL.allocArr (ws := zeros8) H zer38 rfl rfl ?_
      intro b7 wx hb7 hge7 H
      refine WL.storeArr (ws' := (pShow l l.ps.length).1) H ty38 0 rfl rfl rfl (by rw [arrC_size]; rfl) (pShow_len hok.1) ?_
      intro wx H
      refine WL.assign rfl rfl ?_
      refine (WL.done (WX.next ?_))
      refine WC.seq ?_
      refine WC.seq ?_
      refine WC.region ?_
      refine WL.move rfl rfl ?_
      refine WL.bin rfl rfl binv_neq rfl ?_
      refine (WL.done (WX.next ?_))
      first | refine WC.cond_dec rfl (fun c3 => ?_) (fun c3 => ?_) | refine WC.cond rfl (fun c3 => ?_) (fun c3 => ?_)
      · -- c3 T
        refine WC.seq ?_
        refine WC.region ?_
        refine WL.assign rfl rfl ?_
        refine WL.assign rfl rfl ?_
        refine (WL.done (WX.next ?_))
        refine (WC.ret (WX.then_ret ?_))
        refine ret_two rfl rfl rfl ?_
        have e1 : pLoad R (q : Int) = (0, 9) := by
          unfold pLoad
          rw [if_neg (by omega), hh]
          simp only [if_true, show ((q : Int) / 8).toNat = k from by omega, hget]
          rw [if_neg (by simpa using c3)]
        rw [e1]
        exact ⟨rfl, St.same (L := [(b7, .cells (arrC (pShow l l.ps.length).1) 38)]) (St.unfocus (L := [(b7, .cells (arrC (pShow l l.ps.length).1) 38)]) hX H) hm.sat⟩
      · -- c3 F
        refine (WC.skip (WX.next ?_))
        refine WC.seq ?_
        refine WC.region ?_
        refine WL.move rfl rfl ?_
        refine WL.bin rfl rfl (irem (by omega) (by omega)) rfl ?_
        refine WL.idxArr (k := q % 8) arr38 rfl rfl (by first | rfl | omega) (by omega) rfl ?_
        refine WL.load rfl (H.rdElt ty3 0 rfl (by rw [pShow_len hok.1]; omega)) rfl ?_
        refine WL.assign rfl rfl ?_
        refine WL.assign rfl rfl ?_
        refine (WL.done (WX.next ?_))
        refine (WC.ret ?_)
        refine ret_two rfl rfl rfl ?_
        have e1 : pLoad R (q : Int) = ((pShow l l.ps.length).1.getD (q % 8) 0, 0) := by
          unfold pLoad
          rw [if_neg (by omega), hh]
          simp only [if_true, show ((q : Int) / 8).toNat = k from by omega, hget, show ((q : Int) % 8).toNat = q % 8 from by omega]
          rw [if_pos (by simpa using c3)]
        rw [e1]
        exact ⟨by simp only [Nat.zero_add, Nat.mul_one], St.same (L := [(b7, .cells (arrC (pShow l l.ps.length).1) 38)]) (St.unfocus (L := [(b7, .cells (arrC (pShow l l.ps.length).1) 38)]) hX H) hm.sat⟩

theorem rest_any (p lb len lcap mb : Nat) (mp : List (Int × Nat)) (clk : Nat) (span : Int) (er : Row) (ne : Nat) (a : List Value) (l : PL) (r : Row) (c : List Value) (Z : Hp) (n : Nat) (hn : n < len) (hal : a.length = 11 * n) (h8 : l.ws.length = 8) (w : World) (H : St w ((fhp p lb len lcap mb mp clk span er ne a l r c Z).map Prod.fst) w (fhp p lb len lcap mb mp clk span er ne a l r c Z)) : Calls Tryd.prog 173 #[.pointer (some ⟨p, 0, none⟩), .int .i64 (n : Int)] w fun e w' => e = .returned (.tuple #[]) ∧ St w ((fhp p lb len lcap mb mp clk span er ne a l r c Z).map Prod.fst) w' (fhp p lb len lcap mb (pRest mp clk n l.ps).1 (pRest mp clk n l.ps).2 span er ne a l r c Z) := by
  refine calls_walk_n (args := [.pointer (some ⟨p, 0, none⟩), .int .i64 (n : Int)]) Tryd.func173 rfl rfl rfl ?_
  refine WC.seq ?_
  refine WC.region ?_
  refine WL.move rfl rfl ?_
  first | refine WL.nilCheck rfl rfl ?_ | refine WL.nilCheckFn rfl rfl ?_
  refine WL.fieldAddr fld161_0 rfl rfl ?_
  first | refine WL.load rfl (H.rd1 ty156 0 rfl rfl) rfl ?_ | refine WL.load rfl (H.rd1 ty156 1 rfl rfl) rfl ?_ | refine WL.load rfl (H.rd1 ty156 2 rfl rfl) rfl ?_ | refine WL.load rfl (H.rdA ty156 0 rfl (by decide)) rfl ?_ | refine WL.load rfl (H.rdA ty156 1 rfl (by decide)) rfl ?_ | refine WL.load rfl (H.rdA ty156 2 rfl (by decide)) rfl ?_
  refine WL.move rfl rfl ?_
  refine WL.idxSlc (k := n) slc156 rfl rfl (by first | rfl | omega) (by omega) rfl ?_
  refine WL.fieldAddr fld158_1 rfl rfl ?_
  first | refine WL.load rfl (Rd.lineS ty52 (H.blk 1 rfl) (by omega) h8) rfl ?_
  refine WL.lenR isl52 rfl rfl ?_
  refine WL.bin rfl rfl binv_eql rfl ?_
  refine (WL.done (WX.next ?_))
  first | refine WC.cond_dec rfl (fun c1 => ?_) (fun c1 => ?_) | refine WC.cond rfl (fun c1 => ?_) (fun c1 => ?_)
  · -- c1 T
    refine WC.region ?_
    refine WL.move rfl rfl ?_
    first | refine WL.nilCheck rfl rfl ?_ | refine WL.nilCheckFn rfl rfl ?_
    refine WL.fieldAddr fld161_1 rfl rfl ?_
    first | refine WL.load rfl (H.rd1 ty159 0 rfl rfl) rfl ?_ | refine WL.load rfl (H.rd1 ty159 1 rfl rfl) rfl ?_ | refine WL.load rfl (H.rd1 ty159 2 rfl rfl) rfl ?_ | refine WL.load rfl (H.rdA ty159 0 rfl (by decide)) rfl ?_ | refine WL.load rfl (H.rdA ty159 1 rfl (by decide)) rfl ?_ | refine WL.load rfl (H.rdA ty159 2 rfl (by decide)) rfl ?_
    refine WL.move rfl rfl ?_
    refine WL.delete H map159 2 rfl rfl rfl ?_
    intro wx H
    refine (WL.done ?_)
    refine end_none rfl ?_
    have hp : l.ps = [] := List.eq_nil_of_length_eq_zero (by omega)
    have e1 : pRest mp clk n l.ps = (mDel mp n, clk) := by unfold pRest; rw [if_pos hp]
    rw [e1]
    exact ⟨rfl, H⟩
  · -- c1 F
    refine WC.region ?_
    refine WL.move rfl rfl ?_
    first | refine WL.nilCheck rfl rfl ?_ | refine WL.nilCheckFn rfl rfl ?_
    refine WL.fieldAddr fld161_1 rfl rfl ?_
    first | refine WL.load rfl (H.rd1 ty159 0 rfl rfl) rfl ?_ | refine WL.load rfl (H.rd1 ty159 1 rfl rfl) rfl ?_ | refine WL.load rfl (H.rd1 ty159 2 rfl rfl) rfl ?_ | refine WL.load rfl (H.rdA ty159 0 rfl (by decide)) rfl ?_ | refine WL.load rfl (H.rdA ty159 1 rfl (by decide)) rfl ?_ | refine WL.load rfl (H.rdA ty159 2 rfl (by decide)) rfl ?_
    refine WL.move rfl rfl ?_
    refine WL.mapUpdate H map159 2 rfl rfl rfl rfl ?_
    intro wx H
    refine (WL.done ?_)
    refine end_none rfl ?_
    have hp : l.ps ≠ [] := fun h => by rw [h] at c1; exact c1 rfl
    have e1 : pRest mp clk n l.ps = (mIns mp clk n, mClk mp clk n) := by unfold pRest; rw [if_neg hp]
    rw [e1]
    exact ⟨rfl, H⟩

theorem settle_any (p lb len lcap mb : Nat) (mp : List (Int × Nat)) (clk : Nat) (span : Int) (er : Row) (ne : Nat) (a : List Value) (l : PL) (r : Row) (c : List Value) (Z : Hp) (n k : Nat) (hn : n < len) (hal : a.length = 11 * n) (hok : l.ok) (hr : r.ok 2 l.ps.length (flatP l.ps)) (hk : k ≤ l.ps.length) (hps : l.ps.length ≤ 1073741824) (w : World) (hL : L64 w) (h3 : 3 ∉ (fhp p lb len lcap mb mp clk span er ne a l r c Z).map Prod.fst) (H : St w ((fhp p lb len lcap mb mp clk span er ne a l r c Z).map Prod.fst) w (fhp p lb len lcap mb mp clk span er ne a l r c Z)) : Calls Tryd.prog 107 #[.pointer (some ⟨p, 0, none⟩), .int .i64 (n : Int), .int .i64 (k : Int)] w fun e w' => ∃ r', e = .returned (.tuple #[]) ∧ r'.ok 2 (pSettle l k).ps.length (flatP (pSettle l k).ps) ∧ St w ((fhp p lb len lcap mb mp clk span er ne a l r c Z).map Prod.fst) w' (fhp p lb len lcap mb (if k = 0 then mp else (pRest mp clk n (pSettle l k).ps).1) (if k = 0 then clk else (pRest mp clk n (pSettle l k).ps).2) span er ne a (pSettle l k) r' c Z) := by
  refine calls_walk_n (args := [.pointer (some ⟨p, 0, none⟩), .int .i64 (n : Int), .int .i64 (k : Int)]) Tryd.func107 rfl rfl rfl ?_
  refine WC.seq ?_
  refine WC.region ?_
  refine WL.move rfl rfl ?_
  first | refine WL.nilCheck rfl rfl ?_ | refine WL.nilCheckFn rfl rfl ?_
  refine WL.fieldAddr fld161_0 rfl rfl ?_
  first | refine WL.load rfl (H.rd1 ty156 0 rfl rfl) rfl ?_ | refine WL.load rfl (H.rd1 ty156 1 rfl rfl) rfl ?_ | refine WL.load rfl (H.rd1 ty156 2 rfl rfl) rfl ?_ | refine WL.load rfl (H.rdA ty156 0 rfl (by decide)) rfl ?_ | refine WL.load rfl (H.rdA ty156 1 rfl (by decide)) rfl ?_ | refine WL.load rfl (H.rdA ty156 2 rfl (by decide)) rfl ?_
  refine WL.move rfl rfl ?_
  refine WL.idxSlc (k := n) slc156 rfl rfl (by first | rfl | omega) (by omega) rfl ?_
  refine WL.assign rfl rfl ?_
  refine (WL.done (WX.next ?_))
  refine WC.seq ?_
  refine WC.seq ?_
  refine WC.region ?_
  refine WL.move rfl rfl ?_
  refine WL.bin rfl rfl binv_eql rfl ?_
  refine (WL.done (WX.next ?_))
  first | refine WC.cond_dec rfl (fun c1 => ?_) (fun c1 => ?_) | refine WC.cond rfl (fun c1 => ?_) (fun c1 => ?_)
  · -- c1 T
    refine (WC.ret (WX.then_ret ?_))
    refine ret_none rfl ?_
    obtain rfl : k = 0 := by omega
    rw [show pSettle l 0 = l from rfl, if_pos rfl, if_pos rfl]
    exact ⟨r, rfl, hr, H⟩
  · -- c1 F
    refine (WC.skip (WX.next ?_))
    refine WC.seq ?_
    refine WC.region ?_
    have hk1 : 0 < k := by omega
    have hml := Row.le_max hr
    obtain ⟨g, cap, cur, rfl⟩ := Row.is_some hr (by omega)
    have hn2 : ∀ j u, (flatP (l.ps.drop k))[j]? = some u → cur[(if cap = k then 0 else k * 2) + j]? = some u := by
      intro j u hj
      by_cases hck : cap = k
      · have hcap := hr.2.1
        rw [List.drop_eq_nil_of_le (by omega)] at hj
        simp [flatP] at hj
      · rw [if_neg hck]
        rw [flatP_drop, List.getElem?_drop] at hj
        rw [show k * 2 + j = 2 * k + j from by omega]
        exact Row.ok_get hr hj
    refine WL.move rfl rfl ?_
    refine WL.move rfl rfl ?_
    refine WL.move rfl rfl ?_
    refine WL.call call105 rfl rfl ?_
    refine Calls.mono (shows_any lb (0 + n * 11) a l _ _ k _ (H.blk 1 rfl) (by omega) hok hr (fun q hq => H.sat q (fhp_row q hq)) hk (hL.of H h3)) ?_
    rintro _ wx ⟨rfl, Hc⟩
    refine ⟨_, rfl, ?_⟩
    replace H := H.call0 Hc
    refine WL.move rfl rfl ?_
    refine WL.extract rfl rfl rfl ?_
    refine WL.extract rfl rfl rfl ?_
    first | refine WL.nilCheck rfl rfl ?_ | refine WL.nilCheckFn rfl rfl ?_
    refine WL.fieldAddr fld158_0 rfl rfl ?_
    refine WL.fieldAddr fld40_0 rfl rfl ?_
    refine WL.storeAt H ty38 1 rfl rfl rfl (by rw [arr_cells, arrC_size]; exact pShow_len hok.1) (arrC_one _) (by rw [lineL_size hok.1]; omega) ?_
    intro wx H
    replace H := H.castH (H' := fhp p lb len lcap mb mp clk span er ne a { l with ws := (pShow l k).1 } (.some g cap cur) c Z) (by
      have e1 := wr_lineW (a := a) (r := .some g cap cur) (c := c) (o := 0 + n * 11 + 0 + 0) (ws' := (pShow l k).1) (by omega) hok.1 (pShow_len hok.1)
      unfold fhp; rw [← e1]; rfl)
    refine (WL.done (WX.next ?_))
    refine WC.seq ?_
    refine WC.region ?_
    refine WL.move rfl rfl ?_
    refine WL.move rfl rfl ?_
    first | refine WL.nilCheck rfl rfl ?_ | refine WL.nilCheckFn rfl rfl ?_
    refine WL.fieldAddr fld158_0 rfl rfl ?_
    refine WL.fieldAddr fld40_0 rfl rfl ?_
    first | refine WL.load rfl (Rd.lineW ty38 (H.blk 1 rfl) (by omega) (pShow_len hok.1)) rfl ?_
    refine WL.call call97 rfl rfl ?_
    refine Calls.mono (encode_any _ (pShow_len hok.1) _ (hL.of H h3)) ?_
    rintro _ wx ⟨rfl, Hc⟩
    refine ⟨_, rfl, ?_⟩
    replace H := H.call0 Hc
    first | refine WL.nilCheck rfl rfl ?_ | refine WL.nilCheckFn rfl rfl ?_
    refine WL.fieldAddr fld158_0 rfl rfl ?_
    refine WL.fieldAddr fld40_1 rfl rfl ?_
    refine WL.storeAt H ty3 1 rfl rfl rfl rfl (by simp [Value.cells, Value.oneCell']) (by rw [lineL_size (pShow_len hok.1)]; omega) ?_
    intro wx H
    replace H := H.castH (H' := fhp p lb len lcap mb mp clk span er ne a { l with ws := (pShow l k).1, c := enc (pShow l k).1 } (.some g cap cur) c Z) (by
      have e1 := wr_lineC (a := a) (l := { l with ws := (pShow l k).1 }) (r := .some g cap cur) (c := c) (o := 0 + n * 11 + 0 + 8) (z := enc (pShow l k).1) (by omega) (pShow_len hok.1)
      unfold fhp; rw [← e1]; rfl)
    refine (WL.done (WX.next ?_))
    refine WC.seq ?_
    refine WC.region ?_
    refine WL.move rfl rfl ?_
    refine WL.move rfl rfl ?_
    first | refine WL.nilCheck rfl rfl ?_ | refine WL.nilCheckFn rfl rfl ?_
    refine WL.fieldAddr fld158_1 rfl rfl ?_
    first | refine WL.load rfl (Rd.lineS ty52 (H.blk 1 rfl) (by omega) (pShow_len hok.1)) rfl ?_
    refine WL.move rfl rfl ?_
    refine WL.sliceLoR slc52 rfl rfl rfl hk rfl ?_
    refine WL.call call108 rfl rfl ?_
    refine Calls.mono (cloneP_any g (if cap = k then 0 else k * 2) (l.ps.length - k) (cap - k) cur 111 _ (H.sat _ (fhp_row _ List.mem_cons_self)) (flatP (l.ps.drop k)) (by rw [flatP_length, List.length_drop]) hn2 (flatP_one _) (by omega)) ?_
    rintro _ wx ⟨r1, rfl, hr1, Hc⟩
    refine ⟨_, rfl, ?_⟩
    replace H := H.call Hc
    replace H := St.put3 H
    first | refine WL.nilCheck rfl rfl ?_ | refine WL.nilCheckFn rfl rfl ?_
    refine WL.fieldAddr fld158_1 rfl rfl ?_
    refine WL.storeAt H ty52 1 rfl rfl rfl (by cases r1 <;> rfl) (by cases r1 <;> simp [Row.val, Value.cells, Value.oneCell']) (by rw [lineL_size (pShow_len hok.1)]; omega) ?_
    intro wx H
    replace H := H.weaken (H' := (fhp p lb len lcap mb mp clk span er ne a l r1 c Z).set 1 (lb, .cells (wr (lineL a { l with ws := (pShow l k).1, c := enc (pShow l k).1 } (.some g cap cur) c) (0 + n * 11 + 9) (r1.val (l.ps.length - k)).cells.toList) 158)) (List.Sublist.cons_cons _ (List.Sublist.cons_cons _ (List.Sublist.cons_cons _ (List.Sublist.append_left (List.sublist_append_right _ _) _))))
    replace H := H.castH (H' := fhp p lb len lcap mb mp clk span er ne a { ws := (pShow l k).1, c := enc (pShow l k).1, ps := l.ps.drop k, mark := l.mark } r1 c Z) (by
      have e1 := wr_lineS (a := a) (l := { l with ws := (pShow l k).1, c := enc (pShow l k).1 }) (r := .some g cap cur) (r' := r1) (ps' := l.ps.drop k) (c := c) (o := 0 + n * 11 + 9) (by omega) (pShow_len hok.1)
      have e2 : (r1.val (l.ps.length - k)).cells.toList = [r1.val (l.ps.drop k).length] := by rw [List.length_drop]; cases r1 <;> rfl
      have e3 : ∀ r'', lineL a { l with ws := (pShow l k).1, c := enc (pShow l k).1, ps := l.ps.drop k } r'' c = lineL a { ws := (pShow l k).1, c := enc (pShow l k).1, ps := l.ps.drop k, mark := l.mark } r'' c := fun _ => rfl
      rw [e2]
      unfold fhp; rw [← e3, ← e1]; rfl)
    refine (WL.done (WX.next ?_))
    refine WC.seq ?_
    refine WC.region ?_
    have hmk := hok.2.2.2.1
    refine WL.move rfl rfl ?_
    refine WL.move rfl rfl ?_
    first | refine WL.nilCheck rfl rfl ?_ | refine WL.nilCheckFn rfl rfl ?_
    refine WL.fieldAddr fld158_2 rfl rfl ?_
    first | refine WL.load rfl (Rd.lineM ty3 (H.blk 1 rfl) (by omega) (pShow_len hok.1)) rfl ?_
    refine WL.move rfl rfl ?_
    refine WL.bin rfl rfl (isub (x := (l.mark : Int)) (by omega) (by omega)) rfl ?_
    refine WL.max2 rfl rfl rfl ?_
    first | refine WL.nilCheck rfl rfl ?_ | refine WL.nilCheckFn rfl rfl ?_
    refine WL.fieldAddr fld158_2 rfl rfl ?_
    refine WL.storeAt H ty3 1 rfl rfl rfl rfl (by simp [Value.cells, Value.oneCell']) (by rw [lineL_size (pShow_len hok.1)]; omega) ?_
    intro wx H
    replace H := H.castH (H' := fhp p lb len lcap mb mp clk span er ne a (pSettle l k) r1 c Z) (by
      have e0 : pSettle l k = { ws := (pShow l k).1, c := enc (pShow l k).1, ps := l.ps.drop k, mark := l.mark - k } := by unfold pSettle; rw [if_neg (by omega)]
      have e1 := wr_lineM (a := a) (l := { ws := (pShow l k).1, c := enc (pShow l k).1, ps := l.ps.drop k, mark := l.mark }) (r := r1) (c := c) (o := 0 + n * 11 + 10) (z := l.mark - k) (by omega) (pShow_len hok.1)
      have e2 : (if (l.mark : Int) - (k : Int) > 0 then (l.mark : Int) - (k : Int) else 0) = ((l.mark - k : Nat) : Int) := by split <;> omega
      rw [e0]
      unfold fhp; rw [← e1, ← e2]; rfl)
    refine (WL.done (WX.next ?_))
    refine WC.region ?_
    refine WL.move rfl rfl ?_
    refine WL.move rfl rfl ?_
    refine WL.call call173 rfl rfl ?_
    refine Calls.mono (rest_any _ _ _ _ _ _ _ _ _ _ _ (pSettle l k) r1 _ _ n hn hal (pSettle_len hok.1) _ (St.start H.nd H.sat)) ?_
    rintro _ wx ⟨rfl, Hc⟩
    refine ⟨_, rfl, ?_⟩
    replace H := H.callM (L := []) Hc
    refine (WL.done ?_)
    refine end_none rfl ?_
    have e0 : (pSettle l k).ps = l.ps.drop k := by unfold pSettle; rw [if_neg (by omega)]
    refine ⟨r1, rfl, ?_, ?_⟩
    · rw [e0, List.length_drop]; exact hr1
    · rw [if_neg (by omega), if_neg (by omega)]; exact H

end Go.Proofs.YtkncbggnaobgeaaDoor
