/- Walks of functions of the program; printed by a program of this session (walk.py) out of hand-written hints. -/
import Derived.Test.YtkncbggnaobgeaaDoorMem2
namespace Go.Proofs.YtkncbggnaobgeaaDoor
open Go.RowKit
set_option linter.unusedVariables false
set_option linter.unusedSimpArgs false
set_option maxRecDepth 100000

theorem fix_len {ws : List Int} {c : Int} (h8 : ws.length = 8) : (fix ws c).1.length = 8 := by
  unfold fix
  split
  · split
    · exact h8
    · rw [flipBit]; split <;> simp [h8]
    · rfl
  · rfl
theorem putAll_len (ws : List Int) (ps : List (Int × Int)) : (putAll ws ps).length = ws.length := by
  unfold putAll
  induction ps generalizing ws with
  | nil => rfl
  | cons p ps ih => simp only [List.foldl_cons]; rw [ih]; simp
theorem putAll_succ {ws : List Int} {ps : List (Int × Int)} {j : Nat} (hj : j < ps.length) : putAll ws (ps.take (j + 1)) = (putAll ws (ps.take j)).set (ps[j]).1.toNat (ps[j]).2 := by
  unfold putAll
  rw [List.take_add_one, List.getElem?_eq_getElem hj, List.foldl_append]; rfl
theorem Row.le_max {r : Row} {sz n : Nat} {xs : List Value} (h : r.ok sz n xs) : n ≤ 9223372036854775807 := by
  cases r with
  | none => have := h.1; omega
  | some g cap cur => have h1 := h.2.1; have h2 := h.2.2.1; simp only [maxLen] at h2; omega
theorem Row.is_some {r : Row} {sz n : Nat} {xs : List Value} (h : r.ok sz n xs) (hn : 0 < n) : ∃ g cap cur, r = .some g cap cur := by
  cases r with
  | none => have := h.1; omega
  | some g cap cur => exact ⟨g, cap, cur, rfl⟩
theorem pShow_len {l : PL} {k : Nat} (h8 : l.ws.length = 8) : (pShow l k).1.length = 8 := by
  unfold pShow
  split
  · simp only [putAll_len, fix_len h8]
  · rfl
section
variable {P : Program} {ops : Array Oper} {Q : Exit → Act → World → Prop} {n : Nat} {ds : List Deferred} {e e' : Env} {w w' w0 : World} {rest : List Oper} {S : List Nat} {H : Hp}
variable {d : Nat} {v : Value} {ty : TypeId} {pos : String} {af : Array Edge}
theorem WL.sliceHiR {T : TypeId} {sz k m sz' : Nat} {r : Row} {xs : List Value} {x y : Operand} {kd : IntKind} {z : Int} (hT : slcB P T sz = true) (hx : ev e x = some (r.val m)) (hy : ev e y = some (.int kd z)) (hz : z = (k : Int)) (hok : r.ok sz' m xs) (hk : k ≤ m) (hdn : Nat.blt d n = true)
    (h : WL P ops Q n ds rest ((d, r.val k) :: e) w) : WL P ops Q n ds ({ dst := some d, op := .slice T x none (some y) none, type := ty, pos, after := af, guard := none } :: rest) e w := by
  cases r with
  | none => exact WL.sliceHi hT hx hy hz (by have := hok.1; omega) hdn h
  | some g cap cur => exact WL.sliceHi hT hx hy hz (by have := hok.2.1; omega) hdn h
theorem WL.lenR {x : Operand} {T : TypeId} {r : Row} {m : Nat} (hT : isSlcB P T = true) (hx : ev e x = some (r.val m)) (hdn : Nat.blt d n = true)
    (h : WL P ops Q n ds rest ((d, .int .i64 (m : Int)) :: e) w) : WL P ops Q n ds ({ dst := some d, op := .call { callee := .builtin .len, args := #[x], argTypes := #[T] }, type := ty, pos, after := af, guard := none } :: rest) e w := by
  cases r <;> exact WL.lenSlc hT hx hdn h
theorem EX.lenR {x : Operand} {T : TypeId} {r : Row} {m : Nat} (hT : isSlcB P T = true) (hx : ev e x = some (r.val m)) : EX P n ds e (.call { callee := .builtin .len, args := #[x], argTypes := #[T] }) ty (.int .i64 (m : Int)) w := by
  cases r <;> exact EX.lenSlc hT hx
theorem Rd.pair {T t : TypeId} {fr : Nat × Nat} {b o : Nat} {cs : Array Value} {p q : Value} (hT : tyB P T true 2 = true) (h : w.heap[b]? = some (.cells cs t fr)) (hp : cs[o]? = some p) (hq : cs[o + 1]? = some q) : Rd P w T ⟨b, o, none⟩ (.agg #[p, q]) := by
  have hlt : o + 1 < cs.size := by
    rcases Nat.lt_or_ge (o + 1) cs.size with hl | hg
    · exact hl
    · rw [Array.getElem?_eq_none hg] at hq; cases hq
  have := Rd.agg (P := P) (o := o) hT h (by omega)
  have e1 : cs.extract o (o + 2) = #[p, q] := by
    apply Array.ext_getElem?
    intro i
    rw [Array.getElem?_extract]
    match i with
    | 0 => simp [hp]; omega
    | 1 => simp [hq]; omega
    | i + 2 => simp; omega
  rw [e1] at this
  exact this
end

theorem shows_any (lb o : Nat) (a : List Value) (l : PL) (r : Row) (c : List Value) (k : Nat) (w : World) (hb : w.heap[lb]? = some (.cells (lineL a l r c) 158)) (ho : o = a.length) (hok : l.ok) (hr : r.ok 2 l.ps.length (flatP l.ps)) (hs : ∀ q ∈ r.hp 111, w.heap[q.1]? = some q.2) (hk : k ≤ l.ps.length) (hL : L64 w) : Calls Tryd.prog 105 #[.pointer (some ⟨lb, o, none⟩), .int .i64 (k : Int)] w fun e w' => e = .returned (.tuple #[arr (pShow l k).1, .int .i64 (pShow l k).2]) ∧ St w [] w' [] := by
  have hml := Row.le_max hr
  refine calls_walk_n (args := [.pointer (some ⟨lb, o, none⟩), .int .i64 (k : Int)]) Tryd.func105 rfl rfl rfl ?_
  have H := St.refl w
  refine WC.seq ?_
  refine WC.region ?_
  refine WL.allocArr (ws := zeros8) H zer38 rfl rfl ?_
  intro b4 wx hb4 hge4 H
  refine WL.assign rfl rfl ?_
  refine (WL.done (WX.next ?_))
  refine WC.seqJ (Sub.cons (t := 0) rfl (Sub.cons (t := 1) rfl (Sub.cons (t := 4) rfl (Sub.nil _)))) (fun b6 : Nat => [(6, .pointer (some ⟨b6, 0, none⟩)), (8, .int .i64 (fix l.ws l.c).2.2)]) (fun b6 wx => St w [] wx [(b6, .cells (arrC (fix l.ws l.c).1) 38), (b4, .cells (arrC zeros8) 38)]) (fun N hN => ?_) (fun b6 wx H => ?_)
  · -- first
    replace H := H.drew
    refine WC.held (SX (World.drew wx) []) (by kernel_rfl) ?_
    generalize World.drew wx = wb at H ⊢
    have HB := St.refl wb
    refine WH.take 0 rfl (by kernel_rfl) (by kernel_rfl) (by kernel_rfl) (fun _ _ _ h => h) ⟨_, HB⟩ (fun w' hS => EX.move rfl) rfl ?_
    refine WH.take 1 rfl (by kernel_rfl) (by kernel_rfl) (by kernel_rfl) (fun _ _ _ h => h) ⟨_, HB⟩ (fun w' hS => EX.nilCheck rfl) rfl ?_
    refine WH.take 2 rfl (by kernel_rfl) (by kernel_rfl) (by kernel_rfl) (fun _ _ _ h => h) ⟨_, HB⟩ (fun w' hS => EX.fieldAddr fld158_0 rfl) rfl ?_
    refine WH.take 3 rfl (by kernel_rfl) (by kernel_rfl) (by kernel_rfl) (fun _ _ _ h => h) ⟨_, HB⟩ (fun w' hS => EX.fieldAddr fld40_0 rfl) rfl ?_
    first | refine WH.take 4 rfl (by kernel_rfl) (by kernel_rfl) (by kernel_rfl) (fun _ _ _ h => h) ⟨_, HB⟩ (fun w' hS => EX.load rfl (Rd.lineW ty38 (hS.block (H.oldBlock hb (by simp)) (by simp)) (by omega) hok.1)) rfl ?_
    refine WH.take 5 rfl (by kernel_rfl) (by kernel_rfl) (by kernel_rfl) (fun _ _ _ h => h) ⟨_, HB⟩ (fun w' hS => EX.move rfl) rfl ?_
    refine WH.take 6 rfl (by kernel_rfl) (by kernel_rfl) (by kernel_rfl) (fun _ _ _ h => h) ⟨_, HB⟩ (fun w' hS => EX.nilCheck rfl) rfl ?_
    refine WH.take 7 rfl (by kernel_rfl) (by kernel_rfl) (by kernel_rfl) (fun _ _ _ h => h) ⟨_, HB⟩ (fun w' hS => EX.fieldAddr fld158_0 rfl) rfl ?_
    refine WH.take 8 rfl (by kernel_rfl) (by kernel_rfl) (by kernel_rfl) (fun _ _ _ h => h) ⟨_, HB⟩ (fun w' hS => EX.fieldAddr fld40_1 rfl) rfl ?_
    first | refine WH.take 9 rfl (by kernel_rfl) (by kernel_rfl) (by kernel_rfl) (fun _ _ _ h => h) ⟨_, HB⟩ (fun w' hS => EX.load rfl (Rd.lineCo ty3 (hS.block (H.oldBlock hb (by simp)) (by simp)) (by omega) hok.1)) rfl ?_
    refine WH.hard2 10 15 rfl rfl (by kernel_rfl) ?_ ?_
    · -- op 10 first
      refine WL.call call172 rfl rfl ?_
      refine Calls.mono (fix_any l.ws hok.1 l.c _ ((hL.of0 H).of0 HB)) ?_
      rintro _ wx ⟨rfl, Hc⟩
      refine ⟨_, rfl, ?_⟩
      replace HB := HB.call0 Hc
      refine WL.done (WX.heldOn ⟨_, HB⟩ ?_)
      refine WH.take 11 rfl (by kernel_rfl) (by kernel_rfl) (by kernel_rfl) (fun _ _ _ h => h) ⟨_, HB⟩ (fun w' hS => EX.move rfl) rfl ?_
      refine WH.take 12 rfl (by kernel_rfl) (by kernel_rfl) (by kernel_rfl) (fun _ _ _ h => h) ⟨_, HB⟩ (fun w' hS => EX.extract rfl rfl) rfl ?_
      refine WH.take 13 rfl (by kernel_rfl) (by kernel_rfl) (by kernel_rfl) (fun _ _ _ h => h) ⟨_, HB⟩ (fun w' hS => EX.extract rfl rfl) rfl ?_
      refine WH.take 14 rfl (by kernel_rfl) (by kernel_rfl) (by kernel_rfl) (fun _ _ _ h => h) ⟨_, HB⟩ (fun w' hS => EX.extract rfl rfl) rfl ?_
      refine WH.hard 15 rfl (by kernel_rfl) ?_
      refine WL.allocArr (ws := zeros8) HB zer38 rfl rfl ?_
      intro b6 wx hb6 hge6 HB
      refine WL.done (WX.heldOn ⟨_, HB⟩ ?_)
      refine WH.hard 16 rfl (by kernel_rfl) ?_
      refine WL.storeArr (ws' := (fix l.ws l.c).1) HB ty38 0 rfl rfl rfl (by rw [arrC_size]; rfl) (fix_len hok.1) ?_
      intro wx HB
      refine WL.done (WX.heldOn ⟨_, HB⟩ ?_)
      refine WH.take 17 rfl (by kernel_rfl) (by kernel_rfl) (by kernel_rfl) (fun _ _ _ h => h) ⟨_, HB⟩ (fun w' hS => EX.assign rfl) rfl ?_
      refine WH.take 18 rfl (by kernel_rfl) (by kernel_rfl) (by kernel_rfl) (fun _ _ _ h => h) ⟨_, HB⟩ (fun w' hS => EX.assign rfl) rfl ?_
      refine WH.done (by kernel_rfl) ?_
      replace H := H.call HB
      refine WX.round ?_
      exact hN _ _ _ H (Sub.cons (t := 6) (by first | rfl | simp) (Sub.cons (t := 8) (by first | rfl | simp) (Sub.nil _))) (Sub.cons (t := 0) rfl (Sub.cons (t := 1) rfl (Sub.cons (t := 4) rfl (Sub.nil _))))
    · -- op 15 first
      refine WL.allocArr (ws := zeros8) HB zer38 rfl rfl ?_
      intro b6 wx hb6 hge6 HB
      refine WL.done (WX.heldOn ⟨_, HB⟩ ?_)
      refine WH.hard 10 rfl (by kernel_rfl) ?_
      refine WL.call call172 rfl rfl ?_
      refine Calls.mono (fix_any l.ws hok.1 l.c _ ((hL.of0 H).of0 HB)) ?_
      rintro _ wx ⟨rfl, Hc⟩
      refine ⟨_, rfl, ?_⟩
      replace HB := HB.call0 Hc
      refine WL.done (WX.heldOn ⟨_, HB⟩ ?_)
      refine WH.take 11 rfl (by kernel_rfl) (by kernel_rfl) (by kernel_rfl) (fun _ _ _ h => h) ⟨_, HB⟩ (fun w' hS => EX.move rfl) rfl ?_
      refine WH.take 12 rfl (by kernel_rfl) (by kernel_rfl) (by kernel_rfl) (fun _ _ _ h => h) ⟨_, HB⟩ (fun w' hS => EX.extract rfl rfl) rfl ?_
      refine WH.take 13 rfl (by kernel_rfl) (by kernel_rfl) (by kernel_rfl) (fun _ _ _ h => h) ⟨_, HB⟩ (fun w' hS => EX.extract rfl rfl) rfl ?_
      refine WH.take 14 rfl (by kernel_rfl) (by kernel_rfl) (by kernel_rfl) (fun _ _ _ h => h) ⟨_, HB⟩ (fun w' hS => EX.extract rfl rfl) rfl ?_
      refine WH.hard 16 rfl (by kernel_rfl) ?_
      refine WL.storeArr (ws' := (fix l.ws l.c).1) HB ty38 0 rfl rfl rfl (by rw [arrC_size]; rfl) (fix_len hok.1) ?_
      intro wx HB
      refine WL.done (WX.heldOn ⟨_, HB⟩ ?_)
      refine WH.take 17 rfl (by kernel_rfl) (by kernel_rfl) (by kernel_rfl) (fun _ _ _ h => h) ⟨_, HB⟩ (fun w' hS => EX.assign rfl) rfl ?_
      refine WH.take 18 rfl (by kernel_rfl) (by kernel_rfl) (by kernel_rfl) (fun _ _ _ h => h) ⟨_, HB⟩ (fun w' hS => EX.assign rfl) rfl ?_
      refine WH.done (by kernel_rfl) ?_
      replace H := H.call HB
      refine WX.round ?_
      exact hN _ _ _ H (Sub.cons (t := 6) (by first | rfl | simp) (Sub.cons (t := 8) (by first | rfl | simp) (Sub.nil _))) (Sub.cons (t := 0) rfl (Sub.cons (t := 1) rfl (Sub.cons (t := 4) rfl (Sub.nil _))))
  · -- join
    refine WC.seq ?_
    refine WC.seq ?_
    refine WC.region ?_
    refine WL.move rfl rfl ?_
    refine WL.bin rfl rfl binv_neq rfl ?_
    refine (WL.done (WX.next ?_))
    first | refine WC.cond_dec rfl (fun c1 => ?_) (fun c1 => ?_) | refine WC.cond rfl (fun c1 => ?_) (fun c1 => ?_)
    · -- c1 T
      refine WC.seq ?_
      refine WC.region ?_
      refine WL.buildA (z := arrC zeros8) arr38 zer38 rfl rfl rfl ?_
      refine WL.move rfl rfl ?_
      refine WL.storeArr (ws' := zeros8) H ty38 1 rfl rfl rfl (by rw [arrC_size]; rfl) rfl ?_
      intro wx H
      refine WL.assign rfl rfl ?_
      refine (WL.done (WX.next ?_))
      refine (WC.ret (WX.then_ret ?_))
      refine ret_two rfl ⟨_, rfl, by first | exact H.rdArr ty38 0 rfl (by rw [putAll_len]; exact fix_len hok.1) | exact H.rdArr ty38 1 rfl rfl | exact H.rdArr ty38 0 rfl rfl | exact H.rdArr ty38 1 rfl (by rw [putAll_len]; exact fix_len hok.1) | exact H.rd1 ty38 0 rfl rfl | exact H.rd1 ty38 1 rfl rfl | exact H.rdA ty38 0 rfl (by decide) | exact H.rdA ty38 1 rfl (by decide)⟩ rfl ?_
      have e1 : pShow l k = (zeros8, (fix l.ws l.c).2.2) := by unfold pShow; rw [if_neg (by simpa using c1)]
      rw [e1]
      exact ⟨rfl, H.weaken (List.nil_sublist _)⟩
    · -- c1 F
      refine (WC.skip (WX.next ?_))
      refine WC.seq ?_
      refine WC.seq ?_
      refine WC.region ?_
      refine WL.move rfl rfl ?_
      first | refine WL.nilCheck rfl rfl ?_ | refine WL.nilCheckFn rfl rfl ?_
      refine WL.fieldAddr fld158_1 rfl rfl ?_
      first | refine WL.load rfl (Rd.lineS ty52 (H.oldBlock hb (by simp)) (by omega) hok.1) rfl ?_
      refine WL.move rfl rfl ?_
      refine WL.sliceHiR slc52 rfl rfl rfl hr hk rfl ?_
      refine WL.lenR isl52 rfl rfl ?_
      refine WL.move rfl rfl ?_
      refine (WL.done (WX.next ?_))
      refine WC.block ?_
      -- loop 1: changed [37] kept [4, 6, 35, 36]
      refine WC.loop (Sub.cons (t := 4) rfl (Sub.cons (t := 6) rfl (Sub.cons (t := 35) rfl (Sub.cons (t := 36) rfl (Sub.nil _))))) (fun j : Nat => [(37, .int .i64 (j : Int))]) (fun q j wx => q = k - j ∧ j ≤ k ∧ St w [] wx [(b6, .cells (arrC (putAll (fix l.ws l.c).1 (l.ps.take j))) 38), (b4, .cells (arrC zeros8) 38)]) (k) (0) (Sub.cons (t := 37) (by first | rfl | simp) (Sub.nil _)) (⟨rfl, by omega, H⟩) ?_
      rintro k g wx hI N hN
      obtain ⟨rfl, hg, H⟩ := hI
      refine WC.seq ?_
      refine WC.region ?_
      refine WL.bin rfl rfl binv_lss rfl ?_
      refine (WL.done (WX.next ?_))
      refine WC.seq ?_
      first | refine WC.cond_dec rfl (fun c2 => ?_) (fun c2 => ?_) | refine WC.cond rfl (fun c2 => ?_) (fun c2 => ?_)
      · -- c2 T
        refine (WC.skip (WX.next ?_))
        refine WC.seq ?_
        refine WC.block ?_
        refine WC.seq ?_
        refine WC.region ?_
        have hjl : g < l.ps.length := by omega
        obtain ⟨g1, cap, cur, rfl⟩ := Row.is_some hr (by omega)
        have hp := Row.getP hr hjl
        have hix : 0 + g * 2 = 2 * g := by omega
        have hpk := hok.2.2.2.2 _ (List.getElem_mem hjl)
        refine WL.idxSlc (k := g) slc52 rfl rfl (by first | rfl | omega) (by omega) rfl ?_
        first | refine WL.load rfl (Rd.pair ty111 (H.oldBlock (hs _ List.mem_cons_self) (by simp)) (by rw [hix]; exact hp.1) (by rw [hix]; exact hp.2)) rfl ?_
        refine WL.alloc H zer111 rfl ?_
        intro b10 wx hb10 hge10 H
        first | (refine WL.storeAt H ty111 0 rfl rfl rfl rfl (by simp [Value.cells, Value.oneCell']) (by first | decide | (simp only [wr_size]; decide) | simp [wr_size]) ?_) | (refine WL.storeAt H ty111 1 rfl rfl rfl rfl (by simp [Value.cells, Value.oneCell']) (by first | decide | (simp only [wr_size]; decide) | simp [wr_size]) ?_) | (refine WL.storeAt H ty111 2 rfl rfl rfl rfl (by simp [Value.cells, Value.oneCell']) (by first | decide | (simp only [wr_size]; decide) | simp [wr_size]) ?_)
        intro wx H
        refine (WL.done (WX.next ?_))
        refine WC.region ?_
        refine WL.fieldAddr fld111_0 rfl rfl ?_
        first | refine WL.load rfl (H.rd1 ty3 0 rfl rfl) rfl ?_ | refine WL.load rfl (H.rd1 ty3 1 rfl rfl) rfl ?_ | refine WL.load rfl (H.rd1 ty3 2 rfl rfl) rfl ?_ | refine WL.load rfl (H.rdA ty3 0 rfl (by decide)) rfl ?_ | refine WL.load rfl (H.rdA ty3 1 rfl (by decide)) rfl ?_ | refine WL.load rfl (H.rdA ty3 2 rfl (by decide)) rfl ?_
        refine WL.fieldAddr fld111_1 rfl rfl ?_
        first | refine WL.load rfl (H.rd1 ty3 0 rfl rfl) rfl ?_ | refine WL.load rfl (H.rd1 ty3 1 rfl rfl) rfl ?_ | refine WL.load rfl (H.rd1 ty3 2 rfl rfl) rfl ?_ | refine WL.load rfl (H.rdA ty3 0 rfl (by decide)) rfl ?_ | refine WL.load rfl (H.rdA ty3 1 rfl (by decide)) rfl ?_ | refine WL.load rfl (H.rdA ty3 2 rfl (by decide)) rfl ?_
        refine WL.idxArr (k := (l.ps[g]).1.toNat) arr38 rfl rfl (by first | rfl | omega) (by omega) rfl ?_
        refine WL.storeElt H ty3 1 rfl rfl rfl (by rw [putAll_len, fix_len hok.1]; omega) ?_
        intro wx H
        refine (WL.done (WX.block_normal (WX.next ?_)))
        refine WC.region ?_
        refine WL.bin rfl rfl (iadd (by omega) (by omega)) rfl ?_
        refine WL.move rfl rfl ?_
        refine (WL.done (WX.round ?_))
        rw [show 0 + ((l.ps[g]).1.toNat) * 1 = (l.ps[g]).1.toNat from by omega, ← putAll_succ hjl] at H
        exact hN _ (g+1) _ _ (by omega) ⟨rfl, by omega, H.weaken (List.sublist_cons_self _ _)⟩ (Sub.cons (t := 37) (by first | rfl | simp) (Sub.nil _)) (Sub.cons (t := 4) rfl (Sub.cons (t := 6) rfl (Sub.cons (t := 35) rfl (Sub.cons (t := 36) rfl (Sub.nil _)))))
      · -- c2 F
        refine (WC.exit (WX.then_exit (WX.then_exit (WX.block_exit (WX.next ?_)))))
        refine WC.seq ?_
        refine WC.region ?_
        first | refine WL.load rfl (H.rdArr ty38 0 rfl (by rw [putAll_len]; exact fix_len hok.1)) rfl ?_ | refine WL.load rfl (H.rdArr ty38 1 rfl rfl) rfl ?_ | refine WL.load rfl (H.rdArr ty38 0 rfl rfl) rfl ?_ | refine WL.load rfl (H.rdArr ty38 1 rfl (by rw [putAll_len]; exact fix_len hok.1)) rfl ?_ | refine WL.load rfl (H.rd1 ty38 0 rfl rfl) rfl ?_ | refine WL.load rfl (H.rd1 ty38 1 rfl rfl) rfl ?_ | refine WL.load rfl (H.rdA ty38 0 rfl (by decide)) rfl ?_ | refine WL.load rfl (H.rdA ty38 1 rfl (by decide)) rfl ?_
        refine WL.storeArr H ty38 1 rfl rfl rfl (by rw [arrC_size]; rfl) (by rw [putAll_len]; exact fix_len hok.1) ?_
        intro wx H
        refine WL.assign rfl rfl ?_
        refine (WL.done (WX.next ?_))
        refine (WC.ret ?_)
        refine ret_two rfl ⟨_, rfl, by first | exact H.rdArr ty38 0 rfl (by rw [putAll_len]; exact fix_len hok.1) | exact H.rdArr ty38 1 rfl rfl | exact H.rdArr ty38 0 rfl rfl | exact H.rdArr ty38 1 rfl (by rw [putAll_len]; exact fix_len hok.1) | exact H.rd1 ty38 0 rfl rfl | exact H.rd1 ty38 1 rfl rfl | exact H.rdA ty38 0 rfl (by decide) | exact H.rdA ty38 1 rfl (by decide)⟩ rfl ?_
        obtain rfl : g = k := by omega
        have e1 : pShow l g = (putAll (fix l.ws l.c).1 (l.ps.take g), 0) := by unfold pShow; rw [if_pos (by simpa using c1)]
        rw [e1]
        exact ⟨rfl, H.weaken (List.nil_sublist _)⟩

end Go.Proofs.YtkncbggnaobgeaaDoor
