/- Walks of functions of the program; printed by a program of this session (walk.py) out of hand-written hints. -/
import Derived.Test.YtkncbggnaobgeaaDoorMem10
namespace Go.Proofs.YtkncbggnaobgeaaDoor
open Go.RowKit
set_option linter.unusedVariables false
set_option linter.unusedSimpArgs false
set_option maxRecDepth 100000

theorem call165 : callB Tryd.prog 165 = true := by kernel_rfl
def pl0 : PL := { ws := zeros8, c := 0, ps := [], mark := 0 }
theorem enc_zero : enc zeros8 = 0 := by decide +kernel
theorem pl0_ok : pl0.ok := ⟨rfl, by decide, by decide, Nat.le_refl _, by simp [pl0]⟩
theorem flat_rep {α β : Type} (f : α → List β) (x : α) (k i : Nat) (hi : i < k * (f x).length) : ((List.replicate k x).flatMap f)[i]? = (f x)[i % (f x).length]? := by
  induction k generalizing i with
  | zero => omega
  | succ k ih =>
    simp only [List.replicate_succ, List.flatMap_cons]
    rw [Nat.add_mul, Nat.one_mul] at hi
    by_cases hl : i < (f x).length
    · rw [List.getElem?_append_left hl, Nat.mod_eq_of_lt hl]
    · rw [List.getElem?_append_right (by omega), ih _ (by omega)]
      congr 1
      rw [Nat.mod_eq_sub_mod (by omega : (f x).length ≤ i)]
theorem flat_rep_len {α β : Type} (f : α → List β) (x : α) (k : Nat) : ((List.replicate k x).flatMap f).length = k * (f x).length := by
  induction k with
  | zero => simp
  | succ k ih => simp only [List.replicate_succ, List.flatMap_cons, List.length_append, ih]; rw [Nat.add_mul, Nat.one_mul, Nat.add_comm]
theorem new_cells (k : Nat) : madeCells #[.int .i64 0, .int .i64 0, .int .i64 0, .int .i64 0, .int .i64 0, .int .i64 0, .int .i64 0, .int .i64 0, .int .i64 0, .slice none 0 0, .int .i64 0] (k * 11) = (linesC (List.replicate k (pl0, Row.none))).toArray := by
  apply Array.ext_getElem?
  intro i
  unfold madeCells
  refine Eq.trans ?_ (by simp : (linesC (List.replicate k (pl0, Row.none)))[i]? = (linesC (List.replicate k (pl0, Row.none))).toArray[i]?)
  have hl : (lineC pl0 Row.none).length = 11 := rfl
  by_cases hi : i < k * 11
  · have h1 := flat_rep (fun x : PL × Row => lineC x.1 x.2) (pl0, Row.none) k i (by simpa [hl] using hi)
    unfold linesC
    rw [h1]
    have hm : i % 11 < 11 := Nat.mod_lt _ (by omega)
    show _ = (lineC pl0 Row.none)[i % 11]?
    have e1 : (lineC pl0 Row.none) = [Value.int .i64 0, .int .i64 0, .int .i64 0, .int .i64 0, .int .i64 0, .int .i64 0, .int .i64 0, .int .i64 0, .int .i64 0, .slice none 0 0, .int .i64 0] := rfl
    rw [e1]
    have hg : ∀ j, j < 11 → (some (#[Value.int .i64 0, .int .i64 0, .int .i64 0, .int .i64 0, .int .i64 0, .int .i64 0, .int .i64 0, .int .i64 0, .int .i64 0, .slice none 0 0, .int .i64 0][j]!)) = [Value.int .i64 0, .int .i64 0, .int .i64 0, .int .i64 0, .int .i64 0, .int .i64 0, .int .i64 0, .int .i64 0, .int .i64 0, .slice none 0 0, .int .i64 0][j]? := by
      intro j hj
      match j, hj with
      | 0, _ => rfl
      | 1, _ => rfl
      | 2, _ => rfl
      | 3, _ => rfl
      | 4, _ => rfl
      | 5, _ => rfl
      | 6, _ => rfl
      | 7, _ => rfl
      | 8, _ => rfl
      | 9, _ => rfl
      | 10, _ => rfl
    rw [← hg _ hm]
    simp [hi]
  · have h2 := flat_rep_len (fun x : PL × Row => lineC x.1 x.2) (pl0, Row.none) k
    have : (linesC (List.replicate k (pl0, Row.none)))[i]? = none := by
      unfold linesC
      rw [List.getElem?_eq_none]
      rw [h2, hl]; omega
    rw [this]
    simp [hi]
theorem pendHp_rep (ls : List PL) : pendHp (ls.map fun l => (l, Row.none)) = [] := by
  unfold pendHp
  rw [List.flatMap_eq_nil_iff]
  intro x hx
  obtain ⟨l, _, rfl⟩ := List.mem_map.1 hx
  rfl
/-- A memory just made. -/
def RM.fresh (p lb mb : Nat) (ls : List PL) : RM := { p := p, lb := lb, lcap := ls.length, junk := [], mb := mb, X := ls.map fun l => (l, Row.none), mp := [], clk := 0, span := 0, evs := [], er := .none }
theorem RM.fresh_hp (p lb mb : Nat) (ls : List PL) : (RM.fresh p lb mb ls).hp = [(p, structO lb ls.length ls.length mb 0 .none 0), (lb, .cells (linesC (ls.map fun l => (l, Row.none))).toArray 158), (mb, mO [] 0)] := by
  unfold RM.hp RM.fresh
  simp [pendHp_rep, Row.hp]
theorem RM.fresh_ok {p lb mb : Nat} {ls : List PL} (h1 : 1 ≤ ls.length ∧ ls.length ≤ 4096) (h2 : ∀ l ∈ ls, l.ok ∧ l.ps = []) : (RM.fresh p lb mb ls).ok := by
  refine ⟨by simpa [RM.fresh] using h1, by simp [RM.fresh, maxLen]; omega, by simp [RM.fresh], ?_, ⟨by simp [RM.fresh], by simp [RM.fresh], by simp [RM.fresh]⟩, ?_, by simp [RM.fresh], ⟨rfl, rfl⟩, by simp [RM.fresh]⟩
  · intro x hx
    obtain ⟨l, hl, rfl⟩ := List.mem_map.1 hx
    obtain ⟨k1, k2⟩ := h2 l hl
    refine ⟨k1, ?_⟩
    show Row.ok .none 2 l.ps.length (flatP l.ps)
    rw [k2]
    exact ⟨rfl, rfl⟩
  · intro n
    constructor
    · intro h; simp [RM.fresh] at h
    · rintro ⟨_, x, hx, hp⟩
      exfalso
      have hm := List.mem_of_getElem? hx
      obtain ⟨l, hl, rfl⟩ := List.mem_map.1 hm
      exact hp (h2 l hl).2
theorem RM.fresh_abs (p lb mb : Nat) (ls : List PL) : (RM.fresh p lb mb ls).abs = { ls := ls, span := 0, evs := [] } := by
  simp [RM.abs, RM.fresh, Function.comp_def]

theorem words1_any (x : Int) (w : World) : Calls Tryd.prog 165 #[.int .i64 x] w fun e w' => e = .returned (.bool (!isWord x)) ∧ w' = w := by
  refine calls_walk_n (args := [.int .i64 x]) Tryd.func165 rfl rfl rfl ?_
  refine WC.seq ?_
  refine WC.region ?_
  refine WL.assign rfl rfl ?_
  refine (WL.done (WX.next ?_))
  refine WC.seq ?_
  refine WC.region ?_
  refine WL.move rfl rfl ?_
  refine WL.call call166 rfl rfl ?_
  refine Calls.mono (word_any _ _) ?_
  rintro _ wx ⟨rfl, rfl⟩
  refine ⟨_, rfl, ?_⟩
  refine WL.notOp rfl rfl ?_
  refine WL.assign rfl rfl ?_
  refine (WL.done (WX.next ?_))
  refine (WC.ret ?_)
  refine ret_one rfl rfl ?_
  exact ⟨rfl, rfl⟩

theorem index_any (ws : List Int) (b m cap : Nat) (hmw : m = ws.length) (t : TypeId) (hl : ws.length ≤ 1000) (w : World) (hb : w.heap[b]? = some (.cells (arrC ws) t)) : Calls Tryd.prog 188 #[.slice (some ⟨b, 0, none⟩) m cap, .func (.func 165) #[] #[]] w fun e w' => ∃ z : Int, e = .returned (.int .i64 z) ∧ decide (0 ≤ z) = (!isWords ws) ∧ w' = w := by
  subst hmw
  refine calls_walk_n (args := [.slice (some ⟨b, 0, none⟩) ws.length cap, .func (.func 165) #[] #[]]) Tryd.func188 rfl rfl rfl ?_
  refine WC.seq ?_
  refine WC.region ?_
  refine WL.assign rfl rfl ?_
  refine (WL.done (WX.next ?_))
  refine WC.seq ?_
  refine WC.seq ?_
  refine WC.region ?_
  refine WL.move rfl rfl ?_
  refine WL.lenSlc isl43 rfl rfl ?_
  refine WL.move rfl rfl ?_
  refine (WL.done (WX.next ?_))
  refine WC.block ?_
  -- loop 1: changed [8] kept [0, 1, 7]
  refine WC.loop (Sub.cons (t := 0) rfl (Sub.cons (t := 1) rfl (Sub.cons (t := 7) rfl (Sub.nil _)))) (fun i : Nat => [(8, .int .i64 (i : Int))]) (fun q i wx => q = ws.length - i ∧ i ≤ ws.length ∧ (ws.take i).all isWord = true ∧ wx = w) (ws.length) (0) (Sub.cons (t := 8) (by first | rfl | simp) (Sub.nil _)) (⟨rfl, by omega, by simp, rfl⟩) ?_
  rintro k g wx hI N hN
  obtain ⟨rfl, hg, hall, rfl⟩ := hI
  refine WC.seq ?_
  refine WC.region ?_
  refine WL.bin rfl rfl binv_lss rfl ?_
  refine (WL.done (WX.next ?_))
  refine WC.seq ?_
  first | refine WC.cond_dec rfl (fun c1 => ?_) (fun c1 => ?_) | refine WC.cond rfl (fun c1 => ?_) (fun c1 => ?_)
  · -- c1 T
    refine (WC.skip (WX.next ?_))
    refine WC.seq ?_
    refine WC.block ?_
    refine WC.seq ?_
    refine WC.region ?_
    refine WL.move rfl rfl ?_
    refine WL.assign rfl rfl ?_
    refine (WL.done (WX.next ?_))
    refine WC.seq ?_
    refine WC.region ?_
    refine WL.move rfl rfl ?_
    refine WL.move rfl rfl ?_
    refine WL.move rfl rfl ?_
    refine WL.idxSlc (k := g) slc43 rfl rfl (by first | rfl | omega) (by omega) rfl ?_
    first | refine WL.load rfl (Rd.one ty3 (by rw [cell_of hb]; exact arrC_get_lt (by omega))) rfl ?_
    refine WL.callVal (fi := []) (ca := []) call165 rfl rfl rfl ?_
    refine Calls.mono (words1_any _ _) ?_
    rintro _ wx ⟨rfl, hwx⟩
    rw [hwx]
    refine ⟨_, rfl, ?_⟩
    refine (WL.done (WX.next ?_))
    first | refine WC.cond_dec rfl (fun c2 => ?_) (fun c2 => ?_) | refine WC.cond rfl (fun c2 => ?_) (fun c2 => ?_)
    · -- c2 T
      refine WC.seq ?_
      refine WC.region ?_
      refine WL.move rfl rfl ?_
      refine WL.assign rfl rfl ?_
      refine (WL.done (WX.next ?_))
      refine (WC.ret (WX.block_ret (WX.then_ret (WX.then_ret (WX.block_ret (WX.then_ret ?_))))))
      refine ret_one rfl rfl ?_
      refine ⟨_, rfl, ?_, rfl⟩
      have h : isWords ws = false := all_false_of (g := g) (by omega) (by have h := c2; simp only [Nat.zero_add, Nat.mul_one] at h; simpa using h)
      rw [h]; simp
    · -- c2 F
      refine (WC.skip (WX.block_normal (WX.next ?_)))
      refine WC.region ?_
      refine WL.bin rfl rfl (iadd (by omega) (by omega)) rfl ?_
      refine WL.move rfl rfl ?_
      refine (WL.done (WX.round ?_))
      exact hN _ (g+1) _ _ (by omega) ⟨rfl, by omega, take_all_succ (by omega) hall (by have h := c2; simp only [Nat.zero_add, Nat.mul_one] at h; simpa using h), rfl⟩ (Sub.cons (t := 8) (by first | rfl | simp) (Sub.nil _)) (Sub.cons (t := 0) rfl (Sub.cons (t := 1) rfl (Sub.cons (t := 7) rfl (Sub.nil _))))
  · -- c1 F
    refine (WC.exit (WX.then_exit (WX.then_exit (WX.block_exit (WX.next ?_)))))
    refine WC.seq ?_
    refine WC.region ?_
    refine WL.assign rfl rfl ?_
    refine (WL.done (WX.next ?_))
    refine (WC.ret ?_)
    refine ret_one rfl rfl ?_
    refine ⟨_, rfl, ?_, rfl⟩
    have h : isWords ws = true := by
      obtain rfl : g = ws.length := by omega
      exact all_of_take hall
    rw [h]; rfl

theorem contains_any (ws : List Int) (b m cap : Nat) (hmw : m = ws.length) (t : TypeId) (hl : ws.length ≤ 1000) (w : World) (hb : w.heap[b]? = some (.cells (arrC ws) t)) : Calls Tryd.prog 164 #[.slice (some ⟨b, 0, none⟩) m cap, .func (.func 165) #[] #[]] w fun e w' => e = .returned (.bool (!isWords ws)) ∧ w' = w := by
  subst hmw
  refine calls_walk_n (args := [.slice (some ⟨b, 0, none⟩) ws.length cap, .func (.func 165) #[] #[]]) Tryd.func164 rfl rfl rfl ?_
  refine WC.seq ?_
  refine WC.region ?_
  refine WL.assign rfl rfl ?_
  refine (WL.done (WX.next ?_))
  refine WC.seq ?_
  refine WC.region ?_
  refine WL.move rfl rfl ?_
  refine WL.move rfl rfl ?_
  refine WL.call call188 rfl rfl ?_
  refine Calls.mono (index_any ws b _ cap rfl t hl _ hb) ?_
  rintro _ wx ⟨z, rfl, hz, rfl⟩
  refine ⟨_, rfl, ?_⟩
  refine WL.bin rfl rfl binv_geq rfl ?_
  refine WL.assign rfl rfl ?_
  refine (WL.done (WX.next ?_))
  refine (WC.ret ?_)
  refine ret_one rfl rfl ?_
  exact ⟨by rw [← hz], rfl⟩

theorem words_any (ws : List Int) (h8 : ws.length = 8) (w : World) : Calls Tryd.prog 98 #[arr ws] w fun e w' => e = .returned (.bool (isWords ws)) ∧ St w [] w' [] := by
  refine calls_walk_n (args := [arr ws]) Tryd.func98 rfl rfl rfl ?_
  have H := St.refl w
  refine WC.seq ?_
  refine WC.region ?_
  refine WL.boxArr H rfl rfl ?_
  intro b1 wx hb1 hge1 H
  refine WL.assign rfl rfl ?_
  refine (WL.done (WX.next ?_))
  refine WC.seq ?_
  refine WC.region ?_
  refine WL.sliceArr arr38 rfl (by omega) rfl ?_
  refine WL.call call164 rfl rfl ?_
  refine Calls.mono (contains_any ws b1 8 8 h8.symm 38 (by omega) _ (H.blk 0 rfl)) ?_
  rintro _ wx ⟨rfl, rfl⟩
  refine ⟨_, rfl, ?_⟩
  refine WL.notOp rfl rfl ?_
  refine WL.assign rfl rfl ?_
  refine (WL.done (WX.next ?_))
  refine (WC.ret ?_)
  refine ret_one rfl rfl ?_
  exact ⟨by rw [Bool.not_not], H.tail⟩

theorem new_any (n : Int) (w : World) (hL : L64 w) : Calls Tryd.prog 23 #[.int .i64 n] w fun e w' => if 1 ≤ n ∧ n ≤ 4096 then ∃ p lb mb, e = .returned (.pointer (some ⟨p, 0, none⟩)) ∧ St w [] w' (RM.fresh p lb mb (List.replicate n.toNat pl0)).hp else e = .returned (.pointer none) ∧ St w [] w' [] := by
  refine calls_walk_n (args := [.int .i64 n]) Tryd.func23 rfl rfl rfl ?_
  have H := St.refl w
  refine WC.seq ?_
  refine WC.region ?_
  refine WL.assign rfl rfl ?_
  refine (WL.done (WX.next ?_))
  refine WC.seq ?_
  refine WC.seq ?_
  refine WC.region ?_
  refine WL.move rfl rfl ?_
  refine WL.bin rfl rfl binv_lss rfl ?_
  refine WL.move rfl rfl ?_
  first | refine WL.splitD (t := 8) rfl (fun g1 => ?_) (fun g1 => ?_) | refine WL.split (t := 8) rfl (fun g1 => ?_) (fun g1 => ?_)
  · -- g1 True
    refine WL.no rfl rfl rfl ?_
    refine WL.no rfl rfl rfl ?_
    refine WL.pickT rfl rfl rfl ?_
    refine (WL.done (WX.next ?_))
    refine WC.cond_true rfl (rfl) ?_
    refine WC.seq ?_
    refine WC.region ?_
    refine WL.assign rfl rfl ?_
    refine (WL.done (WX.next ?_))
    refine (WC.ret (WX.then_ret ?_))
    refine ret_one rfl rfl ?_
    rw [if_neg (by omega)]
    exact ⟨rfl, H⟩
  · -- g1 False
    refine WL.yes rfl rfl ?_
    refine WL.move rfl rfl ?_
    refine WL.yes rfl rfl ?_
    refine WL.bin rfl rfl binv_gtr rfl ?_
    refine WL.pickF rfl rfl rfl ?_
    refine (WL.done (WX.next ?_))
    first | refine WC.cond_dec rfl (fun c2 => ?_) (fun c2 => ?_) | refine WC.cond rfl (fun c2 => ?_) (fun c2 => ?_)
    · -- c2 T
      refine WC.seq ?_
      refine WC.region ?_
      refine WL.assign rfl rfl ?_
      refine (WL.done (WX.next ?_))
      refine (WC.ret (WX.then_ret ?_))
      refine ret_one rfl rfl ?_
      rw [if_neg (by omega)]
      exact ⟨rfl, H⟩
    · -- c2 F
      refine (WC.skip (WX.next ?_))
      refine WC.seq ?_
      refine WC.region ?_
      obtain ⟨m, rfl⟩ : ∃ m : Nat, n = (m : Int) := ⟨n.toNat, by omega⟩
      have hX0 : (List.replicate m pl0).map (fun l => (l, Row.none)) = List.replicate m (pl0, Row.none) := by simp
      refine WL.move rfl rfl ?_
      refine WL.makeS H app156 zer158 rfl rfl rfl rfl (by omega) (by omega) rfl ?_
      intro g wx hg hgg H
      rw [new_cells] at H
      refine WL.assign rfl rfl ?_
      refine (WL.done (WX.next ?_))
      refine WC.seq ?_
      refine WC.region ?_
      refine WL.buildA (z := arrC zeros8) arr38 zer38 rfl rfl rfl ?_
      refine WL.call call97 rfl rfl ?_
      refine Calls.mono (encode_any zeros8 rfl _ (hL.of0 H)) ?_
      rintro _ wx ⟨rfl, Hc⟩
      refine ⟨_, rfl, ?_⟩
      replace H := H.call0 Hc
      refine WL.assign rfl rfl ?_
      refine (WL.done (WX.next ?_))
      refine WC.seq ?_
      refine WC.seq ?_
      refine WC.region ?_
      refine WL.move rfl rfl ?_
      refine WL.lenSlc isl156 rfl rfl ?_
      refine WL.move rfl rfl ?_
      refine (WL.done (WX.next ?_))
      refine WC.block ?_
      -- loop 1: changed [18] kept [3, 4, 17]
      obtain ⟨g0, hg0⟩ : ∃ g0, g0 = g := ⟨_, rfl⟩
      subst hg0
      refine WC.loop (Sub.cons (t := 3) rfl (Sub.cons (t := 4) rfl (Sub.cons (t := 17) rfl (Sub.nil _)))) (fun i : Nat => [(18, .int .i64 (i : Int))]) (fun q i wx => q = m - i ∧ i ≤ m ∧ St w [] wx [(g0, .cells (linesC (List.replicate m (pl0, Row.none))).toArray 158)]) (m) (0) (Sub.cons (t := 18) (by first | rfl | simp) (Sub.nil _)) (⟨rfl, by omega, H⟩) ?_
      rintro k g wx hI N hN
      obtain ⟨rfl, hg, H⟩ := hI
      refine WC.seq ?_
      refine WC.region ?_
      refine WL.bin rfl rfl binv_lss rfl ?_
      refine (WL.done (WX.next ?_))
      refine WC.seq ?_
      first | refine WC.cond_dec rfl (fun c3 => ?_) (fun c3 => ?_) | refine WC.cond rfl (fun c3 => ?_) (fun c3 => ?_)
      · -- c3 T
        refine (WC.skip (WX.next ?_))
        refine WC.seq ?_
        refine WC.block ?_
        refine WC.seq ?_
        refine WC.region ?_
        refine WL.move rfl rfl ?_
        refine WL.assign rfl rfl ?_
        refine (WL.done (WX.next ?_))
        refine WC.region ?_
        have hlt : g < m := by omega
        obtain ⟨A, ⟨l, r⟩, B, hX, hA⟩ := split_at (X := List.replicate m (pl0, Row.none)) (n := g) (by simpa using hlt)
        have hlr : (l, r) = (pl0, Row.none) := List.eq_of_mem_replicate (by rw [hX]; simp : (l, r) ∈ List.replicate m (pl0, Row.none))
        cases hlr
        have hal : (linesC A).length = 11 * g := by
          rw [linesC_length (fun x hx => by rw [List.eq_of_mem_replicate (by rw [hX]; exact List.mem_append_left _ hx : x ∈ List.replicate m (pl0, Row.none))]; rfl), hA]
        have hcells : (linesC (List.replicate m (pl0, Row.none))).toArray = lineL (linesC A) pl0 Row.none (linesC B) := by rw [hX, linesC_append, linesC_cons]; rfl
        refine WL.move rfl rfl ?_
        refine WL.move rfl rfl ?_
        refine WL.move rfl rfl ?_
        refine WL.idxSlc (k := g) slc156 rfl rfl (by first | rfl | omega) (by omega) rfl ?_
        refine WL.fieldAddr fld158_0 rfl rfl ?_
        refine WL.fieldAddr fld40_1 rfl rfl ?_
        rw [hcells] at H
        refine WL.storeAt H ty3 0 rfl rfl rfl rfl (by simp [Value.cells, Value.oneCell']) (by rw [lineL_size rfl]; omega) ?_
        intro wx H
        replace H := H.castH (H' := [(g0, .cells (linesC (List.replicate m (pl0, Row.none))).toArray 158)]) (by
          have e1 := wr_lineC (a := linesC A) (l := pl0) (r := Row.none) (c := linesC B) (o := 0 + g * 11 + 0 + 8) (z := enc zeros8) (by omega) rfl
          have e2 : ({ pl0 with c := enc zeros8 } : PL) = pl0 := by rw [enc_zero]; rfl
          rw [e2] at e1
          rw [hcells]; exact congrArg (fun c => [(g0, Obj.cells c 158)]) e1)
        refine (WL.done (WX.block_normal (WX.next ?_)))
        refine WC.region ?_
        refine WL.bin rfl rfl (iadd (by omega) (by omega)) rfl ?_
        refine WL.move rfl rfl ?_
        refine (WL.done (WX.round ?_))
        exact hN _ (g+1) _ _ (by omega) ⟨rfl, by omega, H⟩ (Sub.cons (t := 18) (by first | rfl | simp) (Sub.nil _)) (Sub.cons (t := 3) rfl (Sub.cons (t := 4) rfl (Sub.cons (t := 17) rfl (Sub.nil _))))
      · -- c3 F
        refine (WC.exit (WX.then_exit (WX.then_exit (WX.block_exit (WX.next ?_)))))
        refine WC.seq ?_
        refine WC.region ?_
        refine WL.move rfl rfl ?_
        refine WL.makeMap H rfl ?_
        intro mb wx hmb hgm H
        refine WL.build pla161 zer161 rfl rfl rfl ?_
        refine WL.box H rfl rfl ?_
        intro b31 wx hb31 hge31 H
        refine WL.assign rfl rfl ?_
        refine (WL.done (WX.next ?_))
        refine (WC.ret ?_)
        refine ret_one rfl rfl ?_
        rw [if_pos ⟨by omega, by omega⟩]
        refine ⟨b31, g0, mb, rfl, ?_⟩
        rw [RM.fresh_hp, Int.toNat_natCast, hX0, List.length_replicate]
        exact H.perm (List.Perm.cons _ (List.Perm.swap _ _ _))

end Go.Proofs.YtkncbggnaobgeaaDoor
