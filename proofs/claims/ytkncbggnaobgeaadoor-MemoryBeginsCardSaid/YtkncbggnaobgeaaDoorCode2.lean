/- Walks of functions of the program; printed by a program of this session (walk.py) out of hand-written hints. -/
import Derived.Test.YtkncbggnaobgeaaDoorCode1
namespace Go.Proofs.YtkncbggnaobgeaaDoor
open Go.RowKit
set_option linter.unusedVariables false
set_option linter.unusedSimpArgs false
set_option maxRecDepth 100000

theorem word_step {X : Nat} (h40 : X < 2 ^ 40) : ∀ d t, t + d = 40 → X / 2 ^ t * 2 ^ t ≠ 0 →
    ∃ t' m, t ≤ t' ∧ t' < 40 ∧ X.testBit t' = true ∧ (∀ i, t ≤ i → i < t' → X.testBit i = false) ∧ X / 2 ^ t * 2 ^ t = 2 ^ t' * (2 * m + 1) ∧ X / 2 ^ (t' + 1) = m
  | 0, t, ht, h => by
    exfalso
    have : t = 40 := by omega
    subst this
    rw [Nat.div_eq_of_lt h40] at h
    simp at h
  | d + 1, t, ht, h => by
    have hdiv : X / 2 ^ (t + 1) = X / 2 ^ t / 2 := by rw [Nat.pow_succ, Nat.div_div_eq_div_mul]
    have hb : X.testBit t = decide (X / 2 ^ t % 2 = 1) := by rw [Nat.testBit_eq_decide_div_mod_eq]
    by_cases hbit : X / 2 ^ t % 2 = 1
    · refine ⟨t, X / 2 ^ (t + 1), Nat.le_refl _, by omega, by rw [hb]; simpa using hbit, fun i h1 h2 => by omega, ?_, rfl⟩
      rw [hdiv, Nat.mul_comm (2 ^ t)]
      congr 1
      omega
    · have hsame : X / 2 ^ t * 2 ^ t = X / 2 ^ (t + 1) * 2 ^ (t + 1) := by
        have h2 : 2 ^ (t + 1) = 2 * 2 ^ t := by rw [Nat.pow_succ, Nat.mul_comm]
        rw [hdiv, h2, ← Nat.mul_assoc]
        congr 1
        omega
      obtain ⟨t', m, h1, h2, h3, h4, h5, h6⟩ := word_step h40 d (t + 1) (by omega) (by rw [← hsame]; exact h)
      refine ⟨t', m, by omega, h2, h3, fun i hi1 hi2 => ?_, by rw [hsame]; exact h5, h6⟩
      rcases Nat.lt_or_ge t i with hl | hg
      · exact h4 i hl hi2
      · have : i = t := by omega
        subst this
        rw [hb]; simpa using hbit
theorem and_pred {k m : Nat} : (2 ^ k * (2 * m + 1)) &&& (2 ^ k * (2 * m + 1) - 1) = m * 2 ^ (k + 1) := by
  have hp : 0 < 2 ^ k := Nat.two_pow_pos k
  have e1 : 2 ^ k * (2 * m + 1) - 1 = 2 ^ k * (2 * m) + (2 ^ k - 1) := by
    rw [Nat.mul_add, Nat.mul_one]; omega
  have e2 : m * 2 ^ (k + 1) = 2 ^ k * (2 * m) := by rw [Nat.pow_succ]; rw [Nat.mul_comm m, Nat.mul_assoc]
  rw [e1, e2]
  apply Nat.eq_of_testBit_eq
  intro i
  rw [Nat.testBit_and, Nat.testBit_two_pow_mul, Nat.testBit_two_pow_mul_add _ (by omega), Nat.testBit_two_pow_mul]
  by_cases hi : i < k
  · have h1 : ¬ i ≥ k := by omega
    simp [h1]
  · have h1 : i ≥ k := by omega
    simp only [h1, decide_true, Bool.true_and, hi, if_false]
    rcases Nat.eq_or_lt_of_le h1 with he | hl
    · subst he; simp [Nat.testBit_zero]
    · obtain ⟨d, hd⟩ : ∃ d, i - k = d + 1 := ⟨i - k - 1, by omega⟩
      rw [hd, Nat.testBit_succ, Nat.testBit_succ]
      have e3 : (2 * m + 1) / 2 = m := by omega
      have e4 : 2 * m / 2 = m := by omega
      rw [e3, e4, Bool.and_self]
theorem bitAt_word (ws : List Int) {g t : Nat} (ht : t < 40) : bitAt ws (40 * g + t) = (ws.getD g 0).toNat.testBit t := by
  unfold bitAt
  rw [show (40 * g + t) / 40 = g from by omega, show (40 * g + t) % 40 = t from by omega]
theorem syn_done {ws : List Int} {g t : Nat} (ht : t ≤ 40) (hw : (ws.getD g 0).toNat < 2 ^ 40) (h : (ws.getD g 0).toNat / 2 ^ t * 2 ^ t = 0) : synTo ws (40 * g + t) = synTo ws (40 * (g + 1)) := by
  have := synTo_skip ws (40 * g + t) (40 - t) (fun j h1 h2 => by
    obtain ⟨i, rfl⟩ : ∃ i, j = 40 * g + i := ⟨j - 40 * g, by omega⟩
    rw [bitAt_word ws (by omega), Nat.testBit_eq_decide_div_mod_eq]
    have hz : (ws.getD g 0).toNat / 2 ^ t = 0 := by
      rcases Nat.mul_eq_zero.1 h with h | h
      · exact h
      · have := Nat.two_pow_pos t; omega
    have hlt := (Nat.div_eq_zero_iff.1 hz).resolve_left (by have := Nat.two_pow_pos t; omega)
    have : (ws.getD g 0).toNat < 2 ^ i := Nat.lt_of_lt_of_le hlt (Nat.pow_le_pow_right (by omega) (by omega))
    rw [Nat.div_eq_of_lt this]; simp)
  rw [← this]; congr 1; omega
theorem syn_step {ws : List Int} {g t t' : Nat} (h1 : t ≤ t') (h2 : t' < 40) (hb : (ws.getD g 0).toNat.testBit t' = true) (hn : ∀ i, t ≤ i → i < t' → (ws.getD g 0).toNat.testBit i = false) :
    synTo ws (40 * g + (t' + 1)) = ((synTo ws (40 * g + t)).1 ^^^ posn (40 * g + t'), (synTo ws (40 * g + t)).2 + 1) := by
  have := synTo_skip ws (40 * g + t) (t' - t) (fun j h1 h2 => by
    obtain ⟨i, rfl⟩ : ∃ i, j = 40 * g + i := ⟨j - 40 * g, by omega⟩
    rw [bitAt_word ws (by omega)]
    exact hn i (by omega) (by omega))
  rw [show 40 * g + (t' + 1) = (40 * g + t') + 1 from rfl, synTo, bitAt_word ws h2, hb, if_pos rfl]
  rw [← this, show 40 * g + t + (t' - t) = 40 * g + t' from by omega]

theorem sum_any (ws : List Int) (h8 : ws.length = 8) (hw : isWords ws = true) (w : World) (hL : L64 w) : Calls Tryd.prog 162 #[arr ws] w fun e w' => e = .returned (.tuple #[.int .i64 (syn ws : Int), .int .i64 (cnt ws : Int)]) ∧ St w [] w' [] := by
  refine calls_walk_n (args := [arr ws]) Tryd.func162 rfl rfl rfl ?_
  have H := St.refl w
  refine WC.seq ?_
  refine WC.region ?_
  refine WL.boxArr H rfl rfl ?_
  intro b1 wx hb1 hge1 H
  refine WL.assign rfl rfl ?_
  refine WL.assign rfl rfl ?_
  refine (WL.done (WX.next ?_))
  refine WC.seq ?_
  refine WC.seq ?_
  refine WC.region ?_
  first | refine WL.load rfl (H.rdArr ty38 0 rfl h8) rfl ?_
  refine WL.move rfl rfl ?_
  refine (WL.done (WX.next ?_))
  refine WC.block ?_
  -- loop 1: changed [2, 3, 7] kept [6]
  refine WC.loop (Sub.cons (t := 6) rfl (Sub.nil _)) (fun g : Nat => [(2, .int .i64 ((synTo ws (40 * g)).1 : Int)), (3, .int .i64 ((synTo ws (40 * g)).2 : Int)), (7, .int .i64 (g : Int))]) (fun k g wx => k = 8 - g ∧ g ≤ 8 ∧ St w [] wx []) (8) (0) (Sub.cons (t := 2) (by first | rfl | simp) (Sub.cons (t := 3) (by first | rfl | simp) (Sub.cons (t := 7) (by first | rfl | simp) (Sub.nil _)))) (⟨rfl, by omega, H.tail⟩) ?_
  rintro k g wx hI N hN
  obtain ⟨rfl, hg, H⟩ := hI
  refine WC.seq ?_
  refine WC.region ?_
  refine WL.bin rfl rfl binv_lss rfl ?_
  refine (WL.done (WX.next ?_))
  refine WC.seq ?_
  first | refine WC.cond_dec rfl (fun c1 => ?_) (fun c1 => ?_) | refine WC.cond rfl (fun c1 => ?_) (fun c1 => ?_)
  · -- c1 T
    refine (WC.skip (WX.next ?_))
    refine WC.seq ?_
    refine WC.block ?_
    refine WC.seq ?_
    refine WC.region ?_
    refine WL.move rfl rfl ?_
    refine WL.indexArr (ws := _) arr38 (by assumption) rfl rfl (by first | rfl | omega) (by omega) rfl ?_ (by intro el h; rw [Tryd.underlying38] at h; cases h; exact ty3)
    refine WL.assign rfl rfl ?_
    refine WL.assign rfl rfl ?_
    refine (WL.done (WX.next ?_))
    refine WC.block ?_
    -- loop 2: changed [2, 3, 5] kept [4, 6, 7]
    have hlt : g < 8 := by omega
    obtain ⟨g0, hg0⟩ : ∃ g0, g0 = g := ⟨_, rfl⟩
    subst hg0
    have hN0 := hN
    clear hN
    have hrange := isWords_get hw (g := g0) (by omega)
    obtain ⟨X, hX⟩ : ∃ X : Nat, ws.getD g0 0 = (X : Int) := ⟨(ws.getD g0 0).toNat, by omega⟩
    have hXn : (ws.getD g0 0).toNat = X := by omega
    have hX40 : X < 2 ^ 40 := by omega
    refine WC.loop (Sub.cons (t := 4) rfl (Sub.cons (t := 6) rfl (Sub.cons (t := 7) rfl (Sub.nil _)))) (fun t : Nat => [(2, .int .i64 ((synTo ws (40 * g0 + t)).1 : Int)), (3, .int .i64 ((synTo ws (40 * g0 + t)).2 : Int)), (5, .int .i64 ((X / 2 ^ t * 2 ^ t : Nat) : Int))]) (fun k t wx => k = 40 - t ∧ t ≤ 40 ∧ St w [] wx []) (40) (0) (Sub.cons (t := 2) rfl (Sub.cons (t := 3) rfl (Sub.cons (t := 5) (by rw [Nat.pow_zero, Nat.div_one, Nat.mul_one, ← hX]; rfl) (Sub.nil _)))) (⟨rfl, by omega, H⟩) ?_
    rintro k g wx hI N hN
    obtain ⟨rfl, ht, H⟩ := hI
    obtain ⟨Y, hY⟩ : ∃ Y, Y = X / 2 ^ g * 2 ^ g := ⟨_, rfl⟩
    rw [← hY]
    have hYle : Y ≤ X := by rw [hY]; exact Nat.div_mul_le_self _ _
    refine WC.seq ?_
    refine WC.seq ?_
    refine WC.region ?_
    refine WL.move rfl rfl ?_
    refine WL.bin rfl rfl binv_neq rfl ?_
    refine (WL.done (WX.next ?_))
    first | refine WC.cond_dec rfl (fun c2 => ?_) (fun c2 => ?_) | refine WC.cond rfl (fun c2 => ?_) (fun c2 => ?_)
    · -- c2 T
      have hYne : Y ≠ 0 := by omega
      obtain ⟨t', m, ht1, ht2, hb, hno, hYe, hm⟩ := word_step hX40 (40 - g) g (by omega) (by rw [← hY]; exact hYne)
      rw [← hY] at hYe
      have hsl := synTo_lt ws (40 * g0 + g) (by omega)
      have hpf := posn_facts (40 * g0 + t') (by omega)
      refine (WC.skip (WX.next ?_))
      refine WC.seq ?_
      refine WC.block ?_
      refine WC.seq ?_
      refine WC.region ?_
      refine WL.move rfl rfl ?_
      refine WL.move rfl rfl ?_
      refine WL.move rfl rfl ?_
      refine WL.convert int3 int214 rfl (by first | exact wrap_i64 (by omega) (by omega) | exact wrap_u64 (by omega) (by omega)) rfl ?_
      refine WL.call call168 rfl rfl ?_
      refine Calls.mono (tz_any t' m _ (by rw [← hYe]) (by rw [← hYe]; omega) _ (hL.of0 H)) ?_
      rintro _ wx ⟨rfl, rfl⟩
      refine ⟨_, rfl, ?_⟩
      refine WL.call call198 rfl rfl ?_
      refine Calls.mono (position_any g0 t' (by omega) (by omega) _) ?_
      rintro _ wx ⟨rfl, rfl⟩
      refine ⟨_, rfl, ?_⟩
      refine WL.bin rfl rfl (ixorN rfl rfl (by omega) (by omega)) rfl ?_
      refine WL.assign rfl rfl ?_
      refine (WL.done (WX.next ?_))
      refine WC.region ?_
      refine WL.move rfl rfl ?_
      refine WL.bin rfl rfl (iaddN (b := 1) rfl rfl (by omega)) rfl ?_
      refine WL.assign rfl rfl ?_
      refine (WL.done (WX.block_normal (WX.next ?_)))
      refine WC.region ?_
      refine WL.move rfl rfl ?_
      refine WL.move rfl rfl ?_
      refine WL.bin rfl rfl (isub (by omega) (by omega)) rfl ?_
      refine WL.bin rfl rfl (iandN (a := Y) (b := Y - 1) rfl (by omega) (by omega) (by omega)) rfl ?_
      refine WL.assign rfl rfl ?_
      refine (WL.done (WX.round ?_))
      have hst := syn_step (ws := ws) (g := g0) ht1 ht2 (by rw [hXn]; exact hb) (by rw [hXn]; exact hno)
      exact hN _ (t' + 1) _ _ (by omega) ⟨rfl, by omega, H⟩ (Sub.cons (t := 2) (by rw [hst]; rfl) (Sub.cons (t := 3) (by rw [hst]; rfl) (Sub.cons (t := 5) (by rw [hm, ← and_pred, ← hYe]; rfl) (Sub.nil _)))) (Sub.cons rfl (Sub.cons rfl (Sub.cons rfl (Sub.nil _))))
    · -- c2 F
      refine (WC.exit (WX.then_exit (WX.then_exit (WX.block_exit (WX.block_normal (WX.next ?_))))))
      refine WC.region ?_
      refine WL.bin rfl rfl (iadd (by omega) (by omega)) rfl ?_
      refine WL.move rfl rfl ?_
      refine (WL.done (WX.round ?_))
      have hY0 : Y = 0 := by omega
      have hsd := syn_done (ws := ws) (g := g0) (t := g) (by omega) (by rw [hXn]; exact hX40) (by rw [hXn, ← hY]; exact hY0)
      exact hN0 _ (g0+1) _ _ (by omega) ⟨rfl, by omega, H⟩ (Sub.cons (t := 2) (by rw [← hsd]; rfl) (Sub.cons (t := 3) (by rw [← hsd]; rfl) (Sub.cons (t := 7) rfl (Sub.nil _)))) (Sub.cons rfl (Sub.nil _))
  · -- c1 F
    refine (WC.exit (WX.then_exit (WX.then_exit (WX.block_exit (WX.next ?_)))))
    refine WC.seq ?_
    refine WC.region ?_
    refine WL.move rfl rfl ?_
    refine WL.move rfl rfl ?_
    refine WL.assign rfl rfl ?_
    refine WL.assign rfl rfl ?_
    refine (WL.done (WX.next ?_))
    refine (WC.ret ?_)
    refine ret_two rfl rfl rfl ?_
    obtain rfl : g = 8 := by omega
    exact ⟨rfl, H⟩

end Go.Proofs.YtkncbggnaobgeaaDoor
