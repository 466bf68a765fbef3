/- Texts of this session, laid together: Ref3, Ref5, Ref6, Pl4, Mor, Rem1, Rem2, Rem3, Rem4, Rem5. -/
import Derived.Test.YtkncbggnaobgeaaDoorGh
import Derived.Deep.Upon

/- Walks of functions of the program; printed by a program of this session (walk.py) out of hand-written hints. -/
namespace Go.Proofs.YtkncbggnaobgeaaDoor
open Go.RowKit
set_option linter.unusedVariables false
set_option linter.unusedSimpArgs false
set_option maxRecDepth 100000

theorem place_fact : ∀ i, i < 320 → ∀ j, j < 10 → (2 ≤ j ∧ i + 1 + j < 2 ^ j ∧ (j = 2 ∨ 2 ^ (j - 1) ≤ i + 1 + (j - 1))) → posn i = i + 1 + j := by decide +kernel
theorem place_stop : ∀ i, i < 320 → ∀ j, j < 10 → 2 ^ j ≤ i + 1 + j → j < 9 := by decide +kernel
theorem two_pow_cast (j : Nat) : (1 : Int) * 2 ^ j = ((2 ^ j : Nat) : Int) := by rw [Int.one_mul]; norm_cast
/-- The bits of a code up to one of them: their positions' exclusive or, and how many are 1. -/
def codeTo (c : Nat) : Nat → Nat × Nat
  | 0 => (0, 0)
  | b + 1 => if c.testBit b then ((if b < 9 then (codeTo c b).1 ^^^ 2 ^ b else (codeTo c b).1), (codeTo c b).2 + 1) else codeTo c b
theorem codeTo_all : ∀ c, c < 1024 → codeTo c 10 = (c &&& 511, popc c) := by decide +kernel
theorem codeTo_lt (c : Nat) : ∀ b, b ≤ 10 → (codeTo c b).1 < 512 ∧ (codeTo c b).2 ≤ b
  | 0, _ => by simp [codeTo]
  | b + 1, h => by
    obtain ⟨h1, h2⟩ := codeTo_lt c b (by omega)
    unfold codeTo
    split
    · refine ⟨?_, by simp; omega⟩
      show (if b < 9 then (codeTo c b).1 ^^^ 2 ^ b else (codeTo c b).1) < 512
      split
      · exact Nat.xor_lt_two_pow (n := 9) (by omega) (Nat.pow_lt_pow_right (by omega) (by omega))
      · exact h1
    · exact ⟨h1, by omega⟩
theorem one_bit {x : Int} (hx : 0 ≤ x) (b : Nat) : decide (x / 2 ^ b % 2 ^ 1 = 1) = x.toNat.testBit b := by
  rw [Nat.testBit_eq_decide_div_mod_eq, decide_eq_decide]
  obtain ⟨n, rfl⟩ := Int.eq_ofNat_of_zero_le hx
  rw [Int.toNat_natCast]
  norm_cast
theorem div_pow_cast (x b : Nat) : (x : Int) / 2 ^ b = ((x / 2 ^ b : Nat) : Int) := by norm_cast
theorem shr_pos {x b : Nat} (h : 0 < x / 2 ^ b) (hx : x < 2 ^ 40) : b < 40 := by
  rcases Nat.lt_or_ge b 40 with hl | hg
  · exact hl
  · have h1 : 2 ^ 40 ≤ 2 ^ b := Nat.pow_le_pow_right (by omega) hg
    rw [Nat.div_eq_of_lt (by omega)] at h
    omega
theorem shr_zero {x b j : Nat} (h : x / 2 ^ b = 0) (hj : b ≤ j) : x.testBit j = false := by
  have h1 : x < 2 ^ b := by
    rcases Nat.lt_or_ge x (2 ^ b) with hl | hg
    · exact hl
    · have := Nat.div_pos hg (Nat.two_pow_pos b); omega
  exact Nat.testBit_lt_two_pow (Nat.lt_of_lt_of_le h1 (Nat.pow_le_pow_right (by omega) hj))
theorem or512 : ∀ s, s < 512 → s ||| 512 = s + 512 := by decide +kernel

theorem place_any (i : Nat) (hi : i < 320) (w : World) : Calls Tryd.prog 171 #[.int .i64 (i : Int)] w fun e w' => e = .returned (.int .i64 (posn i : Int)) ∧ w' = w := by
  refine calls_walk_n (args := [.int .i64 (i : Int)]) Tryd.func171 rfl rfl rfl ?_
  refine WC.seq ?_
  refine WC.region ?_
  refine WL.assign rfl rfl ?_
  refine (WL.done (WX.next ?_))
  refine WC.seq ?_
  refine WC.region ?_
  refine WL.assign rfl rfl ?_
  refine (WL.done (WX.next ?_))
  refine WC.seq ?_
  refine WC.block ?_
  -- loop 1: changed [3] kept [0]
  refine WC.loop (Sub.cons (t := 0) rfl (Sub.nil _)) (fun j : Nat => [(3, .int .i64 (j : Int))]) (fun q j wx => q = 10 - j ∧ 2 ≤ j ∧ j < 10 ∧ (j = 2 ∨ 2 ^ (j - 1) ≤ i + 1 + (j - 1)) ∧ wx = w) (8) (2) (Sub.cons (t := 3) (by first | rfl | simp) (Sub.nil _)) (⟨rfl, by omega, by omega, .inl rfl, rfl⟩) ?_
  rintro k g wx hI N hN
  obtain ⟨rfl, hj2, hj, hlow, rfl⟩ := hI
  obtain ⟨j, rfl⟩ : ∃ j, j = g := ⟨g, rfl⟩
  refine WC.seq ?_
  refine WC.seq ?_
  refine WC.region ?_
  refine WL.move rfl rfl ?_
  refine WL.bin rfl rfl (iadd (by omega) (by omega)) rfl ?_
  refine WL.move rfl rfl ?_
  refine WL.bin rfl rfl (iadd (by omega) (by omega)) rfl ?_
  refine WL.move rfl rfl ?_
  refine WL.bin rfl rfl (ishl (m := j) rfl (by omega) (by omega) (by rw [two_pow_cast]; have := Nat.pow_lt_pow_right (a := 2) (by omega) (show j < 10 by omega); omega)) rfl ?_
  refine WL.bin rfl rfl binv_geq rfl ?_
  refine (WL.done (WX.next ?_))
  first | refine WC.cond_dec rfl (fun c1 => ?_) (fun c1 => ?_) | refine WC.cond rfl (fun c1 => ?_) (fun c1 => ?_)
  · -- c1 T
    refine (WC.skip (WX.next ?_))
    refine WC.block ?_
    refine WC.region ?_
    refine WL.move rfl rfl ?_
    refine WL.bin rfl rfl (iadd (by omega) (by omega)) rfl ?_
    refine WL.assign rfl rfl ?_
    refine (WL.done (WX.block_normal (WX.round ?_)))
    rw [two_pow_cast] at c1
    have hs := place_stop i hi j hj (by omega)
    exact hN _ (j+1) _ _ (by omega) ⟨rfl, by omega, by omega, .inr (by rw [Nat.add_sub_cancel]; omega), rfl⟩ (Sub.cons (t := 3) (by first | rfl | simp) (Sub.nil _)) (Sub.cons (t := 0) rfl (Sub.nil _))
  · -- c1 F
    refine (WC.exit (WX.then_exit (WX.then_exit (WX.block_exit (WX.next ?_)))))
    refine WC.seq ?_
    refine WC.region ?_
    refine WL.move rfl rfl ?_
    refine WL.bin rfl rfl (iadd (by omega) (by omega)) rfl ?_
    refine WL.move rfl rfl ?_
    refine WL.bin rfl rfl (iadd (by omega) (by omega)) rfl ?_
    refine WL.assign rfl rfl ?_
    refine (WL.done (WX.next ?_))
    refine (WC.ret ?_)
    refine ret_one rfl rfl ?_
    rw [two_pow_cast] at c1
    have := place_fact i hi j hj ⟨hj2, by omega, hlow⟩
    exact ⟨by rw [this]; norm_cast, rfl⟩

theorem one_any (ws : List Int) (h8 : ws.length = 8) (hw : isWords ws = true) (c : Int) (hc : 0 ≤ c ∧ c ≤ 1023) (k b : Nat) (hk : k ≤ 8) (hb : b < 64) (w : World) : Calls Tryd.prog 170 #[arr ws, .int .i64 c, .int .i64 (k : Int), .int .i64 (b : Int)] w fun e w' => e = .returned (.bool ((if k = 8 then c else ws.getD k 0).toNat.testBit b)) ∧ St w [] w' [] := by
  refine calls_walk_n (args := [arr ws, .int .i64 c, .int .i64 (k : Int), .int .i64 (b : Int)]) Tryd.func170 rfl rfl rfl ?_
  have H := St.refl w
  refine WC.seq ?_
  refine WC.region ?_
  refine WL.boxArr H rfl rfl ?_
  intro b4 wx hb4 hge4 H
  refine WL.assign rfl rfl ?_
  refine (WL.done (WX.next ?_))
  refine WC.seq ?_
  refine WC.seq ?_
  refine WC.region ?_
  refine WL.move rfl rfl ?_
  refine WL.bin rfl rfl binv_eql rfl ?_
  refine (WL.done (WX.next ?_))
  first | refine WC.cond_dec rfl (fun c1 => ?_) (fun c1 => ?_) | refine WC.cond rfl (fun c1 => ?_) (fun c1 => ?_)
  · -- c1 T
    refine WC.seq ?_
    refine WC.region ?_
    refine WL.move rfl rfl ?_
    refine WL.move rfl rfl ?_
    refine WL.bin rfl rfl (ishr (m := b) rfl (by show b ≤ 64; omega) hc.1) rfl ?_
    refine WL.bin rfl rfl (iandm (k := 1) (by decide) rfl) rfl ?_
    refine WL.bin rfl rfl binv_eql rfl ?_
    refine WL.assign rfl rfl ?_
    refine (WL.done (WX.next ?_))
    refine (WC.ret (WX.then_ret ?_))
    refine ret_one rfl rfl ?_
    rw [if_pos (by omega), ← one_bit hc.1]
    exact ⟨rfl, H.weaken (List.nil_sublist _)⟩
  · -- c1 F
    have hk8 : k < 8 := by omega
    have hwk := isWords_get hw (g := k) (by omega)
    refine (WC.skip (WX.next ?_))
    refine WC.seq ?_
    refine WC.region ?_
    refine WL.move rfl rfl ?_
    refine WL.idxArr (k := k) arr38 rfl rfl (by first | rfl | omega) (by omega) rfl ?_
    first | refine WL.load rfl ((by rw [Nat.zero_add, Nat.mul_one]; exact H.rdElt ty3 0 rfl (by omega))) rfl ?_
    refine WL.move rfl rfl ?_
    refine WL.bin rfl rfl (ishr (m := b) rfl (by show b ≤ 64; omega) hwk.1) rfl ?_
    refine WL.bin rfl rfl (iandm (k := 1) (by decide) rfl) rfl ?_
    refine WL.bin rfl rfl binv_eql rfl ?_
    refine WL.assign rfl rfl ?_
    refine (WL.done (WX.next ?_))
    refine (WC.ret ?_)
    refine ret_one rfl rfl ?_
    rw [if_neg (by omega), ← one_bit hwk.1]
    exact ⟨rfl, H.weaken (List.nil_sublist _)⟩

theorem refvalid_any (ws : List Int) (h8 : ws.length = 8) (c : Int) (w : World) : Calls Tryd.prog 103 #[arr ws, .int .i64 c] w fun e w' => e = .returned (.bool (isWords ws && isCode c)) ∧ St w [] w' [] := by
  refine calls_walk_n (args := [arr ws, .int .i64 c]) Tryd.func103 rfl rfl rfl ?_
  have H := St.refl w
  refine WC.seq ?_
  refine WC.region ?_
  refine WL.boxArr H rfl rfl ?_
  intro b2 wx hb2 hge2 H
  refine WL.assign rfl rfl ?_
  refine (WL.done (WX.next ?_))
  refine WC.seq ?_
  refine WC.seq ?_
  refine WC.region ?_
  refine WL.assign rfl rfl ?_
  refine (WL.done (WX.next ?_))
  refine WC.block ?_
  -- loop 1: changed [5] kept [1, 2]
  refine WC.loop (Sub.cons (t := 1) rfl (Sub.cons (t := 2) rfl (Sub.nil _))) (fun i : Nat => [(5, .int .i64 (i : Int))]) (fun q i wx => q = 8 - i ∧ i ≤ 8 ∧ (ws.take i).all isWord = true ∧ St w [] wx [(b2, .cells (arrC ws) 38)]) (8) (0) (Sub.cons (t := 5) (by first | rfl | simp) (Sub.nil _)) (⟨rfl, by omega, by simp, H⟩) ?_
  rintro k g wx hI N hN
  obtain ⟨rfl, hg, hall, H⟩ := hI
  refine WC.seq ?_
  refine WC.seq ?_
  refine WC.region ?_
  refine WL.move rfl rfl ?_
  refine WL.bin rfl rfl binv_lss rfl ?_
  refine (WL.done (WX.next ?_))
  first | refine WC.cond_dec rfl (fun c1 => ?_) (fun c1 => ?_) | refine WC.cond rfl (fun c1 => ?_) (fun c1 => ?_)
  · -- c1 T
    refine (WC.skip (WX.next ?_))
    refine WC.seq ?_
    refine WC.block ?_
    refine WC.seq ?_
    refine WC.region ?_
    refine WL.move rfl rfl ?_
    refine WL.idxArr (k := g) arr38 rfl rfl (by first | rfl | omega) (by omega) rfl ?_
    first | refine WL.load rfl (H.rdElt ty3 0 rfl (by omega)) rfl ?_
    refine WL.bin rfl rfl binv_lss rfl ?_
    refine WL.move rfl rfl ?_
    first | refine WL.splitD (t := 14) rfl (fun g1 => ?_) (fun g1 => ?_) | refine WL.split (t := 14) rfl (fun g1 => ?_) (fun g1 => ?_)
    · -- g1 True
      refine WL.no rfl rfl rfl ?_
      refine WL.no rfl rfl rfl ?_
      refine WL.no rfl rfl rfl ?_
      refine WL.no rfl rfl rfl ?_
      refine WL.pickT rfl rfl rfl ?_
      refine (WL.done (WX.next ?_))
      refine WC.cond_true rfl (rfl) ?_
      refine WC.seq ?_
      refine WC.region ?_
      refine WL.assign rfl rfl ?_
      refine (WL.done (WX.next ?_))
      refine (WC.ret (WX.block_ret (WX.then_ret (WX.then_ret (WX.block_ret (WX.then_ret ?_))))))
      refine ret_one rfl rfl ?_
      have hb := g1
      simp only [Nat.zero_add, Nat.mul_one] at hb
      have h : isWords ws = false := all_false_of (g := g) (by omega) (isWord_no (.inl hb))
      rw [h]; exact ⟨rfl, H.weaken (List.nil_sublist _)⟩
    · -- g1 False
      refine WL.yes rfl rfl ?_
      refine WL.move rfl rfl ?_
      refine WL.yes rfl rfl ?_
      refine WL.idxArr (k := g) arr38 rfl rfl (by first | rfl | omega) (by omega) rfl ?_
      refine WL.yes rfl rfl ?_
      first | refine WL.load rfl (H.rdElt ty3 0 rfl (by omega)) rfl ?_
      refine WL.yes rfl rfl ?_
      refine WL.bin rfl rfl binv_gtr rfl ?_
      refine WL.pickF rfl rfl rfl ?_
      refine (WL.done (WX.next ?_))
      first | refine WC.cond_dec rfl (fun c3 => ?_) (fun c3 => ?_) | refine WC.cond rfl (fun c3 => ?_) (fun c3 => ?_)
      · -- c3 T
        refine WC.seq ?_
        refine WC.region ?_
        refine WL.assign rfl rfl ?_
        refine (WL.done (WX.next ?_))
        refine (WC.ret (WX.block_ret (WX.then_ret (WX.then_ret (WX.block_ret (WX.then_ret ?_))))))
        refine ret_one rfl rfl ?_
        have hb := c3
        simp only [Nat.zero_add, Nat.mul_one] at hb
        have h : isWords ws = false := all_false_of (g := g) (by omega) (isWord_no (.inr hb))
        rw [h]; exact ⟨rfl, H.weaken (List.nil_sublist _)⟩
      · -- c3 F
        refine (WC.skip (WX.block_normal (WX.next ?_)))
        refine WC.region ?_
        refine WL.move rfl rfl ?_
        refine WL.bin rfl rfl (iadd (by omega) (by omega)) rfl ?_
        refine WL.assign rfl rfl ?_
        refine (WL.done (WX.round ?_))
        exact hN _ (g+1) _ _ (by omega) ⟨rfl, by omega, take_all_succ (by omega) hall (isWord_iff.2 (by simp only [Nat.zero_add, Nat.mul_one] at *; omega)), H⟩ (Sub.cons (t := 5) (by first | rfl | simp) (Sub.nil _)) (Sub.cons (t := 1) rfl (Sub.cons (t := 2) rfl (Sub.nil _)))
  · -- c1 F
    refine (WC.exit (WX.then_exit (WX.then_exit (WX.block_exit (WX.next ?_)))))
    refine WC.seq ?_
    refine WC.region ?_
    refine WL.move rfl rfl ?_
    refine WL.bin rfl rfl binv_geq rfl ?_
    refine WL.move rfl rfl ?_
    first | refine WL.splitD (t := 22) rfl (fun g2 => ?_) (fun g2 => ?_) | refine WL.split (t := 22) rfl (fun g2 => ?_) (fun g2 => ?_)
    · -- g2 True
      refine WL.yes rfl rfl ?_
      refine WL.move rfl rfl ?_
      refine WL.yes rfl rfl ?_
      refine WL.bin rfl rfl binv_leq rfl ?_
      refine WL.pickT rfl rfl rfl ?_
      refine WL.assign rfl rfl ?_
      refine (WL.done (WX.next ?_))
      refine (WC.ret ?_)
      refine ret_one rfl rfl ?_
      have h : isWords ws = true := all_of_take (by rw [show ws.length = g by omega]; exact hall)
      rw [h]; exact ⟨by simp [isCode]; omega, H.weaken (List.nil_sublist _)⟩
    · -- g2 False
      refine WL.no rfl rfl rfl ?_
      refine WL.no rfl rfl rfl ?_
      refine WL.pickF rfl rfl rfl ?_
      refine WL.assign rfl rfl ?_
      refine (WL.done (WX.next ?_))
      refine (WC.ret ?_)
      refine ret_one rfl rfl ?_
      have h : isWords ws = true := all_of_take (by rw [show ws.length = g by omega]; exact hall)
      rw [h, isCode_no (by omega)]; exact ⟨rfl, H.weaken (List.nil_sublist _)⟩

theorem syndrome_any (ws : List Int) (h8 : ws.length = 8) (hw : isWords ws = true) (c : Int) (hc : isCode c = true) (w : World) : Calls Tryd.prog 104 #[arr ws, .int .i64 c] w fun e w' => e = .returned (.tuple #[.int .i64 ((syn ws ^^^ (c.toNat &&& 511) : Nat) : Int), .int .i64 (((cnt ws + popc c.toNat) % 2 : Nat) : Int)]) ∧ St w [] w' [] := by
  refine calls_walk_n (args := [arr ws, .int .i64 c]) Tryd.func104 rfl rfl rfl ?_
  have H := St.refl w
  have hcr := isCode_iff.1 hc
  refine WC.seq ?_
  refine WC.region ?_
  refine WL.boxArr H rfl rfl ?_
  intro b2 wx hb2 hge2 H
  refine WL.assign rfl rfl ?_
  refine WL.assign rfl rfl ?_
  refine (WL.done (WX.next ?_))
  refine WC.seq ?_
  refine WC.region ?_
  refine WL.assign rfl rfl ?_
  refine (WL.done (WX.next ?_))
  refine WC.seq ?_
  refine WC.region ?_
  refine WL.assign rfl rfl ?_
  refine (WL.done (WX.next ?_))
  refine WC.seq ?_
  refine WC.seq ?_
  refine WC.region ?_
  refine WL.assign rfl rfl ?_
  refine (WL.done (WX.next ?_))
  refine WC.block ?_
  -- loop 1: changed [6, 7, 8] kept [1, 2]
  refine WC.loop (Sub.cons (t := 1) rfl (Sub.cons (t := 2) rfl (Sub.nil _))) (fun i : Nat => [(6, .int .i64 ((synTo ws (40 * i)).1 : Int)), (7, .int .i64 ((synTo ws (40 * i)).2 : Int)), (8, .int .i64 (i : Int))]) (fun q i wx => q = 8 - i ∧ i ≤ 8 ∧ St w [] wx [(b2, .cells (arrC ws) 38)]) (8) (0) (Sub.cons (t := 6) (by first | rfl | simp) (Sub.cons (t := 7) (by first | rfl | simp) (Sub.cons (t := 8) (by first | rfl | simp) (Sub.nil _)))) (⟨rfl, by omega, H⟩) ?_
  rintro k g wx hI N hN
  obtain ⟨rfl, hg, H⟩ := hI
  refine WC.seq ?_
  refine WC.seq ?_
  refine WC.region ?_
  refine WL.move rfl rfl ?_
  refine WL.bin rfl rfl binv_lss rfl ?_
  refine (WL.done (WX.next ?_))
  first | refine WC.cond_dec rfl (fun c1 => ?_) (fun c1 => ?_) | refine WC.cond rfl (fun c1 => ?_) (fun c1 => ?_)
  · -- c1 T
    refine (WC.skip (WX.next ?_))
    refine WC.seq ?_
    refine WC.block ?_
    refine WC.seq ?_
    refine WC.region ?_
    refine WL.assign rfl rfl ?_
    refine (WL.done (WX.next ?_))
    refine WC.block ?_
    -- loop 2: changed [6, 7, 9] kept [1, 2, 8]
    have hwg := isWords_get hw (g := g) (by omega)
    obtain ⟨x, hx⟩ : ∃ x : Nat, ws.getD g 0 = (x : Int) := ⟨(ws.getD g 0).toNat, by omega⟩
    refine WC.loop (Sub.cons (t := 1) rfl (Sub.cons (t := 2) rfl (Sub.cons (t := 8) rfl (Sub.nil _)))) (fun b : Nat => [(6, .int .i64 ((synTo ws (40 * g + b)).1 : Int)), (7, .int .i64 ((synTo ws (40 * g + b)).2 : Int)), (9, .int .i64 (b : Int))]) (fun q b wx => q = 40 - b ∧ b ≤ 40 ∧ St w [] wx [(b2, .cells (arrC ws) 38)]) (40) (0) (Sub.cons (t := 6) (by first | rfl | simp) (Sub.cons (t := 7) (by first | rfl | simp) (Sub.cons (t := 9) (by first | rfl | simp) (Sub.nil _)))) (⟨rfl, by omega, H⟩) ?_
    rintro k2 b wx hI N2 hN2
    obtain ⟨rfl, hb40, H⟩ := hI
    refine WC.seq ?_
    refine WC.seq ?_
    refine WC.region ?_
    refine WL.move rfl rfl ?_
    refine WL.idxArr (k := g) arr38 rfl rfl (by first | rfl | omega) (by omega) rfl ?_
    first | refine WL.load rfl ((by rw [Nat.zero_add, Nat.mul_one]; exact H.rdElt ty3 0 rfl (by omega))) rfl ?_
    refine WL.move rfl rfl ?_
    refine WL.bin rfl rfl (ishr (m := b) rfl (by show b ≤ 64; omega) hwg.1) rfl ?_
    refine WL.bin rfl rfl binv_gtr rfl ?_
    refine (WL.done (WX.next ?_))
    first | refine WC.cond_dec rfl (fun c2 => ?_) (fun c2 => ?_) | refine WC.cond rfl (fun c2 => ?_) (fun c2 => ?_)
    · -- c2 T
      have hb : b < 40 := shr_pos (x := x) (by rw [hx, div_pow_cast] at c2; exact_mod_cast c2) (by omega)
      have hsy := synTo_lt ws (40 * g + b) (by omega)
      have hpo := posn_facts (40 * g + b) (by omega)
      refine (WC.skip (WX.next ?_))
      refine WC.seq ?_
      refine WC.block ?_
      refine WC.seq ?_
      refine WC.region ?_
      first | refine WL.load rfl (H.rdArr ty38 0 rfl h8) rfl ?_
      refine WL.move rfl rfl ?_
      refine WL.move rfl rfl ?_
      refine WL.move rfl rfl ?_
      refine WL.call call170 rfl rfl ?_
      refine Calls.mono (one_any ws h8 hw c hcr g b (by omega) (by omega) _) ?_
      rintro _ wx ⟨rfl, Hc⟩
      refine ⟨_, rfl, ?_⟩
      replace H := H.call0 Hc
      refine WL.assign rfl rfl ?_
      refine (WL.done (WX.next ?_))
      refine WC.seq ?_
      refine WC.region ?_
      refine WL.move rfl rfl ?_
      refine (WL.done (WX.next ?_))
      first | refine WC.cond_dec rfl (fun c3 => ?_) (fun c3 => ?_) | refine WC.cond rfl (fun c3 => ?_) (fun c3 => ?_)
      · -- c3 T
        refine WC.seq ?_
        refine WC.region ?_
        refine WL.move rfl rfl ?_
        refine WL.move rfl rfl ?_
        refine WL.bin rfl rfl (imul (by omega) (by omega)) rfl ?_
        refine WL.move rfl rfl ?_
        refine WL.bin rfl rfl (iadd (by omega) (by omega)) rfl ?_
        refine WL.call call171 rfl rfl ?_
        refine Calls.mono (place_any (40 * g + b) (by omega) _) ?_
        rintro _ wx ⟨rfl, rfl⟩
        refine ⟨_, rfl, ?_⟩
        refine WL.bin rfl rfl (ixorN (a := (synTo ws (40 * g + b)).1) (b := posn (40 * g + b)) rfl rfl (by omega) (by omega)) rfl ?_
        refine WL.assign rfl rfl ?_
        refine (WL.done (WX.next ?_))
        refine WC.region ?_
        refine WL.move rfl rfl ?_
        refine WL.bin rfl rfl (iadd (by omega) (by omega)) rfl ?_
        refine WL.assign rfl rfl ?_
        refine (WL.done (WX.block_normal (WX.next ?_)))
        refine WC.region ?_
        refine WL.move rfl rfl ?_
        refine WL.bin rfl rfl (iadd (by omega) (by omega)) rfl ?_
        refine WL.assign rfl rfl ?_
        refine (WL.done (WX.round ?_))
        have hbit : bitAt ws (40 * g + b) = true := by
          unfold bitAt
          rw [show (40 * g + b) / 40 = g from by omega, show (40 * g + b) % 40 = b from by omega]
          rw [if_neg (by omega)] at c3
          exact c3
        have hs : synTo ws (40 * g + (b + 1)) = ((synTo ws (40 * g + b)).1 ^^^ posn (40 * g + b), (synTo ws (40 * g + b)).2 + 1) := by
          rw [show 40 * g + (b + 1) = (40 * g + b) + 1 from by omega, synTo, hbit]; rfl
        exact hN2 _ (b + 1) _ _ (by omega) ⟨rfl, by omega, H⟩ (Sub.cons (t := 6) (by rw [hs]; rfl) (Sub.cons (t := 7) (by rw [hs]; rfl) (Sub.cons (t := 9) rfl (Sub.nil _)))) (Sub.cons (t := 1) rfl (Sub.cons (t := 2) rfl (Sub.cons (t := 8) rfl (Sub.nil _))))
      · -- c3 F
        refine (WC.skip (WX.block_normal (WX.next ?_)))
        refine WC.region ?_
        refine WL.move rfl rfl ?_
        refine WL.bin rfl rfl (iadd (by omega) (by omega)) rfl ?_
        refine WL.assign rfl rfl ?_
        refine (WL.done (WX.round ?_))
        have hbit : bitAt ws (40 * g + b) = false := by
          unfold bitAt
          rw [show (40 * g + b) / 40 = g from by omega, show (40 * g + b) % 40 = b from by omega]
          rw [if_neg (by omega)] at c3
          exact c3
        have hs : synTo ws (40 * g + (b + 1)) = synTo ws (40 * g + b) := by
          rw [show 40 * g + (b + 1) = (40 * g + b) + 1 from by omega, synTo, hbit]; rfl
        exact hN2 _ (b + 1) _ _ (by omega) ⟨rfl, by omega, H⟩ (Sub.cons (t := 6) (by rw [hs]; rfl) (Sub.cons (t := 7) (by rw [hs]; rfl) (Sub.cons (t := 9) rfl (Sub.nil _)))) (Sub.cons (t := 1) rfl (Sub.cons (t := 2) rfl (Sub.cons (t := 8) rfl (Sub.nil _))))
    · -- c2 F
      have hz0 : (ws.getD g 0).toNat / 2 ^ b = 0 := by rw [hx, div_pow_cast] at c2; rw [hx, Int.toNat_natCast]; exact Nat.eq_zero_of_not_pos (fun h => c2 (by exact_mod_cast h))
      refine (WC.exit (WX.then_exit (WX.then_exit (WX.block_exit (WX.block_normal (WX.next ?_))))))
      refine WC.region ?_
      refine WL.move rfl rfl ?_
      refine WL.bin rfl rfl (iadd (by omega) (by omega)) rfl ?_
      refine WL.assign rfl rfl ?_
      refine (WL.done (WX.round ?_))
      have hskip : synTo ws (40 * (g + 1)) = synTo ws (40 * g + b) := by
        rw [show 40 * (g + 1) = (40 * g + b) + (40 - b) from by omega]
        refine synTo_skip ws (40 * g + b) (40 - b) (fun j h1 h2 => ?_)
        unfold bitAt
        rw [show j / 40 = g from by omega]
        exact shr_zero hz0 (by omega)
      exact hN _ (g + 1) _ _ (by omega) ⟨rfl, by omega, H⟩ (Sub.cons (t := 6) (by rw [hskip]; rfl) (Sub.cons (t := 7) (by rw [hskip]; rfl) (Sub.cons (t := 8) rfl (Sub.nil _)))) (Sub.cons (t := 1) rfl (Sub.cons (t := 2) rfl (Sub.nil _)))
  · -- c1 F
    refine (WC.exit (WX.then_exit (WX.then_exit (WX.block_exit (WX.next ?_)))))
    refine WC.seq ?_
    refine WC.seq ?_
    refine WC.region ?_
    refine WL.assign rfl rfl ?_
    refine (WL.done (WX.next ?_))
    refine WC.block ?_
    -- loop 3: changed [6, 7, 11] kept [1, 2]
    obtain rfl : g = 8 := by omega
    refine WC.loop (Sub.cons (t := 1) rfl (Sub.cons (t := 2) rfl (Sub.nil _))) (fun b : Nat => [(6, .int .i64 ((syn ws ^^^ (codeTo c.toNat b).1 : Nat) : Int)), (7, .int .i64 ((cnt ws + (codeTo c.toNat b).2 : Nat) : Int)), (11, .int .i64 (b : Int))]) (fun q b wx => q = 10 - b ∧ b ≤ 10 ∧ St w [] wx [(b2, .cells (arrC ws) 38)]) (10) (0) (Sub.cons (t := 6) (by rw [show codeTo c.toNat 0 = (0, 0) from rfl, Nat.xor_zero]; rfl) (Sub.cons (t := 7) (by rw [show codeTo c.toNat 0 = (0, 0) from rfl]; rfl) (Sub.cons (t := 11) rfl (Sub.nil _)))) (⟨rfl, by omega, H⟩) ?_
    rintro k3 b wx hI N3 hN3
    obtain ⟨rfl, hb10, H⟩ := hI
    refine WC.seq ?_
    refine WC.seq ?_
    refine WC.region ?_
    refine WL.move rfl rfl ?_
    refine WL.bin rfl rfl binv_lss rfl ?_
    refine (WL.done (WX.next ?_))
    first | refine WC.cond_dec rfl (fun c4 => ?_) (fun c4 => ?_) | refine WC.cond rfl (fun c4 => ?_) (fun c4 => ?_)
    · -- c4 T
      have hct := codeTo_lt c.toNat b (by omega)
      have hsl := syn_lt ws
      have hcl := cnt_le ws
      have hxl : syn ws ^^^ (codeTo c.toNat b).1 < 512 := Nat.xor_lt_two_pow (n := 9) (by omega) (by omega)
      refine (WC.skip (WX.next ?_))
      refine WC.seq ?_
      refine WC.block ?_
      refine WC.seq ?_
      refine WC.region ?_
      first | refine WL.load rfl (H.rdArr ty38 0 rfl h8) rfl ?_
      refine WL.move rfl rfl ?_
      refine WL.move rfl rfl ?_
      refine WL.call call170 rfl rfl ?_
      refine Calls.mono (one_any ws h8 hw c hcr 8 b (by omega) (by omega) _) ?_
      rintro _ wx ⟨rfl, Hc⟩
      refine ⟨_, rfl, ?_⟩
      replace H := H.call0 Hc
      refine WL.assign rfl rfl ?_
      refine (WL.done (WX.next ?_))
      refine WC.seq ?_
      refine WC.seq ?_
      refine WC.region ?_
      refine WL.move rfl rfl ?_
      refine WL.move rfl rfl ?_
      first | refine WL.splitD (t := 49) rfl (fun g1 => ?_) (fun g1 => ?_) | refine WL.split (t := 49) rfl (fun g1 => ?_) (fun g1 => ?_)
      · -- g1 True
        refine WL.yes rfl rfl ?_
        refine WL.move rfl rfl ?_
        refine WL.yes rfl rfl ?_
        refine WL.bin rfl rfl binv_lss rfl ?_
        refine WL.pickT rfl rfl rfl ?_
        refine (WL.done (WX.next ?_))
        first | refine WC.cond_dec rfl (fun c5 => ?_) (fun c5 => ?_) | refine WC.cond rfl (fun c5 => ?_) (fun c5 => ?_)
        · -- c5 T
          refine WC.region ?_
          refine WL.move rfl rfl ?_
          refine WL.move rfl rfl ?_
          refine WL.bin rfl rfl (ishl (m := b) rfl (by omega) (by omega) (by rw [two_pow_cast]; have := Nat.pow_lt_pow_right (a := 2) (by omega) (show b < 10 by omega); omega)) rfl ?_
          refine WL.bin rfl rfl (ixorN (a := syn ws ^^^ (codeTo c.toNat b).1) (b := 2 ^ b) rfl (two_pow_cast b) (by omega) (by have := Nat.pow_lt_pow_right (a := 2) (by omega) (show b < 10 by omega); omega)) rfl ?_
          refine WL.assign rfl rfl ?_
          refine (WL.done (WX.next ?_))
          refine WC.seq ?_
          refine WC.region ?_
          refine WL.move rfl rfl ?_
          refine (WL.done (WX.next ?_))
          refine WC.cond_true rfl (g1) ?_
          refine WC.region ?_
          refine WL.move rfl rfl ?_
          refine WL.bin rfl rfl (iadd (by omega) (by omega)) rfl ?_
          refine WL.assign rfl rfl ?_
          refine (WL.done (WX.block_normal (WX.next ?_)))
          refine WC.region ?_
          refine WL.move rfl rfl ?_
          refine WL.bin rfl rfl (iadd (by omega) (by omega)) rfl ?_
          refine WL.assign rfl rfl ?_
          refine (WL.done (WX.round ?_))
          have hbit : c.toNat.testBit b = true := by simpa using g1
          have hs : codeTo c.toNat (b + 1) = ((codeTo c.toNat b).1 ^^^ 2 ^ b, (codeTo c.toNat b).2 + 1) := by simp [codeTo, hbit, show b < 9 by omega]
          exact hN3 _ (b + 1) _ _ (by omega) ⟨rfl, by omega, H⟩ (Sub.cons (t := 6) (by rw [hs]; rw [← Nat.xor_assoc]; rfl) (Sub.cons (t := 7) (by rw [hs]; rfl) (Sub.cons (t := 11) rfl (Sub.nil _)))) (Sub.cons (t := 1) rfl (Sub.cons (t := 2) rfl (Sub.nil _)))
        · -- c5 F
          refine (WC.skip (WX.next ?_))
          refine WC.seq ?_
          refine WC.region ?_
          refine WL.move rfl rfl ?_
          refine (WL.done (WX.next ?_))
          refine WC.cond_true rfl (g1) ?_
          refine WC.region ?_
          refine WL.move rfl rfl ?_
          refine WL.bin rfl rfl (iadd (by omega) (by omega)) rfl ?_
          refine WL.assign rfl rfl ?_
          refine (WL.done (WX.block_normal (WX.next ?_)))
          refine WC.region ?_
          refine WL.move rfl rfl ?_
          refine WL.bin rfl rfl (iadd (by omega) (by omega)) rfl ?_
          refine WL.assign rfl rfl ?_
          refine (WL.done (WX.round ?_))
          have hbit : c.toNat.testBit b = true := by simpa using g1
          have hs : codeTo c.toNat (b + 1) = ((codeTo c.toNat b).1, (codeTo c.toNat b).2 + 1) := by simp [codeTo, hbit, show ¬ b < 9 by omega]
          exact hN3 _ (b + 1) _ _ (by omega) ⟨rfl, by omega, H⟩ (Sub.cons (t := 6) (by rw [hs]; rfl) (Sub.cons (t := 7) (by rw [hs]; rfl) (Sub.cons (t := 11) rfl (Sub.nil _)))) (Sub.cons (t := 1) rfl (Sub.cons (t := 2) rfl (Sub.nil _)))
      · -- g1 False
        refine WL.no rfl rfl rfl ?_
        refine WL.no rfl rfl rfl ?_
        refine WL.pickF rfl rfl rfl ?_
        refine (WL.done (WX.next ?_))
        refine WC.cond_false rfl (rfl) ?_
        refine (WC.skip (WX.next ?_))
        refine WC.seq ?_
        refine WC.region ?_
        refine WL.move rfl rfl ?_
        refine (WL.done (WX.next ?_))
        refine WC.cond_false rfl (g1) ?_
        refine (WC.skip (WX.block_normal (WX.next ?_)))
        refine WC.region ?_
        refine WL.move rfl rfl ?_
        refine WL.bin rfl rfl (iadd (by omega) (by omega)) rfl ?_
        refine WL.assign rfl rfl ?_
        refine (WL.done (WX.round ?_))
        have hbit : c.toNat.testBit b = false := by simpa using g1
        have hs : codeTo c.toNat (b + 1) = codeTo c.toNat b := by simp [codeTo, hbit]
        exact hN3 _ (b + 1) _ _ (by omega) ⟨rfl, by omega, H⟩ (Sub.cons (t := 6) (by rw [hs]; rfl) (Sub.cons (t := 7) (by rw [hs]; rfl) (Sub.cons (t := 11) rfl (Sub.nil _)))) (Sub.cons (t := 1) rfl (Sub.cons (t := 2) rfl (Sub.nil _)))
    · -- c4 F
      have hct := codeTo_lt c.toNat b (by omega)
      have hcl := cnt_le ws
      refine (WC.exit (WX.then_exit (WX.then_exit (WX.block_exit (WX.next ?_)))))
      refine WC.seq ?_
      refine WC.region ?_
      refine WL.move rfl rfl ?_
      refine WL.move rfl rfl ?_
      refine WL.bin rfl rfl (irem (by omega) (by omega)) rfl ?_
      refine WL.assign rfl rfl ?_
      refine WL.assign rfl rfl ?_
      refine (WL.done (WX.next ?_))
      refine (WC.ret ?_)
      refine ret_two rfl rfl rfl ?_
      obtain rfl : b = 10 := by omega
      rw [codeTo_all c.toNat (by omega)]
      exact ⟨rfl, H.weaken (List.nil_sublist _)⟩

end Go.Proofs.YtkncbggnaobgeaaDoor

/- Walks of functions of the program; printed by a program of this session (walk.py) out of hand-written hints. -/
namespace Go.Proofs.YtkncbggnaobgeaaDoor
open Go.RowKit
set_option linter.unusedVariables false
set_option linter.unusedSimpArgs false
set_option maxRecDepth 100000

theorem syn0_any (ws : List Int) (h8 : ws.length = 8) (hw : isWords ws = true) (w : World) : Calls Tryd.prog 104 #[arr ws, .int .i64 0] w fun e w' => e = .returned (.tuple #[.int .i64 (syn ws : Int), .int .i64 ((cnt ws % 2 : Nat) : Int)]) ∧ St w [] w' [] := by
  refine (syndrome_any ws h8 hw 0 (by decide) w).mono fun e w' ⟨h, Hc⟩ => ⟨?_, Hc⟩
  rw [h]
  simp [popc]
theorem syn1_any (ws : List Int) (h8 : ws.length = 8) (hw : isWords ws = true) (w : World) : Calls Tryd.prog 104 #[arr ws, .int .i64 (syn ws : Int)] w fun e w' => ∃ z : Int, e = .returned (.tuple #[.int .i64 z, .int .i64 (((cnt ws + popc (syn ws)) % 2 : Nat) : Int)]) ∧ St w [] w' [] :=
  (syndrome_any ws h8 hw (syn ws : Int) (isCode_iff.2 (by have := syn_lt ws; omega)) w).mono fun e w' ⟨h, Hc⟩ => ⟨_, h, Hc⟩
theorem log2_at : ∀ b, b < 9 → log2 (2 ^ b) = b ∧ isPow2 (2 ^ b) = true ∧ 2 ^ b ≠ 0 := by decide +kernel
theorem isPow2_at : ∀ s, s < 512 → s ≠ 0 → (∀ b, b < 9 → s ≠ 2 ^ b) → isPow2 s = false := by decide +kernel
theorem findPos_at {i : Nat} (hi : i < 320) : findPos (posn i) = some i := by
  unfold findPos
  rw [List.find?_eq_some_iff_getElem]
  refine ⟨by simp, i, by simpa using hi, by simp, fun j hj => ?_⟩
  simp only [List.getElem_range, Bool.not_eq_eq_eq_not, Bool.not_true, beq_eq_false_iff_ne, ne_eq]
  intro h
  have := posn_inj (by omega) hi h
  omega
theorem findPos_no {s : Nat} (h : ∀ j, j < 320 → posn j ≠ s) : findPos s = none := by
  unfold findPos
  rw [List.find?_eq_none]
  intro j hj
  simpa using h j (List.mem_range.1 hj)

theorem refencode_any (ws : List Int) (h8 : ws.length = 8) (w : World) : Calls Tryd.prog 32 #[arr ws] w fun e w' => e = .returned (.int .i64 (enc ws)) ∧ St w [] w' [] := by
  refine calls_walk_n (args := [arr ws]) Tryd.func32 rfl rfl rfl ?_
  have H := St.refl w
  refine WC.seq ?_
  refine WC.region ?_
  refine WL.boxArr H rfl rfl ?_
  intro b1 wx hb1 hge1 H
  refine WL.assign rfl rfl ?_
  refine (WL.done (WX.next ?_))
  refine WC.seq ?_
  refine WC.region ?_
  first | refine WL.load rfl (H.rdArr ty38 0 rfl h8) rfl ?_
  refine WL.call call103 rfl rfl ?_
  refine Calls.mono (refvalid_any ws h8 0 _) ?_
  rintro _ wx ⟨rfl, Hc⟩
  refine ⟨_, rfl, ?_⟩
  replace H := H.call0 Hc
  refine WL.assign rfl rfl ?_
  refine (WL.done (WX.next ?_))
  refine WC.seq ?_
  refine WC.seq ?_
  refine WC.region ?_
  refine WL.move rfl rfl ?_
  refine WL.notOp rfl rfl ?_
  refine (WL.done (WX.next ?_))
  first | refine WC.cond_dec rfl (fun c1 => ?_) (fun c1 => ?_) | refine WC.cond rfl (fun c1 => ?_) (fun c1 => ?_)
  · -- c1 T
    refine WC.seq ?_
    refine WC.region ?_
    refine WL.assign rfl rfl ?_
    refine (WL.done (WX.next ?_))
    refine (WC.ret (WX.then_ret ?_))
    refine ret_one rfl rfl ?_
    have hw : isWords ws = false := by
      have h : (isWords ws && isCode 0) = false := by simpa only [Bool.not_eq_true'] using c1
      rw [show isCode 0 = true from by decide, Bool.and_true] at h; exact h
    refine ⟨?_, H.weaken (List.nil_sublist _)⟩
    unfold enc
    rw [hw]; rfl
  · -- c1 F
    have hw : isWords ws = true := by
      have h : (isWords ws && isCode 0) = true := by simpa only [Bool.not_eq_false'] using c1
      rw [Bool.and_eq_true] at h; exact h.1
    have hsl := syn_lt ws
    refine (WC.skip (WX.next ?_))
    refine WC.seq ?_
    refine WC.region ?_
    first | refine WL.load rfl (H.rdArr ty38 0 rfl h8) rfl ?_
    refine WL.call call104 rfl rfl ?_
    refine Calls.mono (syn0_any ws h8 hw _) ?_
    rintro _ wx ⟨rfl, Hc⟩
    refine ⟨_, rfl, ?_⟩
    replace H := H.call0 Hc
    refine WL.move rfl rfl ?_
    refine WL.extract rfl rfl rfl ?_
    refine WL.extract rfl rfl rfl ?_
    refine WL.assign rfl rfl ?_
    refine WL.assign rfl rfl ?_
    refine (WL.done (WX.next ?_))
    refine WC.seq ?_
    refine WC.region ?_
    first | refine WL.load rfl (H.rdArr ty38 0 rfl h8) rfl ?_
    refine WL.move rfl rfl ?_
    refine WL.call call104 rfl rfl ?_
    refine Calls.mono (syn1_any ws h8 hw _) ?_
    rintro _ wx ⟨z, rfl, Hc⟩
    refine ⟨_, rfl, ?_⟩
    replace H := H.call0 Hc
    refine WL.move rfl rfl ?_
    refine WL.extract rfl rfl rfl ?_
    refine WL.extract rfl rfl rfl ?_
    refine WL.assign rfl rfl ?_
    refine WL.assign rfl rfl ?_
    refine (WL.done (WX.next ?_))
    refine WC.seq ?_
    refine WC.region ?_
    refine WL.move rfl rfl ?_
    refine WL.move rfl rfl ?_
    refine WL.bin rfl rfl (imul (by omega) (by omega)) rfl ?_
    refine WL.bin rfl rfl (iadd (by omega) (by omega)) rfl ?_
    refine WL.assign rfl rfl ?_
    refine (WL.done (WX.next ?_))
    refine (WC.ret ?_)
    refine ret_one rfl rfl ?_
    refine ⟨?_, H.weaken (List.nil_sublist _)⟩
    unfold enc
    rw [if_pos hw]
    congr 2
    split
    · rename_i hp
      rw [hp, or512 _ hsl]; omega
    · rename_i hp
      rw [show (cnt ws + popc (syn ws)) % 2 = 0 by omega]; omega

theorem refexists_any (x y : Int) (w : World) : Calls Tryd.prog 160 #[.int .i64 x, .int .i64 y] w fun e w' => e = .returned (.bool (decide ((0 ≤ x ∧ x < 8 ∧ 0 ≤ y ∧ y < 40) ∨ (x = 8 ∧ 0 ≤ y ∧ y < 10)))) ∧ w' = w := by
  refine calls_walk_n (args := [.int .i64 x, .int .i64 y]) Tryd.func160 rfl rfl rfl ?_
  refine WC.seq ?_
  refine WC.region ?_
  refine WL.assign rfl rfl ?_
  refine (WL.done (WX.next ?_))
  refine WC.seq ?_
  refine WC.seq ?_
  refine WC.region ?_
  refine WL.move rfl rfl ?_
  refine WL.bin rfl rfl binv_eql rfl ?_
  refine (WL.done (WX.next ?_))
  first | refine WC.cond_dec rfl (fun c1 => ?_) (fun c1 => ?_) | refine WC.cond rfl (fun c1 => ?_) (fun c1 => ?_)
  · -- c1 T
    refine WC.seq ?_
    refine WC.region ?_
    refine WL.move rfl rfl ?_
    refine WL.bin rfl rfl binv_geq rfl ?_
    refine WL.move rfl rfl ?_
    first | refine WL.splitD (t := 9) rfl (fun g1 => ?_) (fun g1 => ?_) | refine WL.split (t := 9) rfl (fun g1 => ?_) (fun g1 => ?_)
    · -- g1 True
      refine WL.yes rfl rfl ?_
      refine WL.move rfl rfl ?_
      refine WL.yes rfl rfl ?_
      refine WL.bin rfl rfl binv_leq rfl ?_
      refine WL.pickT rfl rfl rfl ?_
      refine WL.assign rfl rfl ?_
      refine (WL.done (WX.next ?_))
      refine (WC.ret (WX.then_ret ?_))
      refine ret_one rfl rfl ?_
      refine ⟨congrArg (fun b => Ending.returned (Value.bool b)) ?_, rfl⟩
      first
      | exact decide_eq_decide.2 (by omega)
      | exact (decide_eq_false (by omega)).symm
    · -- g1 False
      refine WL.no rfl rfl rfl ?_
      refine WL.no rfl rfl rfl ?_
      refine WL.pickF rfl rfl rfl ?_
      refine WL.assign rfl rfl ?_
      refine (WL.done (WX.next ?_))
      refine (WC.ret (WX.then_ret ?_))
      refine ret_one rfl rfl ?_
      refine ⟨congrArg (fun b => Ending.returned (Value.bool b)) ?_, rfl⟩
      first
      | exact decide_eq_decide.2 (by omega)
      | exact (decide_eq_false (by omega)).symm
  · -- c1 F
    refine (WC.skip (WX.next ?_))
    refine WC.seq ?_
    refine WC.region ?_
    refine WL.move rfl rfl ?_
    refine WL.bin rfl rfl binv_geq rfl ?_
    refine WL.move rfl rfl ?_
    first | refine WL.splitD (t := 15) rfl (fun g2 => ?_) (fun g2 => ?_) | refine WL.split (t := 15) rfl (fun g2 => ?_) (fun g2 => ?_)
    · -- g2 True
      refine WL.yes rfl rfl ?_
      refine WL.move rfl rfl ?_
      refine WL.yes rfl rfl ?_
      refine WL.bin rfl rfl binv_lss rfl ?_
      refine WL.pickT rfl rfl rfl ?_
      refine WL.move rfl rfl ?_
      first | refine WL.splitD (t := 19) rfl (fun g3 => ?_) (fun g3 => ?_) | refine WL.split (t := 19) rfl (fun g3 => ?_) (fun g3 => ?_)
      · -- g3 True
        refine WL.yes rfl rfl ?_
        refine WL.move rfl rfl ?_
        refine WL.yes rfl rfl ?_
        refine WL.bin rfl rfl binv_geq rfl ?_
        refine WL.pickT rfl rfl rfl ?_
        refine WL.move rfl rfl ?_
        first | refine WL.splitD (t := 23) rfl (fun g4 => ?_) (fun g4 => ?_) | refine WL.split (t := 23) rfl (fun g4 => ?_) (fun g4 => ?_)
        · -- g4 True
          refine WL.yes rfl rfl ?_
          refine WL.move rfl rfl ?_
          refine WL.yes rfl rfl ?_
          refine WL.bin rfl rfl binv_lss rfl ?_
          refine WL.pickT rfl rfl rfl ?_
          refine WL.assign rfl rfl ?_
          refine (WL.done (WX.next ?_))
          refine (WC.ret ?_)
          refine ret_one rfl rfl ?_
          refine ⟨congrArg (fun b => Ending.returned (Value.bool b)) ?_, rfl⟩
          first
          | exact decide_eq_decide.2 (by omega)
          | exact (decide_eq_false (by omega)).symm
        · -- g4 False
          refine WL.no rfl rfl rfl ?_
          refine WL.no rfl rfl rfl ?_
          refine WL.pickF rfl rfl rfl ?_
          refine WL.assign rfl rfl ?_
          refine (WL.done (WX.next ?_))
          refine (WC.ret ?_)
          refine ret_one rfl rfl ?_
          refine ⟨congrArg (fun b => Ending.returned (Value.bool b)) ?_, rfl⟩
          first
          | exact decide_eq_decide.2 (by omega)
          | exact (decide_eq_false (by omega)).symm
      · -- g3 False
        refine WL.no rfl rfl rfl ?_
        refine WL.no rfl rfl rfl ?_
        refine WL.pickF rfl rfl rfl ?_
        refine WL.move rfl rfl ?_
        refine WL.no rfl rfl rfl ?_
        refine WL.no rfl rfl rfl ?_
        refine WL.pickF rfl rfl rfl ?_
        refine WL.assign rfl rfl ?_
        refine (WL.done (WX.next ?_))
        refine (WC.ret ?_)
        refine ret_one rfl rfl ?_
        refine ⟨congrArg (fun b => Ending.returned (Value.bool b)) ?_, rfl⟩
        first
        | exact decide_eq_decide.2 (by omega)
        | exact (decide_eq_false (by omega)).symm
    · -- g2 False
      refine WL.no rfl rfl rfl ?_
      refine WL.no rfl rfl rfl ?_
      refine WL.pickF rfl rfl rfl ?_
      refine WL.move rfl rfl ?_
      refine WL.no rfl rfl rfl ?_
      refine WL.no rfl rfl rfl ?_
      refine WL.pickF rfl rfl rfl ?_
      refine WL.move rfl rfl ?_
      refine WL.no rfl rfl rfl ?_
      refine WL.no rfl rfl rfl ?_
      refine WL.pickF rfl rfl rfl ?_
      refine WL.assign rfl rfl ?_
      refine (WL.done (WX.next ?_))
      refine (WC.ret ?_)
      refine ret_one rfl rfl ?_
      refine ⟨congrArg (fun b => Ending.returned (Value.bool b)) ?_, rfl⟩
      first
      | exact decide_eq_decide.2 (by omega)
      | exact (decide_eq_false (by omega)).symm

end Go.Proofs.YtkncbggnaobgeaaDoor

/- Walks of functions of the program; printed by a program of this session (walk.py) out of hand-written hints. -/
namespace Go.Proofs.YtkncbggnaobgeaaDoor
open Go.RowKit
set_option linter.unusedVariables false
set_option linter.unusedSimpArgs false
set_option maxRecDepth 100000

def sx (ws : List Int) (c : Int) : Nat := syn ws ^^^ (c.toNat &&& 511)
theorem sx_lt (ws : List Int) (c : Int) : sx ws c < 512 := Nat.xor_lt_two_pow (n := 9) (syn_lt ws) (Nat.lt_of_le_of_lt Nat.and_le_right (by omega))
theorem chk_even {ws : List Int} {c : Int} (hv : (isWords ws && isCode c) = true) (hp : (cnt ws + popc c.toNat) % 2 = 0) : chk ws c = if sx ws c = 0 then (0, 0, 0) else (2, 0, 0) := by
  unfold chk sx
  rw [if_pos hv]
  simp only []
  rw [if_neg (by omega)]
theorem chk_odd {ws : List Int} {c : Int} (hv : (isWords ws && isCode c) = true) (hp : (cnt ws + popc c.toNat) % 2 = 1) : chk ws c = if sx ws c = 0 then ((1, 8, 9) : Int × Int × Int) else if isPow2 (sx ws c) then (1, 8, (log2 (sx ws c) : Int)) else match findPos (sx ws c) with
    | some j => (1, ((j / 40 : Nat) : Int), ((j % 40 : Nat) : Int))
    | none => (2, 0, 0) := by
  unfold chk sx
  rw [if_pos hv]
  simp only []
  rw [if_pos hp]
  rfl
theorem chk_pow {ws : List Int} {c : Int} (hv : (isWords ws && isCode c) = true) (hp : (cnt ws + popc c.toNat) % 2 = 1) {b : Nat} (hb : b < 9) (h : sx ws c = 2 ^ b) : chk ws c = (1, 8, (b : Int)) := by
  obtain ⟨h1, h2, h3⟩ := log2_at b hb
  rw [chk_odd hv hp, h, if_neg h3, if_pos h2, h1]
theorem chk_pos {ws : List Int} {c : Int} (hv : (isWords ws && isCode c) = true) (hp : (cnt ws + popc c.toNat) % 2 = 1) {i : Nat} (hi : i < 320) (h : posn i = sx ws c) : chk ws c = (1, ((i / 40 : Nat) : Int), ((i % 40 : Nat) : Int)) := by
  obtain ⟨h1, h2, h3⟩ := posn_facts i hi
  rw [chk_odd hv hp, ← h, if_neg (by omega), if_neg (by rw [h3]; decide), findPos_at hi]
theorem chk_no {ws : List Int} {c : Int} (hv : (isWords ws && isCode c) = true) (hp : (cnt ws + popc c.toNat) % 2 = 1) (h0 : sx ws c ≠ 0) (h1 : ∀ b, b < 9 → sx ws c ≠ 2 ^ b) (h2 : ∀ i, i < 320 → posn i ≠ sx ws c) : chk ws c = (2, 0, 0) := by
  rw [chk_odd hv hp, if_neg h0, if_neg (by rw [isPow2_at _ (sx_lt ws c) h0 h1]; decide), findPos_no h2]
def chkV (ws : List Int) (c : Int) : Value := .agg #[.int .i64 (chk ws c).1, .int .i64 (chk ws c).2.1, .int .i64 (chk ws c).2.2]

theorem refflip_any (ws : List Int) (h8 : ws.length = 8) (hw : isWords ws = true) (c : Int) (hc : isCode c = true) (x y : Nat) (hxy : (x < 8 ∧ y < 40) ∨ (x = 8 ∧ y < 10)) (w : World) : Calls Tryd.prog 95 #[arr ws, .int .i64 c, .int .i64 (x : Int), .int .i64 (y : Int)] w fun e w' => e = .returned (.tuple #[arr (flipBit ws c x y).1, .int .i64 (flipBit ws c x y).2]) ∧ St w [] w' [] := by
  have hc1 := isCode_iff.1 hc
  have hy40 : y < 40 := by omega
  obtain ⟨p1, p2, p3⟩ := pow_lt63 hy40
  refine calls_walk_n (args := [arr ws, .int .i64 c, .int .i64 (x : Int), .int .i64 (y : Int)]) Tryd.func95 rfl rfl rfl ?_
  have H := St.refl w
  refine WC.seq ?_
  refine WC.region ?_
  refine WL.boxArr H rfl rfl ?_
  intro b4 wx hb4 hge4 H
  refine WL.allocArr (ws := zeros8) H zer38 rfl rfl ?_
  intro b8 wx hb8 hge8 H
  refine WL.assign rfl rfl ?_
  refine (WL.done (WX.next ?_))
  refine WC.seq ?_
  refine WC.region ?_
  refine WL.move rfl rfl ?_
  refine WL.move rfl rfl ?_
  refine WL.call call160 rfl rfl ?_
  refine Calls.mono (refexists_any _ _ _) ?_
  rintro _ wx ⟨rfl, rfl⟩
  refine ⟨_, rfl, ?_⟩
  refine WL.assign rfl rfl ?_
  refine (WL.done (WX.next ?_))
  refine WC.seq ?_
  refine WC.seq ?_
  refine WC.region ?_
  refine WL.move rfl rfl ?_
  refine WL.notOp rfl rfl ?_
  refine (WL.done (WX.next ?_))
  refine WC.cond_false rfl (by simp; omega) ?_
  refine (WC.skip (WX.next ?_))
  refine WC.seq ?_
  refine WC.seq ?_
  refine WC.region ?_
  refine WL.move rfl rfl ?_
  refine WL.bin rfl rfl binv_eql rfl ?_
  refine (WL.done (WX.next ?_))
  first | refine WC.cond_dec rfl (fun c2 => ?_) (fun c2 => ?_) | refine WC.cond rfl (fun c2 => ?_) (fun c2 => ?_)
  · -- c2 T
    refine WC.seq ?_
    replace H := H.drew
    refine WC.held (SX (World.drew wx) [b8]) (by kernel_rfl) ?_
    generalize World.drew wx = wb at H ⊢
    have HB := H.single 0 rfl
    first | refine WH.take 0 rfl (by kernel_rfl) (by kernel_rfl) (by kernel_rfl) (fun _ _ _ h => h) ⟨_, HB⟩ (fun w' hS => EX.load rfl (hS.rdArr ty38 (H.blk 1 rfl) (by simpa using H.ne 1 0 rfl rfl rfl) h8)) rfl ?_
    refine WH.take 1 rfl (by kernel_rfl) (by kernel_rfl) (by kernel_rfl) (fun _ _ _ h => h) ⟨_, HB⟩ (fun w' hS => EX.move rfl) rfl ?_
    refine WH.take 2 rfl (by kernel_rfl) (by kernel_rfl) (by kernel_rfl) (fun _ _ _ h => h) ⟨_, HB⟩ (fun w' hS => EX.move rfl) rfl ?_
    refine WH.take 3 rfl (by kernel_rfl) (by kernel_rfl) (by kernel_rfl) (fun _ _ _ h => h) ⟨_, HB⟩ (fun w' hS => EX.bin rfl rfl (p2 ▸ ishl (m := y) rfl (by omega) (by omega) p1)) rfl ?_
    refine WH.take 4 rfl (by kernel_rfl) (by kernel_rfl) (by kernel_rfl) (fun _ _ _ h => h) ⟨_, HB⟩ (fun w' hS => EX.bin rfl rfl (ixorN (a := c.toNat) (by omega) rfl (by omega) (by omega))) rfl ?_
    refine WH.hard 5 rfl (by kernel_rfl) ?_
    refine WL.storeArr HB ty38 0 rfl rfl rfl (by rw [arrC_size]; rfl) h8 ?_
    intro wx HB
    refine WL.done (WX.heldOn ⟨_, HB⟩ ?_)
    refine WH.take 6 rfl (by kernel_rfl) (by kernel_rfl) (by kernel_rfl) (fun _ _ _ h => h) ⟨_, HB⟩ (fun w' hS => EX.assign rfl) rfl ?_
    refine WH.done (by kernel_rfl) ?_
    replace H := H.back (N := []) 0 rfl HB rfl
    refine WX.next ?_
    refine (WC.ret (WX.then_ret ?_))
    refine ret_two rfl ⟨_, rfl, by first | exact H.rdArr ty38 0 rfl (by simp [h8]) | exact H.rd1 ty38 0 rfl rfl | exact H.rdA ty38 0 rfl (by decide)⟩ rfl ?_
    exact ⟨by rw [flipBit, if_pos (by omega)], H.weaken (List.nil_sublist _)⟩
  · -- c2 F
    refine (WC.skip (WX.next ?_))
    refine WC.seq ?_
    replace H := H.drew
    refine WC.held (SX (World.drew wx) [b4]) (by kernel_rfl) ?_
    generalize World.drew wx = wb at H ⊢
    have HB := H.single 1 rfl
    have hf := flip_words h8 hw (g := x) (b := y) (by omega) hy40
    have hg := isWords_get hw (g := x) (by omega)
    refine WH.take 0 rfl (by kernel_rfl) (by kernel_rfl) (by kernel_rfl) (fun _ _ _ h => h) ⟨_, HB⟩ (fun w' hS => EX.move rfl) rfl ?_
    refine WH.take 1 rfl (by kernel_rfl) (by kernel_rfl) (by kernel_rfl) (fun _ _ _ h => h) ⟨_, HB⟩ (fun w' hS => EX.move rfl) rfl ?_
    refine WH.take 2 rfl (by kernel_rfl) (by kernel_rfl) (by kernel_rfl) (fun _ _ _ h => h) ⟨_, HB⟩ (fun w' hS => EX.idxArr (k := x) arr38 rfl rfl (by first | rfl | omega) (by omega)) rfl ?_
    refine WH.take 4 rfl (by kernel_rfl) (by kernel_rfl) (by kernel_rfl) (fun _ _ _ h => h) ⟨_, HB⟩ (fun w' hS => EX.move rfl) rfl ?_
    refine WH.take 5 rfl (by kernel_rfl) (by kernel_rfl) (by kernel_rfl) (fun _ _ _ h => h) ⟨_, HB⟩ (fun w' hS => EX.bin rfl rfl (p2 ▸ ishl (m := y) rfl (by omega) (by omega) p1)) rfl ?_
    refine WH.hard 3 rfl (by kernel_rfl) ?_
    refine WL.load rfl (HB.rdElt ty3 0 rfl (by omega)) rfl ?_
    refine WL.done (WX.heldOn ⟨_, HB⟩ ?_)
    refine WH.take 6 rfl (by kernel_rfl) (by kernel_rfl) (by kernel_rfl) (fun _ _ _ h => h) ⟨_, HB⟩ (fun w' hS => EX.bin rfl rfl (ixorN (a := (ws.getD x 0).toNat) (by simp only [Nat.zero_add, Nat.mul_one]; omega) rfl (by omega) (by omega))) rfl ?_
    refine WH.take 7 rfl (by kernel_rfl) (by kernel_rfl) (by kernel_rfl) (fun _ _ _ h => h) ⟨_, HB⟩ (fun w' hS => EX.idxArr (k := x) arr38 rfl rfl (by first | rfl | omega) (by omega)) rfl ?_
    refine WH.hard 8 rfl (by kernel_rfl) ?_
    refine WL.storeElt HB ty3 0 rfl rfl rfl (by omega) ?_
    intro wx HB
    refine WL.done (WX.heldOn ⟨_, HB⟩ ?_)
    refine WH.done (by kernel_rfl) ?_
    replace H := H.back (N := []) 1 rfl HB rfl
    refine WX.next ?_
    refine WC.seq ?_
    refine WC.region ?_
    refine WL.load rfl (H.rdArr ty38 1 rfl (by simp [h8])) rfl ?_
    refine WL.move rfl rfl ?_
    refine WL.storeArr H ty38 0 rfl rfl rfl (by rw [arrC_size]; rfl) (by simp [h8]) ?_
    intro wx H
    refine WL.assign rfl rfl ?_
    refine (WL.done (WX.next ?_))
    refine (WC.ret ?_)
    refine ret_two rfl ⟨_, rfl, by first | exact H.rdArr ty38 0 rfl (by simp [h8]) | exact H.rd1 ty38 0 rfl rfl | exact H.rdA ty38 0 rfl (by decide)⟩ rfl ?_
    exact ⟨by rw [flipBit, if_neg (by omega)]; simp only [Nat.zero_add, Nat.mul_one], H.weaken (List.nil_sublist _)⟩

theorem checked_any (ws : List Int) (h8 : ws.length = 8) (c : Int) (w : World) : Calls Tryd.prog 207 #[arr ws, .int .i64 c] w fun e w' => e = .returned (chkV ws c) ∧ St w [] w' [] := by
  refine calls_walk_n (args := [arr ws, .int .i64 c]) Tryd.func207 rfl rfl rfl ?_
  have H := St.refl w
  refine WC.seq ?_
  refine WC.region ?_
  refine WL.boxArr H rfl rfl ?_
  intro b2 wx hb2 hge2 H
  refine WL.alloc H zer263 rfl ?_
  intro b4 wx hb4 hge4 H
  refine (WL.done (WX.next ?_))
  refine WC.seq ?_
  refine WC.region ?_
  first | refine WL.load rfl (H.rdArr ty38 1 rfl h8) rfl ?_
  refine WL.move rfl rfl ?_
  refine WL.call call103 rfl rfl ?_
  refine Calls.mono (refvalid_any ws h8 c _) ?_
  rintro _ wx ⟨rfl, Hc⟩
  refine ⟨_, rfl, ?_⟩
  replace H := H.call0 Hc
  refine WL.assign rfl rfl ?_
  refine (WL.done (WX.next ?_))
  refine WC.seq ?_
  refine WC.seq ?_
  refine WC.region ?_
  refine WL.move rfl rfl ?_
  refine WL.notOp rfl rfl ?_
  refine (WL.done (WX.next ?_))
  first | refine WC.cond_dec rfl (fun c1 => ?_) (fun c1 => ?_) | refine WC.cond rfl (fun c1 => ?_) (fun c1 => ?_)
  · -- c1 T
    have hv : (isWords ws && isCode c) = false := by cases hh : (isWords ws && isCode c) <;> simp [hh] at c1 ⊢
    refine WC.seq ?_
    refine WC.region ?_
    refine WL.build pla263 zer263 rfl rfl rfl ?_
    first | (refine WL.storeAt H ty263 0 rfl rfl rfl rfl (by simp [Value.cells, Value.oneCell']) (by first | decide | (simp only [wr_size]; decide) | simp [wr_size]) ?_) | (refine WL.storeAt H ty263 1 rfl rfl rfl rfl (by simp [Value.cells, Value.oneCell']) (by first | decide | (simp only [wr_size]; decide) | simp [wr_size]) ?_)
    intro wx H
    refine (WL.done (WX.next ?_))
    refine (WC.ret (WX.then_ret ?_))
    refine ret_cell rfl ⟨_, rfl, by first | exact H.rdA ty263 0 rfl (Nat.le_refl 3) | exact H.rd1 ty263 0 rfl rfl | exact H.rd1 ty263 1 rfl rfl | exact H.rdA ty263 0 rfl (by decide) | exact H.rdA ty263 1 rfl (by decide)⟩ ?_
    have e1 : chk ws c = (2, 0, 0) := by unfold chk; rw [if_neg (by rw [hv]; decide)]
    refine ⟨congrArg Ending.returned ?_, H.weaken (List.nil_sublist _)⟩
    unfold chkV
    rw [e1]
    first | rfl | simp
  · -- c1 F
    have hv : (isWords ws && isCode c) = true := by cases hh : (isWords ws && isCode c) <;> simp [hh] at c1 ⊢
    have hw : isWords ws = true := by rw [Bool.and_eq_true] at hv; exact hv.1
    have hcc : isCode c = true := by rw [Bool.and_eq_true] at hv; exact hv.2
    refine (WC.skip (WX.next ?_))
    refine WC.seq ?_
    refine WC.region ?_
    first | refine WL.load rfl (H.rdArr ty38 1 rfl h8) rfl ?_
    refine WL.move rfl rfl ?_
    refine WL.call call104 rfl rfl ?_
    refine Calls.mono (syndrome_any ws h8 hw c hcc _) ?_
    rintro _ wx ⟨rfl, Hc⟩
    refine ⟨_, rfl, ?_⟩
    replace H := H.call0 Hc
    have hsl := sx_lt ws c
    unfold sx at hsl
    have hpar : (cnt ws + popc c.toNat) % 2 = 0 ∨ (cnt ws + popc c.toNat) % 2 = 1 := by omega
    refine WL.move rfl rfl ?_
    refine WL.extract rfl rfl rfl ?_
    refine WL.extract rfl rfl rfl ?_
    refine WL.assign rfl rfl ?_
    refine WL.assign rfl rfl ?_
    refine (WL.done (WX.next ?_))
    refine WC.seq ?_
    refine WC.seq ?_
    refine WC.region ?_
    refine WL.move rfl rfl ?_
    refine WL.bin rfl rfl binv_eql rfl ?_
    rcases hpar with hp | hp
    · -- way 0
      refine WL.move rfl rfl ?_
      refine WL.known (t := 24) rfl (b := true) (decide_eq_true (by omega)) ?_
      refine WL.yes rfl rfl ?_
      refine WL.move rfl rfl ?_
      refine WL.yes rfl rfl ?_
      refine WL.bin rfl rfl binv_eql rfl ?_
      refine WL.pickT rfl rfl rfl ?_
      refine (WL.done (WX.next ?_))
      first | refine WC.cond_dec rfl (fun c2 => ?_) (fun c2 => ?_) | refine WC.cond rfl (fun c2 => ?_) (fun c2 => ?_)
      · -- c2 T
        refine WC.seq ?_
        refine WC.region ?_
        refine WL.build pla263 zer263 rfl rfl rfl ?_
        first | (refine WL.storeAt H ty263 0 rfl rfl rfl rfl (by simp [Value.cells, Value.oneCell']) (by first | decide | (simp only [wr_size]; decide) | simp [wr_size]) ?_) | (refine WL.storeAt H ty263 1 rfl rfl rfl rfl (by simp [Value.cells, Value.oneCell']) (by first | decide | (simp only [wr_size]; decide) | simp [wr_size]) ?_)
        intro wx H
        refine (WL.done (WX.next ?_))
        refine (WC.ret (WX.then_ret ?_))
        refine ret_cell rfl ⟨_, rfl, by first | exact H.rdA ty263 0 rfl (Nat.le_refl 3) | exact H.rd1 ty263 0 rfl rfl | exact H.rd1 ty263 1 rfl rfl | exact H.rdA ty263 0 rfl (by decide) | exact H.rdA ty263 1 rfl (by decide)⟩ ?_
        have hs : sx ws c = 0 := Int.ofNat.inj c2
        refine ⟨congrArg Ending.returned ?_, H.weaken (List.nil_sublist _)⟩
        unfold chkV
        rw [chk_even hv hp, if_pos hs]
        first | rfl | simp
      · -- c2 F
        refine (WC.skip (WX.next ?_))
        refine WC.seq ?_
        refine WC.seq ?_
        refine WC.region ?_
        refine WL.move rfl rfl ?_
        refine WL.bin rfl rfl binv_eql rfl ?_
        refine (WL.done (WX.next ?_))
        refine WC.cond_true rfl (decide_eq_true (by omega)) ?_
        refine WC.seq ?_
        refine WC.region ?_
        refine WL.build pla263 zer263 rfl rfl rfl ?_
        first | (refine WL.storeAt H ty263 0 rfl rfl rfl rfl (by simp [Value.cells, Value.oneCell']) (by first | decide | (simp only [wr_size]; decide) | simp [wr_size]) ?_) | (refine WL.storeAt H ty263 1 rfl rfl rfl rfl (by simp [Value.cells, Value.oneCell']) (by first | decide | (simp only [wr_size]; decide) | simp [wr_size]) ?_)
        intro wx H
        refine (WL.done (WX.next ?_))
        refine (WC.ret (WX.then_ret ?_))
        refine ret_cell rfl ⟨_, rfl, by first | exact H.rdA ty263 0 rfl (Nat.le_refl 3) | exact H.rd1 ty263 0 rfl rfl | exact H.rd1 ty263 1 rfl rfl | exact H.rdA ty263 0 rfl (by decide) | exact H.rdA ty263 1 rfl (by decide)⟩ ?_
        have hs : sx ws c ≠ 0 := fun h => c2 (congrArg Int.ofNat h)
        refine ⟨congrArg Ending.returned ?_, H.weaken (List.nil_sublist _)⟩
        unfold chkV
        rw [chk_even hv hp, if_neg hs]
        first | rfl | simp
    · -- way 1
      refine WL.move rfl rfl ?_
      refine WL.known (t := 24) rfl (b := false) (decide_eq_false (by omega)) ?_
      refine WL.no rfl rfl rfl ?_
      refine WL.no rfl rfl rfl ?_
      refine WL.pickF rfl rfl rfl ?_
      refine (WL.done (WX.next ?_))
      refine WC.cond_false rfl (rfl) ?_
      refine (WC.skip (WX.next ?_))
      refine WC.seq ?_
      refine WC.seq ?_
      refine WC.region ?_
      refine WL.move rfl rfl ?_
      refine WL.bin rfl rfl binv_eql rfl ?_
      refine (WL.done (WX.next ?_))
      refine WC.cond_false rfl (decide_eq_false (by omega)) ?_
      refine (WC.skip (WX.next ?_))
      refine WC.seq ?_
      refine WC.seq ?_
      refine WC.region ?_
      refine WL.move rfl rfl ?_
      refine WL.bin rfl rfl binv_eql rfl ?_
      refine (WL.done (WX.next ?_))
      first | refine WC.cond_dec rfl (fun c6 => ?_) (fun c6 => ?_) | refine WC.cond rfl (fun c6 => ?_) (fun c6 => ?_)
      · -- c6 T
        refine WC.seq ?_
        refine WC.region ?_
        refine WL.build pla263 zer263 rfl rfl rfl ?_
        first | (refine WL.storeAt H ty263 0 rfl rfl rfl rfl (by simp [Value.cells, Value.oneCell']) (by first | decide | (simp only [wr_size]; decide) | simp [wr_size]) ?_) | (refine WL.storeAt H ty263 1 rfl rfl rfl rfl (by simp [Value.cells, Value.oneCell']) (by first | decide | (simp only [wr_size]; decide) | simp [wr_size]) ?_)
        intro wx H
        refine (WL.done (WX.next ?_))
        refine (WC.ret (WX.then_ret ?_))
        refine ret_cell rfl ⟨_, rfl, by first | exact H.rdA ty263 0 rfl (Nat.le_refl 3) | exact H.rd1 ty263 0 rfl rfl | exact H.rd1 ty263 1 rfl rfl | exact H.rdA ty263 0 rfl (by decide) | exact H.rdA ty263 1 rfl (by decide)⟩ ?_
        have hs : sx ws c = 0 := Int.ofNat.inj c6
        refine ⟨congrArg Ending.returned ?_, H.weaken (List.nil_sublist _)⟩
        unfold chkV
        rw [chk_odd hv hp, if_pos hs]
        first | rfl | simp
      · -- c6 F
        refine (WC.skip (WX.next ?_))
        refine WC.seq ?_
        refine WC.seq ?_
        refine WC.region ?_
        refine WL.assign rfl rfl ?_
        refine (WL.done (WX.next ?_))
        refine WC.block ?_
        -- loop 1: changed [8] kept [4, 6]
        refine WC.loop (Sub.cons (t := 4) rfl (Sub.cons (t := 6) rfl (Sub.nil _))) (fun i : Nat => [(8, .int .i64 (i : Int))]) (fun q i wx => q = 9 - i ∧ i ≤ 9 ∧ (∀ j, j < i → sx ws c ≠ 2 ^ j) ∧ St w [] wx [(b4, .cells #[.int .i64 0, .int .i64 0, .int .i64 0] 263), (b2, .cells (arrC ws) 38)]) (9) (0) (Sub.cons (t := 8) (by first | rfl | simp) (Sub.nil _)) (⟨rfl, by omega, fun j hj => absurd hj (by omega), H⟩) ?_
        rintro k g wx hI N hN
        obtain ⟨rfl, hg, hno, H⟩ := hI
        refine WC.seq ?_
        refine WC.seq ?_
        refine WC.region ?_
        refine WL.move rfl rfl ?_
        refine WL.bin rfl rfl binv_lss rfl ?_
        refine (WL.done (WX.next ?_))
        first | refine WC.cond_dec rfl (fun c7 => ?_) (fun c7 => ?_) | refine WC.cond rfl (fun c7 => ?_) (fun c7 => ?_)
        · -- c7 T
          refine (WC.skip (WX.next ?_))
          refine WC.seq ?_
          refine WC.block ?_
          refine WC.seq ?_
          refine WC.region ?_
          refine WL.move rfl rfl ?_
          refine WL.move rfl rfl ?_
          refine WL.bin rfl rfl (ishl (m := g) rfl (by omega) (by omega) (by rw [two_pow_cast]; have := Nat.pow_lt_pow_right (a := 2) (by omega) (show g < 10 by omega); omega)) rfl ?_
          refine WL.bin rfl rfl binv_eql rfl ?_
          refine (WL.done (WX.next ?_))
          first | refine WC.cond_dec rfl (fun c8 => ?_) (fun c8 => ?_) | refine WC.cond rfl (fun c8 => ?_) (fun c8 => ?_)
          · -- c8 T
            refine WC.seq ?_
            refine WC.region ?_
            refine WL.move rfl rfl ?_
            refine WL.build pla263 zer263 rfl rfl rfl ?_
            first | (refine WL.storeAt H ty263 0 rfl rfl rfl rfl (by simp [Value.cells, Value.oneCell']) (by first | decide | (simp only [wr_size]; decide) | simp [wr_size]) ?_) | (refine WL.storeAt H ty263 1 rfl rfl rfl rfl (by simp [Value.cells, Value.oneCell']) (by first | decide | (simp only [wr_size]; decide) | simp [wr_size]) ?_)
            intro wx H
            refine (WL.done (WX.next ?_))
            refine (WC.ret (WX.block_ret (WX.then_ret (WX.then_ret (WX.block_ret (WX.then_ret ?_))))))
            refine ret_cell rfl ⟨_, rfl, by first | exact H.rdA ty263 0 rfl (Nat.le_refl 3) | exact H.rd1 ty263 0 rfl rfl | exact H.rd1 ty263 1 rfl rfl | exact H.rdA ty263 0 rfl (by decide) | exact H.rdA ty263 1 rfl (by decide)⟩ ?_
            have hs : sx ws c = 2 ^ g := Int.ofNat.inj (c8.trans (two_pow_cast g))
            refine ⟨congrArg Ending.returned ?_, H.weaken (List.nil_sublist _)⟩
            unfold chkV
            rw [chk_pow hv hp (by omega) hs]
            first | rfl | simp
          · -- c8 F
            refine (WC.skip (WX.block_normal (WX.next ?_)))
            refine WC.region ?_
            refine WL.move rfl rfl ?_
            refine WL.bin rfl rfl (iadd (by omega) (by omega)) rfl ?_
            refine WL.assign rfl rfl ?_
            refine (WL.done (WX.round ?_))
            exact hN _ (g+1) _ _ (by omega) ⟨rfl, by omega, fun j hj h => by
              rcases Nat.lt_or_ge j g with hl | hge
              · exact hno j hl h
              · obtain rfl : j = g := by omega
                exact c8 (by rw [two_pow_cast]; exact congrArg Int.ofNat h), H⟩ (Sub.cons (t := 8) (by first | rfl | simp) (Sub.nil _)) (Sub.cons (t := 4) rfl (Sub.cons (t := 6) rfl (Sub.nil _)))
        · -- c7 F
          refine (WC.exit (WX.then_exit (WX.then_exit (WX.block_exit (WX.next ?_)))))
          refine WC.seq ?_
          refine WC.seq ?_
          refine WC.region ?_
          refine WL.assign rfl rfl ?_
          refine (WL.done (WX.next ?_))
          refine WC.block ?_
          -- loop 2: changed [9] kept [4, 6]
          obtain rfl : g = 9 := by omega
          refine WC.loop (Sub.cons (t := 4) rfl (Sub.cons (t := 6) rfl (Sub.nil _))) (fun i : Nat => [(9, .int .i64 (i : Int))]) (fun q i wx => q = 320 - i ∧ i ≤ 320 ∧ (∀ j, j < i → posn j ≠ sx ws c) ∧ St w [] wx [(b4, .cells #[.int .i64 0, .int .i64 0, .int .i64 0] 263), (b2, .cells (arrC ws) 38)]) (320) (0) (Sub.cons (t := 9) (by first | rfl | simp) (Sub.nil _)) (⟨rfl, by omega, fun j hj => absurd hj (by omega), H⟩) ?_
          rintro k g wx hI N hN
          obtain ⟨rfl, hg, hno2, H⟩ := hI
          refine WC.seq ?_
          refine WC.seq ?_
          refine WC.region ?_
          refine WL.move rfl rfl ?_
          refine WL.bin rfl rfl binv_lss rfl ?_
          refine (WL.done (WX.next ?_))
          first | refine WC.cond_dec rfl (fun c9 => ?_) (fun c9 => ?_) | refine WC.cond rfl (fun c9 => ?_) (fun c9 => ?_)
          · -- c9 T
            refine (WC.skip (WX.next ?_))
            refine WC.seq ?_
            refine WC.block ?_
            refine WC.seq ?_
            refine WC.region ?_
            refine WL.move rfl rfl ?_
            refine WL.call call171 rfl rfl ?_
            refine Calls.mono (place_any g (by omega) _) ?_
            rintro _ wx ⟨rfl, rfl⟩
            refine ⟨_, rfl, ?_⟩
            refine WL.move rfl rfl ?_
            refine WL.bin rfl rfl binv_eql rfl ?_
            refine (WL.done (WX.next ?_))
            first | refine WC.cond_dec rfl (fun c10 => ?_) (fun c10 => ?_) | refine WC.cond rfl (fun c10 => ?_) (fun c10 => ?_)
            · -- c10 T
              refine WC.seq ?_
              refine WC.region ?_
              refine WL.move rfl rfl ?_
              first | refine WL.bin rfl rfl (iquo (by omega) (by omega) (by omega)) rfl ?_ | refine WL.bin rfl rfl (iquoT (by omega) (by omega) (by omega)) rfl ?_
              refine WL.move rfl rfl ?_
              first | refine WL.bin rfl rfl (irem (by omega) (by omega)) rfl ?_ | refine WL.bin rfl rfl (iremT (by omega)) rfl ?_
              refine WL.build pla263 zer263 rfl rfl rfl ?_
              first | (refine WL.storeAt H ty263 0 rfl rfl rfl rfl (by simp [Value.cells, Value.oneCell']) (by first | decide | (simp only [wr_size]; decide) | simp [wr_size]) ?_) | (refine WL.storeAt H ty263 1 rfl rfl rfl rfl (by simp [Value.cells, Value.oneCell']) (by first | decide | (simp only [wr_size]; decide) | simp [wr_size]) ?_)
              intro wx H
              refine (WL.done (WX.next ?_))
              refine (WC.ret (WX.block_ret (WX.then_ret (WX.then_ret (WX.block_ret (WX.then_ret ?_))))))
              refine ret_cell rfl ⟨_, rfl, by first | exact H.rdA ty263 0 rfl (Nat.le_refl 3) | exact H.rd1 ty263 0 rfl rfl | exact H.rd1 ty263 1 rfl rfl | exact H.rdA ty263 0 rfl (by decide) | exact H.rdA ty263 1 rfl (by decide)⟩ ?_
              have hs : posn g = sx ws c := Int.ofNat.inj c10
              refine ⟨congrArg Ending.returned ?_, H.weaken (List.nil_sublist _)⟩
              unfold chkV
              rw [chk_pos hv hp (by omega) hs]
              first | rfl | simp
            · -- c10 F
              refine (WC.skip (WX.block_normal (WX.next ?_)))
              refine WC.region ?_
              refine WL.move rfl rfl ?_
              refine WL.bin rfl rfl (iadd (by omega) (by omega)) rfl ?_
              refine WL.assign rfl rfl ?_
              refine (WL.done (WX.round ?_))
              exact hN _ (g+1) _ _ (by omega) ⟨rfl, by omega, fun j hj h => by
                rcases Nat.lt_or_ge j g with hl | hge
                · exact hno2 j hl h
                · obtain rfl : j = g := by omega
                  exact c10 (congrArg Int.ofNat h), H⟩ (Sub.cons (t := 9) (by first | rfl | simp) (Sub.nil _)) (Sub.cons (t := 4) rfl (Sub.cons (t := 6) rfl (Sub.nil _)))
          · -- c9 F
            refine (WC.exit (WX.then_exit (WX.then_exit (WX.block_exit (WX.next ?_)))))
            refine WC.seq ?_
            refine WC.region ?_
            refine WL.build pla263 zer263 rfl rfl rfl ?_
            first | (refine WL.storeAt H ty263 0 rfl rfl rfl rfl (by simp [Value.cells, Value.oneCell']) (by first | decide | (simp only [wr_size]; decide) | simp [wr_size]) ?_) | (refine WL.storeAt H ty263 1 rfl rfl rfl rfl (by simp [Value.cells, Value.oneCell']) (by first | decide | (simp only [wr_size]; decide) | simp [wr_size]) ?_)
            intro wx H
            refine (WL.done (WX.next ?_))
            refine (WC.ret ?_)
            refine ret_cell rfl ⟨_, rfl, by first | exact H.rdA ty263 0 rfl (Nat.le_refl 3) | exact H.rd1 ty263 0 rfl rfl | exact H.rd1 ty263 1 rfl rfl | exact H.rdA ty263 0 rfl (by decide) | exact H.rdA ty263 1 rfl (by decide)⟩ ?_
            have hs : sx ws c ≠ 0 := fun h => c6 (congrArg Int.ofNat h)
            obtain rfl : g = 320 := by omega
            refine ⟨congrArg Ending.returned ?_, H.weaken (List.nil_sublist _)⟩
            unfold chkV
            rw [chk_no hv hp hs hno hno2]
            first | rfl | simp

theorem refcheck_any (ws : List Int) (h8 : ws.length = 8) (c : Int) (w : World) : Calls Tryd.prog 178 #[arr ws, .int .i64 c] w fun e w' => e = .returned (.tuple #[.int .i64 (chk ws c).1, .int .i64 (chk ws c).2.1, .int .i64 (chk ws c).2.2]) ∧ St w [] w' [] := by
  refine calls_walk_n (args := [arr ws, .int .i64 c]) Tryd.func178 rfl rfl rfl ?_
  have H := St.refl w
  refine WC.seq ?_
  refine WC.region ?_
  refine WL.boxArr H rfl rfl ?_
  intro b2 wx hb2 hge2 H
  refine WL.assign rfl rfl ?_
  refine WL.assign rfl rfl ?_
  refine WL.assign rfl rfl ?_
  refine (WL.done (WX.next ?_))
  refine WC.seq ?_
  refine WC.region ?_
  first | refine WL.load rfl (H.rdArr ty38 0 rfl h8) rfl ?_
  refine WL.move rfl rfl ?_
  refine WL.call call207 rfl rfl ?_
  refine Calls.mono (checked_any ws h8 c _) ?_
  rintro _ wx ⟨rfl, Hc⟩
  refine ⟨_, rfl, ?_⟩
  replace H := H.call0 Hc
  unfold chkV
  refine WL.alloc H zer263 rfl ?_
  intro b7 wx hb7 hge7 H
  first | (refine WL.storeAt H ty263 0 rfl rfl rfl rfl (by simp [Value.cells, Value.oneCell']) (by first | decide | (simp only [wr_size]; decide) | simp [wr_size]) ?_) | (refine WL.storeAt H ty263 1 rfl rfl rfl rfl (by simp [Value.cells, Value.oneCell']) (by first | decide | (simp only [wr_size]; decide) | simp [wr_size]) ?_)
  intro wx H
  refine (WL.done (WX.next ?_))
  refine WC.seq ?_
  replace H := H.drew
  refine WC.held (SX (World.drew wx) []) (by kernel_rfl) ?_
  generalize World.drew wx = wb at H ⊢
  have HB := St.refl wb
  refine WH.take 0 rfl (by kernel_rfl) (by kernel_rfl) (by kernel_rfl) (fun _ _ _ h => h) ⟨_, HB⟩ (fun w' hS => EX.fieldAddr fld263_0 rfl) rfl ?_
  first | refine WH.take 1 rfl (by kernel_rfl) (by kernel_rfl) (by kernel_rfl) (fun _ _ _ h => h) ⟨_, HB⟩ (fun w' hS => EX.load rfl (hS.rd1 ty3 (H.blk 0 rfl) (by simp) rfl)) rfl ?_ | refine WH.take 1 rfl (by kernel_rfl) (by kernel_rfl) (by kernel_rfl) (fun _ _ _ h => h) ⟨_, HB⟩ (fun w' hS => EX.load rfl (hS.rdA ty3 (H.blk 0 rfl) (by simp) (by decide))) rfl ?_ | refine WH.take 1 rfl (by kernel_rfl) (by kernel_rfl) (by kernel_rfl) (fun _ _ _ h => h) ⟨_, HB⟩ (fun w' hS => EX.load rfl (hS.rd1 ty3 (H.blk 1 rfl) (by simp) rfl)) rfl ?_ | refine WH.take 1 rfl (by kernel_rfl) (by kernel_rfl) (by kernel_rfl) (fun _ _ _ h => h) ⟨_, HB⟩ (fun w' hS => EX.load rfl (hS.rdA ty3 (H.blk 1 rfl) (by simp) (by decide))) rfl ?_
  refine WH.take 2 rfl (by kernel_rfl) (by kernel_rfl) (by kernel_rfl) (fun _ _ _ h => h) ⟨_, HB⟩ (fun w' hS => EX.fieldAddr fld263_1 rfl) rfl ?_
  first | refine WH.take 3 rfl (by kernel_rfl) (by kernel_rfl) (by kernel_rfl) (fun _ _ _ h => h) ⟨_, HB⟩ (fun w' hS => EX.load rfl (hS.rd1 ty3 (H.blk 0 rfl) (by simp) rfl)) rfl ?_ | refine WH.take 3 rfl (by kernel_rfl) (by kernel_rfl) (by kernel_rfl) (fun _ _ _ h => h) ⟨_, HB⟩ (fun w' hS => EX.load rfl (hS.rdA ty3 (H.blk 0 rfl) (by simp) (by decide))) rfl ?_ | refine WH.take 3 rfl (by kernel_rfl) (by kernel_rfl) (by kernel_rfl) (fun _ _ _ h => h) ⟨_, HB⟩ (fun w' hS => EX.load rfl (hS.rd1 ty3 (H.blk 1 rfl) (by simp) rfl)) rfl ?_ | refine WH.take 3 rfl (by kernel_rfl) (by kernel_rfl) (by kernel_rfl) (fun _ _ _ h => h) ⟨_, HB⟩ (fun w' hS => EX.load rfl (hS.rdA ty3 (H.blk 1 rfl) (by simp) (by decide))) rfl ?_
  refine WH.take 4 rfl (by kernel_rfl) (by kernel_rfl) (by kernel_rfl) (fun _ _ _ h => h) ⟨_, HB⟩ (fun w' hS => EX.fieldAddr fld263_2 rfl) rfl ?_
  first | refine WH.take 5 rfl (by kernel_rfl) (by kernel_rfl) (by kernel_rfl) (fun _ _ _ h => h) ⟨_, HB⟩ (fun w' hS => EX.load rfl (hS.rd1 ty3 (H.blk 0 rfl) (by simp) rfl)) rfl ?_ | refine WH.take 5 rfl (by kernel_rfl) (by kernel_rfl) (by kernel_rfl) (fun _ _ _ h => h) ⟨_, HB⟩ (fun w' hS => EX.load rfl (hS.rdA ty3 (H.blk 0 rfl) (by simp) (by decide))) rfl ?_ | refine WH.take 5 rfl (by kernel_rfl) (by kernel_rfl) (by kernel_rfl) (fun _ _ _ h => h) ⟨_, HB⟩ (fun w' hS => EX.load rfl (hS.rd1 ty3 (H.blk 1 rfl) (by simp) rfl)) rfl ?_ | refine WH.take 5 rfl (by kernel_rfl) (by kernel_rfl) (by kernel_rfl) (fun _ _ _ h => h) ⟨_, HB⟩ (fun w' hS => EX.load rfl (hS.rdA ty3 (H.blk 1 rfl) (by simp) (by decide))) rfl ?_
  refine WH.take 6 rfl (by kernel_rfl) (by kernel_rfl) (by kernel_rfl) (fun _ _ _ h => h) ⟨_, HB⟩ (fun w' hS => EX.assign rfl) rfl ?_
  refine WH.take 7 rfl (by kernel_rfl) (by kernel_rfl) (by kernel_rfl) (fun _ _ _ h => h) ⟨_, HB⟩ (fun w' hS => EX.assign rfl) rfl ?_
  refine WH.take 8 rfl (by kernel_rfl) (by kernel_rfl) (by kernel_rfl) (fun _ _ _ h => h) ⟨_, HB⟩ (fun w' hS => EX.assign rfl) rfl ?_
  refine WH.done (by kernel_rfl) ?_
  replace H := H.call HB
  refine WX.next ?_
  refine (WC.ret ?_)
  refine ret_three rfl rfl rfl rfl ?_
  exact ⟨rfl, H.weaken (List.nil_sublist _)⟩

theorem reffix_any (ws : List Int) (h8 : ws.length = 8) (c : Int) (w : World) : Calls Tryd.prog 206 #[arr ws, .int .i64 c] w fun e w' => e = .returned (.tuple #[arr (fix ws c).1, .int .i64 (fix ws c).2.1, .int .i64 (fix ws c).2.2]) ∧ St w [] w' [] := by
  refine calls_walk_n (args := [arr ws, .int .i64 c]) Tryd.func206 rfl rfl rfl ?_
  have H := St.refl w
  refine WC.seq ?_
  refine WC.region ?_
  refine WL.boxArr H rfl rfl ?_
  intro b2 wx hb2 hge2 H
  refine WL.allocArr (ws := zeros8) H zer38 rfl rfl ?_
  intro b4 wx hb4 hge4 H
  refine WL.assign rfl rfl ?_
  refine WL.assign rfl rfl ?_
  refine (WL.done (WX.next ?_))
  refine WC.seq ?_
  refine WC.region ?_
  first | refine WL.load rfl (H.rdArr ty38 1 rfl h8) rfl ?_
  refine WL.move rfl rfl ?_
  refine WL.call call103 rfl rfl ?_
  refine Calls.mono (refvalid_any ws h8 c _) ?_
  rintro _ wx ⟨rfl, Hc⟩
  refine ⟨_, rfl, ?_⟩
  replace H := H.call0 Hc
  refine WL.assign rfl rfl ?_
  refine (WL.done (WX.next ?_))
  refine WC.seq ?_
  refine WC.seq ?_
  refine WC.region ?_
  refine WL.move rfl rfl ?_
  refine WL.notOp rfl rfl ?_
  refine (WL.done (WX.next ?_))
  first | refine WC.cond_dec rfl (fun c1 => ?_) (fun c1 => ?_) | refine WC.cond rfl (fun c1 => ?_) (fun c1 => ?_)
  · -- c1 T
    have hv : (isWords ws && isCode c) = false := by cases hh : (isWords ws && isCode c) <;> simp [hh] at c1 ⊢
    refine WC.seq ?_
    refine WC.region ?_
    refine WL.buildA (z := arrC zeros8) arr38 zer38 rfl rfl rfl ?_
    refine WL.storeArr (ws' := zeros8) H ty38 0 rfl rfl rfl (by rw [arrC_size]; rfl) rfl ?_
    intro wx H
    refine WL.assign rfl rfl ?_
    refine WL.assign rfl rfl ?_
    refine (WL.done (WX.next ?_))
    refine (WC.ret (WX.then_ret ?_))
    refine ret_three rfl ⟨_, rfl, by first | exact H.rdArr ty38 0 rfl rfl | exact H.rdArr ty38 1 rfl rfl | exact H.rdArr ty38 1 rfl h8 | exact H.rdArr ty38 2 rfl (by rw [flipBit]; split <;> simp [h8]) | exact H.rd1 ty38 0 rfl rfl | exact H.rdA ty38 0 rfl (by decide)⟩ rfl rfl ?_
    have e1 : fix ws c = (zeros8, 0, 1) := by unfold fix; rw [hv]; rfl
    rw [e1]
    exact ⟨rfl, H.weaken (List.nil_sublist _)⟩
  · -- c1 F
    have hv : (isWords ws && isCode c) = true := by cases hh : (isWords ws && isCode c) <;> simp [hh] at c1 ⊢
    have hw : isWords ws = true := by rw [Bool.and_eq_true] at hv; exact hv.1
    have hcc : isCode c = true := by rw [Bool.and_eq_true] at hv; exact hv.2
    refine (WC.skip (WX.next ?_))
    refine WC.seq ?_
    refine WC.region ?_
    first | refine WL.load rfl (H.rdArr ty38 1 rfl h8) rfl ?_
    refine WL.move rfl rfl ?_
    refine WL.call call207 rfl rfl ?_
    refine Calls.mono (checked_any ws h8 c _) ?_
    rintro _ wx ⟨rfl, Hc⟩
    refine ⟨_, rfl, ?_⟩
    replace H := H.call0 Hc
    unfold chkV
    refine WL.alloc H zer263 rfl ?_
    intro b8 wx hb8 hge8 H
    first | (refine WL.storeAt H ty263 0 rfl rfl rfl rfl (by simp [Value.cells, Value.oneCell']) (by first | decide | (simp only [wr_size]; decide) | simp [wr_size]) ?_) | (refine WL.storeAt H ty263 1 rfl rfl rfl rfl (by simp [Value.cells, Value.oneCell']) (by first | decide | (simp only [wr_size]; decide) | simp [wr_size]) ?_)
    intro wx H
    refine (WL.done (WX.next ?_))
    refine WC.seq ?_
    refine WC.seq ?_
    refine WC.region ?_
    refine WL.fieldAddr fld263_0 rfl rfl ?_
    first | refine WL.load rfl (H.rd1 ty3 0 rfl rfl) rfl ?_ | refine WL.load rfl (H.rd1 ty3 1 rfl rfl) rfl ?_ | refine WL.load rfl (H.rdA ty3 0 rfl (by decide)) rfl ?_ | refine WL.load rfl (H.rdA ty3 1 rfl (by decide)) rfl ?_
    refine WL.bin rfl rfl binv_eql rfl ?_
    refine (WL.done (WX.next ?_))
    first | refine WC.cond_dec rfl (fun c2 => ?_) (fun c2 => ?_) | refine WC.cond rfl (fun c2 => ?_) (fun c2 => ?_)
    · -- c2 T
      refine WC.seq ?_
      refine WC.region ?_
      refine WL.buildA (z := arrC zeros8) arr38 zer38 rfl rfl rfl ?_
      refine WL.storeArr (ws' := zeros8) H ty38 1 rfl rfl rfl (by rw [arrC_size]; rfl) rfl ?_
      intro wx H
      refine WL.assign rfl rfl ?_
      refine WL.assign rfl rfl ?_
      refine (WL.done (WX.next ?_))
      refine (WC.ret (WX.then_ret ?_))
      refine ret_three rfl ⟨_, rfl, by first | exact H.rdArr ty38 0 rfl rfl | exact H.rdArr ty38 1 rfl rfl | exact H.rdArr ty38 1 rfl h8 | exact H.rdArr ty38 2 rfl (by rw [flipBit]; split <;> simp [h8]) | exact H.rd1 ty38 0 rfl rfl | exact H.rd1 ty38 1 rfl rfl | exact H.rdA ty38 0 rfl (by decide) | exact H.rdA ty38 1 rfl (by decide)⟩ rfl rfl ?_
      have e1 : fix ws c = (zeros8, 0, 9) := by
        rcases chk_cases (ws := ws) hcc with h | h | ⟨x, y, h, _⟩
        · rw [h] at c2; exact absurd c2 (by decide)
        · unfold fix; rw [hv, h]; rfl
        · rw [h] at c2; simp at c2
      rw [e1]
      exact ⟨rfl, H.weaken (List.nil_sublist _)⟩
    · -- c2 F
      refine (WC.skip (WX.next ?_))
      refine WC.seq ?_
      refine WC.seq ?_
      refine WC.region ?_
      refine WL.fieldAddr fld263_0 rfl rfl ?_
      first | refine WL.load rfl (H.rd1 ty3 0 rfl rfl) rfl ?_ | refine WL.load rfl (H.rd1 ty3 1 rfl rfl) rfl ?_ | refine WL.load rfl (H.rdA ty3 0 rfl (by decide)) rfl ?_ | refine WL.load rfl (H.rdA ty3 1 rfl (by decide)) rfl ?_
      refine WL.bin rfl rfl binv_eql rfl ?_
      refine (WL.done (WX.next ?_))
      first | refine WC.cond_dec rfl (fun c3 => ?_) (fun c3 => ?_) | refine WC.cond rfl (fun c3 => ?_) (fun c3 => ?_)
      · -- c3 T
        obtain ⟨x, y, hxe, hxy⟩ : ∃ x y : Nat, chk ws c = (1, (x : Int), (y : Int)) ∧ ((x < 8 ∧ y < 40) ∨ (x = 8 ∧ y < 10)) := by
          rcases chk_cases (ws := ws) hcc with h | h | h
          · rw [h] at c3; exact absurd c3 (by decide)
          · rw [h] at c3; exact absurd c3 (by decide)
          · exact h
        rw [hxe] at H
        refine WC.seq ?_
        refine WC.region ?_
        first | refine WL.load rfl (H.rdArr ty38 2 rfl h8) rfl ?_
        refine WL.move rfl rfl ?_
        refine WL.fieldAddr fld263_1 rfl rfl ?_
        first | refine WL.load rfl (H.rd1 ty3 0 rfl rfl) rfl ?_ | refine WL.load rfl (H.rd1 ty3 1 rfl rfl) rfl ?_ | refine WL.load rfl (H.rdA ty3 0 rfl (by decide)) rfl ?_ | refine WL.load rfl (H.rdA ty3 1 rfl (by decide)) rfl ?_
        refine WL.fieldAddr fld263_2 rfl rfl ?_
        first | refine WL.load rfl (H.rd1 ty3 0 rfl rfl) rfl ?_ | refine WL.load rfl (H.rd1 ty3 1 rfl rfl) rfl ?_ | refine WL.load rfl (H.rdA ty3 0 rfl (by decide)) rfl ?_ | refine WL.load rfl (H.rdA ty3 1 rfl (by decide)) rfl ?_
        refine WL.call call95 rfl rfl ?_
        refine Calls.mono (refflip_any ws h8 hw c hcc x y hxy _) ?_
        rintro _ wx ⟨rfl, Hc⟩
        refine ⟨_, rfl, ?_⟩
        replace H := H.call0 Hc
        refine WL.move rfl rfl ?_
        refine WL.extract rfl rfl rfl ?_
        refine WL.extract rfl rfl rfl ?_
        refine WL.allocArr (ws := zeros8) H zer38 rfl rfl ?_
        intro b9 wx hb9 hge9 H
        refine WL.storeArr (ws' := (flipBit ws c x y).1) H ty38 0 rfl rfl rfl (by rw [arrC_size]; rfl) (by rw [flipBit]; split <;> simp [h8]) ?_
        intro wx H
        refine WL.assign rfl rfl ?_
        refine (WL.done (WX.next ?_))
        refine WC.seq ?_
        refine WC.region ?_
        first | refine WL.load rfl (H.rdArr ty38 0 rfl (by rw [flipBit]; split <;> simp [h8])) rfl ?_
        refine WL.move rfl rfl ?_
        refine WL.storeArr (ws' := (flipBit ws c x y).1) H ty38 2 rfl rfl rfl (by rw [arrC_size]; rfl) (by rw [flipBit]; split <;> simp [h8]) ?_
        intro wx H
        refine WL.assign rfl rfl ?_
        refine WL.assign rfl rfl ?_
        refine (WL.done (WX.next ?_))
        refine (WC.ret (WX.then_ret ?_))
        refine ret_three rfl ⟨_, rfl, by first | exact H.rdArr ty38 0 rfl rfl | exact H.rdArr ty38 1 rfl rfl | exact H.rdArr ty38 1 rfl h8 | exact H.rdArr ty38 2 rfl (by rw [flipBit]; split <;> simp [h8]) | exact H.rd1 ty38 0 rfl rfl | exact H.rd1 ty38 1 rfl rfl | exact H.rdA ty38 0 rfl (by decide) | exact H.rdA ty38 1 rfl (by decide)⟩ rfl rfl ?_
        have e1 : fix ws c = ((flipBit ws c x y).1, (flipBit ws c x y).2, 0) := by unfold fix; rw [hv, hxe]; rfl
        rw [e1]
        exact ⟨rfl, H.weaken (List.nil_sublist _)⟩
      · -- c3 F
        refine (WC.skip (WX.next ?_))
        refine WC.seq ?_
        refine WC.region ?_
        first | refine WL.load rfl (H.rdArr ty38 2 rfl h8) rfl ?_
        refine WL.move rfl rfl ?_
        refine WL.storeArr (ws' := ws) H ty38 1 rfl rfl rfl (by rw [arrC_size]; rfl) h8 ?_
        intro wx H
        refine WL.assign rfl rfl ?_
        refine WL.assign rfl rfl ?_
        refine (WL.done (WX.next ?_))
        refine (WC.ret ?_)
        refine ret_three rfl ⟨_, rfl, by first | exact H.rdArr ty38 0 rfl rfl | exact H.rdArr ty38 1 rfl rfl | exact H.rdArr ty38 1 rfl h8 | exact H.rdArr ty38 2 rfl (by rw [flipBit]; split <;> simp [h8]) | exact H.rd1 ty38 0 rfl rfl | exact H.rd1 ty38 1 rfl rfl | exact H.rdA ty38 0 rfl (by decide) | exact H.rdA ty38 1 rfl (by decide)⟩ rfl rfl ?_
        have e1 : fix ws c = (ws, c, 0) := by
          rcases chk_cases (ws := ws) hcc with h | h | ⟨x, y, h, _⟩
          · unfold fix; rw [hv, h]; rfl
          · rw [h] at c2; exact absurd rfl c2
          · rw [h] at c3; exact absurd rfl c3
        rw [e1]
        exact ⟨rfl, H.weaken (List.nil_sublist _)⟩

end Go.Proofs.YtkncbggnaobgeaaDoor

/- Walks of functions of the program; printed by a program of this session (walk.py) out of hand-written hints. -/
namespace Go.Proofs.YtkncbggnaobgeaaDoor
open Go.RowKit
set_option linter.unusedVariables false
set_option linter.unusedSimpArgs false
set_option maxRecDepth 100000

/-- What a line shows without what is pending. -/
def base (l : PL) : List Int := shown (drop0 l)
theorem fix_sound {l : PL} (h : l.ok) (hs : (chk l.ws l.c).1 ≠ 2) : (fix l.ws l.c).2.2 = 0 := by
  unfold fix
  rw [h.2.1, h.2.2.1]
  simp only [Bool.and_self, if_true]
  rcases chk_cases (ws := l.ws) h.2.2.1 with e | e | ⟨x, y, e, _⟩
  · rw [e]; rfl
  · rw [e] at hs; exact absurd rfl hs
  · rw [e]; rfl
theorem base_fix {l : PL} (hf : (fix l.ws l.c).2.2 = 0) : base l = (fix l.ws l.c).1 := by
  unfold base shown drop0 pShow
  simp only []
  rw [if_pos hf]; rfl
/-- What a crash leaves of a line of which it keeps k pending stores. -/
theorem shown_cut {l : PL} (h : l.ok) (hs : l.sound) {k : Nat} (hk : k ≤ l.ps.length) : base (pSettle l k) = putAll (base l) (l.ps.take k) := by
  rcases Nat.eq_zero_or_pos k with h0 | hp
  · subst h0; rfl
  · have hps : l.ps ≠ [] := fun e => by rw [e] at hk; simp at hk; omega
    have hf := fix_sound h (hs hps)
    rw [base_fix hf]
    have hw := pShow_words (k := k) h
    have e1 : (pSettle l k).ws = (pShow l k).1 ∧ (pSettle l k).c = enc (pShow l k).1 := by unfold pSettle; rw [if_neg (by omega)]; exact ⟨rfl, rfl⟩
    have e2 : (fix (pSettle l k).ws (pSettle l k).c).2.2 = 0 := by rw [e1.1, e1.2, fix_enc hw]
    rw [base_fix e2, e1.1, e1.2, fix_enc hw]
    show (pShow l k).1 = _
    unfold pShow
    rw [if_pos hf]
theorem base_drop (l : PL) : base (drop0 l) = base l := rfl
theorem shown_drop (l : PL) : shown (drop0 l) = base l := rfl
/-- The view that a crash with these cuts leaves, put together store by store. -/
def wantTo (M : PM) (cs : List (Int × Int)) (i : Nat) : List (List Int) := (cs.take i).foldl (fun W c => W.set c.1.toNat (putAll (W.getD c.1.toNat []) ((M.line c.1).ps.take c.2.toNat))) (M.ls.map base)
theorem wantTo_succ {M : PM} {cs : List (Int × Int)} {i : Nat} (hi : i < cs.length) : wantTo M cs (i + 1) = (wantTo M cs i).set (cs[i]).1.toNat (putAll ((wantTo M cs i).getD (cs[i]).1.toNat []) ((M.line (cs[i]).1).ps.take (cs[i]).2.toNat)) := by
  unfold wantTo
  rw [List.take_add_one, List.getElem?_eq_getElem hi, List.foldl_append]; rfl
theorem wantTo_len (M : PM) (cs : List (Int × Int)) : ∀ i, (wantTo M cs i).length = M.ls.length := by
  have key : ∀ (l : List (Int × Int)) (W : List (List Int)), (l.foldl (fun W c => W.set c.1.toNat (putAll (W.getD c.1.toNat []) ((M.line c.1).ps.take c.2.toNat))) W).length = W.length := by
    intro l
    induction l with
    | nil => intro W; rfl
    | cons c l ih => intro W; rw [List.foldl_cons, ih]; simp
  intro i
  unfold wantTo
  rw [key]; simp
theorem putAllLen (ws : List Int) (ps : List (Int × Int)) : (putAll ws ps).length = ws.length := by
  unfold putAll
  induction ps generalizing ws with
  | nil => rfl
  | cons p ps ih => rw [List.foldl_cons, ih]; simp
theorem base8 {l : PL} (h : l.ok) : (base l).length = 8 := pShow_len h.1
theorem wantTo_8 {M : PM} (hok : ∀ l ∈ M.ls, l.ok) (cs : List (Int × Int)) : ∀ i, ∀ r ∈ wantTo M cs i, r.length = 8 := by
  have key : ∀ (l : List (Int × Int)) (W : List (List Int)), (∀ r ∈ W, r.length = 8) → ∀ r ∈ l.foldl (fun W c => W.set c.1.toNat (putAll (W.getD c.1.toNat []) ((M.line c.1).ps.take c.2.toNat))) W, r.length = 8 := by
    intro l
    induction l with
    | nil => intro W h; exact h
    | cons c l ih =>
      intro W h
      rw [List.foldl_cons]
      refine ih _ (fun r hr => ?_)
      rcases Nat.lt_or_ge c.1.toNat W.length with hl | hg
      · rcases List.mem_or_eq_of_mem_set hr with hr | rfl
        · exact h r hr
        · rw [putAllLen, List.getD, List.getElem?_eq_getElem hl]; exact h _ (List.getElem_mem hl)
      · rw [List.set_eq_of_length_le hg] at hr; exact h r hr
  intro i
  unfold wantTo
  refine key _ _ (fun r hr => ?_)
  obtain ⟨l, hl, rfl⟩ := List.mem_map.1 hr
  exact base8 (hok l hl)
theorem want_other {M : PM} {j : Nat} : ∀ (l : List (Int × Int)) (W : List (List Int)), (∀ c ∈ l, c.1.toNat ≠ j) → (l.foldl (fun W c => W.set c.1.toNat (putAll (W.getD c.1.toNat []) ((M.line c.1).ps.take c.2.toNat))) W).getD j [] = W.getD j []
  | [], W, h => rfl
  | c :: l, W, h => by
    rw [List.foldl_cons, want_other l _ (fun c hc => h c (List.mem_cons_of_mem _ hc)), set_getD, if_neg (fun hh => h c List.mem_cons_self hh.1)]
/-- P4.7: each line shows what a prefix of its pending stores makes of what was durable. -/
theorem keeps_prefixes {M : PM} (hok : ∀ l ∈ M.ls, l.ok) (hs : ∀ l ∈ M.ls, l.sound) (keep : List Int) : (M.crash (M.cutsOf keep)).ls.map shown = wantTo M (M.cutsOf keep) (M.cutsOf keep).length := by
  have hc := cutsOf_ok M keep
  apply List.ext_getElem?
  intro j
  rcases Nat.lt_or_ge j M.ls.length with hj | hj
  · have hl : (M.crash (M.cutsOf keep)).ls.length = M.ls.length := crash_len _ _
    have hwl := wantTo_len M (M.cutsOf keep) (M.cutsOf keep).length
    have goal : shown ((M.crash (M.cutsOf keep)).line j) = (wantTo M (M.cutsOf keep) (M.cutsOf keep).length).getD j [] := by
      rw [crash_line hc hj, shown_drop]
      unfold wantTo
      rw [List.take_length]
      have hb0 : (M.ls.map base).getD j [] = base (M.line j) := by simp [PM.line, List.getD, List.getElem?_eq_getElem hj]
      by_cases hex : ∃ c ∈ M.cutsOf keep, c.1.toNat = j
      · obtain ⟨c, hcm, hcj⟩ := hex
        obtain ⟨i, hi, h1, h2, h3, h4⟩ := cutsTo_mem hcm
        have hij : i = j := by rw [h1, Int.toNat_natCast] at hcj; exact hcj
        subst hij
        obtain ⟨a, b, hab⟩ := List.append_of_mem hcm
        have hasc := cutsTo_asc M keep M.ls.length
        have hasc' : (M.cutsOf keep).Pairwise fun a b => a.1 < b.1 := hasc
        rw [hab] at hasc'
        obtain ⟨p1, p2, p3⟩ := List.pairwise_append.1 hasc'
        have hA : ∀ d ∈ a, d.1.toNat ≠ i := fun d hd he => by
          have := p3 d hd c List.mem_cons_self
          obtain ⟨i', _, h1', _⟩ := cutsTo_mem (show d ∈ M.cutsOf keep from by rw [hab]; exact List.mem_append_left _ hd)
          omega
        have hB : ∀ d ∈ b, d.1.toNat ≠ i := fun d hd he => by
          have := (List.pairwise_cons.1 p2).1 d hd
          obtain ⟨i', _, h1', _⟩ := cutsTo_mem (show d ∈ M.cutsOf keep from by rw [hab]; exact List.mem_append_right _ (List.mem_cons_of_mem _ hd))
          omega
        have hlm := line_mem (has_of hj)
        have hlenA : c.1.toNat < (a.foldl (fun W c => W.set c.1.toNat (putAll (W.getD c.1.toNat []) ((M.line c.1).ps.take c.2.toNat))) (M.ls.map base)).length := by
          have key : ∀ (l : List (Int × Int)) (W : List (List Int)), (l.foldl (fun W c => W.set c.1.toNat (putAll (W.getD c.1.toNat []) ((M.line c.1).ps.take c.2.toNat))) W).length = W.length := by
            intro l
            induction l with
            | nil => intro W; rfl
            | cons c l ih => intro W; rw [List.foldl_cons, ih]; simp
          rw [key, hcj]
          simpa using hj
        rw [hab, cut_at hcj hA hB hj, List.foldl_append, List.foldl_cons, want_other b _ hB, set_getD, if_pos ⟨hcj, hlenA⟩, hcj, want_other a _ hA, hb0, h1]
        have hg : M.ls.getD i default = M.line i := rfl
        rw [hg]
        exact shown_cut (hok _ hlm) (hs _ hlm) (by omega)
      · have hno : ∀ c ∈ M.cutsOf keep, c.1.toNat ≠ j := fun c hc he => hex ⟨c, hc, he⟩
        rw [cut_other _ _ hno, want_other _ _ hno, hb0]; rfl
    rw [List.getElem?_map, List.getElem?_eq_getElem (show j < (M.crash (M.cutsOf keep)).ls.length by omega), List.getElem?_eq_getElem (show j < (wantTo M (M.cutsOf keep) (M.cutsOf keep).length).length by omega)]
    rw [line_of (show j < (M.crash (M.cutsOf keep)).ls.length by omega), List.getD, List.getElem?_eq_getElem (show j < (wantTo M (M.cutsOf keep) (M.cutsOf keep).length).length by omega)] at goal
    simp only [Option.getD_some] at goal
    simp [goal]
  · rw [List.getElem?_eq_none (by rw [List.length_map, crash_len]; exact hj), List.getElem?_eq_none (by rw [wantTo_len]; exact hj)]
theorem flatten_set {s : Nat} : ∀ (rows : List (List Int)) (k j : Nat) (z : Int), (∀ r ∈ rows, r.length = s) → k < rows.length → j < s → (rows.set k ((rows.getD k []).set j z)).flatten = rows.flatten.set (k * s + j) z
  | [], k, j, z, h, hk, hj => by simp at hk
  | r :: rows, 0, j, z, h, hk, hj => by
    have hr := h r List.mem_cons_self
    simp only [List.set_cons_zero, List.getD_cons_zero, List.flatten_cons, Nat.zero_mul, Nat.zero_add]
    rw [List.set_append_left _ _ (by omega)]
  | r :: rows, k + 1, j, z, h, hk, hj => by
    have hr := h r List.mem_cons_self
    have ih := flatten_set rows k j z (fun x hx => h x (List.mem_cons_of_mem _ hx)) (by simpa using hk) hj
    simp only [List.set_cons_succ, List.getD_cons_succ, List.flatten_cons]
    rw [ih, List.set_append_right _ _ (by rw [hr, Nat.add_mul]; omega), hr]
    congr 2
    rw [Nat.add_mul]; omega

end Go.Proofs.YtkncbggnaobgeaaDoor

/- The reference's memory: how it lies, and one line of it brought to the front. -/
namespace Go.Proofs.YtkncbggnaobgeaaDoor
open Go.RowKit
set_option linter.unusedVariables false
set_option linter.unusedSimpArgs false
set_option maxRecDepth 100000

structure RR where
  p : Nat
  lb : Nat
  lcap : Nat
  junk : List Value
  X : List (PL × Row)
  span : Int
  evs : List (List Int)
  er : Row
def RR.abs (R : RR) : PM := { ls := R.X.map Prod.fst, span := R.span, evs := R.evs }
def structQ (lb len lcap : Nat) (span : Int) (er : Row) (ne : Nat) : Obj := .cells #[.slice (some ⟨lb, 0, none⟩) len lcap, .int .i64 span, er.val ne] 89
def RR.hp (R : RR) : Hp := (R.p, structQ R.lb R.X.length R.lcap R.span R.er R.evs.length) :: (R.lb, .cells (linesC R.X ++ R.junk).toArray 184) :: (R.er.hp 164 ++ pendHp R.X)
structure RR.ok (R : RR) : Prop where
  len : 1 ≤ R.X.length ∧ R.X.length ≤ 4096
  lcap : R.X.length ≤ R.lcap ∧ R.lcap ≤ maxLen
  junk : R.junk.length = 11 * (R.lcap - R.X.length)
  lines : ∀ x ∈ R.X, x.1.ok ∧ x.2.ok 2 x.1.ps.length (flatP x.1.ps)
  sound : ∀ x ∈ R.X, x.1.sound
  evs : ∀ v ∈ R.evs, v.length = 12
  er : R.er.ok 12 R.evs.length (flatE R.evs)
  span : 0 ≤ R.span ∧ R.span ≤ 9223372036854775807
/-- The memory R lies in w. -/
structure RIn (w : World) (R : RR) : Prop where
  nd : (R.hp.map Prod.fst).Nodup
  sat : ∀ q ∈ R.hp, w.heap[q.1]? = some q.2
  ok : R.ok
theorem RIn.start {w : World} {R : RR} (h : RIn w R) : St w (R.hp.map Prod.fst) w R.hp := St.start h.nd h.sat
theorem RIn.of {w0 w : World} {S : List Nat} {L : Hp} {R : RR} (h : St w0 S w (L ++ R.hp)) (ok : R.ok) : RIn w R := by
  have h' : St w0 S w R.hp := h.weaken (List.sublist_append_right _ _)
  exact ⟨h'.nd, h'.sat, ok⟩
theorem RIn.next {w w' : World} {R R' : RR} (h' : St w (R.hp.map Prod.fst) w' R'.hp) (ok : R'.ok) : RIn w' R' := RIn.of (L := []) h' ok
theorem RIn.old {w w' : World} {R : RR} {H : Hp} (h : RIn w R) (h' : St w [] w' H) : RIn w' R := ⟨h.nd, fun q hq => h'.oldBlock (h.sat q hq) (by simp), h.ok⟩
def qhp (p lb len lcap : Nat) (span : Int) (er : Row) (ne : Nat) (a : List Value) (l : PL) (r : Row) (c : List Value) (Z : Hp) : Hp :=
  (p, structQ lb len lcap span er ne) :: (lb, .cells (lineL a l r c) 184) :: (r.hp 111 ++ Z)
theorem RR.focus {R : RR} {A B : List (PL × Row)} {l : PL} {r : Row} (hX : R.X = A ++ (l, r) :: B) :
    R.hp.Perm (qhp R.p R.lb R.X.length R.lcap R.span R.er R.evs.length (linesC A) l r (linesC B ++ R.junk) (R.er.hp 164 ++ pendHp A ++ pendHp B)) := by
  unfold RR.hp qhp
  have e1 : (linesC R.X ++ R.junk).toArray = lineL (linesC A) l r (linesC B ++ R.junk) := by
    rw [hX, linesC_append, linesC_cons]; simp [lineL]
  have e2 : pendHp R.X = pendHp A ++ (r.hp 111 ++ pendHp B) := by rw [hX, pendHp_append, pendHp_cons]
  rw [e1, e2]
  refine List.Perm.cons _ (List.Perm.cons _ ?_)
  have e3 : R.er.hp 164 ++ (pendHp A ++ (r.hp 111 ++ pendHp B)) = (R.er.hp 164 ++ pendHp A) ++ r.hp 111 ++ pendHp B := by simp
  have e4 : r.hp 111 ++ (R.er.hp 164 ++ pendHp A ++ pendHp B) = r.hp 111 ++ (R.er.hp 164 ++ pendHp A) ++ pendHp B := by simp
  rw [e3, e4]
  exact List.Perm.append_right _ List.perm_append_comm
theorem St.focusR {w0 w : World} {S : List Nat} {L : Hp} {R : RR} {A B : List (PL × Row)} {l : PL} {r : Row} (hX : R.X = A ++ (l, r) :: B) (h : St w0 S w (L ++ R.hp)) :
    St w0 S w (L ++ qhp R.p R.lb R.X.length R.lcap R.span R.er R.evs.length (linesC A) l r (linesC B ++ R.junk) (R.er.hp 164 ++ pendHp A ++ pendHp B)) :=
  h.perm (List.Perm.append_left _ (RR.focus hX))
theorem St.unfocusR {w0 w : World} {S : List Nat} {L : Hp} {R : RR} {A B : List (PL × Row)} {l : PL} {r : Row} (hX : R.X = A ++ (l, r) :: B)
    (h : St w0 S w (L ++ qhp R.p R.lb R.X.length R.lcap R.span R.er R.evs.length (linesC A) l r (linesC B ++ R.junk) (R.er.hp 164 ++ pendHp A ++ pendHp B))) : St w0 S w (L ++ R.hp) :=
  h.perm (List.Perm.append_left _ (RR.focus hX).symm)
def RR.upd (R : RR) (A B : List (PL × Row)) (l : PL) (r : Row) : RR := { R with X := A ++ (l, r) :: B }
theorem St.refocusR {w0 w : World} {S : List Nat} {L : Hp} {R : RR} {A B : List (PL × Row)} {l l' : PL} {r r' : Row} (hX : R.X = A ++ (l, r) :: B)
    (h : St w0 S w (L ++ qhp R.p R.lb R.X.length R.lcap R.span R.er R.evs.length (linesC A) l' r' (linesC B ++ R.junk) (R.er.hp 164 ++ pendHp A ++ pendHp B))) : St w0 S w (L ++ (R.upd A B l' r').hp) := by
  have hl : R.X.length = (R.upd A B l' r').X.length := by rw [hX]; simp [RR.upd]
  rw [hl] at h
  exact St.unfocusR (R := R.upd A B l' r') (A := A) (B := B) (l := l') (r := r') rfl h
theorem RR.ok.upd {R : RR} (h : R.ok) {A B : List (PL × Row)} {l l' : PL} {r r' : Row} (hX : R.X = A ++ (l, r) :: B) (hl : l'.ok) (hs : l'.sound) (hr : r'.ok 2 l'.ps.length (flatP l'.ps)) : (R.upd A B l' r').ok := by
  have hlen : (A ++ (l', r') :: B).length = R.X.length := by rw [hX]; simp
  refine ⟨by show 1 ≤ (A ++ (l', r') :: B).length ∧ _; rw [show (R.upd A B l' r').X.length = R.X.length from hlen, hlen]; exact h.len, by show (A ++ (l', r') :: B).length ≤ _ ∧ _; rw [hlen]; exact h.lcap, by show R.junk.length = 11 * (R.lcap - (A ++ (l', r') :: B).length); rw [hlen]; exact h.junk, ?_, ?_, h.evs, h.er, h.span⟩
  · intro x hx
    rcases List.mem_append.1 hx with hx | hx
    · exact h.lines x (by rw [hX]; exact List.mem_append_left _ hx)
    · rcases List.mem_cons.1 hx with rfl | hx
      · exact ⟨hl, hr⟩
      · exact h.lines x (by rw [hX]; exact List.mem_append_right _ (List.mem_cons_of_mem _ hx))
  · intro x hx
    rcases List.mem_append.1 hx with hx | hx
    · exact h.sound x (by rw [hX]; exact List.mem_append_left _ hx)
    · rcases List.mem_cons.1 hx with rfl | hx
      · exact hs
      · exact h.sound x (by rw [hX]; exact List.mem_append_right _ (List.mem_cons_of_mem _ hx))
def RR.noted (R : RR) (v : List Int) (er : Row) : RR := { R with evs := R.evs ++ [v], er := er }
theorem RR.ok.noted {R : RR} (h : R.ok) {v : List Int} {er : Row} (hv : v.length = 12) (he : er.ok 12 (R.evs.length + 1) (flatE (R.evs ++ [v]))) : (R.noted v er).ok :=
  ⟨h.len, h.lcap, h.junk, h.lines, h.sound, fun u hu => (List.mem_append.1 hu).elim (h.evs u) (fun hh => by simp only [List.mem_singleton] at hh; subst hh; exact hv), by
    show er.ok 12 (R.evs ++ [v]).length _; rw [List.length_append]; exact he, h.span⟩
theorem RR.ok.l8 {R : RR} (h : R.ok) : ∀ x ∈ R.X, x.1.ws.length = 8 := fun x hx => (h.lines x hx).1.1
theorem RR.ok.at {R : RR} (h : R.ok) {k : Nat} (hk : k < R.X.length) : ∃ A l r B, R.X = A ++ (l, r) :: B ∧ A.length = k ∧ (linesC A).length = 11 * k ∧ l.ok ∧ r.ok 2 l.ps.length (flatP l.ps) ∧ l.sound ∧ R.X[k]? = some (l, r) := by
  obtain ⟨A, ⟨l, r⟩, B, hX, hA⟩ := split_at hk
  have hmem : (l, r) ∈ R.X := by rw [hX]; simp
  refine ⟨A, l, r, B, hX, hA, ?_, (h.lines _ hmem).1, (h.lines _ hmem).2, h.sound _ hmem, ?_⟩
  · rw [linesC_length (fun x hx => h.l8 x (by rw [hX]; exact List.mem_append_left _ hx)), hA]
  · rw [hX, List.getElem?_append_right (by omega), hA, Nat.sub_self]; rfl
theorem RR.has_iff {R : RR} {n : Int} : R.abs.has n = true ↔ 0 ≤ n ∧ n < R.X.length := by simp [PM.has, RR.abs]
theorem RR.abs_len (R : RR) : R.abs.ls.length = R.X.length := by simp [RR.abs]
theorem RR.abs_line {R : RR} {k : Nat} {l : PL} {r : Row} (h : R.X[k]? = some (l, r)) : R.abs.line (k : Int) = l := by
  simp [PM.line, RR.abs, h]
theorem RR.abs_upd {R : RR} {A B : List (PL × Row)} {l l' : PL} {r r' : Row} {k : Nat} (hX : R.X = A ++ (l, r) :: B) (hA : A.length = k) : (R.upd A B l' r').abs = { R.abs with ls := R.abs.ls.set k l' } := by
  subst hA
  simp [RR.abs, RR.upd, hX]
theorem RR.abs_noted (R : RR) (v : List Int) (er : Row) : (R.noted v er).abs = { R.abs with evs := R.abs.evs ++ [v] } := rfl

/-! ### An append of a row of someone's -/
section
variable {P : Program} {ops : Array Oper} {Q : Exit → Act → World → Prop} {n : Nat} {ds : List Deferred} {e e' : Env} {w w' w0 : World} {rest : List Oper} {S : List Nat} {H : Hp}
variable {d : Nat} {v : Value} {ty : TypeId} {pos : String} {af : Array Edge}
theorem WL.appendR {x y : Operand} {t el : TypeId} {sz bytes k m : Nat} {r r2 : Row} {xs news : List Value} (hT : AppT P t el sz bytes) (hS : St w0 S w (r.hp el ++ H)) (hok : r.ok sz k xs) (hok2 : r2.ok sz m news) (h2 : ∀ q ∈ r2.hp el, w.heap[q.1]? = some q.2) (h1 : ∀ u ∈ news, u.oneCell' = true)
    (hx : ev e x = some (r.val k)) (hy : ev e y = some (r2.val m)) (h63 : k + m ≤ maxLen) (hbytes : (k + m) * bytes ≤ 140737488355328) (hdn : Nat.blt d n = true)
    (h : ∀ (r' : Row) w', r'.ok sz (k + m) (xs ++ news) → St w0 S w' (r'.hp el ++ H) → WL P ops Q n ds rest ((d, r'.val (k + m)) :: e) w') :
    WL P ops Q n ds ({ dst := some d, op := .call { callee := .builtin .append, args := #[x, y], argTypes := #[t, t] }, type := ty, pos, after := af, guard := none } :: rest) e w := by
  have none0 : m = 0 → news = [] → (∃ A2 c2, r2.val m = .slice A2 0 c2) → WL P ops Q n ds ({ dst := some d, op := .call { callee := .builtin .append, args := #[x, y], argTypes := #[t, t] }, type := ty, pos, after := af, guard := none } :: rest) e w := by
    rintro rfl rfl ⟨A2, c2, e2⟩
    obtain ⟨i, z, t1, t2, t3, t4, t5, t6, t7⟩ := hT
    have hv : ∃ A c, r.val k = .slice A k c ∧ k ≤ c := by
      cases r with
      | none => obtain ⟨rfl, rfl⟩ := hok; exact ⟨_, _, rfl, Nat.le_refl _⟩
      | nul a => obtain ⟨rfl, rfl⟩ := hok; exact ⟨_, _, rfl, Nat.le_refl _⟩
      | some g cap cur => exact ⟨_, _, rfl, hok.2.1⟩
    obtain ⟨A, c, e1, hle⟩ := hv
    have hsrc : Src P i.size t (.slice A2 0 c2) 0 [] w := by
      cases A2 with
      | none => exact Src.ofNil w t1 c2
      | some a => exact Src.ofSlice w t1 a 0 c2 [] (by simp) (fun j u hj => by cases hj) (fun u hu => by cases hu)
    refine WL.builtin (xs := [x, y]) (vs := [r.val k, r2.val 0]) (w' := w) (v := r.val k) (by simp [evs, hx, hy]) hdn (fun cs => ?_) ?_
    · have hrun := run_append_nothing (P := P) w t t ty el i t1 t2 A k c hle (.slice A2 0 c2) hsrc
      rw [e1, e2]
      unfold Go.builtin
      rw [Sem.run_bind]
      show ((Builtin.append_ #[t, t] ty #[.slice A k c, .slice A2 0 c2]).run P w).andThen _ = _
      rw [hrun]; rfl
    · have := h r w (by rw [Nat.add_zero, List.append_nil]; exact hok) hS
      rw [Nat.add_zero] at this
      exact this
  cases r2 with
  | none => obtain ⟨hm, hn⟩ := hok2; exact none0 hm hn ⟨_, _, by rw [hm]; rfl⟩
  | nul a => obtain ⟨hm, hn⟩ := hok2; exact none0 hm hn ⟨_, _, by rw [hm]; rfl⟩
  | some g cap cur =>
    rcases Nat.eq_zero_or_pos m with hm | hm
    · exact none0 hm (by have := Row.ok_len hok2; rw [hm, Nat.zero_mul] at this; exact List.eq_nil_of_length_eq_zero this) ⟨_, _, by rw [hm]; rfl⟩
    · exact WL.append (a := ⟨g, 0, none⟩) (m := m) (c := cap) (news := news) hT hS hok hx hy (Row.ok_len hok2) (fun j u hj => by
        rw [addr_add, cell_of (h2 _ List.mem_cons_self), Nat.zero_add]; exact Row.ok_get hok2 hj) h1 h63 hbytes hdn h (.inl (by omega))
end
end Go.Proofs.YtkncbggnaobgeaaDoor

/- Walks of functions of the program; printed by a program of this session (walk.py) out of hand-written hints. -/
namespace Go.Proofs.YtkncbggnaobgeaaDoor
open Go.RowKit
set_option linter.unusedVariables false
set_option linter.unusedSimpArgs false
set_option maxRecDepth 100000

theorem Row.ok_nil (g sz : Nat) : Row.ok (.some g 0 #[]) sz 0 [] := ⟨by simp, Nat.le_refl _, Nat.zero_le _, by simp, by simp, fun _ => rfl⟩
theorem RIn.b0 {w : World} {R : RR} (h : RIn w R) : w.heap[R.p]? = some (structQ R.lb R.X.length R.lcap R.span R.er R.evs.length) := h.sat _ List.mem_cons_self
theorem RIn.b1 {w : World} {R : RR} (h : RIn w R) : w.heap[R.lb]? = some (.cells (linesC R.X ++ R.junk).toArray 184) := h.sat (R.lb, .cells (linesC R.X ++ R.junk).toArray 184) (List.mem_cons_of_mem _ List.mem_cons_self)
theorem RIn.b1at {w : World} {R : RR} (h : RIn w R) {A B : List (PL × Row)} {l : PL} {r : Row} (hX : R.X = A ++ (l, r) :: B) : w.heap[R.lb]? = some (.cells (lineL (linesC A) l r (linesC B ++ R.junk)) 184) := by
  have e1 : (linesC R.X ++ R.junk).toArray = lineL (linesC A) l r (linesC B ++ R.junk) := by
    rw [hX, linesC_append, linesC_cons]; simp [lineL]
  rw [← e1]; exact h.b1
theorem RIn.row {w : World} {R : RR} (h : RIn w R) {A B : List (PL × Row)} {l : PL} {r : Row} (hX : R.X = A ++ (l, r) :: B) : ∀ q ∈ r.hp 111, w.heap[q.1]? = some q.2 := fun q hq => by
  have : q ∈ pendHp R.X := by rw [hX, pendHp_append, pendHp_cons]; simp [hq]
  exact h.sat q (List.mem_cons_of_mem _ (List.mem_cons_of_mem _ (List.mem_append_right _ this)))
theorem RIn.erow {w : World} {R : RR} (h : RIn w R) : ∀ q ∈ R.er.hp 164, w.heap[q.1]? = some q.2 := fun q hq => h.sat q (List.mem_cons_of_mem _ (List.mem_cons_of_mem _ (List.mem_append_left _ hq)))
theorem Rd.q0 {w : World} {p lb len lcap : Nat} {span : Int} {er : Row} {ne : Nat} (h : w.heap[p]? = some (structQ lb len lcap span er ne)) : Rd Tryd.prog w 87 ⟨p, 0 + 0, none⟩ (.slice (some ⟨lb, 0, none⟩) len lcap) := Rd.one ty87 (by rw [cell_of h]; rfl)
theorem Rd.q1 {w : World} {p lb len lcap : Nat} {span : Int} {er : Row} {ne : Nat} (h : w.heap[p]? = some (structQ lb len lcap span er ne)) : Rd Tryd.prog w 3 ⟨p, 0 + 1, none⟩ (.int .i64 span) := Rd.one ty3 (by rw [cell_of h]; rfl)
theorem Rd.q2 {w : World} {p lb len lcap : Nat} {span : Int} {er : Row} {ne : Nat} (h : w.heap[p]? = some (structQ lb len lcap span er ne)) : Rd Tryd.prog w 30 ⟨p, 0 + 2, none⟩ (er.val ne) := Rd.one ty30 (by rw [cell_of h]; rfl)
theorem RR.pend_of {R : RR} {n : Int} (h : R.abs.has n = true) : R.abs.pend n = (R.abs.line n).ps := by unfold PM.pend; rw [h]; rfl

theorem rhas_any (R : RR) (n : Int) (w : World) (hm : RIn w R) : Calls Tryd.prog 177 #[ptr R.p, .int .i64 n] w fun e w' => e = .returned (.bool (R.abs.has n)) ∧ w' = w := by
  refine calls_walk_n (args := [ptr R.p, .int .i64 n]) Tryd.func177 rfl rfl rfl ?_
  have H := St.refl w
  refine WC.seq ?_
  refine WC.region ?_
  refine WL.assign rfl rfl ?_
  refine (WL.done (WX.next ?_))
  refine WC.seq ?_
  refine WC.region ?_
  refine WL.move rfl rfl ?_
  refine WL.bin rfl rfl binv_geq rfl ?_
  refine WL.move rfl rfl ?_
  first | refine WL.splitD (t := 7) rfl (fun g1 => ?_) (fun g1 => ?_) | refine WL.split (t := 7) rfl (fun g1 => ?_) (fun g1 => ?_)
  · -- g1 True
    refine WL.yes rfl rfl ?_
    refine WL.move rfl rfl ?_
    refine WL.yes rfl rfl ?_
    refine WL.move rfl rfl ?_
    refine WL.yes rfl rfl ?_
    first | refine WL.nilCheck rfl rfl ?_ | refine WL.nilCheckFn rfl rfl ?_
    refine WL.yes rfl rfl ?_
    refine WL.fieldAddr fld89_0 rfl rfl ?_
    refine WL.yes rfl rfl ?_
    first | refine WL.load rfl (Rd.q0 (H.oldBlock hm.b0 (by simp))) rfl ?_ | refine WL.load rfl (Rd.q0 (hS.block (H.oldBlock hm.b0 (by simp)) (by simp))) rfl ?_
    refine WL.yes rfl rfl ?_
    refine WL.lenSlc isl87 rfl rfl ?_
    refine WL.yes rfl rfl ?_
    refine WL.bin rfl rfl binv_lss rfl ?_
    refine WL.pickT rfl rfl rfl ?_
    refine WL.assign rfl rfl ?_
    refine (WL.done (WX.next ?_))
    refine (WC.ret ?_)
    refine ret_one rfl rfl ?_
    exact ⟨by unfold PM.has; rw [RR.abs_len]; simp [g1], rfl⟩
  · -- g1 False
    refine WL.no rfl rfl rfl ?_
    refine WL.no rfl rfl rfl ?_
    refine WL.no rfl rfl rfl ?_
    refine WL.no rfl rfl rfl ?_
    refine WL.no rfl rfl rfl ?_
    refine WL.no rfl rfl rfl ?_
    refine WL.no rfl rfl rfl ?_
    refine WL.pickF rfl rfl rfl ?_
    refine WL.assign rfl rfl ?_
    refine (WL.done (WX.next ?_))
    refine (WC.ret ?_)
    refine ret_one rfl rfl ?_
    exact ⟨by unfold PM.has; simp [g1], rfl⟩

theorem rstate_any (R : RR) (n : Int) (w : World) (hm : RIn w R) : Calls Tryd.prog 123 #[ptr R.p, .int .i64 n] w fun e w' => e = .returned (.int .i64 (R.abs.state n)) ∧ St w [] w' [] := by
  refine calls_walk_n (args := [ptr R.p, .int .i64 n]) Tryd.func123 rfl rfl rfl ?_
  have H := St.refl w
  refine WC.seq ?_
  refine WC.region ?_
  refine WL.assign rfl rfl ?_
  refine (WL.done (WX.next ?_))
  refine WC.seq ?_
  refine WC.seq ?_
  refine WC.region ?_
  refine WL.move rfl rfl ?_
  refine WL.move rfl rfl ?_
  refine WL.call call177 rfl rfl ?_
  refine Calls.mono (rhas_any R n _ hm) ?_
  rintro _ wx ⟨rfl, rfl⟩
  refine ⟨_, rfl, ?_⟩
  refine WL.notOp rfl rfl ?_
  refine (WL.done (WX.next ?_))
  first | refine WC.cond_dec rfl (fun c1 => ?_) (fun c1 => ?_) | refine WC.cond rfl (fun c1 => ?_) (fun c1 => ?_)
  · -- c1 T
    have hh : R.abs.has n = false := by cases hh : R.abs.has n <;> simp [hh] at c1 ⊢
    refine WC.seq ?_
    refine WC.region ?_
    refine WL.assign rfl rfl ?_
    refine (WL.done (WX.next ?_))
    refine (WC.ret (WX.then_ret ?_))
    refine ret_one rfl rfl ?_
    refine ⟨?_, H⟩
    unfold PM.state; rw [if_neg (by rw [hh]; decide)]
  · -- c1 F
    have hh : R.abs.has n = true := by cases hh : R.abs.has n <;> simp [hh] at c1 ⊢
    obtain ⟨hn0, hn1⟩ := RR.has_iff.1 hh
    obtain ⟨k, rfl⟩ : ∃ k : Nat, n = (k : Int) := ⟨n.toNat, by omega⟩
    obtain ⟨A, l, r, B, hX, hA, ha, hok, hr, hso, hget⟩ := hm.ok.at (k := k) (by omega)
    refine (WC.skip (WX.next ?_))
    refine WC.seq ?_
    replace H := H.drew
    refine WC.held (SX (World.drew wx) []) (by kernel_rfl) ?_
    generalize World.drew wx = wb at H ⊢
    have HB := St.refl wb
    refine WH.take 0 rfl (by kernel_rfl) (by kernel_rfl) (by kernel_rfl) (fun _ _ _ h => h) ⟨_, HB⟩ (fun w' hS => EX.move rfl) rfl ?_
    refine WH.take 1 rfl (by kernel_rfl) (by kernel_rfl) (by kernel_rfl) (fun _ _ _ h => h) ⟨_, HB⟩ (fun w' hS => EX.nilCheck rfl) rfl ?_
    refine WH.take 2 rfl (by kernel_rfl) (by kernel_rfl) (by kernel_rfl) (fun _ _ _ h => h) ⟨_, HB⟩ (fun w' hS => EX.fieldAddr fld89_0 rfl) rfl ?_
    first | refine WH.take 3 rfl (by kernel_rfl) (by kernel_rfl) (by kernel_rfl) (fun _ _ _ h => h) ⟨_, HB⟩ (fun w' hS => EX.load rfl (Rd.q0 (H.oldBlock hm.b0 (by simp)))) rfl ?_ | refine WH.take 3 rfl (by kernel_rfl) (by kernel_rfl) (by kernel_rfl) (fun _ _ _ h => h) ⟨_, HB⟩ (fun w' hS => EX.load rfl (Rd.q0 (hS.block (H.oldBlock hm.b0 (by simp)) (by simp)))) rfl ?_
    refine WH.take 4 rfl (by kernel_rfl) (by kernel_rfl) (by kernel_rfl) (fun _ _ _ h => h) ⟨_, HB⟩ (fun w' hS => EX.move rfl) rfl ?_
    refine WH.take 5 rfl (by kernel_rfl) (by kernel_rfl) (by kernel_rfl) (fun _ _ _ h => h) ⟨_, HB⟩ (fun w' hS => EX.idxSlc (k := k) slc87 rfl rfl (by first | rfl | omega) (by omega)) rfl ?_
    refine WH.take 6 rfl (by kernel_rfl) (by kernel_rfl) (by kernel_rfl) (fun _ _ _ h => h) ⟨_, HB⟩ (fun w' hS => EX.fieldAddr fld184_0 rfl) rfl ?_
    first | refine WH.take 7 rfl (by kernel_rfl) (by kernel_rfl) (by kernel_rfl) (fun _ _ _ h => h) ⟨_, HB⟩ (fun w' hS => EX.load rfl (Rd.lineW ty38 (hS.block (H.oldBlock (hm.b1at hX) (by simp)) (by simp)) (by omega) hok.1)) rfl ?_
    refine WH.take 8 rfl (by kernel_rfl) (by kernel_rfl) (by kernel_rfl) (fun _ _ _ h => h) ⟨_, HB⟩ (fun w' hS => EX.move rfl) rfl ?_
    refine WH.take 9 rfl (by kernel_rfl) (by kernel_rfl) (by kernel_rfl) (fun _ _ _ h => h) ⟨_, HB⟩ (fun w' hS => EX.nilCheck rfl) rfl ?_
    refine WH.take 10 rfl (by kernel_rfl) (by kernel_rfl) (by kernel_rfl) (fun _ _ _ h => h) ⟨_, HB⟩ (fun w' hS => EX.fieldAddr fld89_0 rfl) rfl ?_
    first | refine WH.take 11 rfl (by kernel_rfl) (by kernel_rfl) (by kernel_rfl) (fun _ _ _ h => h) ⟨_, HB⟩ (fun w' hS => EX.load rfl (Rd.q0 (H.oldBlock hm.b0 (by simp)))) rfl ?_ | refine WH.take 11 rfl (by kernel_rfl) (by kernel_rfl) (by kernel_rfl) (fun _ _ _ h => h) ⟨_, HB⟩ (fun w' hS => EX.load rfl (Rd.q0 (hS.block (H.oldBlock hm.b0 (by simp)) (by simp)))) rfl ?_
    refine WH.take 12 rfl (by kernel_rfl) (by kernel_rfl) (by kernel_rfl) (fun _ _ _ h => h) ⟨_, HB⟩ (fun w' hS => EX.move rfl) rfl ?_
    refine WH.take 13 rfl (by kernel_rfl) (by kernel_rfl) (by kernel_rfl) (fun _ _ _ h => h) ⟨_, HB⟩ (fun w' hS => EX.idxSlc (k := k) slc87 rfl rfl (by first | rfl | omega) (by omega)) rfl ?_
    refine WH.take 14 rfl (by kernel_rfl) (by kernel_rfl) (by kernel_rfl) (fun _ _ _ h => h) ⟨_, HB⟩ (fun w' hS => EX.fieldAddr fld184_1 rfl) rfl ?_
    first | refine WH.take 15 rfl (by kernel_rfl) (by kernel_rfl) (by kernel_rfl) (fun _ _ _ h => h) ⟨_, HB⟩ (fun w' hS => EX.load rfl (Rd.lineCo ty3 (hS.block (H.oldBlock (hm.b1at hX) (by simp)) (by simp)) (by omega) hok.1)) rfl ?_
    refine WH.hard 16 rfl (by kernel_rfl) ?_
    refine WL.call call178 rfl rfl ?_
    refine Calls.mono (refcheck_any l.ws hok.1 l.c _) ?_
    rintro _ wx ⟨rfl, Hc⟩
    refine ⟨_, rfl, ?_⟩
    replace HB := HB.call0 Hc
    refine WL.done (WX.heldOn ⟨_, HB⟩ ?_)
    refine WH.take 17 rfl (by kernel_rfl) (by kernel_rfl) (by kernel_rfl) (fun _ _ _ h => h) ⟨_, HB⟩ (fun w' hS => EX.move rfl) rfl ?_
    refine WH.take 18 rfl (by kernel_rfl) (by kernel_rfl) (by kernel_rfl) (fun _ _ _ h => h) ⟨_, HB⟩ (fun w' hS => EX.extract rfl rfl) rfl ?_
    refine WH.take 19 rfl (by kernel_rfl) (by kernel_rfl) (by kernel_rfl) (fun _ _ _ h => h) ⟨_, HB⟩ (fun w' hS => EX.extract rfl rfl) rfl ?_
    refine WH.take 20 rfl (by kernel_rfl) (by kernel_rfl) (by kernel_rfl) (fun _ _ _ h => h) ⟨_, HB⟩ (fun w' hS => EX.extract rfl rfl) rfl ?_
    refine WH.take 21 rfl (by kernel_rfl) (by kernel_rfl) (by kernel_rfl) (fun _ _ _ h => h) ⟨_, HB⟩ (fun w' hS => EX.assign rfl) rfl ?_
    refine WH.take 22 rfl (by kernel_rfl) (by kernel_rfl) (by kernel_rfl) (fun _ _ _ h => h) ⟨_, HB⟩ (fun w' hS => EX.assign rfl) rfl ?_
    refine WH.take 23 rfl (by kernel_rfl) (by kernel_rfl) (by kernel_rfl) (fun _ _ _ h => h) ⟨_, HB⟩ (fun w' hS => EX.assign rfl) rfl ?_
    refine WH.done (by kernel_rfl) ?_
    replace H := H.call HB
    refine WX.next ?_
    refine WC.seq ?_
    refine WC.region ?_
    refine WL.move rfl rfl ?_
    refine WL.assign rfl rfl ?_
    refine (WL.done (WX.next ?_))
    refine (WC.ret ?_)
    refine ret_one rfl rfl ?_
    refine ⟨?_, H⟩
    unfold PM.state; rw [if_pos hh, RR.abs_line hget]

theorem rpending_any (R : RR) (n : Int) (hps : ∀ x ∈ R.X, x.1.ps.length ≤ 1073741824) (w : World) (hm : RIn w R) : Calls Tryd.prog 124 #[ptr R.p, .int .i64 n] w fun e w' => ∃ r : Row, e = .returned (r.val (R.abs.pend n).length) ∧ r.ok 2 (R.abs.pend n).length (flatP (R.abs.pend n)) ∧ St w [] w' (r.hp 111) := by
  refine calls_walk_n (args := [ptr R.p, .int .i64 n]) Tryd.func124 rfl rfl rfl ?_
  have H := St.refl w
  refine WC.seq ?_
  refine WC.region ?_
  refine WL.assign rfl rfl ?_
  refine (WL.done (WX.next ?_))
  refine WC.seq ?_
  refine WC.seq ?_
  refine WC.region ?_
  refine WL.move rfl rfl ?_
  refine WL.move rfl rfl ?_
  refine WL.call call177 rfl rfl ?_
  refine Calls.mono (rhas_any R n _ hm) ?_
  rintro _ wx ⟨rfl, rfl⟩
  refine ⟨_, rfl, ?_⟩
  refine WL.notOp rfl rfl ?_
  refine (WL.done (WX.next ?_))
  first | refine WC.cond_dec rfl (fun c1 => ?_) (fun c1 => ?_) | refine WC.cond rfl (fun c1 => ?_) (fun c1 => ?_)
  · -- c1 T
    have hh : R.abs.has n = false := by cases hh : R.abs.has n <;> simp [hh] at c1 ⊢
    refine WC.seq ?_
    refine WC.region ?_
    refine WL.assign rfl rfl ?_
    refine (WL.done (WX.next ?_))
    refine (WC.ret (WX.then_ret ?_))
    refine ret_one rfl rfl ?_
    have e1 : R.abs.pend n = [] := by unfold PM.pend; rw [hh]; rfl
    rw [e1]
    exact ⟨.none, rfl, ⟨rfl, rfl⟩, H⟩
  · -- c1 F
    have hh : R.abs.has n = true := by cases hh : R.abs.has n <;> simp [hh] at c1 ⊢
    obtain ⟨hn0, hn1⟩ := RR.has_iff.1 hh
    obtain ⟨k, rfl⟩ : ∃ k : Nat, n = (k : Int) := ⟨n.toNat, by omega⟩
    obtain ⟨A, l, r, B, hX, hA, ha, hok, hr, hso, hget⟩ := hm.ok.at (k := k) (by omega)
    have hpk : l.ps.length ≤ 1073741824 := hps (l, r) (List.mem_of_getElem? hget)
    refine (WC.skip (WX.next ?_))
    refine WC.seq ?_
    refine WC.region ?_
    refine WL.buildS0 H app52 rfl ?_
    intro g0 wx hg0 hgg0 H
    refine WL.move rfl rfl ?_
    first | refine WL.nilCheck rfl rfl ?_ | refine WL.nilCheckFn rfl rfl ?_
    refine WL.fieldAddr fld89_0 rfl rfl ?_
    first | refine WL.load rfl (Rd.q0 (H.oldBlock hm.b0 (by simp))) rfl ?_ | refine WL.load rfl (Rd.q0 (hS.block (H.oldBlock hm.b0 (by simp)) (by simp))) rfl ?_
    refine WL.move rfl rfl ?_
    refine WL.idxSlc (k := k) slc87 rfl rfl (by first | rfl | omega) (by omega) rfl ?_
    refine WL.fieldAddr fld184_2 rfl rfl ?_
    first | refine WL.load rfl (Rd.lineS ty52 (H.oldBlock (hm.b1at hX) (by simp)) (by omega) hok.1) rfl ?_
    refine WL.appendR (r := .some g0 0 #[]) (r2 := r) (k := 0) (m := l.ps.length) (xs := []) app52 H (Row.ok_nil _ _) hr (fun q hq => H.oldBlock (hm.row hX q hq) (by simp)) (flatP_one _) rfl rfl (by simp only [maxLen]; omega) (by omega) rfl ?_
    intro r1 wx hr1 H
    refine WL.assign rfl rfl ?_
    refine (WL.done (WX.next ?_))
    refine (WC.ret ?_)
    refine ret_one rfl rfl ?_
    rw [RR.pend_of hh, RR.abs_line hget]
    rw [Nat.zero_add, List.nil_append] at hr1
    exact ⟨r1, by rw [Nat.zero_add], hr1, H.weaken (by simp)⟩

end Go.Proofs.YtkncbggnaobgeaaDoor

/- Walks of functions of the program; printed by a program of this session (walk.py) out of hand-written hints. -/
namespace Go.Proofs.YtkncbggnaobgeaaDoor
open Go.RowKit
set_option linter.unusedVariables false
set_option linter.unusedSimpArgs false
set_option maxRecDepth 100000

theorem St.notin {w w' : World} {H : Hp} (h : St w [] w' H) {b : Nat} {o : Obj} (hb : w.heap[b]? = some o) : b ∉ H.map Prod.fst := fun hm => by
  obtain ⟨q, hq, rfl⟩ := List.mem_map.1 hm
  rcases h.own q hq with h1 | h1
  · cases h1
  · have := lt_of_some hb; omega
theorem RR.l8s {R : RR} (h : R.ok) : ∀ l ∈ R.abs.ls, l.ws.length = 8 := fun l hl => by
  obtain ⟨x, hx, rfl⟩ := List.mem_map.1 hl
  exact h.l8 x hx
theorem RR.abs_get {R : RR} {k : Nat} {l : PL} {r : Row} (h : R.X[k]? = some (l, r)) : R.abs.ls[k]? = some l := by simp [RR.abs, h]
theorem RR.at' {R : RR} (h : R.ok) {k : Nat} (hk : k < R.X.length) : R.abs.line (k : Int) = (R.X[k]).1 := by
  simp [PM.line, RR.abs, List.getElem?_eq_getElem hk]
theorem lineL_copy {z : Array Value} {l : PL} {r : Row} (hz : z.size = 11) (h8 : l.ws.length = 8) : wr z 0 (lineC l r).toArray.toList = lineL [] l r [] := by
  rw [wr_full (by simp [lineC_length h8, hz])]; simp [lineL]
theorem shown_ok {l : PL} {z : List Int × Int} (h : pShow l l.ps.length = z) : shown l = z.1 := by unfold shown; rw [h]
theorem fix_zero {l : PL} : (fix l.ws l.c).2.2 = 0 → shown l = putAll (fix l.ws l.c).1 l.ps := fun h => by unfold shown pShow; rw [if_pos h, List.take_length]
theorem fix_nonzero {l : PL} : (fix l.ws l.c).2.2 ≠ 0 → shown l = zeros8 := fun h => by unfold shown pShow; rw [if_neg h]

theorem rshows_any (R : RR) (k : Nat) (hk : k < R.X.length) (w : World) (hm : RIn w R) : Calls Tryd.prog 176 #[ptr R.p, .int .i64 (k : Int)] w fun e w' => e = .returned (arr (shown (R.abs.line (k : Int)))) ∧ St w [] w' [] := by
  refine calls_walk_n (args := [ptr R.p, .int .i64 (k : Int)]) Tryd.func176 rfl rfl rfl ?_
  have H := St.refl w
  obtain ⟨A, l, r, B, hX, hA, ha, hok, hr, hso, hget⟩ := hm.ok.at hk
  have hm63 := Row.le_max hr
  refine WC.seq ?_
  refine WC.region ?_
  refine WL.allocArr (ws := zeros8) H zer38 rfl rfl ?_
  intro b4 wx hb4 hge4 H
  refine (WL.done (WX.next ?_))
  refine WC.seq ?_
  refine WC.region ?_
  refine WL.move rfl rfl ?_
  first | refine WL.nilCheck rfl rfl ?_ | refine WL.nilCheckFn rfl rfl ?_
  refine WL.fieldAddr fld89_0 rfl rfl ?_
  first | refine WL.load rfl (Rd.q0 (H.oldBlock hm.b0 (by simp))) rfl ?_ | refine WL.load rfl (Rd.q0 (hS.block (H.oldBlock hm.b0 (by simp)) (by simp))) rfl ?_
  refine WL.move rfl rfl ?_
  refine WL.idxSlc (k := k) slc87 rfl rfl (by first | rfl | omega) (by omega) rfl ?_
  first | refine WL.load rfl (Rd.lineAll ty184 (H.oldBlock (hm.b1at hX) (by simp)) (by omega) hok.1) rfl ?_
  refine WL.alloc H zer184 rfl ?_
  intro b5 wx hb5 hge5 H
  refine WL.storeAt H ty184 0 rfl rfl rfl (by show (lineC l r).toArray.size = 11; simp [lineC_length hok.1]) (fun u hu => lineC_one l r u (by simpa [Value.cells] using hu)) (Nat.le_refl 11) ?_
  intro wx H
  replace H := H.castH (H' := (b5, .cells (lineL [] l r []) 184) :: [(b4, .cells (arrC zeros8) 38)]) (by
    have e1 := lineL_copy (z := #[.int .i64 0, .int .i64 0, .int .i64 0, .int .i64 0, .int .i64 0, .int .i64 0, .int .i64 0, .int .i64 0, .int .i64 0, .slice none 0 0, .int .i64 0]) (l := l) (r := r) rfl hok.1
    rw [← e1]; rfl)
  refine (WL.done (WX.next ?_))
  refine WC.seq ?_
  refine WC.region ?_
  refine WL.fieldAddr fld184_0 rfl rfl ?_
  first | refine WL.load rfl (Rd.lineW ty38 (a := []) (c := []) (H.blk 0 rfl) rfl hok.1) rfl ?_
  refine WL.fieldAddr fld184_1 rfl rfl ?_
  first | refine WL.load rfl (Rd.lineCo ty3 (a := []) (c := []) (H.blk 0 rfl) rfl hok.1) rfl ?_
  refine WL.call call206 rfl rfl ?_
  refine Calls.mono (reffix_any l.ws hok.1 l.c _) ?_
  rintro _ wx ⟨rfl, Hc⟩
  refine ⟨_, rfl, ?_⟩
  replace H := H.call0 Hc
  refine WL.move rfl rfl ?_
  refine WL.extract rfl rfl rfl ?_
  refine WL.extract rfl rfl rfl ?_
  refine WL.extract rfl rfl rfl ?_
  refine WL.allocArr (ws := zeros8) H zer38 rfl rfl ?_
  intro b6 wx hb6 hge6 H
  refine WL.storeArr (ws' := (fix l.ws l.c).1) H ty38 0 rfl rfl rfl (by rw [arrC_size]; rfl) (fix_len hok.1) ?_
  intro wx H
  refine WL.assign rfl rfl ?_
  refine WL.assign rfl rfl ?_
  refine (WL.done (WX.next ?_))
  refine WC.seq ?_
  refine WC.seq ?_
  refine WC.region ?_
  refine WL.move rfl rfl ?_
  refine WL.bin rfl rfl binv_neq rfl ?_
  refine (WL.done (WX.next ?_))
  first | refine WC.cond_dec rfl (fun c1 => ?_) (fun c1 => ?_) | refine WC.cond rfl (fun c1 => ?_) (fun c1 => ?_)
  · -- c1 T
    refine WC.seq ?_
    refine WC.region ?_
    refine WL.buildA (z := arrC zeros8) arr38 zer38 rfl rfl rfl ?_
    refine WL.storeArr (ws' := zeros8) H ty38 2 rfl rfl rfl (by rw [arrC_size]; rfl) rfl ?_
    intro wx H
    refine (WL.done (WX.next ?_))
    refine (WC.ret (WX.then_ret ?_))
    refine ret_cell rfl ⟨_, rfl, by first | exact H.rdArr ty38 2 rfl (by rw [putAll_len]; exact fix_len hok.1) | exact H.rdArr ty38 2 rfl rfl | exact H.rd1 ty38 0 rfl rfl | exact H.rdA ty38 0 rfl (by decide)⟩ ?_
    rw [RR.abs_line hget, fix_nonzero c1]
    exact ⟨rfl, H.weaken (List.nil_sublist _)⟩
  · -- c1 F
    refine (WC.skip (WX.next ?_))
    refine WC.seq ?_
    refine WC.seq ?_
    refine WC.region ?_
    refine WL.assign rfl rfl ?_
    refine (WL.done (WX.next ?_))
    refine WC.block ?_
    -- loop 1: changed [9] kept [4, 5, 6]
    refine WC.loop (Sub.cons (t := 4) rfl (Sub.cons (t := 5) rfl (Sub.cons (t := 6) rfl (Sub.nil _)))) (fun j : Nat => [(9, .int .i64 (j : Int))]) (fun q j wx => q = l.ps.length - j ∧ j ≤ l.ps.length ∧ St w [] wx [(b6, .cells (arrC (putAll (fix l.ws l.c).1 (l.ps.take j))) 38), (b5, .cells (lineL [] l r []) 184), (b4, .cells (arrC zeros8) 38)]) (l.ps.length) (0) (Sub.cons (t := 9) (by first | rfl | simp) (Sub.nil _)) (⟨rfl, by omega, H⟩) ?_
    rintro k g wx hI N hN
    obtain ⟨rfl, hg, H⟩ := hI
    refine WC.seq ?_
    refine WC.seq ?_
    refine WC.region ?_
    refine WL.move rfl rfl ?_
    refine WL.fieldAddr fld184_2 rfl rfl ?_
    first | refine WL.load rfl (Rd.lineS ty52 (a := []) (c := []) (H.blk 1 rfl) rfl hok.1) rfl ?_
    refine WL.lenR isl52 rfl rfl ?_
    refine WL.bin rfl rfl binv_lss rfl ?_
    refine (WL.done (WX.next ?_))
    first | refine WC.cond_dec rfl (fun c2 => ?_) (fun c2 => ?_) | refine WC.cond rfl (fun c2 => ?_) (fun c2 => ?_)
    · -- c2 T
      refine (WC.skip (WX.next ?_))
      refine WC.seq ?_
      refine WC.block ?_
      have hjl : g < l.ps.length := by omega
      obtain ⟨g1, cap, cur, rfl⟩ := Row.is_some hr (by omega)
      have hp := Row.getP hr hjl
      have hpk := hok.2.2.2.2 _ (List.getElem_mem hjl)
      replace H := H.drew
      refine WC.held (SX (World.drew wx) [b6]) (by kernel_rfl) ?_
      generalize World.drew wx = wb at H ⊢
      have HB := H.single 0 rfl
      have hrb := H.oldBlock (hm.row hX _ List.mem_cons_self) (by simp)
      have hg1n : g1 ∉ [b6] := by
        have h1 := H.notin (hm.row hX _ List.mem_cons_self)
        simp only [List.map_cons, List.mem_cons, not_or] at h1
        simpa using h1.1
      refine WH.take 0 rfl (by kernel_rfl) (by kernel_rfl) (by kernel_rfl) (fun _ _ _ h => h) ⟨_, HB⟩ (fun w' hS => EX.fieldAddr fld184_2 rfl) rfl ?_
      first | refine WH.take 1 rfl (by kernel_rfl) (by kernel_rfl) (by kernel_rfl) (fun _ _ _ h => h) ⟨_, HB⟩ (fun w' hS => EX.load rfl (Rd.lineS ty52 (a := []) (c := []) (hS.block (H.blk 1 rfl) (by simpa using H.ne 1 0 rfl rfl rfl)) rfl hok.1)) rfl ?_
      refine WH.take 2 rfl (by kernel_rfl) (by kernel_rfl) (by kernel_rfl) (fun _ _ _ h => h) ⟨_, HB⟩ (fun w' hS => EX.move rfl) rfl ?_
      refine WH.take 3 rfl (by kernel_rfl) (by kernel_rfl) (by kernel_rfl) (fun _ _ _ h => h) ⟨_, HB⟩ (fun w' hS => EX.idxSlc (k := g) slc52 rfl rfl (by first | rfl | omega) (by omega)) rfl ?_
      refine WH.take 4 rfl (by kernel_rfl) (by kernel_rfl) (by kernel_rfl) (fun _ _ _ h => h) ⟨_, HB⟩ (fun w' hS => EX.fieldAddr fld111_0 rfl) rfl ?_
      first | refine WH.take 5 rfl (by kernel_rfl) (by kernel_rfl) (by kernel_rfl) (fun _ _ _ h => h) ⟨_, HB⟩ (fun w' hS => EX.load rfl (hS.rd1 ty3 hrb hg1n ((congrArg (fun o => cur[o]?) (by omega)).trans hp.1))) rfl ?_
      refine WH.take 6 rfl (by kernel_rfl) (by kernel_rfl) (by kernel_rfl) (fun _ _ _ h => h) ⟨_, HB⟩ (fun w' hS => EX.fieldAddr fld184_2 rfl) rfl ?_
      first | refine WH.take 7 rfl (by kernel_rfl) (by kernel_rfl) (by kernel_rfl) (fun _ _ _ h => h) ⟨_, HB⟩ (fun w' hS => EX.load rfl (Rd.lineS ty52 (a := []) (c := []) (hS.block (H.blk 1 rfl) (by simpa using H.ne 1 0 rfl rfl rfl)) rfl hok.1)) rfl ?_
      refine WH.take 8 rfl (by kernel_rfl) (by kernel_rfl) (by kernel_rfl) (fun _ _ _ h => h) ⟨_, HB⟩ (fun w' hS => EX.move rfl) rfl ?_
      refine WH.take 9 rfl (by kernel_rfl) (by kernel_rfl) (by kernel_rfl) (fun _ _ _ h => h) ⟨_, HB⟩ (fun w' hS => EX.idxSlc (k := g) slc52 rfl rfl (by first | rfl | omega) (by omega)) rfl ?_
      refine WH.take 10 rfl (by kernel_rfl) (by kernel_rfl) (by kernel_rfl) (fun _ _ _ h => h) ⟨_, HB⟩ (fun w' hS => EX.fieldAddr fld111_1 rfl) rfl ?_
      first | refine WH.take 11 rfl (by kernel_rfl) (by kernel_rfl) (by kernel_rfl) (fun _ _ _ h => h) ⟨_, HB⟩ (fun w' hS => EX.load rfl (hS.rd1 ty3 hrb hg1n ((congrArg (fun o => cur[o]?) (by omega)).trans hp.2))) rfl ?_
      refine WH.take 12 rfl (by kernel_rfl) (by kernel_rfl) (by kernel_rfl) (fun _ _ _ h => h) ⟨_, HB⟩ (fun w' hS => EX.idxArr (k := (l.ps[g]).1.toNat) (z := (l.ps[g]).1) arr38 rfl rfl (by omega) (by omega)) rfl ?_
      refine WH.hard 13 rfl (by kernel_rfl) ?_
      refine WL.storeElt HB ty3 0 rfl rfl rfl (by rw [putAll_len, fix_len hok.1]; omega) ?_
      intro wx HB
      refine WL.done (WX.heldOn ⟨_, HB⟩ ?_)
      refine WH.done (by kernel_rfl) ?_
      replace H := H.back (N := []) 0 rfl HB rfl
      refine (WX.block_normal (WX.next ?_))
      refine WC.region ?_
      refine WL.move rfl rfl ?_
      refine WL.bin rfl rfl (iadd (by omega) (by omega)) rfl ?_
      refine WL.assign rfl rfl ?_
      refine (WL.done (WX.round ?_))
      rw [show 0 + ((l.ps[g]).1.toNat) * 1 = (l.ps[g]).1.toNat from by omega, ← putAll_succ hjl] at H
      exact hN _ (g+1) _ _ (by omega) ⟨rfl, by omega, H⟩ (Sub.cons (t := 9) (by first | rfl | simp) (Sub.nil _)) (Sub.cons (t := 4) rfl (Sub.cons (t := 5) rfl (Sub.cons (t := 6) rfl (Sub.nil _))))
    · -- c2 F
      refine (WC.exit (WX.then_exit (WX.then_exit (WX.block_exit (WX.next ?_)))))
      refine WC.seq ?_
      refine WC.region ?_
      first | refine WL.load rfl (H.rdArr ty38 0 rfl (by rw [putAll_len]; exact fix_len hok.1)) rfl ?_
      refine WL.storeArr H ty38 2 rfl rfl rfl (by rw [arrC_size]; rfl) (by rw [putAll_len]; exact fix_len hok.1) ?_
      intro wx H
      refine (WL.done (WX.next ?_))
      refine (WC.ret ?_)
      refine ret_cell rfl ⟨_, rfl, by first | exact H.rdArr ty38 2 rfl (by rw [putAll_len]; exact fix_len hok.1) | exact H.rdArr ty38 2 rfl rfl | exact H.rd1 ty38 0 rfl rfl | exact H.rdA ty38 0 rfl (by decide)⟩ ?_
      obtain rfl : g = l.ps.length := by omega
      rw [RR.abs_line hget, fix_zero (by omega)]
      rw [List.take_length] at *
      exact ⟨rfl, H.weaken (List.nil_sublist _)⟩

end Go.Proofs.YtkncbggnaobgeaaDoor

/- Walks of functions of the program; printed by a program of this session (walk.py) out of hand-written hints. -/
namespace Go.Proofs.YtkncbggnaobgeaaDoor
open Go.RowKit
set_option linter.unusedVariables false
set_option linter.unusedSimpArgs false
set_option maxRecDepth 100000

theorem RR.len_abs {R : RR} : R.abs.ls.length = R.X.length := by simp [RR.abs]
theorem RR.take_all {R : RR} {g : Nat} (h : ¬ (g : Int) < R.X.length) : R.abs.ls.take g = R.abs.ls := List.take_of_length_le (by rw [RR.len_abs]; omega)
theorem RR.line_shown {R : RR} (h : R.ok) {g : Nat} (hg : g < R.X.length) : (shown (R.abs.line (g : Int))).length = 8 ∧ seenC (R.abs.ls.take (g + 1)) = seenC (R.abs.ls.take g) ++ shown (R.abs.line (g : Int)) := by
  obtain ⟨A, l, r, B, hX, hA, ha, hok, hr, hso, hget⟩ := h.at hg
  rw [RR.abs_line hget]
  exact ⟨pShow_len hok.1, flat_take (RR.abs_get hget)⟩
theorem intsC_append (a b : List Int) : intsC (a ++ b) = intsC a ++ intsC b := by simp [intsC]

theorem rseen_any (R : RR) (w : World) (hm : RIn w R) : Calls Tryd.prog 121 #[ptr R.p] w fun e w' => ∃ r : Row, e = .returned (r.val R.X.length) ∧ r.ok 8 R.X.length (intsC (seenC R.abs.ls)) ∧ St w [] w' (r.hp 38) := by
  refine calls_walk_n (args := [ptr R.p]) Tryd.func121 rfl rfl rfl ?_
  have H := St.refl w
  have hlen := hm.ok.len
  refine WC.seq ?_
  refine WC.region ?_
  refine WL.assign rfl rfl ?_
  refine (WL.done (WX.next ?_))
  refine WC.seq ?_
  refine WC.region ?_
  refine WL.assign rfl rfl ?_
  refine (WL.done (WX.next ?_))
  refine WC.seq ?_
  refine WC.seq ?_
  refine WC.region ?_
  refine WL.assign rfl rfl ?_
  refine (WL.done (WX.next ?_))
  refine WC.block ?_
  -- loop 1: changed [3, 4] kept [0]
  refine WC.loop (Sub.cons (t := 0) rfl (Sub.nil _)) (fun q : Row × Nat => [(3, q.1.val q.2), (4, .int .i64 (q.2 : Int))]) (fun q i wx => q = R.X.length - i.2 ∧ i.2 ≤ R.X.length ∧ i.1.ok 8 i.2 (intsC (seenC (R.abs.ls.take i.2))) ∧ St w [] wx (i.1.hp 38)) (R.X.length) ((Row.none, 0)) (Sub.cons (t := 3) (by first | rfl | simp) (Sub.cons (t := 4) (by first | rfl | simp) (Sub.nil _))) (⟨rfl, Nat.zero_le _, ⟨rfl, rfl⟩, H⟩) ?_
  rintro k g wx hI N hN
  obtain ⟨r, g⟩ := g
  obtain ⟨rfl, hg, hr, H⟩ := hI
  change g ≤ R.X.length at hg
  change r.ok 8 g (intsC (seenC (R.abs.ls.take g))) at hr
  change St w [] wx (r.hp 38) at H
  refine WC.seq ?_
  refine WC.seq ?_
  refine WC.region ?_
  refine WL.move rfl rfl ?_
  refine WL.move rfl rfl ?_
  first | refine WL.nilCheck rfl rfl ?_ | refine WL.nilCheckFn rfl rfl ?_
  refine WL.fieldAddr fld89_0 rfl rfl ?_
  first | refine WL.load rfl (Rd.q0 (H.oldBlock hm.b0 (by simp))) rfl ?_ | refine WL.load rfl (Rd.q0 (hS.block (H.oldBlock hm.b0 (by simp)) (by simp))) rfl ?_
  refine WL.lenSlc isl87 rfl rfl ?_
  refine WL.bin rfl rfl binv_lss rfl ?_
  refine (WL.done (WX.next ?_))
  first | refine WC.cond_dec rfl (fun c1 => ?_) (fun c1 => ?_) | refine WC.cond rfl (fun c1 => ?_) (fun c1 => ?_)
  · -- c1 T
    refine (WC.skip (WX.next ?_))
    refine WC.seq ?_
    refine WC.block ?_
    refine WC.region ?_
    have hgl : g < R.X.length := by omega
    obtain ⟨hs8, hst⟩ := RR.line_shown hm.ok hgl
    refine WL.move rfl rfl ?_
    refine WL.move rfl rfl ?_
    refine WL.move rfl rfl ?_
    refine WL.call call176 rfl rfl ?_
    refine Calls.mono (rshows_any R g hgl _ (hm.old H)) ?_
    rintro _ wx ⟨rfl, Hc⟩
    refine ⟨_, rfl, ?_⟩
    replace H := H.call0 Hc
    refine WL.buildSlice1 H Tryd.underlying45 (sz := 8) (by simp only [Tryd.underlying38]; exact ty38) (by omega) zer38 rfl rfl (by rw [arr_cells, arrC_size]; exact hs8) rfl ?_
    intro g2 wx hg2 hgg2 H
    replace H := St.perm H (List.perm_append_comm (l₁ := [_]) (l₂ := r.hp 38))
    refine WL.append (m := 1) (news := intsC (shown (R.abs.line (g : Int)))) app45 H hr rfl rfl (by simp [intsC, hs8]) (fun j u hj => by rw [addr_add, cell_of (H.sat _ (List.mem_append_right _ List.mem_cons_self)), arr_cells, arrC_ints, Nat.zero_add]; simpa using hj) (intsC_one _) (by simp only [maxLen]; omega) (by omega) rfl ?_
    intro r1 wx hr1 H
    refine WL.assign rfl rfl ?_
    refine (WL.done (WX.block_normal (WX.next ?_)))
    refine WC.region ?_
    refine WL.move rfl rfl ?_
    refine WL.bin rfl rfl (iadd (by omega) (by omega)) rfl ?_
    refine WL.assign rfl rfl ?_
    refine (WL.done (WX.round ?_))
    rw [← intsC_append, ← hst] at hr1
    exact hN _ (r1, g + 1) _ _ (by show R.X.length - (g + 1) < R.X.length - g; omega) ⟨rfl, by show g + 1 ≤ R.X.length; omega, hr1, H.weaken (List.sublist_append_left _ _)⟩ (Sub.cons (t := 3) (by first | rfl | simp) (Sub.cons (t := 4) (by first | rfl | simp) (Sub.nil _))) (Sub.cons (t := 0) rfl (Sub.nil _))
  · -- c1 F
    refine (WC.exit (WX.then_exit (WX.then_exit (WX.block_exit (WX.next ?_)))))
    refine WC.seq ?_
    refine WC.region ?_
    refine WL.move rfl rfl ?_
    refine WL.assign rfl rfl ?_
    refine (WL.done (WX.next ?_))
    refine (WC.ret ?_)
    refine ret_one rfl rfl ?_
    rw [RR.take_all (by assumption)] at hr
    obtain rfl : g = R.X.length := by omega
    exact ⟨r, rfl, hr, H⟩

theorem rimage_any (R : RR) (w : World) (hm : RIn w R) : Calls Tryd.prog 120 #[ptr R.p] w fun e w' => ∃ r : Row, e = .returned (r.val R.X.length) ∧ r.ok 9 R.X.length (intsC (imgC R.abs.ls)) ∧ St w [] w' (r.hp 40) := by
  refine calls_walk_n (args := [ptr R.p]) Tryd.func120 rfl rfl rfl ?_
  have H := St.refl w
  have hlen := hm.ok.len
  refine WC.seq ?_
  refine WC.region ?_
  refine WL.assign rfl rfl ?_
  refine (WL.done (WX.next ?_))
  refine WC.seq ?_
  refine WC.region ?_
  refine WL.assign rfl rfl ?_
  refine (WL.done (WX.next ?_))
  refine WC.seq ?_
  refine WC.seq ?_
  refine WC.region ?_
  refine WL.assign rfl rfl ?_
  refine (WL.done (WX.next ?_))
  refine WC.block ?_
  -- loop 1: changed [3, 4] kept [0]
  refine WC.loop (Sub.cons (t := 0) rfl (Sub.nil _)) (fun q : Row × Nat => [(3, q.1.val q.2), (4, .int .i64 (q.2 : Int))]) (fun q i wx => q = R.X.length - i.2 ∧ i.2 ≤ R.X.length ∧ i.1.ok 9 i.2 (intsC (imgC (R.abs.ls.take i.2))) ∧ St w [] wx (i.1.hp 40)) (R.X.length) ((Row.none, 0)) (Sub.cons (t := 3) (by first | rfl | simp) (Sub.cons (t := 4) (by first | rfl | simp) (Sub.nil _))) (⟨rfl, Nat.zero_le _, ⟨rfl, rfl⟩, H⟩) ?_
  rintro k g wx hI N hN
  obtain ⟨r, g⟩ := g
  obtain ⟨rfl, hg, hr, H⟩ := hI
  change g ≤ R.X.length at hg
  change r.ok 9 g (intsC (imgC (R.abs.ls.take g))) at hr
  change St w [] wx (r.hp 40) at H
  refine WC.seq ?_
  refine WC.seq ?_
  refine WC.region ?_
  refine WL.move rfl rfl ?_
  refine WL.move rfl rfl ?_
  first | refine WL.nilCheck rfl rfl ?_ | refine WL.nilCheckFn rfl rfl ?_
  refine WL.fieldAddr fld89_0 rfl rfl ?_
  first | refine WL.load rfl (Rd.q0 (H.oldBlock hm.b0 (by simp))) rfl ?_ | refine WL.load rfl (Rd.q0 (hS.block (H.oldBlock hm.b0 (by simp)) (by simp))) rfl ?_
  refine WL.lenSlc isl87 rfl rfl ?_
  refine WL.bin rfl rfl binv_lss rfl ?_
  refine (WL.done (WX.next ?_))
  first | refine WC.cond_dec rfl (fun c1 => ?_) (fun c1 => ?_) | refine WC.cond rfl (fun c1 => ?_) (fun c1 => ?_)
  · -- c1 T
    refine (WC.skip (WX.next ?_))
    refine WC.seq ?_
    refine WC.block ?_
    have hgl : g < R.X.length := by omega
    obtain ⟨A, l, r0, B, hX, hA, ha, hok, hr0, hso, hget⟩ := hm.ok.at hgl
    obtain ⟨ws, hws⟩ : ∃ ws, l.ws = ws := ⟨_, rfl⟩
    have hw8 := hok.1
    rw [hws] at hw8
    obtain ⟨x0, x1, x2, x3, x4, x5, x6, x7, rfl⟩ := len8 hw8
    replace H := H.drew
    refine WC.held (SX (World.drew wx) ((r.hp 40).map Prod.fst)) (by kernel_rfl) ?_
    generalize World.drew wx = wb at H ⊢
    have HB : St wb ((r.hp 40).map Prod.fst) wb (r.hp 40) := St.start H.nd H.sat
    have hlb := H.oldBlock (hm.b1at hX) (by simp)
    have hln := H.notin (hm.b1at hX)
    have hpb := H.oldBlock hm.b0 (by simp)
    have hpn := H.notin hm.b0
    refine WH.take 0 rfl (by kernel_rfl) (by kernel_rfl) (by kernel_rfl) (fun _ _ _ h => h) ⟨_, HB⟩ (fun w' hS => EX.move rfl) rfl ?_
    refine WH.take 1 rfl (by kernel_rfl) (by kernel_rfl) (by kernel_rfl) (fun _ _ _ h => h) ⟨_, HB⟩ (fun w' hS => EX.move rfl) rfl ?_
    refine WH.take 2 rfl (by kernel_rfl) (by kernel_rfl) (by kernel_rfl) (fun _ _ _ h => h) ⟨_, HB⟩ (fun w' hS => EX.nilCheck rfl) rfl ?_
    refine WH.take 3 rfl (by kernel_rfl) (by kernel_rfl) (by kernel_rfl) (fun _ _ _ h => h) ⟨_, HB⟩ (fun w' hS => EX.fieldAddr fld89_0 rfl) rfl ?_
    first | refine WH.take 4 rfl (by kernel_rfl) (by kernel_rfl) (by kernel_rfl) (fun _ _ _ h => h) ⟨_, HB⟩ (fun w' hS => EX.load rfl (Rd.q0 (hS.block hpb hpn))) rfl ?_
    refine WH.take 5 rfl (by kernel_rfl) (by kernel_rfl) (by kernel_rfl) (fun _ _ _ h => h) ⟨_, HB⟩ (fun w' hS => EX.move rfl) rfl ?_
    refine WH.take 6 rfl (by kernel_rfl) (by kernel_rfl) (by kernel_rfl) (fun _ _ _ h => h) ⟨_, HB⟩ (fun w' hS => EX.idxSlc (k := g) slc87 rfl rfl (by first | rfl | omega) (by omega)) rfl ?_
    refine WH.take 7 rfl (by kernel_rfl) (by kernel_rfl) (by kernel_rfl) (fun _ _ _ h => h) ⟨_, HB⟩ (fun w' hS => EX.fieldAddr fld184_0 rfl) rfl ?_
    first | refine WH.take 8 rfl (by kernel_rfl) (by kernel_rfl) (by kernel_rfl) (fun _ _ _ h => h) ⟨_, HB⟩ (fun w' hS => EX.load rfl ((show Rd _ _ _ _ (arr [x0, x1, x2, x3, x4, x5, x6, x7]) from by rw [← hws]; exact Rd.lineW ty38 (hS.block hlb hln) (by omega) hok.1))) rfl ?_
    refine WH.take 9 rfl (by kernel_rfl) (by kernel_rfl) (by kernel_rfl) (fun _ _ _ h => h) ⟨_, HB⟩ (fun w' hS => EX.move rfl) rfl ?_
    refine WH.take 10 rfl (by kernel_rfl) (by kernel_rfl) (by kernel_rfl) (fun _ _ _ h => h) ⟨_, HB⟩ (fun w' hS => EX.nilCheck rfl) rfl ?_
    refine WH.take 11 rfl (by kernel_rfl) (by kernel_rfl) (by kernel_rfl) (fun _ _ _ h => h) ⟨_, HB⟩ (fun w' hS => EX.fieldAddr fld89_0 rfl) rfl ?_
    first | refine WH.take 12 rfl (by kernel_rfl) (by kernel_rfl) (by kernel_rfl) (fun _ _ _ h => h) ⟨_, HB⟩ (fun w' hS => EX.load rfl (Rd.q0 (hS.block hpb hpn))) rfl ?_
    refine WH.take 13 rfl (by kernel_rfl) (by kernel_rfl) (by kernel_rfl) (fun _ _ _ h => h) ⟨_, HB⟩ (fun w' hS => EX.move rfl) rfl ?_
    refine WH.take 14 rfl (by kernel_rfl) (by kernel_rfl) (by kernel_rfl) (fun _ _ _ h => h) ⟨_, HB⟩ (fun w' hS => EX.idxSlc (k := g) slc87 rfl rfl (by first | rfl | omega) (by omega)) rfl ?_
    refine WH.take 15 rfl (by kernel_rfl) (by kernel_rfl) (by kernel_rfl) (fun _ _ _ h => h) ⟨_, HB⟩ (fun w' hS => EX.fieldAddr fld184_1 rfl) rfl ?_
    first | refine WH.take 16 rfl (by kernel_rfl) (by kernel_rfl) (by kernel_rfl) (fun _ _ _ h => h) ⟨_, HB⟩ (fun w' hS => EX.load rfl (Rd.lineCo ty3 (hS.block hlb hln) (by omega) hok.1)) rfl ?_
    refine WH.take 17 rfl (by kernel_rfl) (by kernel_rfl) (by kernel_rfl) (fun _ _ _ h => h) ⟨_, HB⟩ (fun w' hS => EX.build (z := z40) pla40 zer40 rfl (fill40 _ _ _ _ _ _ _ _ _)) rfl ?_
    refine WH.hard 18 rfl (by kernel_rfl) ?_
    refine WL.buildSlice1 HB Tryd.underlying23 (sz := 9) (by simp only [Tryd.underlying40]; exact ty40) (by omega) zer40 rfl rfl rfl rfl ?_
    intro g2 wx hg2 hgg2 HB
    refine WL.done (WX.heldOn ⟨_, HB⟩ ?_)
    refine WH.hard 19 rfl (by kernel_rfl) ?_
    replace HB := St.perm HB (List.perm_append_comm (l₁ := [_]) (l₂ := r.hp 40))
    refine WL.append (m := 1) (news := intsC ([x0, x1, x2, x3, x4, x5, x6, x7] ++ [l.c])) app23 HB hr rfl rfl rfl (fun j u hj => by rw [addr_add, cell_of (HB.sat _ (List.mem_append_right _ List.mem_cons_self)), Nat.zero_add]; simpa [intsC, Value.cells, arrC] using hj) (intsC_one _) (by simp only [maxLen]; omega) (by omega) rfl ?_
    intro r1 wx hr1 HB
    refine WL.done (WX.heldOn ⟨_, HB⟩ ?_)
    refine WH.take 20 rfl (by kernel_rfl) (by kernel_rfl) (by kernel_rfl) (fun _ _ _ h => h) ⟨_, HB⟩ (fun w' hS => EX.assign rfl) rfl ?_
    refine WH.done (by kernel_rfl) ?_
    replace H := H.callM (L := []) HB
    refine (WX.block_normal (WX.next ?_))
    refine WC.region ?_
    refine WL.move rfl rfl ?_
    refine WL.bin rfl rfl (iadd (by omega) (by omega)) rfl ?_
    refine WL.assign rfl rfl ?_
    refine (WL.done (WX.round ?_))
    have himt : imgC (R.abs.ls.take (g + 1)) = imgC (R.abs.ls.take g) ++ ([x0, x1, x2, x3, x4, x5, x6, x7] ++ [l.c]) := by rw [← hws]; exact flat_take (RR.abs_get hget)
    rw [← intsC_append, ← himt] at hr1
    exact hN _ (r1, g + 1) _ _ (by show R.X.length - (g + 1) < R.X.length - g; omega) ⟨rfl, by show g + 1 ≤ R.X.length; omega, hr1, H.weaken (List.sublist_append_left _ _)⟩ (Sub.cons (t := 3) (by first | rfl | simp) (Sub.cons (t := 4) (by first | rfl | simp) (Sub.nil _))) (Sub.cons (t := 0) rfl (Sub.nil _))
  · -- c1 F
    refine (WC.exit (WX.then_exit (WX.then_exit (WX.block_exit (WX.next ?_)))))
    refine WC.seq ?_
    refine WC.region ?_
    refine WL.move rfl rfl ?_
    refine WL.assign rfl rfl ?_
    refine (WL.done (WX.next ?_))
    refine (WC.ret ?_)
    refine ret_one rfl rfl ?_
    rw [RR.take_all (by assumption)] at hr
    obtain rfl : g = R.X.length := by omega
    exact ⟨r, rfl, hr, H⟩

end Go.Proofs.YtkncbggnaobgeaaDoor

/- Walks of functions of the program; printed by a program of this session (walk.py) out of hand-written hints. -/
namespace Go.Proofs.YtkncbggnaobgeaaDoor
open Go.RowKit
set_option linter.unusedVariables false
set_option linter.unusedSimpArgs false
set_option maxRecDepth 100000

theorem St.pull3 {w0 w : World} {S : List Nat} {M K : Hp} {x y z : Nat × Obj} (h : St w0 S w (x :: y :: z :: (M ++ K))) : St w0 S w (M ++ x :: y :: z :: K) := by
  refine h.perm (List.perm_middle.trans (List.Perm.cons _ (List.perm_middle.trans (List.Perm.cons _ List.perm_middle)))).symm
theorem fillE1 (a : Int) : Instr.fill (fun i => [(0, 1), (1, 1), (2, 1), (3, 1), (4, 8)][i]?) z164 [(0, .int .i64 a)] = some (arrC [a, 0, 0, 0, 0, 0, 0, 0, 0, 0, 0, 0]) := by kernel_rfl
theorem fillE2 (a b : Int) : Instr.fill (fun i => [(0, 1), (1, 1), (2, 1), (3, 1), (4, 8)][i]?) z164 [(0, .int .i64 a), (1, .int .i64 b)] = some (arrC [a, b, 0, 0, 0, 0, 0, 0, 0, 0, 0, 0]) := by kernel_rfl
theorem fillE3 (a b c : Int) : Instr.fill (fun i => [(0, 1), (1, 1), (2, 1), (3, 1), (4, 8)][i]?) z164 [(0, .int .i64 a), (1, .int .i64 b), (2, .int .i64 c)] = some (arrC [a, b, c, 0, 0, 0, 0, 0, 0, 0, 0, 0]) := by kernel_rfl
theorem fillE4 (a b c d : Int) : Instr.fill (fun i => [(0, 1), (1, 1), (2, 1), (3, 1), (4, 8)][i]?) z164 [(0, .int .i64 a), (1, .int .i64 b), (2, .int .i64 c), (3, .int .i64 d)] = some (arrC [a, b, c, d, 0, 0, 0, 0, 0, 0, 0, 0]) := by kernel_rfl

theorem rspan_any (R : RR) (n : Int) (hn : n ≤ 9223372036854775807) (w : World) (hm : RIn w R) : Calls Tryd.prog 128 #[ptr R.p, .int .i64 n] w fun e w' => ∃ R' : RR, e = .returned (.tuple #[]) ∧ R'.p = R.p ∧ R'.abs = { R.abs with span := if 0 > n then 0 else n } ∧ R'.ok ∧ St w (R.hp.map Prod.fst) w' R'.hp := by
  refine calls_walk_n (args := [ptr R.p, .int .i64 n]) Tryd.func128 rfl rfl rfl ?_
  have H := hm.start
  refine WC.region ?_
  refine WL.move rfl rfl ?_
  refine WL.move rfl rfl ?_
  refine WL.max2 rfl rfl rfl ?_
  first | refine WL.nilCheck rfl rfl ?_ | refine WL.nilCheckFn rfl rfl ?_
  refine WL.fieldAddr fld89_1 rfl rfl ?_
  refine WL.storeAt H ty3 0 rfl rfl rfl rfl (by simp [Value.cells, Value.oneCell']) (show 0 + 1 + 1 ≤ 3 by omega) ?_
  intro wx H
  refine (WL.done ?_)
  refine end_none rfl ?_
  refine ⟨{ R with span := if 0 > n then 0 else n }, rfl, rfl, rfl, ⟨hm.ok.len, hm.ok.lcap, hm.ok.junk, hm.ok.lines, hm.ok.sound, hm.ok.evs, hm.ok.er, by show 0 ≤ (if 0 > n then 0 else n) ∧ (if 0 > n then 0 else n) ≤ 9223372036854775807; split <;> omega⟩, ?_⟩
  exact H

theorem rflush_any (R : RR) (n : Int) (hsm : R.evs.length < 1073741824) (w : World) (hm : RIn w R) : Calls Tryd.prog 129 #[ptr R.p, .int .i64 n] w fun e w' => ∃ R' : RR, e = .returned (.int .i64 (if R.abs.has n then 0 else 40)) ∧ R'.p = R.p ∧ R'.abs = R.abs.flush n ∧ R'.ok ∧ St w (R.hp.map Prod.fst) w' R'.hp := by
  refine calls_walk_n (args := [ptr R.p, .int .i64 n]) Tryd.func129 rfl rfl rfl ?_
  have H := hm.start
  refine WC.seq ?_
  refine WC.region ?_
  refine WL.assign rfl rfl ?_
  refine (WL.done (WX.next ?_))
  refine WC.seq ?_
  refine WC.seq ?_
  refine WC.region ?_
  refine WL.move rfl rfl ?_
  refine WL.move rfl rfl ?_
  refine WL.call call177 rfl rfl ?_
  refine Calls.mono (rhas_any R n _ hm) ?_
  rintro _ wx ⟨rfl, rfl⟩
  refine ⟨_, rfl, ?_⟩
  refine WL.notOp rfl rfl ?_
  refine (WL.done (WX.next ?_))
  first | refine WC.cond_dec rfl (fun c1 => ?_) (fun c1 => ?_) | refine WC.cond rfl (fun c1 => ?_) (fun c1 => ?_)
  · -- c1 T
    have hh : R.abs.has n = false := by cases hh : R.abs.has n <;> simp [hh] at c1 ⊢
    refine WC.seq ?_
    refine WC.region ?_
    refine WL.assign rfl rfl ?_
    refine (WL.done (WX.next ?_))
    refine (WC.ret (WX.then_ret ?_))
    refine ret_one rfl rfl ?_
    exact ⟨R, by rw [hh]; rfl, rfl, by unfold PM.flush; rw [hh]; rfl, hm.ok, H⟩
  · -- c1 F
    have hh : R.abs.has n = true := by cases hh : R.abs.has n <;> simp [hh] at c1 ⊢
    obtain ⟨hn0, hn1⟩ := RR.has_iff.1 hh
    obtain ⟨k, rfl⟩ : ∃ k : Nat, n = (k : Int) := ⟨n.toNat, by omega⟩
    obtain ⟨A, l, r, B, hX, hA, ha, hok, hr, hso, hget⟩ := hm.ok.at (k := k) (by omega)
    refine (WC.skip (WX.next ?_))
    refine WC.seq ?_
    replace H := (St.focusR (L := []) hX H).drew
    refine WC.held (SX (World.drew wx) [R.lb]) (by kernel_rfl) ?_
    generalize World.drew wx = wb at H ⊢
    have HB := H.single 1 rfl
    refine WH.take 0 rfl (by kernel_rfl) (by kernel_rfl) (by kernel_rfl) (fun _ _ _ h => h) ⟨_, HB⟩ (fun w' hS => EX.move rfl) rfl ?_
    refine WH.take 1 rfl (by kernel_rfl) (by kernel_rfl) (by kernel_rfl) (fun _ _ _ h => h) ⟨_, HB⟩ (fun w' hS => EX.nilCheck rfl) rfl ?_
    refine WH.take 2 rfl (by kernel_rfl) (by kernel_rfl) (by kernel_rfl) (fun _ _ _ h => h) ⟨_, HB⟩ (fun w' hS => EX.fieldAddr fld89_0 rfl) rfl ?_
    first | refine WH.take 3 rfl (by kernel_rfl) (by kernel_rfl) (by kernel_rfl) (fun _ _ _ h => h) ⟨_, HB⟩ (fun w' hS => EX.load rfl (Rd.q0 (H.blk 0 rfl))) rfl ?_ | refine WH.take 3 rfl (by kernel_rfl) (by kernel_rfl) (by kernel_rfl) (fun _ _ _ h => h) ⟨_, HB⟩ (fun w' hS => EX.load rfl (Rd.q0 (hS.block (H.blk 0 rfl) (by simpa using H.ne 0 1 rfl rfl rfl)))) rfl ?_ | refine WH.take 3 rfl (by kernel_rfl) (by kernel_rfl) (by kernel_rfl) (fun _ _ _ h => h) ⟨_, HB⟩ (fun w' hS => EX.load rfl (hS.rd1 ty87 (H.blk 0 rfl) (by simpa using H.ne 0 1 rfl rfl rfl) rfl)) rfl ?_ | refine WH.take 3 rfl (by kernel_rfl) (by kernel_rfl) (by kernel_rfl) (fun _ _ _ h => h) ⟨_, HB⟩ (fun w' hS => EX.load rfl (hS.rdA ty87 (H.blk 0 rfl) (by simpa using H.ne 0 1 rfl rfl rfl) (by decide))) rfl ?_
    refine WH.take 4 rfl (by kernel_rfl) (by kernel_rfl) (by kernel_rfl) (fun _ _ _ h => h) ⟨_, HB⟩ (fun w' hS => EX.move rfl) rfl ?_
    refine WH.take 5 rfl (by kernel_rfl) (by kernel_rfl) (by kernel_rfl) (fun _ _ _ h => h) ⟨_, HB⟩ (fun w' hS => EX.move rfl) rfl ?_
    refine WH.take 6 rfl (by kernel_rfl) (by kernel_rfl) (by kernel_rfl) (fun _ _ _ h => h) ⟨_, HB⟩ (fun w' hS => EX.nilCheck rfl) rfl ?_
    refine WH.take 7 rfl (by kernel_rfl) (by kernel_rfl) (by kernel_rfl) (fun _ _ _ h => h) ⟨_, HB⟩ (fun w' hS => EX.fieldAddr fld89_0 rfl) rfl ?_
    first | refine WH.take 8 rfl (by kernel_rfl) (by kernel_rfl) (by kernel_rfl) (fun _ _ _ h => h) ⟨_, HB⟩ (fun w' hS => EX.load rfl (Rd.q0 (H.blk 0 rfl))) rfl ?_ | refine WH.take 8 rfl (by kernel_rfl) (by kernel_rfl) (by kernel_rfl) (fun _ _ _ h => h) ⟨_, HB⟩ (fun w' hS => EX.load rfl (Rd.q0 (hS.block (H.blk 0 rfl) (by simpa using H.ne 0 1 rfl rfl rfl)))) rfl ?_ | refine WH.take 8 rfl (by kernel_rfl) (by kernel_rfl) (by kernel_rfl) (fun _ _ _ h => h) ⟨_, HB⟩ (fun w' hS => EX.load rfl (hS.rd1 ty87 (H.blk 0 rfl) (by simpa using H.ne 0 1 rfl rfl rfl) rfl)) rfl ?_ | refine WH.take 8 rfl (by kernel_rfl) (by kernel_rfl) (by kernel_rfl) (fun _ _ _ h => h) ⟨_, HB⟩ (fun w' hS => EX.load rfl (hS.rdA ty87 (H.blk 0 rfl) (by simpa using H.ne 0 1 rfl rfl rfl) (by decide))) rfl ?_
    refine WH.take 9 rfl (by kernel_rfl) (by kernel_rfl) (by kernel_rfl) (fun _ _ _ h => h) ⟨_, HB⟩ (fun w' hS => EX.move rfl) rfl ?_
    refine WH.take 10 rfl (by kernel_rfl) (by kernel_rfl) (by kernel_rfl) (fun _ _ _ h => h) ⟨_, HB⟩ (fun w' hS => EX.idxSlc (k := k) slc87 rfl rfl (by first | rfl | omega) (by omega)) rfl ?_
    refine WH.take 11 rfl (by kernel_rfl) (by kernel_rfl) (by kernel_rfl) (fun _ _ _ h => h) ⟨_, HB⟩ (fun w' hS => EX.fieldAddr fld184_2 rfl) rfl ?_
    refine WH.hard 12 rfl (by kernel_rfl) ?_
    refine WL.load rfl (Rd.lineS ty52 (HB.blk 0 rfl) (by omega) hok.1) rfl ?_
    refine WL.done (WX.heldOn ⟨_, HB⟩ ?_)
    refine WH.take 13 rfl (by kernel_rfl) (by kernel_rfl) (by kernel_rfl) (fun _ _ _ h => h) ⟨_, HB⟩ (fun w' hS => EX.lenR isl52 rfl) rfl ?_
    refine WH.take 14 rfl (by kernel_rfl) (by kernel_rfl) (by kernel_rfl) (fun _ _ _ h => h) ⟨_, HB⟩ (fun w' hS => EX.idxSlc (k := k) slc87 rfl rfl (by first | rfl | omega) (by omega)) rfl ?_
    refine WH.take 15 rfl (by kernel_rfl) (by kernel_rfl) (by kernel_rfl) (fun _ _ _ h => h) ⟨_, HB⟩ (fun w' hS => EX.fieldAddr fld184_3 rfl) rfl ?_
    refine WH.hard 16 rfl (by kernel_rfl) ?_
    refine WL.storeAt HB ty3 0 rfl rfl rfl rfl (by simp [Value.cells, Value.oneCell']) (by rw [lineL_size hok.1]; omega) ?_
    intro wx HB
    replace HB := HB.castH (H' := [(R.lb, .cells (lineL (linesC A) { l with mark := l.ps.length } r (linesC B ++ R.junk)) 184)]) (by
      have e1 := wr_lineM (a := linesC A) (l := l) (r := r) (c := linesC B ++ R.junk) (o := 0 + k * 11 + 10) (z := l.ps.length) (by omega) hok.1
      rw [← e1]; rfl)
    refine WL.done (WX.heldOn ⟨_, HB⟩ ?_)
    refine WH.done (by kernel_rfl) ?_
    replace H := H.back (N := []) 1 rfl HB rfl
    refine WX.next ?_
    refine WC.seq ?_
    refine WC.region ?_
    replace H := St.refocusR (L := []) (l' := { l with mark := l.ps.length }) (r' := r) hX H
    have hok2 : (R.upd A B { l with mark := l.ps.length } r).ok := hm.ok.upd hX ⟨hok.1, hok.2.1, hok.2.2.1, Nat.le_refl _, hok.2.2.2.2⟩ (PL.sound_kept.mark l hok hso) hr
    have hel : (R.upd A B { l with mark := l.ps.length } r).evs.length < 1073741824 := hsm
    refine WL.move rfl rfl ?_
    refine WL.move rfl rfl ?_
    first | refine WL.nilCheck rfl rfl ?_ | refine WL.nilCheckFn rfl rfl ?_
    refine WL.fieldAddr fld89_2 rfl rfl ?_
    first | refine WL.load rfl (Rd.q2 (H.blk 0 rfl)) rfl ?_ | refine WL.load rfl (H.rd1 ty30 0 rfl rfl) rfl ?_ | refine WL.load rfl (H.rd1 ty30 1 rfl rfl) rfl ?_ | refine WL.load rfl (H.rdA ty30 0 rfl (by decide)) rfl ?_ | refine WL.load rfl (H.rdA ty30 1 rfl (by decide)) rfl ?_
    refine WL.move rfl rfl ?_
    refine WL.build (z := z164) pla164 zer164 rfl rfl (fillE2 _ _) ?_
    refine WL.buildSlice1 H Tryd.underlying30 (sz := 12) (by simp only [Tryd.underlying164]; exact ty164) (by omega) zer164 rfl rfl rfl rfl ?_
    intro gn wx hgn hggn H
    replace H := St.pull3 (M := ((R.upd A B { l with mark := l.ps.length } r)).er.hp 164) (K := pendHp ((R.upd A B { l with mark := l.ps.length } r)).X) H
    refine WL.append (m := 1) (news := intsC [3, (k : Int), 0, 0, 0, 0, 0, 0, 0, 0, 0, 0]) app30 H hok2.er rfl rfl rfl (fun j u hj => by rw [addr_add, cell_of (H.sat _ (List.mem_append_right _ List.mem_cons_self)), Nat.zero_add]; simpa [intsC, Value.cells, arrC] using hj) (intsC_one _) (by simp only [maxLen]; omega) (by omega) rfl ?_
    intro er wx her H
    replace H := St.put3 H
    first | refine WL.nilCheck rfl rfl ?_ | refine WL.nilCheckFn rfl rfl ?_
    refine WL.fieldAddr fld89_2 rfl rfl ?_
    refine WL.storeAt H ty30 1 rfl rfl rfl (Row.val_size _ _) (Row.val_one _ _) (Nat.le_refl 3) ?_
    intro wx H
    replace H := H.castH (H' := (gn, _) :: (((R.upd A B { l with mark := l.ps.length } r)).noted [3, (k : Int), 0, 0, 0, 0, 0, 0, 0, 0, 0, 0] er).hp) (by
      rw [Row.val_cells]
      unfold RR.hp structQ
      rw [show (((R.upd A B { l with mark := l.ps.length } r)).noted [3, (k : Int), 0, 0, 0, 0, 0, 0, 0, 0, 0, 0] er).evs.length = ((R.upd A B { l with mark := l.ps.length } r)).evs.length + 1 from by simp [RR.noted]]
      rfl)
    replace H := H.tail
    have hok3 : (((R.upd A B { l with mark := l.ps.length } r)).noted [3, (k : Int), 0, 0, 0, 0, 0, 0, 0, 0, 0, 0] er).ok := hok2.noted rfl (by
      have e1 : flatE (((R.upd A B { l with mark := l.ps.length } r)).evs ++ [[3, (k : Int), 0, 0, 0, 0, 0, 0, 0, 0, 0, 0]]) = flatE ((R.upd A B { l with mark := l.ps.length } r)).evs ++ intsC [3, (k : Int), 0, 0, 0, 0, 0, 0, 0, 0, 0, 0] := by rw [flatE_append]; simp [flatE]
      rw [e1]; exact her)
    refine (WL.done (WX.next ?_))
    refine WC.seq ?_
    refine WC.region ?_
    refine WL.assign rfl rfl ?_
    refine (WL.done (WX.next ?_))
    refine (WC.ret ?_)
    refine ret_one rfl rfl ?_
    refine ⟨(R.upd A B { l with mark := l.ps.length } r).noted [3, (k : Int), 0, 0, 0, 0, 0, 0, 0, 0, 0, 0] er, by rw [hh]; rfl, rfl, ?_, hok3, H⟩
    unfold PM.flush
    rw [hh, if_pos rfl, RR.abs_noted, RR.abs_upd hX hA, RR.abs_line hget, Int.toNat_natCast]

end Go.Proofs.YtkncbggnaobgeaaDoor

/- Walks of functions of the program; printed by a program of this session (walk.py) out of hand-written hints. -/
namespace Go.Proofs.YtkncbggnaobgeaaDoor
open Go.RowKit
set_option linter.unusedVariables false
set_option linter.unusedSimpArgs false
set_option maxRecDepth 100000

theorem sub_qhp {w0 w : World} {S : List Nat} {p lb len lcap : Nat} {span : Int} {er : Row} {ne : Nat} {a : List Value} {l' : PL} {r r' : Row} {c : List Value} {Z : Hp} (H : St w0 S w ((p, structQ lb len lcap span er ne) :: (lb, .cells (lineL a l' r' c) 184) :: (r.hp 111 ++ Z) ++ r'.hp 111)) : St w0 S w (qhp p lb len lcap span er ne a l' r' c Z) := by
  have h1 : St w0 S w (r.hp 111 ++ qhp p lb len lcap span er ne a l' r' c Z) := H.perm (by
    unfold qhp
    classical exact List.perm_iff_count.2 (fun q => by simp only [List.count_append, List.count_cons, List.count_nil, Nat.add_zero, Nat.zero_add] <;> ac_rfl))
  exact h1.weaken (List.sublist_append_right _ _)
theorem PM.state_has {M : PM} {n : Int} (h : M.has n = true) : M.state n = (chk (M.line n).ws (M.line n).c).1 := by unfold PM.state; rw [if_pos h]

theorem rput_any (R : RR) (at_ val kind : Int) (ha : at_ ≤ 9223372036854775807) (hsm : R.evs.length < 1073741824) (hps : ∀ x ∈ R.X, x.1.ps.length < 1073741824) (w : World) (hm : RIn w R) : Calls Tryd.prog 179 #[ptr R.p, .int .i64 at_, .int .i64 val, .int .i64 kind] w fun e w' => ∃ R' : RR, e = .returned (.int .i64 (R.abs.putErr at_ val)) ∧ R'.p = R.p ∧ R'.abs = R.abs.put kind at_ val ∧ R'.ok ∧ St w (R.hp.map Prod.fst) w' R'.hp := by
  refine calls_walk_n (args := [ptr R.p, .int .i64 at_, .int .i64 val, .int .i64 kind]) Tryd.func179 rfl rfl rfl ?_
  have H := hm.start
  refine WC.seq ?_
  refine WC.region ?_
  refine WL.assign rfl rfl ?_
  refine (WL.done (WX.next ?_))
  refine WC.seq ?_
  refine WC.seq ?_
  refine WC.region ?_
  refine WL.move rfl rfl ?_
  refine WL.bin rfl rfl binv_lss rfl ?_
  refine WL.move rfl rfl ?_
  first | refine WL.splitD (t := 12) rfl (fun g1 => ?_) (fun g1 => ?_) | refine WL.split (t := 12) rfl (fun g1 => ?_) (fun g1 => ?_)
  · -- g1 True
    refine WL.no rfl rfl rfl ?_
    refine WL.no rfl rfl rfl ?_
    refine WL.no rfl rfl rfl ?_
    refine WL.no rfl rfl rfl ?_
    refine WL.no rfl rfl rfl ?_
    refine WL.pickT rfl rfl rfl ?_
    refine (WL.done (WX.next ?_))
    refine WC.cond_true rfl (rfl) ?_
    refine WC.seq ?_
    refine WC.region ?_
    refine WL.assign rfl rfl ?_
    refine (WL.done (WX.next ?_))
    refine (WC.ret (WX.then_ret ?_))
    refine ret_one rfl rfl ?_
    have e1 : R.abs.putErr at_ val = 40 := by unfold PM.putErr; rw [if_pos g1]
    exact ⟨R, by rw [e1], rfl, by unfold PM.put; rw [e1, if_neg (by decide)], hm.ok, H⟩
  · -- g1 False
    have hq0 : 0 ≤ at_ := by omega
    refine WL.yes rfl rfl ?_
    refine WL.move rfl rfl ?_
    refine WL.yes rfl rfl ?_
    refine WL.move rfl rfl ?_
    refine WL.yes rfl rfl ?_
    refine WL.bin rfl rfl (iquo (by omega) (by omega) (by omega)) rfl ?_
    refine WL.yes rfl rfl ?_
    refine WL.call call177 rfl rfl ?_
    refine Calls.mono (rhas_any R _ _ hm) ?_
    rintro _ wx ⟨rfl, hwx⟩
    refine ⟨_, rfl, ?_⟩
    rw [hwx]
    refine WL.yes rfl rfl ?_
    refine WL.notOp rfl rfl ?_
    refine WL.pickF rfl rfl rfl ?_
    refine (WL.done (WX.next ?_))
    first | refine WC.cond_dec rfl (fun c2 => ?_) (fun c2 => ?_) | refine WC.cond rfl (fun c2 => ?_) (fun c2 => ?_)
    · -- c2 T
      have hh : R.abs.has (at_ / 8) = false := by simpa only [Bool.not_eq_true'] using c2
      refine WC.seq ?_
      refine WC.region ?_
      refine WL.assign rfl rfl ?_
      refine (WL.done (WX.next ?_))
      refine (WC.ret (WX.then_ret ?_))
      refine ret_one rfl rfl ?_
      have e1 : R.abs.putErr at_ val = 40 := by unfold PM.putErr; rw [if_neg g1, hh]; rfl
      exact ⟨R, by rw [e1], rfl, by unfold PM.put; rw [e1, if_neg (by decide)], hm.ok, H⟩
    · -- c2 F
      have hh : R.abs.has (at_ / 8) = true := by simpa only [Bool.not_eq_false'] using c2
      obtain ⟨hn0, hn1⟩ := RR.has_iff.1 hh
      obtain ⟨k, hk⟩ : ∃ k : Nat, at_ / 8 = (k : Int) := ⟨(at_ / 8).toNat, by omega⟩
      obtain ⟨A, l, r, B, hX, hA, hal, hok, hr, hso, hget⟩ := hm.ok.at (k := k) (by omega)
      have hln : R.abs.line (at_ / 8) = l := by rw [hk]; exact RR.abs_line hget
      have hpk : l.ps.length < 1073741824 := hps (l, r) (List.mem_of_getElem? hget)
      refine (WC.skip (WX.next ?_))
      refine WC.seq ?_
      refine WC.seq ?_
      refine WC.region ?_
      refine WL.move rfl rfl ?_
      refine WL.call call167 rfl rfl ?_
      refine Calls.mono (refword_any _ _) ?_
      rintro _ wx ⟨rfl, hwx⟩
      refine ⟨_, rfl, ?_⟩
      rw [hwx]
      refine WL.notOp rfl rfl ?_
      refine (WL.done (WX.next ?_))
      first | refine WC.cond_dec rfl (fun c3 => ?_) (fun c3 => ?_) | refine WC.cond rfl (fun c3 => ?_) (fun c3 => ?_)
      · -- c3 T
        have hwd : isWord val = false := by simpa only [Bool.not_eq_true'] using c3
        refine WC.seq ?_
        refine WC.region ?_
        refine WL.assign rfl rfl ?_
        refine (WL.done (WX.next ?_))
        refine (WC.ret (WX.then_ret ?_))
        refine ret_one rfl rfl ?_
        have e1 : R.abs.putErr at_ val = 1 := by unfold PM.putErr; rw [if_neg g1, hh, if_pos rfl, hwd]; rfl
        exact ⟨R, by rw [e1], rfl, by unfold PM.put; rw [e1, if_neg (by decide)], hm.ok, H⟩
      · -- c3 F
        have hwd : isWord val = true := by simpa only [Bool.not_eq_false'] using c3
        refine (WC.skip (WX.next ?_))
        refine WC.seq ?_
        refine WC.seq ?_
        refine WC.region ?_
        refine WL.move rfl rfl ?_
        refine WL.move rfl rfl ?_
        refine WL.bin rfl rfl (iquo (by omega) (by omega) (by omega)) rfl ?_
        refine WL.call call123 rfl rfl ?_
        refine Calls.mono (rstate_any R _ _ hm) ?_
        rintro _ wx ⟨rfl, Hc⟩
        refine ⟨_, rfl, ?_⟩
        replace H := H.call0 Hc
        refine WL.bin rfl rfl binv_eql rfl ?_
        refine (WL.done (WX.next ?_))
        first | refine WC.cond_dec rfl (fun c4 => ?_) (fun c4 => ?_) | refine WC.cond rfl (fun c4 => ?_) (fun c4 => ?_)
        · -- c4 T
          have hst : (chk l.ws l.c).1 = 2 := by rw [PM.state_has hh, hln] at c4; exact c4
          refine WC.seq ?_
          refine WC.region ?_
          refine WL.assign rfl rfl ?_
          refine (WL.done (WX.next ?_))
          refine (WC.ret (WX.then_ret ?_))
          refine ret_one rfl rfl ?_
          have e1 : R.abs.putErr at_ val = 9 := by unfold PM.putErr; rw [if_neg g1, hh, if_pos rfl, hwd, if_pos rfl, hln, if_pos hst]
          exact ⟨R, by rw [e1], rfl, by unfold PM.put; rw [e1, if_neg (by decide)], hm.ok, H⟩
        · -- c4 F
          have hst : ¬ (chk l.ws l.c).1 = 2 := by rw [PM.state_has hh, hln] at c4; exact c4
          replace H := St.focusR (L := []) hX H
          refine (WC.skip (WX.next ?_))
          refine WC.seq ?_
          refine WC.region ?_
          refine WL.buildS0 H app52 rfl ?_
          intro g0 wx hg0 hgg0 H
          refine WL.move rfl rfl ?_
          first | refine WL.nilCheck rfl rfl ?_ | refine WL.nilCheckFn rfl rfl ?_
          refine WL.fieldAddr fld89_0 rfl rfl ?_
          first | refine WL.load rfl (Rd.q0 (H.blk 1 rfl)) rfl ?_
          refine WL.move rfl rfl ?_
          refine WL.bin rfl rfl (iquo (by omega) (by omega) (by omega)) rfl ?_
          refine WL.idxSlc (k := k) slc87 rfl rfl (by omega) (by omega) rfl ?_
          refine WL.fieldAddr fld184_2 rfl rfl ?_
          first | refine WL.load rfl (Rd.lineS ty52 (H.blk 2 rfl) (by omega) hok.1) rfl ?_
          refine WL.appendR (r := .some g0 0 #[]) (r2 := r) (k := 0) (m := l.ps.length) (xs := []) app52 H (Row.ok_nil _ _) hr (fun q hq => H.sat q (by unfold qhp; simp [hq])) (flatP_one _) rfl rfl (by simp only [maxLen]; omega) (by omega) rfl ?_
          intro r1 wx hr1 H
          refine WL.assign rfl rfl ?_
          refine (WL.done (WX.next ?_))
          refine WC.seq ?_
          refine WC.region ?_
          refine WL.move rfl rfl ?_
          refine WL.move rfl rfl ?_
          refine WL.bin rfl rfl (irem (by omega) (by omega)) rfl ?_
          refine WL.move rfl rfl ?_
          refine WL.build pla111 zer111 rfl rfl rfl ?_
          refine WL.buildSlice1 H Tryd.underlying52 (sz := 2) (by simp only [Tryd.underlying111]; exact ty111) (by omega) zer111 rfl rfl rfl rfl ?_
          intro g8 wx hg8 hgg8 H
          replace H := H.perm List.perm_middle.symm
          refine WL.append (m := 1) (news := [.int .i64 (at_ % 8), .int .i64 val]) app52 H hr1 rfl rfl rfl (fun j u hj => by rw [addr_add, cell_of (H.sat _ (List.mem_append_right _ List.mem_cons_self)), Nat.zero_add]; simpa [Value.cells] using hj) (by simp [Value.oneCell']) (by simp only [maxLen]; omega) (by omega) rfl ?_
          intro r2 wx hr2 H
          replace H := H.weaken (List.Sublist.append_left (List.sublist_cons_self _ _) _)
          replace H := H.perm List.perm_append_comm
          have hlp : 0 + l.ps.length + 1 = (l.ps ++ [(at_ % 8, val)]).length := by simp
          have hfp : [] ++ flatP l.ps ++ [Value.int .i64 (at_ % 8), .int .i64 val] = flatP (l.ps ++ [(at_ % 8, val)]) := by rw [flatP_append]; rfl
          rw [hlp, hfp] at hr2
          rw [hlp]
          refine WL.assign rfl rfl ?_
          refine (WL.done (WX.next ?_))
          refine WC.seq ?_
          refine WC.region ?_
          refine WL.move rfl rfl ?_
          first | refine WL.nilCheck rfl rfl ?_ | refine WL.nilCheckFn rfl rfl ?_
          refine WL.fieldAddr fld89_0 rfl rfl ?_
          first | refine WL.load rfl (Rd.q0 (H.blk 0 rfl)) rfl ?_
          refine WL.move rfl rfl ?_
          refine WL.bin rfl rfl (iquo (by omega) (by omega) (by omega)) rfl ?_
          refine WL.move rfl rfl ?_
          refine WL.idxSlc (k := k) slc87 rfl rfl (by omega) (by omega) rfl ?_
          refine WL.fieldAddr fld184_2 rfl rfl ?_
          refine WL.storeAt H ty52 1 rfl rfl rfl (Row.val_size _ _) (Row.val_one _ _) (by rw [lineL_size hok.1]; omega) ?_
          intro wx H
          replace H := H.castH (H' := (R.p, structQ R.lb R.X.length R.lcap R.span R.er R.evs.length) :: (R.lb, .cells (lineL (linesC A) { l with ps := l.ps ++ [(at_ % 8, val)] } r2 (linesC B ++ R.junk)) 184) :: (r.hp 111 ++ (R.er.hp 164 ++ pendHp A ++ pendHp B)) ++ r2.hp 111) (by
            have e1 := wr_lineS (a := linesC A) (l := l) (r := r) (r' := r2) (ps' := l.ps ++ [(at_ % 8, val)]) (c := linesC B ++ R.junk) (o := 0 + k * 11 + 9) (by omega) hok.1
            rw [← e1, Row.val_cells]; rfl)
          replace H := St.refocusR (L := []) (l' := { l with ps := l.ps ++ [(at_ % 8, val)] }) (r' := r2) hX (sub_qhp H)
          have hok2 : (R.upd A B { l with ps := l.ps ++ [(at_ % 8, val)] } r2).ok := hm.ok.upd hX ⟨hok.1, hok.2.1, hok.2.2.1, by have := hok.2.2.2.1; show l.mark ≤ (l.ps ++ [(at_ % 8, val)]).length; rw [List.length_append]; omega, fun p hp => by
            rcases List.mem_append.1 hp with hp | hp
            · exact hok.2.2.2.2 p hp
            · simp only [List.mem_singleton] at hp; subst hp; exact ⟨by show 0 ≤ at_ % 8; omega, by show at_ % 8 < 8; omega, hwd⟩⟩ (PL.sound_kept.put l (at_ % 8) val hok hso hwd hst) hr2
          have hel : (R.upd A B { l with ps := l.ps ++ [(at_ % 8, val)] } r2).evs.length < 1073741824 := hsm
          refine (WL.done (WX.next ?_))
          refine WC.seq ?_
          replace H := H.drew
          refine WC.held (SX (World.drew wx) ((R.upd A B { l with ps := l.ps ++ [(at_ % 8, val)] } r2).hp.map Prod.fst)) (by kernel_rfl) ?_
          generalize World.drew wx = wb at H ⊢
          have HB : St wb ((R.upd A B { l with ps := l.ps ++ [(at_ % 8, val)] } r2).hp.map Prod.fst) wb (R.upd A B { l with ps := l.ps ++ [(at_ % 8, val)] } r2).hp := St.start H.nd H.sat
          refine WH.take 0 rfl (by kernel_rfl) (by kernel_rfl) (by kernel_rfl) (fun _ _ _ h => h) ⟨_, HB⟩ (fun w' hS => EX.move rfl) rfl ?_
          refine WH.take 1 rfl (by kernel_rfl) (by kernel_rfl) (by kernel_rfl) (fun _ _ _ h => h) ⟨_, HB⟩ (fun w' hS => EX.move rfl) rfl ?_
          refine WH.take 2 rfl (by kernel_rfl) (by kernel_rfl) (by kernel_rfl) (fun _ _ _ h => h) ⟨_, HB⟩ (fun w' hS => EX.nilCheck rfl) rfl ?_
          refine WH.take 3 rfl (by kernel_rfl) (by kernel_rfl) (by kernel_rfl) (fun _ _ _ h => h) ⟨_, HB⟩ (fun w' hS => EX.fieldAddr fld89_2 rfl) rfl ?_
          refine WH.take 5 rfl (by kernel_rfl) (by kernel_rfl) (by kernel_rfl) (fun _ _ _ h => h) ⟨_, HB⟩ (fun w' hS => EX.move rfl) rfl ?_
          refine WH.take 6 rfl (by kernel_rfl) (by kernel_rfl) (by kernel_rfl) (fun _ _ _ h => h) ⟨_, HB⟩ (fun w' hS => EX.move rfl) rfl ?_
          refine WH.take 7 rfl (by kernel_rfl) (by kernel_rfl) (by kernel_rfl) (fun _ _ _ h => h) ⟨_, HB⟩ (fun w' hS => EX.move rfl) rfl ?_
          refine WH.take 8 rfl (by kernel_rfl) (by kernel_rfl) (by kernel_rfl) (fun _ _ _ h => h) ⟨_, HB⟩ (fun w' hS => EX.move rfl) rfl ?_
          refine WH.take 9 rfl (by kernel_rfl) (by kernel_rfl) (by kernel_rfl) (fun _ _ _ h => h) ⟨_, HB⟩ (fun w' hS => EX.nilCheck rfl) rfl ?_
          refine WH.take 10 rfl (by kernel_rfl) (by kernel_rfl) (by kernel_rfl) (fun _ _ _ h => h) ⟨_, HB⟩ (fun w' hS => EX.fieldAddr fld89_1 rfl) rfl ?_
          refine WH.hard2 4 11 rfl rfl (by kernel_rfl) ?_ ?_
          · -- op 4 first
            first | refine WL.load rfl (Rd.q2 (HB.blk 0 rfl)) rfl ?_ | refine WL.load rfl (Rd.q2 (HB.blk 1 rfl)) rfl ?_
            refine WL.done (WX.heldOn ⟨_, HB⟩ ?_)
            refine WH.hard 11 rfl (by kernel_rfl) ?_
            first | refine WL.load rfl (Rd.q1 (HB.blk 0 rfl)) rfl ?_ | refine WL.load rfl (Rd.q1 (HB.blk 1 rfl)) rfl ?_
            refine WL.done (WX.heldOn ⟨_, HB⟩ ?_)
            refine WH.take 12 rfl (by kernel_rfl) (by kernel_rfl) (by kernel_rfl) (fun _ _ _ h => h) ⟨_, HB⟩ (fun w' hS => EX.build (z := z164) pla164 zer164 rfl (fillE4 _ _ _ _)) rfl ?_
            refine WH.hard 13 rfl (by kernel_rfl) ?_
            refine WL.buildSlice1 HB Tryd.underlying30 (sz := 12) (by simp only [Tryd.underlying164]; exact ty164) (by omega) zer164 rfl rfl rfl rfl ?_
            intro gn wx hgn hggn HB
            refine WL.done (WX.heldOn ⟨_, HB⟩ ?_)
            refine WH.hard 14 rfl (by kernel_rfl) ?_
            replace HB := St.pull3 (M := ((R.upd A B { l with ps := l.ps ++ [(at_ % 8, val)] } r2)).er.hp 164) (K := pendHp ((R.upd A B { l with ps := l.ps ++ [(at_ % 8, val)] } r2)).X) HB
            refine WL.append (m := 1) (news := intsC [kind, at_, val, R.span, 0, 0, 0, 0, 0, 0, 0, 0]) app30 HB hok2.er rfl rfl rfl (fun j u hj => by rw [addr_add, cell_of (HB.sat _ (List.mem_append_right _ List.mem_cons_self)), Nat.zero_add]; simpa [intsC, Value.cells, arrC, RR.upd] using hj) (intsC_one _) (by simp only [maxLen]; omega) (by omega) rfl ?_
            intro er wx her HB
            replace HB := St.put3 HB
            refine WL.done (WX.heldOn ⟨_, HB⟩ ?_)
            refine WH.take 15 rfl (by kernel_rfl) (by kernel_rfl) (by kernel_rfl) (fun _ _ _ h => h) ⟨_, HB⟩ (fun w' hS => EX.nilCheck rfl) rfl ?_
            refine WH.take 16 rfl (by kernel_rfl) (by kernel_rfl) (by kernel_rfl) (fun _ _ _ h => h) ⟨_, HB⟩ (fun w' hS => EX.fieldAddr fld89_2 rfl) rfl ?_
            refine WH.hard 17 rfl (by kernel_rfl) ?_
            refine WL.storeAt HB ty30 1 rfl rfl rfl (Row.val_size _ _) (Row.val_one _ _) (Nat.le_refl 3) ?_
            intro wx HB
            replace HB := HB.castH (H' := (gn, _) :: (((R.upd A B { l with ps := l.ps ++ [(at_ % 8, val)] } r2)).noted [kind, at_, val, R.span, 0, 0, 0, 0, 0, 0, 0, 0] er).hp) (by
              rw [Row.val_cells]
              unfold RR.hp structQ
              rw [show (((R.upd A B { l with ps := l.ps ++ [(at_ % 8, val)] } r2)).noted [kind, at_, val, R.span, 0, 0, 0, 0, 0, 0, 0, 0] er).evs.length = ((R.upd A B { l with ps := l.ps ++ [(at_ % 8, val)] } r2)).evs.length + 1 from by simp [RR.noted]]
              rfl)
            replace HB := HB.tail
            have hok3 : (((R.upd A B { l with ps := l.ps ++ [(at_ % 8, val)] } r2)).noted [kind, at_, val, R.span, 0, 0, 0, 0, 0, 0, 0, 0] er).ok := hok2.noted rfl (by
              have e1 : flatE (((R.upd A B { l with ps := l.ps ++ [(at_ % 8, val)] } r2)).evs ++ [[kind, at_, val, R.span, 0, 0, 0, 0, 0, 0, 0, 0]]) = flatE ((R.upd A B { l with ps := l.ps ++ [(at_ % 8, val)] } r2)).evs ++ intsC [kind, at_, val, R.span, 0, 0, 0, 0, 0, 0, 0, 0] := by rw [flatE_append]; simp [flatE]
              rw [e1]; exact her)
            refine WL.done (WX.heldOn ⟨_, HB⟩ ?_)
            refine WH.done (by kernel_rfl) ?_
            replace H := H.callM (L := []) HB
            refine WX.next ?_
            refine WC.seq ?_
            refine WC.region ?_
            refine WL.assign rfl rfl ?_
            refine (WL.done (WX.next ?_))
            refine (WC.ret ?_)
            refine ret_one rfl rfl ?_
            have e1 : R.abs.putErr at_ val = 0 := by unfold PM.putErr; rw [if_neg g1, hh, if_pos rfl, hwd, if_pos rfl, hln, if_neg hst]
            refine ⟨(R.upd A B { l with ps := l.ps ++ [(at_ % 8, val)] } r2).noted [kind, at_, val, R.span, 0, 0, 0, 0, 0, 0, 0, 0] er, by rw [e1], rfl, ?_, hok3, H⟩
            unfold PM.put
            rw [e1, if_pos rfl, RR.abs_noted, RR.abs_upd hX hA, hln, hk, Int.toNat_natCast]
            rfl
          · -- op 11 first
            first | refine WL.load rfl (Rd.q1 (HB.blk 0 rfl)) rfl ?_ | refine WL.load rfl (Rd.q1 (HB.blk 1 rfl)) rfl ?_
            refine WL.done (WX.heldOn ⟨_, HB⟩ ?_)
            refine WH.take 12 rfl (by kernel_rfl) (by kernel_rfl) (by kernel_rfl) (fun _ _ _ h => h) ⟨_, HB⟩ (fun w' hS => EX.build (z := z164) pla164 zer164 rfl (fillE4 _ _ _ _)) rfl ?_
            refine WH.hard2 4 13 rfl rfl (by kernel_rfl) ?_ ?_
            · -- op 4 first
              first | refine WL.load rfl (Rd.q2 (HB.blk 0 rfl)) rfl ?_ | refine WL.load rfl (Rd.q2 (HB.blk 1 rfl)) rfl ?_
              refine WL.done (WX.heldOn ⟨_, HB⟩ ?_)
              refine WH.hard 13 rfl (by kernel_rfl) ?_
              refine WL.buildSlice1 HB Tryd.underlying30 (sz := 12) (by simp only [Tryd.underlying164]; exact ty164) (by omega) zer164 rfl rfl rfl rfl ?_
              intro gn wx hgn hggn HB
              refine WL.done (WX.heldOn ⟨_, HB⟩ ?_)
              refine WH.hard 14 rfl (by kernel_rfl) ?_
              replace HB := St.pull3 (M := ((R.upd A B { l with ps := l.ps ++ [(at_ % 8, val)] } r2)).er.hp 164) (K := pendHp ((R.upd A B { l with ps := l.ps ++ [(at_ % 8, val)] } r2)).X) HB
              refine WL.append (m := 1) (news := intsC [kind, at_, val, R.span, 0, 0, 0, 0, 0, 0, 0, 0]) app30 HB hok2.er rfl rfl rfl (fun j u hj => by rw [addr_add, cell_of (HB.sat _ (List.mem_append_right _ List.mem_cons_self)), Nat.zero_add]; simpa [intsC, Value.cells, arrC, RR.upd] using hj) (intsC_one _) (by simp only [maxLen]; omega) (by omega) rfl ?_
              intro er wx her HB
              replace HB := St.put3 HB
              refine WL.done (WX.heldOn ⟨_, HB⟩ ?_)
              refine WH.take 15 rfl (by kernel_rfl) (by kernel_rfl) (by kernel_rfl) (fun _ _ _ h => h) ⟨_, HB⟩ (fun w' hS => EX.nilCheck rfl) rfl ?_
              refine WH.take 16 rfl (by kernel_rfl) (by kernel_rfl) (by kernel_rfl) (fun _ _ _ h => h) ⟨_, HB⟩ (fun w' hS => EX.fieldAddr fld89_2 rfl) rfl ?_
              refine WH.hard 17 rfl (by kernel_rfl) ?_
              refine WL.storeAt HB ty30 1 rfl rfl rfl (Row.val_size _ _) (Row.val_one _ _) (Nat.le_refl 3) ?_
              intro wx HB
              replace HB := HB.castH (H' := (gn, _) :: (((R.upd A B { l with ps := l.ps ++ [(at_ % 8, val)] } r2)).noted [kind, at_, val, R.span, 0, 0, 0, 0, 0, 0, 0, 0] er).hp) (by
                rw [Row.val_cells]
                unfold RR.hp structQ
                rw [show (((R.upd A B { l with ps := l.ps ++ [(at_ % 8, val)] } r2)).noted [kind, at_, val, R.span, 0, 0, 0, 0, 0, 0, 0, 0] er).evs.length = ((R.upd A B { l with ps := l.ps ++ [(at_ % 8, val)] } r2)).evs.length + 1 from by simp [RR.noted]]
                rfl)
              replace HB := HB.tail
              have hok3 : (((R.upd A B { l with ps := l.ps ++ [(at_ % 8, val)] } r2)).noted [kind, at_, val, R.span, 0, 0, 0, 0, 0, 0, 0, 0] er).ok := hok2.noted rfl (by
                have e1 : flatE (((R.upd A B { l with ps := l.ps ++ [(at_ % 8, val)] } r2)).evs ++ [[kind, at_, val, R.span, 0, 0, 0, 0, 0, 0, 0, 0]]) = flatE ((R.upd A B { l with ps := l.ps ++ [(at_ % 8, val)] } r2)).evs ++ intsC [kind, at_, val, R.span, 0, 0, 0, 0, 0, 0, 0, 0] := by rw [flatE_append]; simp [flatE]
                rw [e1]; exact her)
              refine WL.done (WX.heldOn ⟨_, HB⟩ ?_)
              refine WH.done (by kernel_rfl) ?_
              replace H := H.callM (L := []) HB
              refine WX.next ?_
              refine WC.seq ?_
              refine WC.region ?_
              refine WL.assign rfl rfl ?_
              refine (WL.done (WX.next ?_))
              refine (WC.ret ?_)
              refine ret_one rfl rfl ?_
              have e1 : R.abs.putErr at_ val = 0 := by unfold PM.putErr; rw [if_neg g1, hh, if_pos rfl, hwd, if_pos rfl, hln, if_neg hst]
              refine ⟨(R.upd A B { l with ps := l.ps ++ [(at_ % 8, val)] } r2).noted [kind, at_, val, R.span, 0, 0, 0, 0, 0, 0, 0, 0] er, by rw [e1], rfl, ?_, hok3, H⟩
              unfold PM.put
              rw [e1, if_pos rfl, RR.abs_noted, RR.abs_upd hX hA, hln, hk, Int.toNat_natCast]
              rfl
            · -- op 13 first
              refine WL.buildSlice1 HB Tryd.underlying30 (sz := 12) (by simp only [Tryd.underlying164]; exact ty164) (by omega) zer164 rfl rfl rfl rfl ?_
              intro gn wx hgn hggn HB
              refine WL.done (WX.heldOn ⟨_, HB⟩ ?_)
              refine WH.hard 4 rfl (by kernel_rfl) ?_
              first | refine WL.load rfl (Rd.q2 (HB.blk 0 rfl)) rfl ?_ | refine WL.load rfl (Rd.q2 (HB.blk 1 rfl)) rfl ?_
              refine WL.done (WX.heldOn ⟨_, HB⟩ ?_)
              refine WH.hard 14 rfl (by kernel_rfl) ?_
              replace HB := St.pull3 (M := ((R.upd A B { l with ps := l.ps ++ [(at_ % 8, val)] } r2)).er.hp 164) (K := pendHp ((R.upd A B { l with ps := l.ps ++ [(at_ % 8, val)] } r2)).X) HB
              refine WL.append (m := 1) (news := intsC [kind, at_, val, R.span, 0, 0, 0, 0, 0, 0, 0, 0]) app30 HB hok2.er rfl rfl rfl (fun j u hj => by rw [addr_add, cell_of (HB.sat _ (List.mem_append_right _ List.mem_cons_self)), Nat.zero_add]; simpa [intsC, Value.cells, arrC, RR.upd] using hj) (intsC_one _) (by simp only [maxLen]; omega) (by omega) rfl ?_
              intro er wx her HB
              replace HB := St.put3 HB
              refine WL.done (WX.heldOn ⟨_, HB⟩ ?_)
              refine WH.take 15 rfl (by kernel_rfl) (by kernel_rfl) (by kernel_rfl) (fun _ _ _ h => h) ⟨_, HB⟩ (fun w' hS => EX.nilCheck rfl) rfl ?_
              refine WH.take 16 rfl (by kernel_rfl) (by kernel_rfl) (by kernel_rfl) (fun _ _ _ h => h) ⟨_, HB⟩ (fun w' hS => EX.fieldAddr fld89_2 rfl) rfl ?_
              refine WH.hard 17 rfl (by kernel_rfl) ?_
              refine WL.storeAt HB ty30 1 rfl rfl rfl (Row.val_size _ _) (Row.val_one _ _) (Nat.le_refl 3) ?_
              intro wx HB
              replace HB := HB.castH (H' := (gn, _) :: (((R.upd A B { l with ps := l.ps ++ [(at_ % 8, val)] } r2)).noted [kind, at_, val, R.span, 0, 0, 0, 0, 0, 0, 0, 0] er).hp) (by
                rw [Row.val_cells]
                unfold RR.hp structQ
                rw [show (((R.upd A B { l with ps := l.ps ++ [(at_ % 8, val)] } r2)).noted [kind, at_, val, R.span, 0, 0, 0, 0, 0, 0, 0, 0] er).evs.length = ((R.upd A B { l with ps := l.ps ++ [(at_ % 8, val)] } r2)).evs.length + 1 from by simp [RR.noted]]
                rfl)
              replace HB := HB.tail
              have hok3 : (((R.upd A B { l with ps := l.ps ++ [(at_ % 8, val)] } r2)).noted [kind, at_, val, R.span, 0, 0, 0, 0, 0, 0, 0, 0] er).ok := hok2.noted rfl (by
                have e1 : flatE (((R.upd A B { l with ps := l.ps ++ [(at_ % 8, val)] } r2)).evs ++ [[kind, at_, val, R.span, 0, 0, 0, 0, 0, 0, 0, 0]]) = flatE ((R.upd A B { l with ps := l.ps ++ [(at_ % 8, val)] } r2)).evs ++ intsC [kind, at_, val, R.span, 0, 0, 0, 0, 0, 0, 0, 0] := by rw [flatE_append]; simp [flatE]
                rw [e1]; exact her)
              refine WL.done (WX.heldOn ⟨_, HB⟩ ?_)
              refine WH.done (by kernel_rfl) ?_
              replace H := H.callM (L := []) HB
              refine WX.next ?_
              refine WC.seq ?_
              refine WC.region ?_
              refine WL.assign rfl rfl ?_
              refine (WL.done (WX.next ?_))
              refine (WC.ret ?_)
              refine ret_one rfl rfl ?_
              have e1 : R.abs.putErr at_ val = 0 := by unfold PM.putErr; rw [if_neg g1, hh, if_pos rfl, hwd, if_pos rfl, hln, if_neg hst]
              refine ⟨(R.upd A B { l with ps := l.ps ++ [(at_ % 8, val)] } r2).noted [kind, at_, val, R.span, 0, 0, 0, 0, 0, 0, 0, 0] er, by rw [e1], rfl, ?_, hok3, H⟩
              unfold PM.put
              rw [e1, if_pos rfl, RR.abs_noted, RR.abs_upd hX hA, hln, hk, Int.toNat_natCast]
              rfl

theorem rstore_any (R : RR) (at_ val : Int) (ha : at_ ≤ 9223372036854775807) (hsm : R.evs.length < 1073741824) (hps : ∀ x ∈ R.X, x.1.ps.length < 1073741824) (w : World) (hm : RIn w R) : Calls Tryd.prog 126 #[ptr R.p, .int .i64 at_, .int .i64 val] w fun e w' => ∃ R' : RR, e = .returned (.int .i64 (R.abs.putErr at_ val)) ∧ R'.p = R.p ∧ R'.abs = R.abs.put 1 at_ val ∧ R'.ok ∧ St w (R.hp.map Prod.fst) w' R'.hp := by
  refine calls_walk_n (args := [ptr R.p, .int .i64 at_, .int .i64 val]) Tryd.func126 rfl rfl rfl ?_
  have H := hm.start
  refine WC.seq ?_
  refine WC.region ?_
  refine WL.assign rfl rfl ?_
  refine (WL.done (WX.next ?_))
  refine WC.seq ?_
  refine WC.region ?_
  refine WL.move rfl rfl ?_
  refine WL.move rfl rfl ?_
  refine WL.move rfl rfl ?_
  refine WL.call call179 rfl rfl ?_
  refine Calls.mono (rput_any R at_ val 1 ha hsm hps _ hm) ?_
  rintro _ wx ⟨R1, rfl, hp1, ha1, hok1, Hc⟩
  refine ⟨_, rfl, ?_⟩
  replace H := H.callM (L := []) Hc
  refine WL.assign rfl rfl ?_
  refine (WL.done (WX.next ?_))
  refine (WC.ret ?_)
  refine ret_one rfl rfl ?_
  exact ⟨R1, rfl, hp1, ha1, hok1, H⟩

theorem rpublish_any (R : RR) (at_ val : Int) (ha : at_ ≤ 9223372036854775807) (hsm : R.evs.length < 1073741824) (hps : ∀ x ∈ R.X, x.1.ps.length < 1073741824) (w : World) (hm : RIn w R) : Calls Tryd.prog 127 #[ptr R.p, .int .i64 at_, .int .i64 val] w fun e w' => ∃ R' : RR, e = .returned (.int .i64 (R.abs.putErr at_ val)) ∧ R'.p = R.p ∧ R'.abs = R.abs.put 2 at_ val ∧ R'.ok ∧ St w (R.hp.map Prod.fst) w' R'.hp := by
  refine calls_walk_n (args := [ptr R.p, .int .i64 at_, .int .i64 val]) Tryd.func127 rfl rfl rfl ?_
  have H := hm.start
  refine WC.seq ?_
  refine WC.region ?_
  refine WL.assign rfl rfl ?_
  refine (WL.done (WX.next ?_))
  refine WC.seq ?_
  refine WC.region ?_
  refine WL.move rfl rfl ?_
  refine WL.move rfl rfl ?_
  refine WL.move rfl rfl ?_
  refine WL.call call179 rfl rfl ?_
  refine Calls.mono (rput_any R at_ val 2 ha hsm hps _ hm) ?_
  rintro _ wx ⟨R1, rfl, hp1, ha1, hok1, Hc⟩
  refine ⟨_, rfl, ?_⟩
  replace H := H.callM (L := []) Hc
  refine WL.assign rfl rfl ?_
  refine (WL.done (WX.next ?_))
  refine (WC.ret ?_)
  refine ret_one rfl rfl ?_
  exact ⟨R1, rfl, hp1, ha1, hok1, H⟩

end Go.Proofs.YtkncbggnaobgeaaDoor
