/- Walks of functions of the program; printed by a program of this session (walk.py) out of hand-written hints. -/
import Derived.Test.YtkncbggnaobgeaaDoorCode2
import Derived.Test.YtkncbggnaobgeaaDoorEx
namespace Go.Proofs.YtkncbggnaobgeaaDoor
open Go.RowKit
set_option linter.unusedVariables false
set_option linter.unusedSimpArgs false
set_option maxRecDepth 100000

theorem flip_words {ws : List Int} {g b : Nat} (h8 : ws.length = 8) (hw : isWords ws = true) (hg : g < 8) (hb : b < 40) : (ws.getD g 0).toNat ^^^ 2 ^ b < 2 ^ 40 ∧ isWords (ws.set g (((ws.getD g 0).toNat ^^^ 2 ^ b : Nat) : Int)) = true := by
  have h1 := isWords_get hw (g := g) (by omega)
  have h2 : (ws.getD g 0).toNat ^^^ 2 ^ b < 2 ^ 40 := Nat.xor_lt_two_pow (by omega) (Nat.pow_lt_pow_right (by omega) hb)
  refine ⟨h2, ?_⟩
  unfold isWords at hw ⊢
  rw [List.all_eq_true] at hw ⊢
  intro x hx
  rcases List.mem_or_eq_of_mem_set hx with hx | rfl
  · exact hw x hx
  · exact isWord_iff.2 ⟨by omega, by omega⟩
theorem pow_lt63 {b : Nat} (hb : b < 40) : (1 : Int) * 2 ^ b ≤ 9223372036854775807 ∧ (1 : Int) * 2 ^ b = ((2 ^ b : Nat) : Int) ∧ 2 ^ b < 9223372036854775808 := by
  have h : 2 ^ b < 2 ^ 40 := Nat.pow_lt_pow_right (by omega) hb
  have e : (1 : Int) * 2 ^ b = ((2 ^ b : Nat) : Int) := by rw [Int.natCast_pow, Int.one_mul]; rfl
  exact ⟨by rw [e]; omega, e, by omega⟩

theorem encode_any (ws : List Int) (h8 : ws.length = 8) (w : World) (hL : L64 w) : Calls Tryd.prog 97 #[arr ws] w fun e w' => e = .returned (.int .i64 (enc ws)) ∧ St w [] w' [] := by
  refine calls_walk_n (args := [arr ws]) Tryd.func97 rfl rfl rfl ?_
  have H := St.refl w
  refine WC.seq ?_
  refine WC.region ?_
  refine WL.boxArr H rfl rfl ?_
  intro b1 wx hb1 hge1 H
  refine WL.assign rfl rfl ?_
  refine (WL.done (WX.next ?_))
  refine WC.seq ?_
  refine WC.seq ?_
  refine WC.region ?_
  first | refine WL.load rfl (H.rdArr ty38 0 rfl h8) rfl ?_
  refine WL.call call161 rfl rfl ?_
  refine Calls.mono (valid_any ws 0 h8 _) ?_
  rintro _ wx ⟨rfl, Hc⟩
  refine ⟨_, rfl, ?_⟩
  replace H := H.call0 Hc
  refine WL.notOp rfl rfl ?_
  refine (WL.done (WX.next ?_))
  first | refine WC.cond_dec rfl (fun c1 => ?_) (fun c1 => ?_) | refine WC.cond rfl (fun c1 => ?_) (fun c1 => ?_)
  · -- c1 T
    have hno : isWords ws = false := by simpa [isCode] using c1
    refine WC.seq ?_
    refine WC.region ?_
    refine WL.assign rfl rfl ?_
    refine (WL.done (WX.next ?_))
    refine (WC.ret (WX.then_ret ?_))
    refine ret_one rfl rfl ?_
    exact ⟨by rw [enc, hno]; rfl, H.tail⟩
  · -- c1 F
    have hw : isWords ws = true := by simpa [isCode] using c1
    have hsl := syn_lt ws
    have hcl := cnt_le ws
    have hpl : popc (syn ws) ≤ 10 := by unfold popc; omega
    refine (WC.skip (WX.next ?_))
    refine WC.seq ?_
    refine WC.region ?_
    first | refine WL.load rfl (H.rdArr ty38 0 rfl h8) rfl ?_
    refine WL.call call162 rfl rfl ?_
    refine Calls.mono (sum_any ws h8 hw _ (hL.of0 H)) ?_
    rintro _ wx ⟨rfl, Hc⟩
    refine ⟨_, rfl, ?_⟩
    replace H := H.call0 Hc
    refine WL.move rfl rfl ?_
    refine WL.extract rfl rfl rfl ?_
    refine WL.extract rfl rfl rfl ?_
    refine WL.assign rfl rfl ?_
    refine WL.assign rfl rfl ?_
    refine (WL.done (WX.next ?_))
    refine WC.seq ?_
    refine WC.seq ?_
    refine WC.region ?_
    refine WL.move rfl rfl ?_
    refine WL.move rfl rfl ?_
    refine WL.convert int3 int214 rfl (wrap_u64 (by omega) (by omega)) rfl ?_
    refine WL.call call163 rfl rfl ?_
    refine Calls.mono (oc_any (syn ws) (by omega) _) ?_
    rintro _ wx ⟨rfl, rfl⟩
    refine ⟨_, rfl, ?_⟩
    refine WL.bin rfl rfl (iadd (by omega) (by omega)) rfl ?_
    refine WL.bin rfl rfl (irem (by omega) (by omega)) rfl ?_
    refine WL.bin rfl rfl binv_eql rfl ?_
    refine (WL.done (WX.next ?_))
    first | refine WC.cond_dec rfl (fun c2 => ?_) (fun c2 => ?_) | refine WC.cond rfl (fun c2 => ?_) (fun c2 => ?_)
    · -- c2 T
      refine WC.region ?_
      refine WL.move rfl rfl ?_
      refine WL.bin rfl rfl (iorN (b := 512) rfl rfl (by omega) (by omega)) rfl ?_
      refine WL.assign rfl rfl ?_
      refine (WL.done (WX.next ?_))
      refine WC.seq ?_
      refine WC.region ?_
      refine WL.move rfl rfl ?_
      refine WL.assign rfl rfl ?_
      refine (WL.done (WX.next ?_))
      refine (WC.ret ?_)
      refine ret_one rfl rfl ?_
      exact ⟨by rw [enc, if_pos hw, if_pos (by omega)], H.tail⟩
    · -- c2 F
      refine (WC.skip (WX.next ?_))
      refine WC.seq ?_
      refine WC.region ?_
      refine WL.move rfl rfl ?_
      refine WL.assign rfl rfl ?_
      refine (WL.done (WX.next ?_))
      refine (WC.ret ?_)
      refine ret_one rfl rfl ?_
      exact ⟨by rw [enc, if_pos hw, if_neg (by omega)], H.tail⟩

theorem flip_any (ws : List Int) (h8 : ws.length = 8) (hw : isWords ws = true) (c : Int) (hc : isCode c = true) (x y : Nat) (hxy : (x < 8 ∧ y < 40) ∨ (x = 8 ∧ y < 10)) (w : World) : Calls Tryd.prog 204 #[arr ws, .int .i64 c, .int .i64 (x : Int), .int .i64 (y : Int)] w fun e w' => e = .returned (.tuple #[arr (flipBit ws c x y).1, .int .i64 (flipBit ws c x y).2]) ∧ St w [] w' [] := by
  have hc1 := isCode_iff.1 hc
  have hy40 : y < 40 := by omega
  obtain ⟨p1, p2, p3⟩ := pow_lt63 hy40
  refine calls_walk_n (args := [arr ws, .int .i64 c, .int .i64 (x : Int), .int .i64 (y : Int)]) Tryd.func204 rfl rfl rfl ?_
  have H := St.refl w
  refine WC.seq ?_
  refine WC.region ?_
  refine WL.boxArr H rfl rfl ?_
  intro b4 wx hb4 hge4 H
  refine WL.allocArr (ws := zeros8) H zer38 rfl rfl ?_
  intro b8 wx hb8 hge8 H
  refine WL.assign rfl rfl ?_
  refine (WL.done (WX.next ?_))
  refine WC.seq ?_
  refine WC.block ?_
  refine WC.seq ?_
  refine WC.region ?_
  refine WL.move rfl rfl ?_
  refine WL.move rfl rfl ?_
  refine WL.call call215 rfl rfl ?_
  refine Calls.mono (exists_any _ _ _) ?_
  rintro _ wx ⟨rfl, rfl⟩
  refine ⟨_, rfl, ?_⟩
  refine WL.notOp rfl rfl ?_
  refine WL.assign rfl rfl ?_
  refine (WL.done (WX.next ?_))
  refine WC.cond_false rfl (by simp; omega) ?_
  refine WC.seq ?_
  refine WC.region ?_
  refine WL.move rfl rfl ?_
  refine WL.bin rfl rfl binv_eql rfl ?_
  refine WL.assign rfl rfl ?_
  refine (WL.done (WX.next ?_))
  first | refine WC.cond_dec rfl (fun c2 => ?_) (fun c2 => ?_) | refine WC.cond rfl (fun c2 => ?_) (fun c2 => ?_)
  · -- c2 T
    refine WC.region ?_
    refine WL.move rfl rfl ?_
    refine WL.move rfl rfl ?_
    refine WL.bin rfl rfl (ishl (m := y) rfl (by omega) (by omega) p1) rfl ?_
    rw [p2]
    refine WL.bin rfl rfl (ixorN (a := c.toNat) (by omega) rfl (by omega) (by omega)) rfl ?_
    refine WL.assign rfl rfl ?_
    refine (WL.done (WX.block_normal (WX.next ?_)))
    refine WC.seq ?_
    refine WC.region ?_
    refine WL.load rfl (H.rdArr ty38 1 rfl (by simp [h8])) rfl ?_
    refine WL.move rfl rfl ?_
    refine WL.storeArr H ty38 0 rfl rfl rfl (by rw [arrC_size]; rfl) (by simp [h8]) ?_
    intro wx H
    refine WL.assign rfl rfl ?_
    refine (WL.done (WX.next ?_))
    refine (WC.ret ?_)
    refine ret_two rfl ⟨_, rfl, by first | exact H.rdArr ty38 0 rfl (by simp [h8]) | exact H.rd1 ty38 0 rfl rfl | exact H.rdA ty38 0 rfl (by decide)⟩ rfl ?_
    exact ⟨by rw [flipBit, if_pos (by omega)], H.weaken (List.nil_sublist _)⟩
  · -- c2 F
    replace H := H.drew
    refine WC.held (SX (World.drew wx) [b4]) (by kernel_rfl) ?_
    generalize World.drew wx = wb at H ⊢
    have HB := H.single 1 rfl
    have hf := flip_words h8 hw (g := x) (b := y) (by omega) hy40
    have hg := isWords_get hw (g := x) (by omega)
    refine WH.take 0 rfl (by kernel_rfl) (by kernel_rfl) (by kernel_rfl) (fun _ _ _ h => h) ⟨_, HB⟩ (fun w' hS => EX.move rfl) rfl ?_
    refine WH.take 1 rfl (by kernel_rfl) (by kernel_rfl) (by kernel_rfl) (fun _ _ _ h => h) ⟨_, HB⟩ (fun w' hS => EX.idxArr (k := x) arr38 rfl rfl (by first | rfl | omega) (by omega)) rfl ?_
    refine WH.take 3 rfl (by kernel_rfl) (by kernel_rfl) (by kernel_rfl) (fun _ _ _ h => h) ⟨_, HB⟩ (fun w' hS => EX.move rfl) rfl ?_
    refine WH.take 4 rfl (by kernel_rfl) (by kernel_rfl) (by kernel_rfl) (fun _ _ _ h => h) ⟨_, HB⟩ (fun w' hS => EX.bin rfl rfl (p2 ▸ ishl (m := y) rfl (by omega) (by omega) p1)) rfl ?_
    refine WH.hard 2 rfl (by kernel_rfl) ?_
    refine WL.load rfl (HB.rdElt ty3 0 rfl (by omega)) rfl ?_
    refine WL.done (WX.heldOn ⟨_, HB⟩ ?_)
    refine WH.take 5 rfl (by kernel_rfl) (by kernel_rfl) (by kernel_rfl) (fun _ _ _ h => h) ⟨_, HB⟩ (fun w' hS => EX.bin rfl rfl (ixorN (a := (ws.getD x 0).toNat) (by simp only [Nat.zero_add, Nat.mul_one]; omega) rfl (by omega) (by omega))) rfl ?_
    refine WH.take 6 rfl (by kernel_rfl) (by kernel_rfl) (by kernel_rfl) (fun _ _ _ h => h) ⟨_, HB⟩ (fun w' hS => EX.idxArr (k := x) arr38 rfl rfl (by first | rfl | omega) (by omega)) rfl ?_
    refine WH.hard 7 rfl (by kernel_rfl) ?_
    refine WL.storeElt HB ty3 0 rfl rfl rfl (by omega) ?_
    intro wx HB
    refine WL.done (WX.heldOn ⟨_, HB⟩ ?_)
    refine WH.done (by kernel_rfl) ?_
    replace H := H.back (N := []) 1 rfl HB rfl
    refine (WX.block_normal (WX.next ?_))
    refine WC.seq ?_
    refine WC.region ?_
    refine WL.load rfl (H.rdArr ty38 1 rfl (by simp [h8])) rfl ?_
    refine WL.move rfl rfl ?_
    refine WL.storeArr H ty38 0 rfl rfl rfl (by rw [arrC_size]; rfl) (by simp [h8]) ?_
    intro wx H
    refine WL.assign rfl rfl ?_
    refine (WL.done (WX.next ?_))
    refine (WC.ret ?_)
    refine ret_two rfl ⟨_, rfl, by first | exact H.rdArr ty38 0 rfl (by simp [h8]) | exact H.rd1 ty38 0 rfl rfl | exact H.rdA ty38 0 rfl (by decide)⟩ rfl ?_
    exact ⟨by rw [flipBit, if_neg (by omega)]; simp only [Nat.zero_add, Nat.mul_one], H.weaken (List.nil_sublist _)⟩

end Go.Proofs.YtkncbggnaobgeaaDoor
