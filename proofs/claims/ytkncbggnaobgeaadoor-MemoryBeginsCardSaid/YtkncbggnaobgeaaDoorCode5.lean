/- Walks of functions of the program; printed by a program of this session (walk.py) out of hand-written hints. -/
import Derived.Test.YtkncbggnaobgeaaDoorCode4
namespace Go.Proofs.YtkncbggnaobgeaaDoor
open Go.RowKit
set_option linter.unusedVariables false
set_option linter.unusedSimpArgs false
set_option maxRecDepth 100000

theorem chk_cases {ws : List Int} {c : Int} (hc : isCode c = true) : chk ws c = (0, 0, 0) ∨ chk ws c = (2, 0, 0) ∨ ∃ x y : Nat, chk ws c = (1, (x : Int), (y : Int)) ∧ ((x < 8 ∧ y < 40) ∨ (x = 8 ∧ y < 10)) := by
  have hsl := syn_lt ws
  have hmask : c.toNat &&& 511 < 512 := Nat.lt_of_le_of_lt Nat.and_le_right (by omega)
  have hxor : syn ws ^^^ (c.toNat &&& 511) < 512 := Nat.xor_lt_two_pow (n := 9) hsl hmask
  unfold chk
  split
  · simp only []
    split
    · split
      · exact .inr (.inr ⟨8, 9, rfl, by omega⟩)
      · rename_i hs0
        split
        · rename_i hp
          have h1 : (syn ws ^^^ (c.toNat &&& 511)) &&& ((syn ws ^^^ (c.toNat &&& 511)) - 1) = 0 := by simpa [isPow2] using hp
          have := pow2_log _ hxor hs0 h1
          exact .inr (.inr ⟨8, _, rfl, by omega⟩)
        · split
          · rename_i j hj
            have : j < 320 := by simpa using List.mem_of_find?_eq_some hj
            exact .inr (.inr ⟨j / 40, j % 40, rfl, by omega⟩)
          · exact .inr (.inl rfl)
    · split
      · exact .inl rfl
      · exact .inr (.inl rfl)
  · exact .inr (.inl rfl)

theorem fix_any (ws : List Int) (h8 : ws.length = 8) (c : Int) (w : World) (hL : L64 w) : Calls Tryd.prog 172 #[arr ws, .int .i64 c] w fun e w' => e = .returned (.tuple #[arr (fix ws c).1, .int .i64 (fix ws c).2.1, .int .i64 (fix ws c).2.2]) ∧ St w [] w' [] := by
  refine calls_walk_n (args := [arr ws, .int .i64 c]) Tryd.func172 rfl rfl rfl ?_
  have H := St.refl w
  refine WC.seq ?_
  refine WC.region ?_
  refine WL.boxArr H rfl rfl ?_
  intro b2 wx hb2 hge2 H
  refine WL.allocArr (ws := zeros8) H zer38 rfl rfl ?_
  intro b4 wx hb4 hge4 H
  refine WL.assign rfl rfl ?_
  refine WL.assign rfl rfl ?_
  refine (WL.done (WX.next ?_))
  refine WC.seq ?_
  refine WC.seq ?_
  refine WC.region ?_
  first | refine WL.load rfl (H.rdArr ty38 1 rfl (by first | exact h8 | (rw [flipBit]; split <;> simp [h8]))) rfl ?_ | refine WL.load rfl (H.rdArr ty38 0 rfl (by first | rfl | exact h8 | (rw [flipBit]; split <;> simp [h8]))) rfl ?_
  refine WL.move rfl rfl ?_
  refine WL.call call161 rfl rfl ?_
  refine Calls.mono (valid_any ws c h8 _) ?_
  rintro _ wx ⟨rfl, Hc⟩
  refine ⟨_, rfl, ?_⟩
  replace H := H.call0 Hc
  refine WL.notOp rfl rfl ?_
  refine (WL.done (WX.next ?_))
  first | refine WC.cond_dec rfl (fun c1 => ?_) (fun c1 => ?_) | refine WC.cond rfl (fun c1 => ?_) (fun c1 => ?_)
  · -- c1 T
    have hv : (isWords ws && isCode c) = false := by cases hh : (isWords ws && isCode c) <;> simp [hh] at c1 ⊢
    refine WC.seq ?_
    refine WC.region ?_
    refine WL.buildA (z := arrC zeros8) arr38 zer38 rfl rfl rfl ?_
    refine WL.storeArr (ws' := zeros8) H ty38 0 rfl rfl rfl (by rw [arrC_size]; rfl) rfl ?_
    intro wx H
    refine WL.assign rfl rfl ?_
    refine WL.assign rfl rfl ?_
    refine (WL.done (WX.next ?_))
    refine (WC.ret (WX.then_ret ?_))
    refine ret_three rfl ⟨_, rfl, by first | exact H.rdArr ty38 1 rfl (by first | exact h8 | (rw [flipBit]; split <;> simp [h8])) | exact H.rdArr ty38 0 rfl (by first | rfl | exact h8 | (rw [flipBit]; split <;> simp [h8]))⟩ rfl rfl ?_
    have e1 : fix ws c = (zeros8, 0, 1) := by unfold fix; rw [hv]; rfl
    rw [e1]
    exact ⟨rfl, H.weaken (List.nil_sublist _)⟩
  · -- c1 F
    have hv : (isWords ws && isCode c) = true := by cases hh : (isWords ws && isCode c) <;> simp [hh] at c1 ⊢
    have hw : isWords ws = true := by rw [Bool.and_eq_true] at hv; exact hv.1
    have hcc : isCode c = true := by rw [Bool.and_eq_true] at hv; exact hv.2
    refine (WC.skip (WX.next ?_))
    refine WC.seq ?_
    refine WC.region ?_
    first | refine WL.load rfl (H.rdArr ty38 1 rfl (by first | exact h8 | (rw [flipBit]; split <;> simp [h8]))) rfl ?_ | refine WL.load rfl (H.rdArr ty38 0 rfl (by first | rfl | exact h8 | (rw [flipBit]; split <;> simp [h8]))) rfl ?_
    refine WL.move rfl rfl ?_
    refine WL.call call102 rfl rfl ?_
    refine Calls.mono (chk_any ws h8 c _ (hL.of0 H)) ?_
    rintro _ wx ⟨rfl, Hc⟩
    refine ⟨_, rfl, ?_⟩
    replace H := H.call0 Hc
    refine WL.move rfl rfl ?_
    refine WL.extract rfl rfl rfl ?_
    refine WL.extract rfl rfl rfl ?_
    refine WL.extract rfl rfl rfl ?_
    refine WL.assign rfl rfl ?_
    refine WL.assign rfl rfl ?_
    refine WL.assign rfl rfl ?_
    refine (WL.done (WX.next ?_))
    refine WC.seq ?_
    refine WC.seq ?_
    refine WC.region ?_
    refine WL.move rfl rfl ?_
    refine (WL.done (WX.next ?_))
    refine WC.block ?_
    refine WC.seq ?_
    refine WC.region ?_
    refine WL.bin rfl rfl binv_eql rfl ?_
    refine WL.assign rfl rfl ?_
    refine (WL.done (WX.next ?_))
    first | refine WC.cond_dec rfl (fun c2 => ?_) (fun c2 => ?_) | refine WC.cond rfl (fun c2 => ?_) (fun c2 => ?_)
    · -- c2 T
      refine WC.seq ?_
      refine WC.region ?_
      refine WL.buildA (z := arrC zeros8) arr38 zer38 rfl rfl rfl ?_
      refine WL.storeArr (ws' := zeros8) H ty38 0 rfl rfl rfl (by rw [arrC_size]; rfl) rfl ?_
      intro wx H
      refine WL.assign rfl rfl ?_
      refine WL.assign rfl rfl ?_
      refine (WL.done (WX.next ?_))
      refine (WC.ret (WX.block_ret (WX.then_ret ?_)))
      refine ret_three rfl ⟨_, rfl, by first | exact H.rdArr ty38 1 rfl (by first | exact h8 | (rw [flipBit]; split <;> simp [h8])) | exact H.rdArr ty38 0 rfl (by first | rfl | exact h8 | (rw [flipBit]; split <;> simp [h8]))⟩ rfl rfl ?_
      have e1 : fix ws c = (zeros8, 0, 9) := by
        rcases chk_cases (ws := ws) hcc with h | h | ⟨x, y, h, _⟩
        · rw [h] at c2; exact absurd c2 (by decide)
        · unfold fix; rw [hv, h]; rfl
        · rw [h] at c2; simp at c2
      rw [e1]
      exact ⟨rfl, H.weaken (List.nil_sublist _)⟩
    · -- c2 F
      refine WC.seq ?_
      refine WC.region ?_
      refine WL.bin rfl rfl binv_eql rfl ?_
      refine WL.assign rfl rfl ?_
      refine (WL.done (WX.next ?_))
      first | refine WC.cond_dec rfl (fun c3 => ?_) (fun c3 => ?_) | refine WC.cond rfl (fun c3 => ?_) (fun c3 => ?_)
      · -- c3 T
        obtain ⟨x, y, hxe, hxy⟩ : ∃ x y : Nat, chk ws c = (1, (x : Int), (y : Int)) ∧ ((x < 8 ∧ y < 40) ∨ (x = 8 ∧ y < 10)) := by
          rcases chk_cases (ws := ws) hcc with h | h | h
          · rw [h] at c3; exact absurd c3 (by decide)
          · rw [h] at c3; exact absurd c3 (by decide)
          · exact h
        rw [hxe]
        refine WC.region ?_
        first | refine WL.load rfl (H.rdArr ty38 1 rfl (by first | exact h8 | (rw [flipBit]; split <;> simp [h8]))) rfl ?_ | refine WL.load rfl (H.rdArr ty38 0 rfl (by first | rfl | exact h8 | (rw [flipBit]; split <;> simp [h8]))) rfl ?_
        refine WL.move rfl rfl ?_
        refine WL.move rfl rfl ?_
        refine WL.move rfl rfl ?_
        refine WL.call call204 rfl rfl ?_
        refine Calls.mono (flip_any ws h8 hw c hcc x y hxy _) ?_
        rintro _ wx ⟨rfl, Hc⟩
        refine ⟨_, rfl, ?_⟩
        replace H := H.call0 Hc
        refine WL.move rfl rfl ?_
        refine WL.extract rfl rfl rfl ?_
        refine WL.extract rfl rfl rfl ?_
        refine WL.storeArr (ws' := (flipBit ws c x y).1) H ty38 1 rfl rfl rfl (by rw [arrC_size]; exact h8) (by rw [flipBit]; split <;> simp [h8]) ?_
        intro wx H
        refine WL.assign rfl rfl ?_
        refine (WL.done (WX.block_normal (WX.next ?_)))
        refine WC.seq ?_
        refine WC.region ?_
        first | refine WL.load rfl (H.rdArr ty38 1 rfl (by first | exact h8 | (rw [flipBit]; split <;> simp [h8]))) rfl ?_ | refine WL.load rfl (H.rdArr ty38 0 rfl (by first | rfl | exact h8 | (rw [flipBit]; split <;> simp [h8]))) rfl ?_
        refine WL.move rfl rfl ?_
        first | (refine WL.storeArr (ws' := ws) H ty38 0 rfl rfl rfl (by rw [arrC_size]; rfl) h8 ?_) | (refine WL.storeArr (ws' := (flipBit ws c x y).1) H ty38 0 rfl rfl rfl (by rw [arrC_size]; rfl) (by rw [flipBit]; split <;> simp [h8]) ?_)
        intro wx H
        refine WL.assign rfl rfl ?_
        refine WL.assign rfl rfl ?_
        refine (WL.done (WX.next ?_))
        refine (WC.ret ?_)
        refine ret_three rfl ⟨_, rfl, by first | exact H.rdArr ty38 1 rfl (by first | exact h8 | (rw [flipBit]; split <;> simp [h8])) | exact H.rdArr ty38 0 rfl (by first | rfl | exact h8 | (rw [flipBit]; split <;> simp [h8]))⟩ rfl rfl ?_
        have e1 : fix ws c = ((flipBit ws c x y).1, (flipBit ws c x y).2, 0) := by unfold fix; rw [hv, hxe]; rfl
        rw [e1]
        exact ⟨rfl, H.weaken (List.nil_sublist _)⟩
      · -- c3 F
        refine (WC.skip (WX.block_normal (WX.next ?_)))
        refine WC.seq ?_
        refine WC.region ?_
        first | refine WL.load rfl (H.rdArr ty38 1 rfl (by first | exact h8 | (rw [flipBit]; split <;> simp [h8]))) rfl ?_ | refine WL.load rfl (H.rdArr ty38 0 rfl (by first | rfl | exact h8 | (rw [flipBit]; split <;> simp [h8]))) rfl ?_
        refine WL.move rfl rfl ?_
        first | (refine WL.storeArr (ws' := ws) H ty38 0 rfl rfl rfl (by rw [arrC_size]; rfl) h8 ?_) | (refine WL.storeArr (ws' := (flipBit ws c x y).1) H ty38 0 rfl rfl rfl (by rw [arrC_size]; rfl) (by rw [flipBit]; split <;> simp [h8]) ?_)
        intro wx H
        refine WL.assign rfl rfl ?_
        refine WL.assign rfl rfl ?_
        refine (WL.done (WX.next ?_))
        refine (WC.ret ?_)
        refine ret_three rfl ⟨_, rfl, by first | exact H.rdArr ty38 1 rfl (by first | exact h8 | (rw [flipBit]; split <;> simp [h8])) | exact H.rdArr ty38 0 rfl (by first | rfl | exact h8 | (rw [flipBit]; split <;> simp [h8]))⟩ rfl rfl ?_
        have e1 : fix ws c = (ws, c, 0) := by
          rcases chk_cases (ws := ws) hcc with h | h | ⟨x, y, h, _⟩
          · unfold fix; rw [hv, h]; rfl
          · rw [h] at c2; exact absurd rfl c2
          · rw [h] at c3; exact absurd rfl c3
        rw [e1]
        exact ⟨rfl, H.weaken (List.nil_sublist _)⟩

end Go.Proofs.YtkncbggnaobgeaaDoor
