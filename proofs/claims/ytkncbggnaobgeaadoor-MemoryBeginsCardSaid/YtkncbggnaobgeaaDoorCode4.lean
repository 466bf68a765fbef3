/- Walks of functions of the program; printed by a program of this session (walk.py) out of hand-written hints. -/
import Derived.Test.YtkncbggnaobgeaaDoorCode3
import Derived.Test.YtkncbggnaobgeaaDoorEngR
namespace Go.Proofs.YtkncbggnaobgeaaDoor
open Go.RowKit
set_option linter.unusedVariables false
set_option linter.unusedSimpArgs false
set_option maxRecDepth 100000

/-- Where the search for the i-th position begins. -/
def pst : Nat → Nat
  | 0 => 3
  | i + 1 => posn i + 1
theorem pst_facts : ∀ i, i < 320 → 3 ≤ pst i ∧ pst i ≤ posn i ∧ posn i ≤ pst i + 1 ∧ posn i < 512 ∧ (posn i &&& (posn i - 1)) ≠ 0 ∧ (pst i < posn i → (pst i &&& (pst i - 1)) = 0) := by decide +kernel
theorem pow2_log : ∀ x, x < 512 → x ≠ 0 → (x &&& (x - 1)) = 0 → x = 2 ^ log2 x * (2 * 0 + 1) ∧ log2 x < 9 ∧ isPow2 x = true := by decide +kernel
/-- What the iterator hands to a round. -/
def posEnc (x : Nat) : List Value := [.agg #[.int .i64 ((x / 40 : Nat) : Int), .int .i64 ((x % 40 : Nat) : Int)], .int .i64 (posn x : Int)]
theorem findPos_some {s g : Nat} (hg : g < 320) (he : posn g = s) (hn : ∀ x, x < g → posn x ≠ s) : findPos s = some g := by
  unfold findPos
  rw [List.find?_range_eq_some]
  exact ⟨by simp [he], by simpa using hg, fun j hj => by simpa using hn j hj⟩
theorem findPos_none {s : Nat} (hn : ∀ x, x < 320 → posn x ≠ s) : findPos s = none := by
  unfold findPos
  rw [List.find?_eq_none]
  intro x hx
  simpa using hn x (by simpa using hx)
theorem last_of {x : Nat} {pre : List Nat} {g : Nat} (h : pre ++ [x] = List.range (g + 1)) : pre = List.range g ∧ x = g := by
  rw [List.range_succ] at h
  have := List.append_inj' h rfl
  exact ⟨this.1, by simpa using this.2⟩

theorem I.posit_seq (w : World) : SeqStopsK Fence.wide 8 Tryd.prog 203 #[] (fun x : Nat => (posEnc x).toArray) (fun _ _ => True) (fun xs => xs = List.range 320) (fun pre => ∃ g, g < 320 ∧ pre = List.range (g + 1)) 320 w := by
  intro l J Jx W _ _ _ hY h0
  refine I.callsIn_walk_n (args := [.func (.yield l) #[] #[]]) Tryd.func203 rfl rfl rfl trivial rfl ?_
  refine I.WC.seq ?_
  refine I.WC.region ?_
  refine I.WL.assign rfl rfl ?_
  refine (I.WL.done (I.WX.next ?_))
  refine I.WC.seq ?_
  refine I.WC.region ?_
  refine I.WL.move rfl rfl ?_
  refine (I.WL.done (I.WX.next ?_))
  refine I.WC.block ?_
  -- loop 1: changed [2, 4] kept [0]
  refine I.WC.loop (Sub.cons (t := 0) rfl (Sub.nil _)) (fun g : Nat => [(2, .int .i64 (pst g : Int)), (4, .int .i64 (g : Int))]) (fun k g wx => k = 320 - g ∧ g ≤ 320 ∧ J (List.range g) wx) (320) (0) (Sub.cons (t := 2) (by first | rfl | simp) (Sub.cons (t := 4) (by first | rfl | simp) (Sub.nil _))) (⟨rfl, by omega, h0⟩) ?_
  rintro k g wx hI N hN
  obtain ⟨rfl, hg, hJ⟩ := hI
  refine I.WC.seq ?_
  refine I.WC.region ?_
  refine I.WL.bin rfl rfl binv_lss rfl ?_
  refine (I.WL.done (I.WX.next ?_))
  refine I.WC.seq ?_
  first | refine I.WC.cond_dec rfl (fun c1 => ?_) (fun c1 => ?_) | refine I.WC.cond rfl (fun c1 => ?_) (fun c1 => ?_)
  · -- c1 T
    refine (I.WC.skip (I.WX.next ?_))
    refine I.WC.seq ?_
    refine I.WC.block ?_
    refine I.WC.seq ?_
    refine I.WC.region ?_
    obtain ⟨w1, hw1⟩ : ∃ w1, w1 = wx := ⟨_, rfl⟩
    subst hw1
    refine I.WL.move rfl rfl ?_
    refine I.WL.assign rfl rfl ?_
    refine (I.WL.done (I.WX.next ?_))
    refine I.WC.seq ?_
    refine I.WC.block ?_
    -- loop 2: changed [2] kept [0, 3, 4]
    have hlt : g < 320 := by omega
    obtain ⟨g0, hg0⟩ : ∃ g0, g0 = g := ⟨_, rfl⟩
    subst hg0
    have hN0 := hN
    clear hN
    have hp := pst_facts g0 hlt
    refine I.WC.loop (Sub.cons (t := 0) rfl (Sub.cons (t := 3) rfl (Sub.cons (t := 4) rfl (Sub.nil _)))) (fun t : Nat => [(2, .int .i64 (t : Int))]) (fun k t wx => k = posn g0 - t ∧ pst g0 ≤ t ∧ t ≤ posn g0 ∧ wx = w1) (posn g0 - pst g0) (pst g0) (Sub.cons (t := 2) (by first | rfl | simp) (Sub.nil _)) (⟨rfl, by omega, by omega, rfl⟩) ?_
    rintro k g wx hI N hN
    obtain ⟨rfl, ht1, ht2, rfl⟩ := hI
    refine I.WC.seq ?_
    refine I.WC.seq ?_
    refine I.WC.region ?_
    refine I.WL.move rfl rfl ?_
    refine I.WL.move rfl rfl ?_
    refine I.WL.bin rfl rfl (isub (by omega) (by omega)) rfl ?_
    refine I.WL.bin rfl rfl (iandN (a := g) (b := g - 1) rfl (by omega) (by omega) (by omega)) rfl ?_
    refine I.WL.bin rfl rfl binv_eql rfl ?_
    refine (I.WL.done (I.WX.next ?_))
    first | refine I.WC.cond_dec rfl (fun c2 => ?_) (fun c2 => ?_) | refine I.WC.cond rfl (fun c2 => ?_) (fun c2 => ?_)
    · -- c2 T
      have hne : g ≠ posn g0 := fun e => by subst e; exact hp.2.2.2.2.1 (by omega)
      refine (I.WC.skip (I.WX.next ?_))
      refine I.WC.block ?_
      refine I.WC.region ?_
      refine I.WL.move rfl rfl ?_
      refine I.WL.bin rfl rfl (iadd (by omega) (by omega)) rfl ?_
      refine I.WL.assign rfl rfl ?_
      refine (I.WL.done (WX.block_normal (WX.round ?_)))
      exact hN _ (g+1) _ _ (by omega) ⟨rfl, by omega, by omega, rfl⟩ (Sub.cons (t := 2) (by first | rfl | simp) (Sub.nil _)) (Sub.cons (t := 0) rfl (Sub.cons (t := 3) rfl (Sub.cons (t := 4) rfl (Sub.nil _))))
    · -- c2 F
      have hge : g = posn g0 := by
        rcases Nat.lt_or_ge g (posn g0) with hl | hl
        · exact absurd (by rw [show g = pst g0 from by omega]; rw [hp.2.2.2.2.2 (by omega)]; rfl) c2
        · omega
      subst hge
      refine (I.WC.exit (WX.then_exit (WX.then_exit (WX.block_exit (I.WX.next ?_)))))
      refine I.WC.seq ?_
      refine I.WC.seq ?_
      refine I.WC.region ?_
      refine I.WL.move rfl rfl ?_
      refine I.WL.move rfl rfl ?_
      first | refine I.WL.bin rfl rfl (iquo (by omega) (by omega) (by omega)) rfl ?_ | refine I.WL.bin rfl rfl (iquoT (by omega) (by omega) (by omega)) rfl ?_
      refine I.WL.move rfl rfl ?_
      first | refine I.WL.bin rfl rfl (irem (by omega) (by omega)) rfl ?_ | refine I.WL.bin rfl rfl (iremT (by omega)) rfl ?_
      refine I.WL.build pla230 zer230 rfl rfl rfl ?_
      refine I.WL.move rfl rfl ?_
      refine I.WL.yield (vs := posEnc g0) rfl rfl rfl (hY (List.range g0) g0 _ hJ (by simp; omega)) ?_
      intro ed wy hR
      obtain ⟨bb, rfl, hT, hF⟩ : ∃ bb, ed = .returned (.bool bb) ∧ (bb = true → J (List.range g0 ++ [g0]) wy) ∧ (bb = false → Jx (List.range g0 ++ [g0]) wy) := by
        rcases hR with ⟨rfl, h1, _⟩ | ⟨rfl, h1⟩
        · exact ⟨true, rfl, fun _ => h1, fun h => by cases h⟩
        · exact ⟨false, rfl, fun h => by (cases h), fun _ => h1⟩
      refine ⟨_, rfl, ?_⟩
      refine I.WL.notOp rfl rfl ?_
      refine (I.WL.done (I.WX.next ?_))
      first | refine I.WC.cond_dec rfl (fun c3 => ?_) (fun c3 => ?_) | refine I.WC.cond rfl (fun c3 => ?_) (fun c3 => ?_)
      · -- c3 T
        refine (I.WC.ret (WX.then_ret (WX.block_ret (WX.then_ret (WX.then_ret (WX.block_ret ?_))))))
        refine ret_none rfl ?_
        exact ⟨⟨_, rfl⟩, .inr ⟨_, ⟨g0, by omega, rfl⟩, by rw [List.range_succ]; exact hF (by simpa using c3)⟩⟩
      · -- c3 F
        have ht : bb = true := by simpa using c3
        refine (I.WC.skip (I.WX.next ?_))
        refine I.WC.region ?_
        refine I.WL.move rfl rfl ?_
        refine I.WL.bin rfl rfl (iadd (by omega) (by omega)) rfl ?_
        refine I.WL.assign rfl rfl ?_
        refine (I.WL.done (WX.block_normal (I.WX.next ?_)))
        refine I.WC.region ?_
        refine I.WL.bin rfl rfl (iadd (by omega) (by omega)) rfl ?_
        refine I.WL.move rfl rfl ?_
        refine (I.WL.done (WX.round ?_))
        exact hN0 _ (g0+1) _ _ (by omega) ⟨rfl, by omega, by rw [List.range_succ]; exact hT ht⟩ (Sub.cons (t := 2) rfl (Sub.cons (t := 4) rfl (Sub.nil _))) (Sub.cons rfl (Sub.nil _))
  · -- c1 F
    refine (I.WC.exit (WX.then_exit (WX.then_exit (WX.block_exit ?_))))
    refine end_none rfl ?_
    exact ⟨⟨_, rfl⟩, .inl ⟨_, rfl, by rw [show (320 : Nat) = g from by omega]; exact hJ⟩⟩

theorem positions_any (w : World) : Calls Tryd.prog 169 #[] w fun e w' => e = .returned (.func (.func 203) #[] #[]) ∧ w' = w := by
  refine calls_walk_n (args := []) Tryd.func169 rfl rfl rfl ?_
  refine WC.seq ?_
  refine WC.region ?_
  refine WL.assign rfl rfl ?_
  refine (WL.done (WX.next ?_))
  refine WC.seq ?_
  refine WC.region ?_
  refine WL.assign rfl rfl ?_
  refine (WL.done (WX.next ?_))
  refine (WC.ret ?_)
  refine ret_one rfl rfl ?_
  exact ⟨rfl, rfl⟩

theorem chk_any (ws : List Int) (h8 : ws.length = 8) (c : Int) (w : World) (hL : L64 w) : Calls Tryd.prog 102 #[arr ws, .int .i64 c] w fun e w' => e = .returned (.tuple #[.int .i64 (chk ws c).1, .int .i64 (chk ws c).2.1, .int .i64 (chk ws c).2.2]) ∧ St w [] w' [] := by
  refine calls_walk_marks (args := [arr ws, .int .i64 c]) Tryd.func102 rfl rfl rfl ?_
  have H := St.refl w
  refine WC.seq ?_
  refine WC.region ?_
  refine WL.boxArr H rfl rfl ?_
  intro b2 wx hb2 hge2 H
  refine WL.alloc H zer3 rfl ?_
  intro b4 wx hb4 hge4 H
  refine WL.alloc H zer3 rfl ?_
  intro b5 wx hb5 hge5 H
  refine WL.alloc H zer3 rfl ?_
  intro b6 wx hb6 hge6 H
  refine (WL.done (WX.next ?_))
  refine WC.seq ?_
  refine WC.seq ?_
  refine WC.region ?_
  first | refine WL.load rfl (H.rdArr ty38 3 rfl h8) rfl ?_ | refine WL.load rfl (H.rdArr ty38 4 rfl h8) rfl ?_ | refine WL.load rfl (H.rd1 ty38 0 rfl rfl) rfl ?_ | refine WL.load rfl (H.rd1 ty38 1 rfl rfl) rfl ?_ | refine WL.load rfl (H.rd1 ty38 2 rfl rfl) rfl ?_ | refine WL.load rfl (H.rd1 ty38 3 rfl rfl) rfl ?_ | refine WL.load rfl (H.rdA ty38 0 rfl (by decide)) rfl ?_ | refine WL.load rfl (H.rdA ty38 1 rfl (by decide)) rfl ?_ | refine WL.load rfl (H.rdA ty38 2 rfl (by decide)) rfl ?_ | refine WL.load rfl (H.rdA ty38 3 rfl (by decide)) rfl ?_
  refine WL.move rfl rfl ?_
  refine WL.call call161 rfl rfl ?_
  refine Calls.mono (valid_any ws c h8 _) ?_
  rintro _ wx ⟨rfl, Hc⟩
  refine ⟨_, rfl, ?_⟩
  replace H := H.call0 Hc
  refine WL.notOp rfl rfl ?_
  refine (WL.done (WX.next ?_))
  first | refine WC.cond_dec rfl (fun c1 => ?_) (fun c1 => ?_) | refine WC.cond rfl (fun c1 => ?_) (fun c1 => ?_)
  · -- c1 T
    have hv : (isWords ws && isCode c) = false := by cases hh : (isWords ws && isCode c) <;> simp [hh] at c1 ⊢
    refine WC.seq ?_
    refine WC.region ?_
    first | (refine WL.storeAt H ty3 0 rfl rfl rfl rfl (by simp [Value.cells, Value.oneCell']) (by first | decide | (simp only [wr_size]; decide) | simp [wr_size]) ?_) | (refine WL.storeAt H ty3 1 rfl rfl rfl rfl (by simp [Value.cells, Value.oneCell']) (by first | decide | (simp only [wr_size]; decide) | simp [wr_size]) ?_) | (refine WL.storeAt H ty3 2 rfl rfl rfl rfl (by simp [Value.cells, Value.oneCell']) (by first | decide | (simp only [wr_size]; decide) | simp [wr_size]) ?_) | (refine WL.storeAt H ty3 3 rfl rfl rfl rfl (by simp [Value.cells, Value.oneCell']) (by first | decide | (simp only [wr_size]; decide) | simp [wr_size]) ?_)
    intro wx H
    first | (refine WL.storeAt H ty3 0 rfl rfl rfl rfl (by simp [Value.cells, Value.oneCell']) (by first | decide | (simp only [wr_size]; decide) | simp [wr_size]) ?_) | (refine WL.storeAt H ty3 1 rfl rfl rfl rfl (by simp [Value.cells, Value.oneCell']) (by first | decide | (simp only [wr_size]; decide) | simp [wr_size]) ?_) | (refine WL.storeAt H ty3 2 rfl rfl rfl rfl (by simp [Value.cells, Value.oneCell']) (by first | decide | (simp only [wr_size]; decide) | simp [wr_size]) ?_) | (refine WL.storeAt H ty3 3 rfl rfl rfl rfl (by simp [Value.cells, Value.oneCell']) (by first | decide | (simp only [wr_size]; decide) | simp [wr_size]) ?_)
    intro wx H
    first | (refine WL.storeAt H ty3 0 rfl rfl rfl rfl (by simp [Value.cells, Value.oneCell']) (by first | decide | (simp only [wr_size]; decide) | simp [wr_size]) ?_) | (refine WL.storeAt H ty3 1 rfl rfl rfl rfl (by simp [Value.cells, Value.oneCell']) (by first | decide | (simp only [wr_size]; decide) | simp [wr_size]) ?_) | (refine WL.storeAt H ty3 2 rfl rfl rfl rfl (by simp [Value.cells, Value.oneCell']) (by first | decide | (simp only [wr_size]; decide) | simp [wr_size]) ?_) | (refine WL.storeAt H ty3 3 rfl rfl rfl rfl (by simp [Value.cells, Value.oneCell']) (by first | decide | (simp only [wr_size]; decide) | simp [wr_size]) ?_)
    intro wx H
    refine (WL.done (WX.next ?_))
    refine (WC.ret (WX.then_ret ?_))
    refine WX.retM ?_
    refine ret_three rfl ⟨_, rfl, by first | exact H.rd1 ty3 0 rfl rfl | exact H.rd1 ty3 1 rfl rfl | exact H.rd1 ty3 2 rfl rfl | exact H.rd1 ty3 3 rfl rfl | exact H.rdA ty3 0 rfl (by decide) | exact H.rdA ty3 1 rfl (by decide) | exact H.rdA ty3 2 rfl (by decide) | exact H.rdA ty3 3 rfl (by decide)⟩ ⟨_, rfl, by first | exact H.rd1 ty3 0 rfl rfl | exact H.rd1 ty3 1 rfl rfl | exact H.rd1 ty3 2 rfl rfl | exact H.rd1 ty3 3 rfl rfl | exact H.rdA ty3 0 rfl (by decide) | exact H.rdA ty3 1 rfl (by decide) | exact H.rdA ty3 2 rfl (by decide) | exact H.rdA ty3 3 rfl (by decide)⟩ ⟨_, rfl, by first | exact H.rd1 ty3 0 rfl rfl | exact H.rd1 ty3 1 rfl rfl | exact H.rd1 ty3 2 rfl rfl | exact H.rd1 ty3 3 rfl rfl | exact H.rdA ty3 0 rfl (by decide) | exact H.rdA ty3 1 rfl (by decide) | exact H.rdA ty3 2 rfl (by decide) | exact H.rdA ty3 3 rfl (by decide)⟩ ?_
    have e : chk ws c = (2, 0, 0) := by unfold chk; rw [hv]; rfl
    rw [e]
    exact ⟨rfl, H.weaken (List.nil_sublist _)⟩
  · -- c1 F
    have hv : (isWords ws && isCode c) = true := by cases hh : (isWords ws && isCode c) <;> simp [hh] at c1 ⊢
    have hw : isWords ws = true := by rw [Bool.and_eq_true] at hv; exact hv.1
    have hcc := isCode_iff.1 (by rw [Bool.and_eq_true] at hv; exact hv.2)
    obtain ⟨c, rfl⟩ : ∃ n : Nat, c = (n : Int) := ⟨c.toNat, by omega⟩
    have hc : c < 1024 := by omega
    have hsl := syn_lt ws
    have hcl := cnt_le ws
    have hpl : popc c ≤ 10 := by unfold popc; omega
    have hmask : c &&& 511 < 512 := Nat.lt_of_le_of_lt Nat.and_le_right (by omega)
    have hxor : syn ws ^^^ (c &&& 511) < 512 := Nat.xor_lt_two_pow (n := 9) hsl hmask
    refine (WC.skip (WX.next ?_))
    refine WC.seq ?_
    refine WC.region ?_
    first | refine WL.load rfl (H.rdArr ty38 3 rfl h8) rfl ?_ | refine WL.load rfl (H.rdArr ty38 4 rfl h8) rfl ?_ | refine WL.load rfl (H.rd1 ty38 0 rfl rfl) rfl ?_ | refine WL.load rfl (H.rd1 ty38 1 rfl rfl) rfl ?_ | refine WL.load rfl (H.rd1 ty38 2 rfl rfl) rfl ?_ | refine WL.load rfl (H.rd1 ty38 3 rfl rfl) rfl ?_ | refine WL.load rfl (H.rdA ty38 0 rfl (by decide)) rfl ?_ | refine WL.load rfl (H.rdA ty38 1 rfl (by decide)) rfl ?_ | refine WL.load rfl (H.rdA ty38 2 rfl (by decide)) rfl ?_ | refine WL.load rfl (H.rdA ty38 3 rfl (by decide)) rfl ?_
    refine WL.call call162 rfl rfl ?_
    refine Calls.mono (sum_any ws h8 hw _ (hL.of0 H)) ?_
    rintro _ wx ⟨rfl, Hc⟩
    refine ⟨_, rfl, ?_⟩
    replace H := H.call0 Hc
    refine WL.move rfl rfl ?_
    refine WL.extract rfl rfl rfl ?_
    refine WL.extract rfl rfl rfl ?_
    refine WL.alloc H zer3 rfl ?_
    intro b7 wx hb7 hge7 H
    first | (refine WL.storeAt H ty3 0 rfl rfl rfl rfl (by simp [Value.cells, Value.oneCell']) (by first | decide | (simp only [wr_size]; decide) | simp [wr_size]) ?_) | (refine WL.storeAt H ty3 1 rfl rfl rfl rfl (by simp [Value.cells, Value.oneCell']) (by first | decide | (simp only [wr_size]; decide) | simp [wr_size]) ?_) | (refine WL.storeAt H ty3 2 rfl rfl rfl rfl (by simp [Value.cells, Value.oneCell']) (by first | decide | (simp only [wr_size]; decide) | simp [wr_size]) ?_) | (refine WL.storeAt H ty3 3 rfl rfl rfl rfl (by simp [Value.cells, Value.oneCell']) (by first | decide | (simp only [wr_size]; decide) | simp [wr_size]) ?_) | (refine WL.storeAt H ty3 4 rfl rfl rfl rfl (by simp [Value.cells, Value.oneCell']) (by first | decide | (simp only [wr_size]; decide) | simp [wr_size]) ?_)
    intro wx H
    refine WL.assign rfl rfl ?_
    refine (WL.done (WX.next ?_))
    refine WC.seq ?_
    refine WC.region ?_
    first | refine WL.load rfl (H.rd1 ty3 0 rfl rfl) rfl ?_ | refine WL.load rfl (H.rd1 ty3 1 rfl rfl) rfl ?_ | refine WL.load rfl (H.rd1 ty3 2 rfl rfl) rfl ?_ | refine WL.load rfl (H.rd1 ty3 3 rfl rfl) rfl ?_ | refine WL.load rfl (H.rd1 ty3 4 rfl rfl) rfl ?_ | refine WL.load rfl (H.rdA ty3 0 rfl (by decide)) rfl ?_ | refine WL.load rfl (H.rdA ty3 1 rfl (by decide)) rfl ?_ | refine WL.load rfl (H.rdA ty3 2 rfl (by decide)) rfl ?_ | refine WL.load rfl (H.rdA ty3 3 rfl (by decide)) rfl ?_ | refine WL.load rfl (H.rdA ty3 4 rfl (by decide)) rfl ?_
    refine WL.move rfl rfl ?_
    refine WL.bin rfl rfl (iandN (a := c) (b := 511) rfl rfl (by omega) (by omega)) rfl ?_
    refine WL.bin rfl rfl (ixorN (a := syn ws) rfl rfl (by omega) (by omega)) rfl ?_
    first | (refine WL.storeAt H ty3 0 rfl rfl rfl rfl (by simp [Value.cells, Value.oneCell']) (by first | decide | (simp only [wr_size]; decide) | simp [wr_size]) ?_) | (refine WL.storeAt H ty3 1 rfl rfl rfl rfl (by simp [Value.cells, Value.oneCell']) (by first | decide | (simp only [wr_size]; decide) | simp [wr_size]) ?_) | (refine WL.storeAt H ty3 2 rfl rfl rfl rfl (by simp [Value.cells, Value.oneCell']) (by first | decide | (simp only [wr_size]; decide) | simp [wr_size]) ?_) | (refine WL.storeAt H ty3 3 rfl rfl rfl rfl (by simp [Value.cells, Value.oneCell']) (by first | decide | (simp only [wr_size]; decide) | simp [wr_size]) ?_) | (refine WL.storeAt H ty3 4 rfl rfl rfl rfl (by simp [Value.cells, Value.oneCell']) (by first | decide | (simp only [wr_size]; decide) | simp [wr_size]) ?_)
    intro wx H
    refine (WL.done (WX.next ?_))
    refine WC.seq ?_
    refine WC.region ?_
    refine WL.move rfl rfl ?_
    refine WL.move rfl rfl ?_
    refine WL.convert int3 int214 rfl (by first | exact wrap_i64 (by omega) (by omega) | exact wrap_u64 (by omega) (by omega)) rfl ?_
    refine WL.call call163 rfl rfl ?_
    refine Calls.mono (oc_any c hc _) ?_
    rintro _ wx ⟨rfl, rfl⟩
    refine ⟨_, rfl, ?_⟩
    refine WL.bin rfl rfl (iadd (by omega) (by omega)) rfl ?_
    first | refine WL.bin rfl rfl (irem (by omega) (by omega)) rfl ?_ | refine WL.bin rfl rfl (iremT (by omega)) rfl ?_
    refine WL.bin rfl rfl binv_eql rfl ?_
    refine WL.assign rfl rfl ?_
    refine (WL.done (WX.next ?_))
    refine WC.seq ?_
    refine WC.block ?_
    refine WC.seq ?_
    refine WC.region ?_
    refine WL.move rfl rfl ?_
    refine WL.notOp rfl rfl ?_
    refine WL.move rfl rfl ?_
    first | refine WL.splitD (t := 35) rfl (fun g1 => ?_) (fun g1 => ?_) | refine WL.split (t := 35) rfl (fun g1 => ?_) (fun g1 => ?_)
    · -- g1 True
      refine WL.yes rfl rfl ?_
      first | refine WL.load rfl (H.rd1 ty3 0 rfl rfl) rfl ?_ | refine WL.load rfl (H.rd1 ty3 1 rfl rfl) rfl ?_ | refine WL.load rfl (H.rd1 ty3 2 rfl rfl) rfl ?_ | refine WL.load rfl (H.rd1 ty3 3 rfl rfl) rfl ?_ | refine WL.load rfl (H.rd1 ty3 4 rfl rfl) rfl ?_ | refine WL.load rfl (H.rdA ty3 0 rfl (by decide)) rfl ?_ | refine WL.load rfl (H.rdA ty3 1 rfl (by decide)) rfl ?_ | refine WL.load rfl (H.rdA ty3 2 rfl (by decide)) rfl ?_ | refine WL.load rfl (H.rdA ty3 3 rfl (by decide)) rfl ?_ | refine WL.load rfl (H.rdA ty3 4 rfl (by decide)) rfl ?_
      refine WL.yes rfl rfl ?_
      refine WL.bin rfl rfl binv_eql rfl ?_
      refine WL.pickT rfl rfl rfl ?_
      refine WL.assign rfl rfl ?_
      refine (WL.done (WX.next ?_))
      first | refine WC.cond_dec rfl (fun c2 => ?_) (fun c2 => ?_) | refine WC.cond rfl (fun c2 => ?_) (fun c2 => ?_)
      · -- c2 T
        refine WC.seq ?_
        refine WC.region ?_
        first | (refine WL.storeAt H ty3 0 rfl rfl rfl rfl (by simp [Value.cells, Value.oneCell']) (by first | decide | (simp only [wr_size]; decide) | simp [wr_size]) ?_) | (refine WL.storeAt H ty3 1 rfl rfl rfl rfl (by simp [Value.cells, Value.oneCell']) (by first | decide | (simp only [wr_size]; decide) | simp [wr_size]) ?_) | (refine WL.storeAt H ty3 2 rfl rfl rfl rfl (by simp [Value.cells, Value.oneCell']) (by first | decide | (simp only [wr_size]; decide) | simp [wr_size]) ?_) | (refine WL.storeAt H ty3 3 rfl rfl rfl rfl (by simp [Value.cells, Value.oneCell']) (by first | decide | (simp only [wr_size]; decide) | simp [wr_size]) ?_) | (refine WL.storeAt H ty3 4 rfl rfl rfl rfl (by simp [Value.cells, Value.oneCell']) (by first | decide | (simp only [wr_size]; decide) | simp [wr_size]) ?_)
        intro wx H
        first | (refine WL.storeAt H ty3 0 rfl rfl rfl rfl (by simp [Value.cells, Value.oneCell']) (by first | decide | (simp only [wr_size]; decide) | simp [wr_size]) ?_) | (refine WL.storeAt H ty3 1 rfl rfl rfl rfl (by simp [Value.cells, Value.oneCell']) (by first | decide | (simp only [wr_size]; decide) | simp [wr_size]) ?_) | (refine WL.storeAt H ty3 2 rfl rfl rfl rfl (by simp [Value.cells, Value.oneCell']) (by first | decide | (simp only [wr_size]; decide) | simp [wr_size]) ?_) | (refine WL.storeAt H ty3 3 rfl rfl rfl rfl (by simp [Value.cells, Value.oneCell']) (by first | decide | (simp only [wr_size]; decide) | simp [wr_size]) ?_) | (refine WL.storeAt H ty3 4 rfl rfl rfl rfl (by simp [Value.cells, Value.oneCell']) (by first | decide | (simp only [wr_size]; decide) | simp [wr_size]) ?_)
        intro wx H
        first | (refine WL.storeAt H ty3 0 rfl rfl rfl rfl (by simp [Value.cells, Value.oneCell']) (by first | decide | (simp only [wr_size]; decide) | simp [wr_size]) ?_) | (refine WL.storeAt H ty3 1 rfl rfl rfl rfl (by simp [Value.cells, Value.oneCell']) (by first | decide | (simp only [wr_size]; decide) | simp [wr_size]) ?_) | (refine WL.storeAt H ty3 2 rfl rfl rfl rfl (by simp [Value.cells, Value.oneCell']) (by first | decide | (simp only [wr_size]; decide) | simp [wr_size]) ?_) | (refine WL.storeAt H ty3 3 rfl rfl rfl rfl (by simp [Value.cells, Value.oneCell']) (by first | decide | (simp only [wr_size]; decide) | simp [wr_size]) ?_) | (refine WL.storeAt H ty3 4 rfl rfl rfl rfl (by simp [Value.cells, Value.oneCell']) (by first | decide | (simp only [wr_size]; decide) | simp [wr_size]) ?_)
        intro wx H
        refine (WL.done (WX.next ?_))
        refine (WC.ret (WX.block_ret (WX.then_ret ?_)))
        refine WX.retM ?_
        refine ret_three rfl ⟨_, rfl, by first | exact H.rd1 ty3 0 rfl rfl | exact H.rd1 ty3 1 rfl rfl | exact H.rd1 ty3 2 rfl rfl | exact H.rd1 ty3 3 rfl rfl | exact H.rd1 ty3 4 rfl rfl | exact H.rdA ty3 0 rfl (by decide) | exact H.rdA ty3 1 rfl (by decide) | exact H.rdA ty3 2 rfl (by decide) | exact H.rdA ty3 3 rfl (by decide) | exact H.rdA ty3 4 rfl (by decide)⟩ ⟨_, rfl, by first | exact H.rd1 ty3 0 rfl rfl | exact H.rd1 ty3 1 rfl rfl | exact H.rd1 ty3 2 rfl rfl | exact H.rd1 ty3 3 rfl rfl | exact H.rd1 ty3 4 rfl rfl | exact H.rdA ty3 0 rfl (by decide) | exact H.rdA ty3 1 rfl (by decide) | exact H.rdA ty3 2 rfl (by decide) | exact H.rdA ty3 3 rfl (by decide) | exact H.rdA ty3 4 rfl (by decide)⟩ ⟨_, rfl, by first | exact H.rd1 ty3 0 rfl rfl | exact H.rd1 ty3 1 rfl rfl | exact H.rd1 ty3 2 rfl rfl | exact H.rd1 ty3 3 rfl rfl | exact H.rd1 ty3 4 rfl rfl | exact H.rdA ty3 0 rfl (by decide) | exact H.rdA ty3 1 rfl (by decide) | exact H.rdA ty3 2 rfl (by decide) | exact H.rdA ty3 3 rfl (by decide) | exact H.rdA ty3 4 rfl (by decide)⟩ ?_
        have hev : ¬ (cnt ws + popc c) % 2 = 1 := by have := g1; simp at this; omega
        have e : chk ws c = (0, 0, 0) := by unfold chk; simp only [hv, if_true, Int.toNat_natCast]; rw [if_neg hev, if_pos (by omega)]
        rw [e]
        exact ⟨rfl, H.weaken (List.nil_sublist _)⟩
      · -- c2 F
        refine WC.seq ?_
        refine WC.region ?_
        refine WL.move rfl rfl ?_
        refine WL.notOp rfl rfl ?_
        refine WL.assign rfl rfl ?_
        refine (WL.done (WX.next ?_))
        first | refine WC.cond_dec rfl (fun c3 => ?_) (fun c3 => ?_) | refine WC.cond rfl (fun c3 => ?_) (fun c3 => ?_)
        · -- c3 T
          refine WC.seq ?_
          refine WC.region ?_
          first | (refine WL.storeAt H ty3 0 rfl rfl rfl rfl (by simp [Value.cells, Value.oneCell']) (by first | decide | (simp only [wr_size]; decide) | simp [wr_size]) ?_) | (refine WL.storeAt H ty3 1 rfl rfl rfl rfl (by simp [Value.cells, Value.oneCell']) (by first | decide | (simp only [wr_size]; decide) | simp [wr_size]) ?_) | (refine WL.storeAt H ty3 2 rfl rfl rfl rfl (by simp [Value.cells, Value.oneCell']) (by first | decide | (simp only [wr_size]; decide) | simp [wr_size]) ?_) | (refine WL.storeAt H ty3 3 rfl rfl rfl rfl (by simp [Value.cells, Value.oneCell']) (by first | decide | (simp only [wr_size]; decide) | simp [wr_size]) ?_) | (refine WL.storeAt H ty3 4 rfl rfl rfl rfl (by simp [Value.cells, Value.oneCell']) (by first | decide | (simp only [wr_size]; decide) | simp [wr_size]) ?_)
          intro wx H
          first | (refine WL.storeAt H ty3 0 rfl rfl rfl rfl (by simp [Value.cells, Value.oneCell']) (by first | decide | (simp only [wr_size]; decide) | simp [wr_size]) ?_) | (refine WL.storeAt H ty3 1 rfl rfl rfl rfl (by simp [Value.cells, Value.oneCell']) (by first | decide | (simp only [wr_size]; decide) | simp [wr_size]) ?_) | (refine WL.storeAt H ty3 2 rfl rfl rfl rfl (by simp [Value.cells, Value.oneCell']) (by first | decide | (simp only [wr_size]; decide) | simp [wr_size]) ?_) | (refine WL.storeAt H ty3 3 rfl rfl rfl rfl (by simp [Value.cells, Value.oneCell']) (by first | decide | (simp only [wr_size]; decide) | simp [wr_size]) ?_) | (refine WL.storeAt H ty3 4 rfl rfl rfl rfl (by simp [Value.cells, Value.oneCell']) (by first | decide | (simp only [wr_size]; decide) | simp [wr_size]) ?_)
          intro wx H
          first | (refine WL.storeAt H ty3 0 rfl rfl rfl rfl (by simp [Value.cells, Value.oneCell']) (by first | decide | (simp only [wr_size]; decide) | simp [wr_size]) ?_) | (refine WL.storeAt H ty3 1 rfl rfl rfl rfl (by simp [Value.cells, Value.oneCell']) (by first | decide | (simp only [wr_size]; decide) | simp [wr_size]) ?_) | (refine WL.storeAt H ty3 2 rfl rfl rfl rfl (by simp [Value.cells, Value.oneCell']) (by first | decide | (simp only [wr_size]; decide) | simp [wr_size]) ?_) | (refine WL.storeAt H ty3 3 rfl rfl rfl rfl (by simp [Value.cells, Value.oneCell']) (by first | decide | (simp only [wr_size]; decide) | simp [wr_size]) ?_) | (refine WL.storeAt H ty3 4 rfl rfl rfl rfl (by simp [Value.cells, Value.oneCell']) (by first | decide | (simp only [wr_size]; decide) | simp [wr_size]) ?_)
          intro wx H
          refine (WL.done (WX.next ?_))
          refine (WC.ret (WX.block_ret (WX.then_ret ?_)))
          refine WX.retM ?_
          refine ret_three rfl ⟨_, rfl, by first | exact H.rd1 ty3 0 rfl rfl | exact H.rd1 ty3 1 rfl rfl | exact H.rd1 ty3 2 rfl rfl | exact H.rd1 ty3 3 rfl rfl | exact H.rd1 ty3 4 rfl rfl | exact H.rdA ty3 0 rfl (by decide) | exact H.rdA ty3 1 rfl (by decide) | exact H.rdA ty3 2 rfl (by decide) | exact H.rdA ty3 3 rfl (by decide) | exact H.rdA ty3 4 rfl (by decide)⟩ ⟨_, rfl, by first | exact H.rd1 ty3 0 rfl rfl | exact H.rd1 ty3 1 rfl rfl | exact H.rd1 ty3 2 rfl rfl | exact H.rd1 ty3 3 rfl rfl | exact H.rd1 ty3 4 rfl rfl | exact H.rdA ty3 0 rfl (by decide) | exact H.rdA ty3 1 rfl (by decide) | exact H.rdA ty3 2 rfl (by decide) | exact H.rdA ty3 3 rfl (by decide) | exact H.rdA ty3 4 rfl (by decide)⟩ ⟨_, rfl, by first | exact H.rd1 ty3 0 rfl rfl | exact H.rd1 ty3 1 rfl rfl | exact H.rd1 ty3 2 rfl rfl | exact H.rd1 ty3 3 rfl rfl | exact H.rd1 ty3 4 rfl rfl | exact H.rdA ty3 0 rfl (by decide) | exact H.rdA ty3 1 rfl (by decide) | exact H.rdA ty3 2 rfl (by decide) | exact H.rdA ty3 3 rfl (by decide) | exact H.rdA ty3 4 rfl (by decide)⟩ ?_
          have hev : ¬ (cnt ws + popc c) % 2 = 1 := by have := g1; simp at this; omega
          have e : chk ws c = (2, 0, 0) := by unfold chk; simp only [hv, if_true, Int.toNat_natCast]; rw [if_neg hev, if_neg (by omega)]
          rw [e]
          exact ⟨rfl, H.weaken (List.nil_sublist _)⟩
        · -- c3 F
          exact absurd (g1.symm.trans c3) (by decide)
    · -- g1 False
      refine WL.no rfl rfl rfl ?_
      refine WL.no rfl rfl rfl ?_
      refine WL.pickF rfl rfl rfl ?_
      refine WL.assign rfl rfl ?_
      refine (WL.done (WX.next ?_))
      refine WC.cond_false rfl (rfl) ?_
      refine WC.seq ?_
      refine WC.region ?_
      refine WL.move rfl rfl ?_
      refine WL.notOp rfl rfl ?_
      refine WL.assign rfl rfl ?_
      refine (WL.done (WX.next ?_))
      first | refine WC.cond_dec rfl (fun c5 => ?_) (fun c5 => ?_) | refine WC.cond rfl (fun c5 => ?_) (fun c5 => ?_)
      · -- c5 T
        exact absurd (g1.symm.trans c5) (by decide)
      · -- c5 F
        have hodd : (cnt ws + popc c) % 2 = 1 := by have := g1; simp at this; omega
        refine WC.seq ?_
        refine WC.region ?_
        first | refine WL.load rfl (H.rd1 ty3 0 rfl rfl) rfl ?_ | refine WL.load rfl (H.rd1 ty3 1 rfl rfl) rfl ?_ | refine WL.load rfl (H.rd1 ty3 2 rfl rfl) rfl ?_ | refine WL.load rfl (H.rd1 ty3 3 rfl rfl) rfl ?_ | refine WL.load rfl (H.rd1 ty3 4 rfl rfl) rfl ?_ | refine WL.load rfl (H.rdA ty3 0 rfl (by decide)) rfl ?_ | refine WL.load rfl (H.rdA ty3 1 rfl (by decide)) rfl ?_ | refine WL.load rfl (H.rdA ty3 2 rfl (by decide)) rfl ?_ | refine WL.load rfl (H.rdA ty3 3 rfl (by decide)) rfl ?_ | refine WL.load rfl (H.rdA ty3 4 rfl (by decide)) rfl ?_
        refine WL.bin rfl rfl binv_eql rfl ?_
        refine WL.assign rfl rfl ?_
        refine (WL.done (WX.next ?_))
        first | refine WC.cond_dec rfl (fun c6 => ?_) (fun c6 => ?_) | refine WC.cond rfl (fun c6 => ?_) (fun c6 => ?_)
        · -- c6 T
          refine WC.seq ?_
          refine WC.region ?_
          first | (refine WL.storeAt H ty3 0 rfl rfl rfl rfl (by simp [Value.cells, Value.oneCell']) (by first | decide | (simp only [wr_size]; decide) | simp [wr_size]) ?_) | (refine WL.storeAt H ty3 1 rfl rfl rfl rfl (by simp [Value.cells, Value.oneCell']) (by first | decide | (simp only [wr_size]; decide) | simp [wr_size]) ?_) | (refine WL.storeAt H ty3 2 rfl rfl rfl rfl (by simp [Value.cells, Value.oneCell']) (by first | decide | (simp only [wr_size]; decide) | simp [wr_size]) ?_) | (refine WL.storeAt H ty3 3 rfl rfl rfl rfl (by simp [Value.cells, Value.oneCell']) (by first | decide | (simp only [wr_size]; decide) | simp [wr_size]) ?_) | (refine WL.storeAt H ty3 4 rfl rfl rfl rfl (by simp [Value.cells, Value.oneCell']) (by first | decide | (simp only [wr_size]; decide) | simp [wr_size]) ?_)
          intro wx H
          first | (refine WL.storeAt H ty3 0 rfl rfl rfl rfl (by simp [Value.cells, Value.oneCell']) (by first | decide | (simp only [wr_size]; decide) | simp [wr_size]) ?_) | (refine WL.storeAt H ty3 1 rfl rfl rfl rfl (by simp [Value.cells, Value.oneCell']) (by first | decide | (simp only [wr_size]; decide) | simp [wr_size]) ?_) | (refine WL.storeAt H ty3 2 rfl rfl rfl rfl (by simp [Value.cells, Value.oneCell']) (by first | decide | (simp only [wr_size]; decide) | simp [wr_size]) ?_) | (refine WL.storeAt H ty3 3 rfl rfl rfl rfl (by simp [Value.cells, Value.oneCell']) (by first | decide | (simp only [wr_size]; decide) | simp [wr_size]) ?_) | (refine WL.storeAt H ty3 4 rfl rfl rfl rfl (by simp [Value.cells, Value.oneCell']) (by first | decide | (simp only [wr_size]; decide) | simp [wr_size]) ?_)
          intro wx H
          first | (refine WL.storeAt H ty3 0 rfl rfl rfl rfl (by simp [Value.cells, Value.oneCell']) (by first | decide | (simp only [wr_size]; decide) | simp [wr_size]) ?_) | (refine WL.storeAt H ty3 1 rfl rfl rfl rfl (by simp [Value.cells, Value.oneCell']) (by first | decide | (simp only [wr_size]; decide) | simp [wr_size]) ?_) | (refine WL.storeAt H ty3 2 rfl rfl rfl rfl (by simp [Value.cells, Value.oneCell']) (by first | decide | (simp only [wr_size]; decide) | simp [wr_size]) ?_) | (refine WL.storeAt H ty3 3 rfl rfl rfl rfl (by simp [Value.cells, Value.oneCell']) (by first | decide | (simp only [wr_size]; decide) | simp [wr_size]) ?_) | (refine WL.storeAt H ty3 4 rfl rfl rfl rfl (by simp [Value.cells, Value.oneCell']) (by first | decide | (simp only [wr_size]; decide) | simp [wr_size]) ?_)
          intro wx H
          refine (WL.done (WX.next ?_))
          refine (WC.ret (WX.block_ret (WX.then_ret ?_)))
          refine WX.retM ?_
          refine ret_three rfl ⟨_, rfl, by first | exact H.rd1 ty3 0 rfl rfl | exact H.rd1 ty3 1 rfl rfl | exact H.rd1 ty3 2 rfl rfl | exact H.rd1 ty3 3 rfl rfl | exact H.rd1 ty3 4 rfl rfl | exact H.rdA ty3 0 rfl (by decide) | exact H.rdA ty3 1 rfl (by decide) | exact H.rdA ty3 2 rfl (by decide) | exact H.rdA ty3 3 rfl (by decide) | exact H.rdA ty3 4 rfl (by decide)⟩ ⟨_, rfl, by first | exact H.rd1 ty3 0 rfl rfl | exact H.rd1 ty3 1 rfl rfl | exact H.rd1 ty3 2 rfl rfl | exact H.rd1 ty3 3 rfl rfl | exact H.rd1 ty3 4 rfl rfl | exact H.rdA ty3 0 rfl (by decide) | exact H.rdA ty3 1 rfl (by decide) | exact H.rdA ty3 2 rfl (by decide) | exact H.rdA ty3 3 rfl (by decide) | exact H.rdA ty3 4 rfl (by decide)⟩ ⟨_, rfl, by first | exact H.rd1 ty3 0 rfl rfl | exact H.rd1 ty3 1 rfl rfl | exact H.rd1 ty3 2 rfl rfl | exact H.rd1 ty3 3 rfl rfl | exact H.rd1 ty3 4 rfl rfl | exact H.rdA ty3 0 rfl (by decide) | exact H.rdA ty3 1 rfl (by decide) | exact H.rdA ty3 2 rfl (by decide) | exact H.rdA ty3 3 rfl (by decide) | exact H.rdA ty3 4 rfl (by decide)⟩ ?_
          have e : chk ws c = (1, 8, 9) := by unfold chk; simp only [hv, if_true, Int.toNat_natCast]; rw [if_pos hodd, if_pos (by omega)]
          rw [e]
          exact ⟨rfl, H.weaken (List.nil_sublist _)⟩
        · -- c6 F
          refine WC.seq ?_
          refine WC.region ?_
          first | refine WL.load rfl (H.rd1 ty3 0 rfl rfl) rfl ?_ | refine WL.load rfl (H.rd1 ty3 1 rfl rfl) rfl ?_ | refine WL.load rfl (H.rd1 ty3 2 rfl rfl) rfl ?_ | refine WL.load rfl (H.rd1 ty3 3 rfl rfl) rfl ?_ | refine WL.load rfl (H.rd1 ty3 4 rfl rfl) rfl ?_ | refine WL.load rfl (H.rdA ty3 0 rfl (by decide)) rfl ?_ | refine WL.load rfl (H.rdA ty3 1 rfl (by decide)) rfl ?_ | refine WL.load rfl (H.rdA ty3 2 rfl (by decide)) rfl ?_ | refine WL.load rfl (H.rdA ty3 3 rfl (by decide)) rfl ?_ | refine WL.load rfl (H.rdA ty3 4 rfl (by decide)) rfl ?_
          first | refine WL.load rfl (H.rd1 ty3 0 rfl rfl) rfl ?_ | refine WL.load rfl (H.rd1 ty3 1 rfl rfl) rfl ?_ | refine WL.load rfl (H.rd1 ty3 2 rfl rfl) rfl ?_ | refine WL.load rfl (H.rd1 ty3 3 rfl rfl) rfl ?_ | refine WL.load rfl (H.rd1 ty3 4 rfl rfl) rfl ?_ | refine WL.load rfl (H.rdA ty3 0 rfl (by decide)) rfl ?_ | refine WL.load rfl (H.rdA ty3 1 rfl (by decide)) rfl ?_ | refine WL.load rfl (H.rdA ty3 2 rfl (by decide)) rfl ?_ | refine WL.load rfl (H.rdA ty3 3 rfl (by decide)) rfl ?_ | refine WL.load rfl (H.rdA ty3 4 rfl (by decide)) rfl ?_
          refine WL.bin rfl rfl (isub (by omega) (by omega)) rfl ?_
          refine WL.bin rfl rfl (iandN (a := syn ws ^^^ (c &&& 511)) (b := (syn ws ^^^ (c &&& 511)) - 1) rfl (by omega) (by omega) (by omega)) rfl ?_
          refine WL.bin rfl rfl binv_eql rfl ?_
          refine WL.assign rfl rfl ?_
          refine (WL.done (WX.next ?_))
          first | refine WC.cond_dec rfl (fun c7 => ?_) (fun c7 => ?_) | refine WC.cond rfl (fun c7 => ?_) (fun c7 => ?_)
          · -- c7 T
            have hlog := pow2_log _ hxor (by omega) (by omega)
            refine WC.seq ?_
            refine WC.region ?_
            first | refine WL.load rfl (H.rd1 ty3 0 rfl rfl) rfl ?_ | refine WL.load rfl (H.rd1 ty3 1 rfl rfl) rfl ?_ | refine WL.load rfl (H.rd1 ty3 2 rfl rfl) rfl ?_ | refine WL.load rfl (H.rd1 ty3 3 rfl rfl) rfl ?_ | refine WL.load rfl (H.rd1 ty3 4 rfl rfl) rfl ?_ | refine WL.load rfl (H.rdA ty3 0 rfl (by decide)) rfl ?_ | refine WL.load rfl (H.rdA ty3 1 rfl (by decide)) rfl ?_ | refine WL.load rfl (H.rdA ty3 2 rfl (by decide)) rfl ?_ | refine WL.load rfl (H.rdA ty3 3 rfl (by decide)) rfl ?_ | refine WL.load rfl (H.rdA ty3 4 rfl (by decide)) rfl ?_
            refine WL.convert int3 int214 rfl (by first | exact wrap_i64 (by omega) (by omega) | exact wrap_u64 (by omega) (by omega)) rfl ?_
            refine WL.call call168 rfl rfl ?_
            refine Calls.mono (tz_any (log2 (syn ws ^^^ (c &&& 511))) 0 _ (by rw [← hlog.1]) (by rw [← hlog.1]; omega) _ (hL.of0 H)) ?_
            rintro _ wx ⟨rfl, rfl⟩
            refine ⟨_, rfl, ?_⟩
            first | (refine WL.storeAt H ty3 0 rfl rfl rfl rfl (by simp [Value.cells, Value.oneCell']) (by first | decide | (simp only [wr_size]; decide) | simp [wr_size]) ?_) | (refine WL.storeAt H ty3 1 rfl rfl rfl rfl (by simp [Value.cells, Value.oneCell']) (by first | decide | (simp only [wr_size]; decide) | simp [wr_size]) ?_) | (refine WL.storeAt H ty3 2 rfl rfl rfl rfl (by simp [Value.cells, Value.oneCell']) (by first | decide | (simp only [wr_size]; decide) | simp [wr_size]) ?_) | (refine WL.storeAt H ty3 3 rfl rfl rfl rfl (by simp [Value.cells, Value.oneCell']) (by first | decide | (simp only [wr_size]; decide) | simp [wr_size]) ?_) | (refine WL.storeAt H ty3 4 rfl rfl rfl rfl (by simp [Value.cells, Value.oneCell']) (by first | decide | (simp only [wr_size]; decide) | simp [wr_size]) ?_)
            intro wx H
            first | (refine WL.storeAt H ty3 0 rfl rfl rfl rfl (by simp [Value.cells, Value.oneCell']) (by first | decide | (simp only [wr_size]; decide) | simp [wr_size]) ?_) | (refine WL.storeAt H ty3 1 rfl rfl rfl rfl (by simp [Value.cells, Value.oneCell']) (by first | decide | (simp only [wr_size]; decide) | simp [wr_size]) ?_) | (refine WL.storeAt H ty3 2 rfl rfl rfl rfl (by simp [Value.cells, Value.oneCell']) (by first | decide | (simp only [wr_size]; decide) | simp [wr_size]) ?_) | (refine WL.storeAt H ty3 3 rfl rfl rfl rfl (by simp [Value.cells, Value.oneCell']) (by first | decide | (simp only [wr_size]; decide) | simp [wr_size]) ?_) | (refine WL.storeAt H ty3 4 rfl rfl rfl rfl (by simp [Value.cells, Value.oneCell']) (by first | decide | (simp only [wr_size]; decide) | simp [wr_size]) ?_)
            intro wx H
            first | (refine WL.storeAt H ty3 0 rfl rfl rfl rfl (by simp [Value.cells, Value.oneCell']) (by first | decide | (simp only [wr_size]; decide) | simp [wr_size]) ?_) | (refine WL.storeAt H ty3 1 rfl rfl rfl rfl (by simp [Value.cells, Value.oneCell']) (by first | decide | (simp only [wr_size]; decide) | simp [wr_size]) ?_) | (refine WL.storeAt H ty3 2 rfl rfl rfl rfl (by simp [Value.cells, Value.oneCell']) (by first | decide | (simp only [wr_size]; decide) | simp [wr_size]) ?_) | (refine WL.storeAt H ty3 3 rfl rfl rfl rfl (by simp [Value.cells, Value.oneCell']) (by first | decide | (simp only [wr_size]; decide) | simp [wr_size]) ?_) | (refine WL.storeAt H ty3 4 rfl rfl rfl rfl (by simp [Value.cells, Value.oneCell']) (by first | decide | (simp only [wr_size]; decide) | simp [wr_size]) ?_)
            intro wx H
            refine (WL.done (WX.next ?_))
            refine (WC.ret (WX.block_ret (WX.then_ret ?_)))
            refine WX.retM ?_
            refine ret_three rfl ⟨_, rfl, by first | exact H.rd1 ty3 0 rfl rfl | exact H.rd1 ty3 1 rfl rfl | exact H.rd1 ty3 2 rfl rfl | exact H.rd1 ty3 3 rfl rfl | exact H.rd1 ty3 4 rfl rfl | exact H.rdA ty3 0 rfl (by decide) | exact H.rdA ty3 1 rfl (by decide) | exact H.rdA ty3 2 rfl (by decide) | exact H.rdA ty3 3 rfl (by decide) | exact H.rdA ty3 4 rfl (by decide)⟩ ⟨_, rfl, by first | exact H.rd1 ty3 0 rfl rfl | exact H.rd1 ty3 1 rfl rfl | exact H.rd1 ty3 2 rfl rfl | exact H.rd1 ty3 3 rfl rfl | exact H.rd1 ty3 4 rfl rfl | exact H.rdA ty3 0 rfl (by decide) | exact H.rdA ty3 1 rfl (by decide) | exact H.rdA ty3 2 rfl (by decide) | exact H.rdA ty3 3 rfl (by decide) | exact H.rdA ty3 4 rfl (by decide)⟩ ⟨_, rfl, by first | exact H.rd1 ty3 0 rfl rfl | exact H.rd1 ty3 1 rfl rfl | exact H.rd1 ty3 2 rfl rfl | exact H.rd1 ty3 3 rfl rfl | exact H.rd1 ty3 4 rfl rfl | exact H.rdA ty3 0 rfl (by decide) | exact H.rdA ty3 1 rfl (by decide) | exact H.rdA ty3 2 rfl (by decide) | exact H.rdA ty3 3 rfl (by decide) | exact H.rdA ty3 4 rfl (by decide)⟩ ?_
            have e : chk ws c = (1, 8, (log2 (syn ws ^^^ (c &&& 511)) : Int)) := by unfold chk; simp only [hv, if_true, Int.toNat_natCast]; rw [if_pos hodd, if_neg (by omega), if_pos hlog.2.2]
            rw [e]
            exact ⟨rfl, H.weaken (List.nil_sublist _)⟩
          · -- c7 F
            have hnp : ¬ isPow2 (syn ws ^^^ (c &&& 511)) = true := by unfold isPow2; simp only [beq_iff_eq]; omega
            refine (WC.skip (WX.block_normal (WX.next ?_)))
            refine WC.seq ?_
            refine WC.seq ?_
            refine WC.region ?_
            refine WL.call call169 rfl rfl ?_
            refine Calls.mono (positions_any _) ?_
            rintro _ wx ⟨rfl, rfl⟩
            refine ⟨_, rfl, ?_⟩
            refine (WL.done (WX.next ?_))
            refine WC.block ?_
            -- range 1: assigned [10, 11] kept [4, 5, 6, 7]
            refine WC.rangeFunc (ps := [55, 56]) (α := Nat) (G := Nat) (encs := posEnc) (N := 320) (Ss := fun xs => xs = List.range 320) (Sp := fun pre => ∃ g, g < 320 ∧ pre = List.range (g + 1)) H (cellsH_cons (cellsH_cons (cellsH_cons (cellsH_cons (cellsH_cons cellsH_nil))))) rfl Tryd.func203 rfl rfl (fun _ => rfl) (by decide) (I.posit_seq _) (fun pre H => H = [(b7, .cells #[.int .i64 ((syn ws ^^^ (c &&& 511) : Nat) : Int)] 3), (b6, .cells #[.int .i64 0] 3), (b5, .cells #[.int .i64 0] 3), (b4, .cells #[.int .i64 0] 3), (b2, .cells (arrC ws) 38)] ∧ ∀ y ∈ pre, posn y ≠ syn ws ^^^ (c &&& 511)) (fun c0 pre H => c0 = .ret ∧ ∃ p1 x, pre = p1 ++ [x] ∧ (∀ y ∈ p1, posn y ≠ syn ws ^^^ (c &&& 511)) ∧ posn x = syn ws ^^^ (c &&& 511) ∧ H = [(b7, .cells #[.int .i64 ((syn ws ^^^ (c &&& 511) : Nat) : Int)] 3), (b6, .cells #[.int .i64 ((x % 40 : Nat) : Int)] 3), (b5, .cells #[.int .i64 ((x / 40 : Nat) : Int)] 3), (b4, .cells #[.int .i64 1] 3), (b2, .cells (arrC ws) 38)]) (fun x g => [(10, .pointer (some ⟨g, 0, none⟩)), (11, .int .i64 (posn x : Int))]) (fun x g => [(g, .cells #[.int .i64 ((x / 40 : Nat) : Int), .int .i64 ((x % 40 : Nat) : Int)] 230)]) (Sub.cons (t := 4) rfl (Sub.cons (t := 5) rfl (Sub.cons (t := 6) rfl (Sub.cons (t := 7) rfl (Sub.nil _))))) (fun _ _ _ => cellsH_cons cellsH_nil) (by rintro x g pre Hq ⟨rfl, _⟩ p hp q hq; simp only [List.mem_cons, List.not_mem_nil, or_false] at hp hq; subst hp; rcases hq with rfl | rfl | rfl | rfl | rfl <;> simp) (⟨rfl, by simp⟩) ?_ ?_ ?_ ?_
            · -- assign
              intro l pre x wx Hq hI hC H N hN
              obtain ⟨rfl, hno⟩ := hI
              refine I.WC.seq ?_
              refine I.WC.region ?_
              refine I.WL.alloc H zer230 rfl ?_
              intro b10 wx hb10 hge10 H
              first | (refine I.WL.storeAt H ty230 0 rfl rfl rfl rfl (by simp [Value.cells, Value.oneCell']) (by first | decide | (simp only [wr_size]; decide) | simp [wr_size]) ?_) | (refine I.WL.storeAt H ty230 1 rfl rfl rfl rfl (by simp [Value.cells, Value.oneCell']) (by first | decide | (simp only [wr_size]; decide) | simp [wr_size]) ?_) | (refine I.WL.storeAt H ty230 2 rfl rfl rfl rfl (by simp [Value.cells, Value.oneCell']) (by first | decide | (simp only [wr_size]; decide) | simp [wr_size]) ?_) | (refine I.WL.storeAt H ty230 3 rfl rfl rfl rfl (by simp [Value.cells, Value.oneCell']) (by first | decide | (simp only [wr_size]; decide) | simp [wr_size]) ?_) | (refine I.WL.storeAt H ty230 4 rfl rfl rfl rfl (by simp [Value.cells, Value.oneCell']) (by first | decide | (simp only [wr_size]; decide) | simp [wr_size]) ?_) | (refine I.WL.storeAt H ty230 5 rfl rfl rfl rfl (by simp [Value.cells, Value.oneCell']) (by first | decide | (simp only [wr_size]; decide) | simp [wr_size]) ?_)
              intro wx H
              refine (I.WL.done (I.WX.next ?_))
              refine I.WC.region ?_
              refine I.WL.assign rfl rfl ?_
              refine (I.WL.done (WX.round ?_))
              exact hN b10 _ _ H (Sub.cons (t := 10) (by first | rfl | simp) (Sub.cons (t := 11) (by first | rfl | simp) (Sub.nil _))) (Sub.cons (t := 4) rfl (Sub.cons (t := 5) rfl (Sub.cons (t := 6) rfl (Sub.cons (t := 7) rfl (Sub.nil _)))))
            · -- body
              intro l pre x g wx Hq hI hC hlen H
              obtain ⟨rfl, hno⟩ := hI
              refine I.WC.block ?_
              refine I.WC.seq ?_
              refine I.WC.region ?_
              refine I.WL.move rfl rfl ?_
              first | refine I.WL.load rfl (H.rd1 ty3 0 rfl rfl) rfl ?_ | refine I.WL.load rfl (H.rd1 ty3 1 rfl rfl) rfl ?_ | refine I.WL.load rfl (H.rd1 ty3 2 rfl rfl) rfl ?_ | refine I.WL.load rfl (H.rd1 ty3 3 rfl rfl) rfl ?_ | refine I.WL.load rfl (H.rd1 ty3 4 rfl rfl) rfl ?_ | refine I.WL.load rfl (H.rd1 ty3 5 rfl rfl) rfl ?_ | refine I.WL.load rfl (H.rdA ty3 0 rfl (by decide)) rfl ?_ | refine I.WL.load rfl (H.rdA ty3 1 rfl (by decide)) rfl ?_ | refine I.WL.load rfl (H.rdA ty3 2 rfl (by decide)) rfl ?_ | refine I.WL.load rfl (H.rdA ty3 3 rfl (by decide)) rfl ?_ | refine I.WL.load rfl (H.rdA ty3 4 rfl (by decide)) rfl ?_ | refine I.WL.load rfl (H.rdA ty3 5 rfl (by decide)) rfl ?_
              refine I.WL.bin rfl rfl binv_eql rfl ?_
              refine (I.WL.done (I.WX.next ?_))
              first | refine I.WC.cond_dec rfl (fun c8 => ?_) (fun c8 => ?_) | refine I.WC.cond rfl (fun c8 => ?_) (fun c8 => ?_)
              · -- c8 T
                refine I.WC.seq ?_
                replace H := H.drew
                refine I.WC.held (fun w' => ∃ H', St (World.drew wx) [g, b7, b6, b5, b4, b2] w' ((g, .cells #[.int .i64 ((x / 40 : Nat) : Int), .int .i64 ((x % 40 : Nat) : Int)] 230) :: H')) (by kernel_rfl) (fun ⟨_, _, h⟩ => h) (by rfl) ?_
                generalize World.drew wx = wb at H ⊢
                have HB : St wb [g, b7, b6, b5, b4, b2] wb _ := St.start H.nd H.sat
                refine WH.take 0 rfl (by kernel_rfl) (by kernel_rfl) (by kernel_rfl) (fun _ _ _ h => h) ⟨_, HB⟩ (fun w' hS => EX.fieldAddr fld230_0 rfl) rfl ?_
                first | refine WH.take 1 rfl (by kernel_rfl) (by kernel_rfl) (by kernel_rfl) (fun _ _ _ h => h) ⟨_, HB⟩ (fun w' hS => EX.load rfl (hS.choose_spec.rd1 ty3 0 rfl rfl)) rfl ?_
                refine WH.take 2 rfl (by kernel_rfl) (by kernel_rfl) (by kernel_rfl) (fun _ _ _ h => h) ⟨_, HB⟩ (fun w' hS => EX.fieldAddr fld230_1 rfl) rfl ?_
                first | refine WH.take 3 rfl (by kernel_rfl) (by kernel_rfl) (by kernel_rfl) (fun _ _ _ h => h) ⟨_, HB⟩ (fun w' hS => EX.load rfl (hS.choose_spec.rd1 ty3 0 rfl rfl)) rfl ?_
                refine WH.hard 4 rfl (by kernel_rfl) ?_
                first | (refine WL.storeAt HB ty3 0 rfl rfl rfl rfl (by simp [Value.cells, Value.oneCell']) (by first | decide | (simp only [wr_size]; decide) | simp [wr_size]) ?_) | (refine WL.storeAt HB ty3 1 rfl rfl rfl rfl (by simp [Value.cells, Value.oneCell']) (by first | decide | (simp only [wr_size]; decide) | simp [wr_size]) ?_) | (refine WL.storeAt HB ty3 2 rfl rfl rfl rfl (by simp [Value.cells, Value.oneCell']) (by first | decide | (simp only [wr_size]; decide) | simp [wr_size]) ?_) | (refine WL.storeAt HB ty3 3 rfl rfl rfl rfl (by simp [Value.cells, Value.oneCell']) (by first | decide | (simp only [wr_size]; decide) | simp [wr_size]) ?_) | (refine WL.storeAt HB ty3 4 rfl rfl rfl rfl (by simp [Value.cells, Value.oneCell']) (by first | decide | (simp only [wr_size]; decide) | simp [wr_size]) ?_) | (refine WL.storeAt HB ty3 5 rfl rfl rfl rfl (by simp [Value.cells, Value.oneCell']) (by first | decide | (simp only [wr_size]; decide) | simp [wr_size]) ?_)
                intro wx HB
                refine WL.done (WX.heldOn ⟨_, HB⟩ ?_)
                refine WH.hard 5 rfl (by kernel_rfl) ?_
                first | (refine WL.storeAt HB ty3 0 rfl rfl rfl rfl (by simp [Value.cells, Value.oneCell']) (by first | decide | (simp only [wr_size]; decide) | simp [wr_size]) ?_) | (refine WL.storeAt HB ty3 1 rfl rfl rfl rfl (by simp [Value.cells, Value.oneCell']) (by first | decide | (simp only [wr_size]; decide) | simp [wr_size]) ?_) | (refine WL.storeAt HB ty3 2 rfl rfl rfl rfl (by simp [Value.cells, Value.oneCell']) (by first | decide | (simp only [wr_size]; decide) | simp [wr_size]) ?_) | (refine WL.storeAt HB ty3 3 rfl rfl rfl rfl (by simp [Value.cells, Value.oneCell']) (by first | decide | (simp only [wr_size]; decide) | simp [wr_size]) ?_) | (refine WL.storeAt HB ty3 4 rfl rfl rfl rfl (by simp [Value.cells, Value.oneCell']) (by first | decide | (simp only [wr_size]; decide) | simp [wr_size]) ?_) | (refine WL.storeAt HB ty3 5 rfl rfl rfl rfl (by simp [Value.cells, Value.oneCell']) (by first | decide | (simp only [wr_size]; decide) | simp [wr_size]) ?_)
                intro wx HB
                refine WL.done (WX.heldOn ⟨_, HB⟩ ?_)
                refine WH.hard 6 rfl (by kernel_rfl) ?_
                first | (refine WL.storeAt HB ty3 0 rfl rfl rfl rfl (by simp [Value.cells, Value.oneCell']) (by first | decide | (simp only [wr_size]; decide) | simp [wr_size]) ?_) | (refine WL.storeAt HB ty3 1 rfl rfl rfl rfl (by simp [Value.cells, Value.oneCell']) (by first | decide | (simp only [wr_size]; decide) | simp [wr_size]) ?_) | (refine WL.storeAt HB ty3 2 rfl rfl rfl rfl (by simp [Value.cells, Value.oneCell']) (by first | decide | (simp only [wr_size]; decide) | simp [wr_size]) ?_) | (refine WL.storeAt HB ty3 3 rfl rfl rfl rfl (by simp [Value.cells, Value.oneCell']) (by first | decide | (simp only [wr_size]; decide) | simp [wr_size]) ?_) | (refine WL.storeAt HB ty3 4 rfl rfl rfl rfl (by simp [Value.cells, Value.oneCell']) (by first | decide | (simp only [wr_size]; decide) | simp [wr_size]) ?_) | (refine WL.storeAt HB ty3 5 rfl rfl rfl rfl (by simp [Value.cells, Value.oneCell']) (by first | decide | (simp only [wr_size]; decide) | simp [wr_size]) ?_)
                intro wx HB
                refine WL.done (WX.heldOn ⟨_, HB⟩ ?_)
                refine WH.done (by kernel_rfl) ?_
                replace H := H.rebase HB
                refine I.WX.next ?_
                refine (I.WC.ret (WX.block_ret ?_))
                exact fun a ha => ⟨_, ⟨rfl, pre, x, rfl, hno, by omega, rfl⟩, cellsH_cons (cellsH_cons (cellsH_cons (cellsH_cons (cellsH_cons cellsH_nil)))), H.tail⟩
              · -- c8 F
                refine (I.WC.skip (WX.block_normal ?_))
                exact fun a ha => ⟨_, ⟨rfl, fun y hy => (List.mem_append.1 hy).elim (hno y) (fun hy => by simp only [List.mem_singleton] at hy; subst hy; omega)⟩, cellsH_cons (cellsH_cons (cellsH_cons (cellsH_cons (cellsH_cons cellsH_nil)))), H.tail⟩
            · -- done
              intro D xs wx Hq hxs hI H
              obtain ⟨rfl, hno⟩ := hI
              subst hxs
              refine (WX.block_normal (WX.next ?_))
              refine WC.seq ?_
              refine WC.region ?_
              first | (refine WL.storeAt H ty3 0 rfl rfl rfl rfl (by simp [Value.cells, Value.oneCell']) (by first | decide | (simp only [wr_size]; decide) | simp [wr_size]) ?_) | (refine WL.storeAt H ty3 1 rfl rfl rfl rfl (by simp [Value.cells, Value.oneCell']) (by first | decide | (simp only [wr_size]; decide) | simp [wr_size]) ?_) | (refine WL.storeAt H ty3 2 rfl rfl rfl rfl (by simp [Value.cells, Value.oneCell']) (by first | decide | (simp only [wr_size]; decide) | simp [wr_size]) ?_) | (refine WL.storeAt H ty3 3 rfl rfl rfl rfl (by simp [Value.cells, Value.oneCell']) (by first | decide | (simp only [wr_size]; decide) | simp [wr_size]) ?_) | (refine WL.storeAt H ty3 4 rfl rfl rfl rfl (by simp [Value.cells, Value.oneCell']) (by first | decide | (simp only [wr_size]; decide) | simp [wr_size]) ?_) | (refine WL.storeAt H ty3 5 rfl rfl rfl rfl (by simp [Value.cells, Value.oneCell']) (by first | decide | (simp only [wr_size]; decide) | simp [wr_size]) ?_)
              intro wx H
              first | (refine WL.storeAt H ty3 0 rfl rfl rfl rfl (by simp [Value.cells, Value.oneCell']) (by first | decide | (simp only [wr_size]; decide) | simp [wr_size]) ?_) | (refine WL.storeAt H ty3 1 rfl rfl rfl rfl (by simp [Value.cells, Value.oneCell']) (by first | decide | (simp only [wr_size]; decide) | simp [wr_size]) ?_) | (refine WL.storeAt H ty3 2 rfl rfl rfl rfl (by simp [Value.cells, Value.oneCell']) (by first | decide | (simp only [wr_size]; decide) | simp [wr_size]) ?_) | (refine WL.storeAt H ty3 3 rfl rfl rfl rfl (by simp [Value.cells, Value.oneCell']) (by first | decide | (simp only [wr_size]; decide) | simp [wr_size]) ?_) | (refine WL.storeAt H ty3 4 rfl rfl rfl rfl (by simp [Value.cells, Value.oneCell']) (by first | decide | (simp only [wr_size]; decide) | simp [wr_size]) ?_) | (refine WL.storeAt H ty3 5 rfl rfl rfl rfl (by simp [Value.cells, Value.oneCell']) (by first | decide | (simp only [wr_size]; decide) | simp [wr_size]) ?_)
              intro wx H
              first | (refine WL.storeAt H ty3 0 rfl rfl rfl rfl (by simp [Value.cells, Value.oneCell']) (by first | decide | (simp only [wr_size]; decide) | simp [wr_size]) ?_) | (refine WL.storeAt H ty3 1 rfl rfl rfl rfl (by simp [Value.cells, Value.oneCell']) (by first | decide | (simp only [wr_size]; decide) | simp [wr_size]) ?_) | (refine WL.storeAt H ty3 2 rfl rfl rfl rfl (by simp [Value.cells, Value.oneCell']) (by first | decide | (simp only [wr_size]; decide) | simp [wr_size]) ?_) | (refine WL.storeAt H ty3 3 rfl rfl rfl rfl (by simp [Value.cells, Value.oneCell']) (by first | decide | (simp only [wr_size]; decide) | simp [wr_size]) ?_) | (refine WL.storeAt H ty3 4 rfl rfl rfl rfl (by simp [Value.cells, Value.oneCell']) (by first | decide | (simp only [wr_size]; decide) | simp [wr_size]) ?_) | (refine WL.storeAt H ty3 5 rfl rfl rfl rfl (by simp [Value.cells, Value.oneCell']) (by first | decide | (simp only [wr_size]; decide) | simp [wr_size]) ?_)
              intro wx H
              refine (WL.done (WX.next ?_))
              refine (WC.ret ?_)
              refine WX.retD H (fun wy H => ?_)
              refine ret_three rfl ⟨_, rfl, by first | exact H.rd1 ty3 0 rfl rfl | exact H.rd1 ty3 1 rfl rfl | exact H.rd1 ty3 2 rfl rfl | exact H.rd1 ty3 3 rfl rfl | exact H.rd1 ty3 4 rfl rfl | exact H.rd1 ty3 5 rfl rfl | exact H.rdA ty3 0 rfl (by decide) | exact H.rdA ty3 1 rfl (by decide) | exact H.rdA ty3 2 rfl (by decide) | exact H.rdA ty3 3 rfl (by decide) | exact H.rdA ty3 4 rfl (by decide) | exact H.rdA ty3 5 rfl (by decide)⟩ ⟨_, rfl, by first | exact H.rd1 ty3 0 rfl rfl | exact H.rd1 ty3 1 rfl rfl | exact H.rd1 ty3 2 rfl rfl | exact H.rd1 ty3 3 rfl rfl | exact H.rd1 ty3 4 rfl rfl | exact H.rd1 ty3 5 rfl rfl | exact H.rdA ty3 0 rfl (by decide) | exact H.rdA ty3 1 rfl (by decide) | exact H.rdA ty3 2 rfl (by decide) | exact H.rdA ty3 3 rfl (by decide) | exact H.rdA ty3 4 rfl (by decide) | exact H.rdA ty3 5 rfl (by decide)⟩ ⟨_, rfl, by first | exact H.rd1 ty3 0 rfl rfl | exact H.rd1 ty3 1 rfl rfl | exact H.rd1 ty3 2 rfl rfl | exact H.rd1 ty3 3 rfl rfl | exact H.rd1 ty3 4 rfl rfl | exact H.rd1 ty3 5 rfl rfl | exact H.rdA ty3 0 rfl (by decide) | exact H.rdA ty3 1 rfl (by decide) | exact H.rdA ty3 2 rfl (by decide) | exact H.rdA ty3 3 rfl (by decide) | exact H.rdA ty3 4 rfl (by decide) | exact H.rdA ty3 5 rfl (by decide)⟩ ?_
              have e : chk ws c = (2, 0, 0) := by unfold chk; simp only [hv, if_true, Int.toNat_natCast]; rw [if_pos hodd, if_neg (by omega), if_neg hnp, findPos_none (fun y hy => hno y (by simpa using hy))]
              rw [e]
              exact ⟨rfl, H.weaken (List.nil_sublist _)⟩
            · -- stop
              intro D c pre wx Hq hxs hI H
              obtain ⟨rfl, p1, x, rfl, hno, hx, rfl⟩ := hI
              obtain ⟨g, hg, hpre⟩ := hxs
              obtain ⟨rfl, rfl⟩ := last_of hpre
              refine (WC.ret (WX.block_ret (WX.then_ret ?_)))
              refine WX.retD H (fun wy H => ?_)
              refine ret_three rfl ⟨_, rfl, by first | exact H.rd1 ty3 0 rfl rfl | exact H.rd1 ty3 1 rfl rfl | exact H.rd1 ty3 2 rfl rfl | exact H.rd1 ty3 3 rfl rfl | exact H.rd1 ty3 4 rfl rfl | exact H.rd1 ty3 5 rfl rfl | exact H.rdA ty3 0 rfl (by decide) | exact H.rdA ty3 1 rfl (by decide) | exact H.rdA ty3 2 rfl (by decide) | exact H.rdA ty3 3 rfl (by decide) | exact H.rdA ty3 4 rfl (by decide) | exact H.rdA ty3 5 rfl (by decide)⟩ ⟨_, rfl, by first | exact H.rd1 ty3 0 rfl rfl | exact H.rd1 ty3 1 rfl rfl | exact H.rd1 ty3 2 rfl rfl | exact H.rd1 ty3 3 rfl rfl | exact H.rd1 ty3 4 rfl rfl | exact H.rd1 ty3 5 rfl rfl | exact H.rdA ty3 0 rfl (by decide) | exact H.rdA ty3 1 rfl (by decide) | exact H.rdA ty3 2 rfl (by decide) | exact H.rdA ty3 3 rfl (by decide) | exact H.rdA ty3 4 rfl (by decide) | exact H.rdA ty3 5 rfl (by decide)⟩ ⟨_, rfl, by first | exact H.rd1 ty3 0 rfl rfl | exact H.rd1 ty3 1 rfl rfl | exact H.rd1 ty3 2 rfl rfl | exact H.rd1 ty3 3 rfl rfl | exact H.rd1 ty3 4 rfl rfl | exact H.rd1 ty3 5 rfl rfl | exact H.rdA ty3 0 rfl (by decide) | exact H.rdA ty3 1 rfl (by decide) | exact H.rdA ty3 2 rfl (by decide) | exact H.rdA ty3 3 rfl (by decide) | exact H.rdA ty3 4 rfl (by decide) | exact H.rdA ty3 5 rfl (by decide)⟩ ?_
              have e : chk ws c = (1, ((x / 40 : Nat) : Int), ((x % 40 : Nat) : Int)) := by unfold chk; simp only [hv, if_true, Int.toNat_natCast]; rw [if_pos hodd, if_neg (by omega), if_neg hnp, findPos_some hg hx (fun y hy => hno y (by simpa using hy))]
              rw [e]
              exact ⟨rfl, H.weaken (List.nil_sublist _)⟩

end Go.Proofs.YtkncbggnaobgeaaDoor
