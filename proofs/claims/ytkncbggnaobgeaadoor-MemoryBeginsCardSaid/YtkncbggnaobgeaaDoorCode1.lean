/- Walks of functions of the program; printed by a program of this session (walk.py) out of hand-written hints. -/
import Derived.Test.YtkncbggnaobgeaaDoorTy
import Derived.Test.YtkncbggnaobgeaaDoorCode0
namespace Go.Proofs.YtkncbggnaobgeaaDoor
open Go.RowKit
set_option linter.unusedVariables false
set_option linter.unusedSimpArgs false
set_option maxRecDepth 100000

theorem retb {a b : Bool} (h : a = true ↔ b = true) : Ending.returned (.bool a) = Ending.returned (.bool b) := by rw [Bool.eq_iff_iff.2 h]
theorem reti {k : IntKind} {a b : Int} (h : a = b) : Ending.returned (.int k a) = Ending.returned (.int k b) := by rw [h]
def tab64 : List Nat := [0, 1, 56, 2, 57, 49, 28, 3, 61, 58, 42, 50, 38, 29, 17, 4, 62, 47, 59, 36, 45, 43, 51, 22, 53, 39, 33, 30, 24, 18, 12, 5, 63, 55, 48, 27, 60, 41, 37, 16, 46, 35, 44, 21, 52, 32, 23, 11, 54, 26, 40, 15, 34, 20, 31, 10, 25, 14, 19, 9, 13, 8, 7, 6]
def tab64C : Array Value := (tab64.map fun (k : Nat) => Value.int .u8 (k : Int)).toArray
/-- The table of math/bits lies where it was laid. -/
def L64 (w : World) : Prop := ∃ t fr, w.heap[3]? = some (.cells tab64C t fr)
theorem L64.of {w0 w : World} {S : List Nat} {H : Hp} (h : L64 w0) (hS : St w0 S w H) (h3 : 3 ∉ S) : L64 w := by
  obtain ⟨t, fr, h⟩ := h
  exact ⟨t, fr, hS.oldBlock h h3⟩
theorem L64.of0 {w0 w : World} {H : Hp} (h : L64 w0) (hS : St w0 [] w H) : L64 w := h.of hS (by simp)
theorem tab64_at : ∀ k, k < 64 → tab64[(2 ^ k * 285870213051353865 % 18446744073709551616) / 2 ^ 58]? = some k := by decide +kernel
theorem and_sub_pow {k m : Nat} (h : 2 ^ k * (2 * m + 1) < 2 ^ 64) : (2 ^ k * (2 * m + 1)) &&& (2 ^ 64 - 2 ^ k * (2 * m + 1)) = 2 ^ k := by
  have hk : k < 64 := by
    rcases Nat.lt_or_ge k 64 with hl | hg
    · exact hl
    · exfalso
      have : 2 ^ 64 ≤ 2 ^ k := Nat.pow_le_pow_right (by omega) hg
      have : 2 ^ k * 1 ≤ 2 ^ k * (2 * m + 1) := Nat.mul_le_mul_left _ (by omega)
      omega
  obtain ⟨j, hj⟩ : ∃ j, 64 = k + (j + 1) := ⟨63 - k, by omega⟩
  rw [hj] at h ⊢
  have e : 2 ^ (k + (j + 1)) = 2 ^ k * (2 * 2 ^ j) := by rw [Nat.pow_add, Nat.pow_succ, Nat.mul_comm (2 ^ j) 2]
  rw [e] at h ⊢
  have hm : 2 * m + 1 < 2 * 2 ^ j := Nat.lt_of_mul_lt_mul_left h
  rw [← Nat.mul_sub]
  have e2 : 2 * 2 ^ j - (2 * m + 1) = 2 * (2 ^ j - (m + 1)) + 1 := by omega
  rw [e2]
  apply Nat.eq_of_testBit_eq
  intro i
  rw [Nat.testBit_and, Nat.testBit_two_pow_mul, Nat.testBit_two_pow_mul, Nat.testBit_two_pow]
  rcases Nat.lt_trichotomy i k with hl | he | hg
  · have h1 : ¬ i ≥ k := by omega
    have h2 : ¬ k = i := by omega
    simp [h1, h2]
  · subst he
    simp [Nat.testBit_zero]
  · have h2 : ¬ k = i := by omega
    obtain ⟨d, rfl⟩ : ∃ d, i = k + (d + 1) := ⟨i - k - 1, by omega⟩
    have e3 : k + (d + 1) - k = d + 1 := by omega
    rw [e3, Nat.testBit_succ, Nat.testBit_succ]
    have e4 : (2 * m + 1) / 2 = m := by omega
    have e5 : (2 * (2 ^ j - (m + 1)) + 1) / 2 = 2 ^ j - (m + 1) := by omega
    rw [e4, e5, Nat.testBit_two_pow_sub_succ (by omega)]
    cases m.testBit d <;> simp [h2]
def oc1 (v : Nat) : Nat := (v / 2 ^ 1 &&& 6148914691236517205) + (v &&& 6148914691236517205)
def oc2 (x : Nat) : Nat := (x / 2 ^ 2 &&& 3689348814741910323) + (x &&& 3689348814741910323)
def oc3 (x : Nat) : Nat := (x / 2 ^ 4 + x) &&& 1085102592571150095
def oc4 (x : Nat) : Nat := x + x / 2 ^ 8
def oc5 (x : Nat) : Nat := x + x / 2 ^ 16
def oc6 (x : Nat) : Nat := x + x / 2 ^ 32
theorem oc_facts : ∀ v, v < 1024 → v / 2 ^ 1 < 4096 ∧ (v / 2 ^ 1 &&& 6148914691236517205) < 4096 ∧ (v &&& 6148914691236517205) < 4096 ∧ oc1 v < 4096 ∧
    oc1 v / 2 ^ 2 < 4096 ∧ (oc1 v / 2 ^ 2 &&& 3689348814741910323) < 4096 ∧ (oc1 v &&& 3689348814741910323) < 4096 ∧ oc2 (oc1 v) < 4096 ∧
    oc2 (oc1 v) / 2 ^ 4 + oc2 (oc1 v) < 8192 ∧ oc3 (oc2 (oc1 v)) < 4096 ∧ oc3 (oc2 (oc1 v)) / 2 ^ 8 < 4096 ∧ oc4 (oc3 (oc2 (oc1 v))) < 8192 ∧ oc4 (oc3 (oc2 (oc1 v))) / 2 ^ 16 < 4096 ∧ oc5 (oc4 (oc3 (oc2 (oc1 v)))) < 16384 ∧
    oc5 (oc4 (oc3 (oc2 (oc1 v)))) / 2 ^ 32 < 4096 ∧ oc6 (oc5 (oc4 (oc3 (oc2 (oc1 v))))) < 32768 ∧ (oc6 (oc5 (oc4 (oc3 (oc2 (oc1 v))))) &&& 127) = popc v := by decide +kernel

theorem word_any (x : Int) (w : World) : Calls Tryd.prog 166 #[.int .i64 x] w fun e w' => e = .returned (.bool (isWord x)) ∧ w' = w := by
  refine calls_walk_n (args := [.int .i64 x]) Tryd.func166 rfl rfl rfl ?_
  refine WC.seq ?_
  refine WC.region ?_
  refine WL.assign rfl rfl ?_
  refine (WL.done (WX.next ?_))
  refine WC.seq ?_
  refine WC.region ?_
  refine WL.move rfl rfl ?_
  refine WL.bin rfl rfl binv_geq rfl ?_
  refine WL.move rfl rfl ?_
  first | refine WL.splitD (t := 5) rfl (fun g1 => ?_) (fun g1 => ?_) | refine WL.split (t := 5) rfl (fun g1 => ?_) (fun g1 => ?_)
  · -- g1 True
    refine WL.yes rfl rfl ?_
    refine WL.move rfl rfl ?_
    refine WL.yes rfl rfl ?_
    refine WL.bin rfl rfl binv_leq rfl ?_
    refine WL.pickT rfl rfl rfl ?_
    refine WL.assign rfl rfl ?_
    refine (WL.done (WX.next ?_))
    refine (WC.ret ?_)
    refine ret_one rfl rfl ?_
    exact ⟨by congr 2; simp [isWord]; omega, rfl⟩
  · -- g1 False
    refine WL.no rfl rfl rfl ?_
    refine WL.no rfl rfl rfl ?_
    refine WL.pickF rfl rfl rfl ?_
    refine WL.assign rfl rfl ?_
    refine (WL.done (WX.next ?_))
    refine (WC.ret ?_)
    refine ret_one rfl rfl ?_
    exact ⟨by congr 2; simp [isWord]; omega, rfl⟩

theorem valid_any (ws : List Int) (c : Int) (h8 : ws.length = 8) (w : World) : Calls Tryd.prog 161 #[arr ws, .int .i64 c] w fun e w' => e = .returned (.bool (isWords ws && isCode c)) ∧ St w [] w' [] := by
  refine calls_walk_n (args := [arr ws, .int .i64 c]) Tryd.func161 rfl rfl rfl ?_
  have H := St.refl w
  refine WC.seq ?_
  refine WC.region ?_
  refine WL.boxArr H rfl rfl ?_
  intro b2 wx hb2 hge2 H
  refine WL.assign rfl rfl ?_
  refine (WL.done (WX.next ?_))
  refine WC.seq ?_
  refine WC.seq ?_
  refine WC.region ?_
  first | refine WL.load rfl (H.rdArr ty38 0 rfl h8) rfl ?_
  refine WL.move rfl rfl ?_
  refine (WL.done (WX.next ?_))
  refine WC.block ?_
  -- loop 1: changed [8] kept [1, 7]
  refine WC.loop (Sub.cons (t := 1) rfl (Sub.cons (t := 7) rfl (Sub.nil _))) (fun g : Nat => [(8, .int .i64 (g:Int))]) (fun k g wx => k = 8 - g ∧ g ≤ 8 ∧ (ws.take g).all isWord = true ∧ St w [] wx []) (8) (0) (Sub.cons (t := 8) (by first | rfl | simp) (Sub.nil _)) (⟨rfl, by omega, rfl, H.tail⟩) ?_
  rintro k g wx hI N hN
  obtain ⟨rfl, hg, ha, H⟩ := hI
  refine WC.seq ?_
  refine WC.region ?_
  refine WL.bin rfl rfl binv_lss rfl ?_
  refine (WL.done (WX.next ?_))
  refine WC.seq ?_
  first | refine WC.cond_dec rfl (fun c1 => ?_) (fun c1 => ?_) | refine WC.cond rfl (fun c1 => ?_) (fun c1 => ?_)
  · -- c1 T
    refine (WC.skip (WX.next ?_))
    refine WC.seq ?_
    refine WC.block ?_
    refine WC.seq ?_
    refine WC.region ?_
    refine WL.indexArr (ws := _) arr38 (by assumption) rfl rfl (by first | rfl | omega) (by omega) rfl ?_ (by intro el h; rw [Tryd.underlying38] at h; cases h; exact ty3)
    refine WL.assign rfl rfl ?_
    refine (WL.done (WX.next ?_))
    refine WC.seq ?_
    refine WC.region ?_
    refine WL.move rfl rfl ?_
    refine WL.bin rfl rfl binv_lss rfl ?_
    refine WL.move rfl rfl ?_
    first | refine WL.splitD (t := 13) rfl (fun g1 => ?_) (fun g1 => ?_) | refine WL.split (t := 13) rfl (fun g1 => ?_) (fun g1 => ?_)
    · -- g1 True
      refine WL.no rfl rfl rfl ?_
      refine WL.no rfl rfl rfl ?_
      refine WL.pickT rfl rfl rfl ?_
      refine (WL.done (WX.next ?_))
      refine WC.cond_true rfl (rfl) ?_
      refine WC.seq ?_
      refine WC.region ?_
      refine WL.assign rfl rfl ?_
      refine (WL.done (WX.next ?_))
      refine (WC.ret (WX.block_ret (WX.then_ret (WX.then_ret (WX.block_ret (WX.then_ret ?_))))))
      refine ret_one rfl rfl ?_
      exact ⟨by rw [isWords, all_false_of (g := g) (by omega) (isWord_no (by omega))]; rfl, H⟩
    · -- g1 False
      refine WL.yes rfl rfl ?_
      refine WL.move rfl rfl ?_
      refine WL.yes rfl rfl ?_
      refine WL.bin rfl rfl binv_gtr rfl ?_
      refine WL.pickF rfl rfl rfl ?_
      refine (WL.done (WX.next ?_))
      first | refine WC.cond_dec rfl (fun c3 => ?_) (fun c3 => ?_) | refine WC.cond rfl (fun c3 => ?_) (fun c3 => ?_)
      · -- c3 T
        refine WC.seq ?_
        refine WC.region ?_
        refine WL.assign rfl rfl ?_
        refine (WL.done (WX.next ?_))
        refine (WC.ret (WX.block_ret (WX.then_ret (WX.then_ret (WX.block_ret (WX.then_ret ?_))))))
        refine ret_one rfl rfl ?_
        exact ⟨by rw [isWords, all_false_of (g := g) (by omega) (isWord_no (by omega))]; rfl, H⟩
      · -- c3 F
        refine (WC.skip (WX.block_normal (WX.next ?_)))
        refine WC.region ?_
        refine WL.bin rfl rfl (iadd (by omega) (by omega)) rfl ?_
        refine WL.move rfl rfl ?_
        refine (WL.done (WX.round ?_))
        exact hN _ (g+1) _ _ (by omega) ⟨rfl, by omega, take_all_succ (by omega) ha (isWord_iff.2 ⟨by omega, by omega⟩), H⟩ (Sub.cons (t := 8) (by first | rfl | simp) (Sub.nil _)) (Sub.cons (t := 1) rfl (Sub.cons (t := 7) rfl (Sub.nil _)))
  · -- c1 F
    refine (WC.exit (WX.then_exit (WX.then_exit (WX.block_exit (WX.next ?_)))))
    refine WC.seq ?_
    refine WC.region ?_
    refine WL.move rfl rfl ?_
    refine WL.bin rfl rfl binv_geq rfl ?_
    refine WL.move rfl rfl ?_
    first | refine WL.splitD (t := 20) rfl (fun g2 => ?_) (fun g2 => ?_) | refine WL.split (t := 20) rfl (fun g2 => ?_) (fun g2 => ?_)
    · -- g2 True
      refine WL.yes rfl rfl ?_
      refine WL.move rfl rfl ?_
      refine WL.yes rfl rfl ?_
      refine WL.bin rfl rfl binv_leq rfl ?_
      refine WL.pickT rfl rfl rfl ?_
      refine WL.assign rfl rfl ?_
      refine (WL.done (WX.next ?_))
      refine (WC.ret ?_)
      refine ret_one rfl rfl ?_
      obtain rfl : g = 8 := by omega
      exact ⟨by rw [isWords, all_of_take (by rw [h8]; exact ha)]; congr 2; simp [isCode]; omega, H⟩
    · -- g2 False
      refine WL.no rfl rfl rfl ?_
      refine WL.no rfl rfl rfl ?_
      refine WL.pickF rfl rfl rfl ?_
      refine WL.assign rfl rfl ?_
      refine (WL.done (WX.next ?_))
      refine (WC.ret ?_)
      refine ret_one rfl rfl ?_
      obtain rfl : g = 8 := by omega
      exact ⟨by rw [isWords, all_of_take (by rw [h8]; exact ha)]; congr 2; simp [isCode]; omega, H⟩

theorem tz64_any (k m : Nat) (x : Int) (hx : x = ((2 ^ k * (2 * m + 1) : Nat) : Int)) (hlt : 2 ^ k * (2 * m + 1) < 2 ^ 64) (w : World) (hL : L64 w) : Calls Tryd.prog 202 #[.int .u64 x] w fun e w' => e = .returned (.int .i64 (k : Int)) ∧ w' = w := by
  have hpos : 0 < 2 ^ k := Nat.two_pow_pos k
  have hpos2 : 0 < 2 ^ k * (2 * m + 1) := Nat.mul_pos hpos (by omega)
  have hk : k < 64 := by
    rcases Nat.lt_or_ge k 64 with hl | hg
    · exact hl
    · exfalso
      have h1 : 2 ^ 64 ≤ 2 ^ k := Nat.pow_le_pow_right (by omega) hg
      have h2 : 2 ^ k * 1 ≤ 2 ^ k * (2 * m + 1) := Nat.mul_le_mul_left _ (by omega)
      omega
  have hand := and_sub_pow hlt
  have htab := tab64_at k hk
  generalize hX : 2 ^ k * (2 * m + 1) = X at hx hlt hpos2 hand
  obtain ⟨r, hr⟩ : ∃ r, r = 2 ^ k * 285870213051353865 % 18446744073709551616 / 2 ^ 58 := ⟨_, rfl⟩
  rw [← hr] at htab
  have hr64 : r < 64 := by have := Nat.mod_lt (2 ^ k * 285870213051353865) (show 0 < 18446744073709551616 by decide); omega
  have hrz : (((X : Int).toNat &&& ((2 ^ 64 - X : Nat) : Int).toNat : Nat) : Int) * 285870213051353865 % 18446744073709551616 / 2 ^ 58 = (r : Int) := by
    simp only [Int.toNat_natCast]; rw [hand, hr, Int.natCast_ediv, Int.natCast_emod, Int.natCast_mul]; rfl
  clear hr
  subst hx
  obtain ⟨tt, fr, hL⟩ := hL
  refine calls_walk_n (args := [.int .u64 _]) Tryd.func202 rfl rfl rfl ?_
  refine WC.seq ?_
  refine WC.region ?_
  refine WL.assign rfl rfl ?_
  refine (WL.done (WX.next ?_))
  refine WC.seq ?_
  refine WC.seq ?_
  refine WC.region ?_
  refine WL.move rfl rfl ?_
  refine WL.bin rfl rfl binv_eql rfl ?_
  refine (WL.done (WX.next ?_))
  refine WC.cond_false rfl (by simp; omega) ?_
  refine (WC.skip (WX.next ?_))
  refine WC.seq ?_
  refine WC.region ?_
  refine WL.move rfl rfl ?_
  refine WL.move rfl rfl ?_
  refine WL.negOp rfl rfl ?_
  rw [show IntKind.u64.wrap (0 - (X : Int)) = ((2 ^ 64 - X : Nat) : Int) from by simp only [IntKind.wrap, IntKind.bits, IntKind.signed, Bool.false_and, Bool.false_eq_true, if_false]; omega]
  refine WL.bin rfl rfl (uand (by omega) (by omega) (by omega) (by omega)) rfl ?_
  refine WL.bin rfl rfl (umul (by omega) (by omega)) rfl ?_
  refine WL.bin rfl rfl (ishr (m := 58) rfl (by decide) (by omega)) rfl ?_
  refine WL.idxArr (k := r) arr272 rfl rfl (hrz) (hr64) rfl ?_
  first | refine WL.load rfl (Rd.one ty5 (v := .int .u8 (k : Int)) (by rw [cell_of hL]; simp only [Nat.zero_add, Nat.mul_one, tab64C]; simp [htab])) rfl ?_
  refine WL.convert int5 int3 rfl (wrap_i64 (by omega) (by omega)) rfl ?_
  refine WL.assign rfl rfl ?_
  refine (WL.done (WX.next ?_))
  refine (WC.ret ?_)
  refine ret_one rfl rfl ?_
  exact ⟨rfl, rfl⟩

theorem tz_any (k m : Nat) (x : Int) (hx : x = ((2 ^ k * (2 * m + 1) : Nat) : Int)) (hlt : 2 ^ k * (2 * m + 1) < 2 ^ 64) (w : World) (hL : L64 w) : Calls Tryd.prog 168 #[.int .u64 x] w fun e w' => e = .returned (.int .i64 (k : Int)) ∧ w' = w := by
  refine calls_walk_n (args := [.int .u64 x]) Tryd.func168 rfl rfl rfl ?_
  refine WC.seq ?_
  refine WC.region ?_
  refine WL.assign rfl rfl ?_
  refine (WL.done (WX.next ?_))
  refine WC.seq ?_
  refine WC.cond_false rfl (rfl) ?_
  refine (WC.skip (WX.next ?_))
  refine WC.seq ?_
  refine WC.region ?_
  refine WL.move rfl rfl ?_
  refine WL.call call202 rfl rfl ?_
  refine Calls.mono (tz64_any k m _ hx hlt _ hL) ?_
  rintro _ wx ⟨rfl, rfl⟩
  refine ⟨_, rfl, ?_⟩
  refine WL.assign rfl rfl ?_
  refine (WL.done (WX.next ?_))
  refine (WC.ret ?_)
  refine ret_one rfl rfl ?_
  exact ⟨rfl, rfl⟩

theorem oc64_any (v : Nat) (hv : v < 1024) (w : World) : Calls Tryd.prog 200 #[.int .u64 (v : Int)] w fun e w' => e = .returned (.int .i64 (popc v : Int)) ∧ w' = w := by
  obtain ⟨f1, f2, f3, f4, f5, f6, f7, f8, f9, f10, f11, f12, f13, f14, f15, f16, f17⟩ := oc_facts v hv
  refine calls_walk_n (args := [.int .u64 (v : Int)]) Tryd.func200 rfl rfl rfl ?_
  refine WC.seq ?_
  refine WC.region ?_
  refine WL.assign rfl rfl ?_
  refine (WL.done (WX.next ?_))
  refine WC.seq ?_
  refine WC.region ?_
  refine WL.move rfl rfl ?_
  refine WL.bin rfl rfl (shrN (m := 1) rfl rfl (by decide)) rfl ?_
  refine WL.bin rfl rfl (uandN (b := 6148914691236517205) rfl rfl (by omega) (by omega)) rfl ?_
  refine WL.move rfl rfl ?_
  refine WL.bin rfl rfl (uandN (b := 6148914691236517205) rfl rfl (by omega) (by omega)) rfl ?_
  refine WL.bin rfl rfl (uaddN rfl rfl (by omega)) rfl ?_
  refine WL.assign rfl rfl ?_
  refine (WL.done (WX.next ?_))
  refine WC.seq ?_
  refine WC.region ?_
  refine WL.move rfl rfl ?_
  refine WL.bin rfl rfl (shrN (a := oc1 v) (m := 2) rfl rfl (by decide)) rfl ?_
  refine WL.bin rfl rfl (uandN (b := 3689348814741910323) rfl rfl (by omega) (by omega)) rfl ?_
  refine WL.move rfl rfl ?_
  refine WL.bin rfl rfl (uandN (a := oc1 v) (b := 3689348814741910323) rfl rfl (by omega) (by omega)) rfl ?_
  refine WL.bin rfl rfl (uaddN rfl rfl (by omega)) rfl ?_
  refine WL.assign rfl rfl ?_
  refine (WL.done (WX.next ?_))
  refine WC.seq ?_
  refine WC.region ?_
  refine WL.move rfl rfl ?_
  refine WL.bin rfl rfl (shrN (a := oc2 (oc1 v)) (m := 4) rfl rfl (by decide)) rfl ?_
  refine WL.move rfl rfl ?_
  refine WL.bin rfl rfl (uaddN (b := oc2 (oc1 v)) rfl rfl (by omega)) rfl ?_
  refine WL.bin rfl rfl (uandN (b := 1085102592571150095) rfl rfl (by omega) (by omega)) rfl ?_
  refine WL.assign rfl rfl ?_
  refine (WL.done (WX.next ?_))
  refine WC.seq ?_
  refine WC.region ?_
  refine WL.move rfl rfl ?_
  refine WL.move rfl rfl ?_
  refine WL.bin rfl rfl (shrN (a := oc3 (oc2 (oc1 v))) (m := 8) rfl rfl (by decide)) rfl ?_
  refine WL.bin rfl rfl (uaddN (a := oc3 (oc2 (oc1 v))) rfl rfl (by unfold oc4 at f12; omega)) rfl ?_
  refine WL.assign rfl rfl ?_
  refine (WL.done (WX.next ?_))
  refine WC.seq ?_
  refine WC.region ?_
  refine WL.move rfl rfl ?_
  refine WL.move rfl rfl ?_
  refine WL.bin rfl rfl (shrN (a := oc4 (oc3 (oc2 (oc1 v)))) (m := 16) rfl rfl (by decide)) rfl ?_
  refine WL.bin rfl rfl (uaddN (a := oc4 (oc3 (oc2 (oc1 v)))) rfl rfl (by omega)) rfl ?_
  refine WL.assign rfl rfl ?_
  refine (WL.done (WX.next ?_))
  refine WC.seq ?_
  refine WC.region ?_
  refine WL.move rfl rfl ?_
  refine WL.move rfl rfl ?_
  refine WL.bin rfl rfl (shrN (a := oc5 (oc4 (oc3 (oc2 (oc1 v))))) (m := 32) rfl rfl (by decide)) rfl ?_
  refine WL.bin rfl rfl (uaddN (a := oc5 (oc4 (oc3 (oc2 (oc1 v))))) rfl rfl (by omega)) rfl ?_
  refine WL.assign rfl rfl ?_
  refine (WL.done (WX.next ?_))
  refine WC.seq ?_
  refine WC.region ?_
  refine WL.move rfl rfl ?_
  refine WL.convert int250 int3 rfl (wrap_i64 (x := ((oc6 (oc5 (oc4 (oc3 (oc2 (oc1 v))))) : Nat) : Int)) (by omega) (by omega)) rfl ?_
  refine WL.bin rfl rfl (iandN (a := oc6 (oc5 (oc4 (oc3 (oc2 (oc1 v)))))) (b := 127) rfl rfl (by omega) (by omega)) rfl ?_
  refine WL.assign rfl rfl ?_
  refine (WL.done (WX.next ?_))
  refine (WC.ret ?_)
  refine ret_one rfl rfl ?_
  exact ⟨by rw [f17], rfl⟩

theorem oc_any (v : Nat) (hv : v < 1024) (w : World) : Calls Tryd.prog 163 #[.int .u64 (v : Int)] w fun e w' => e = .returned (.int .i64 (popc v : Int)) ∧ w' = w := by
  refine calls_walk_n (args := [.int .u64 (v : Int)]) Tryd.func163 rfl rfl rfl ?_
  refine WC.seq ?_
  refine WC.region ?_
  refine WL.assign rfl rfl ?_
  refine (WL.done (WX.next ?_))
  refine WC.seq ?_
  refine WC.cond_false rfl (rfl) ?_
  refine (WC.skip (WX.next ?_))
  refine WC.seq ?_
  refine WC.region ?_
  refine WL.move rfl rfl ?_
  refine WL.call call200 rfl rfl ?_
  refine Calls.mono (oc64_any v hv _) ?_
  rintro _ wx ⟨rfl, rfl⟩
  refine ⟨_, rfl, ?_⟩
  refine WL.assign rfl rfl ?_
  refine (WL.done (WX.next ?_))
  refine (WC.ret ?_)
  refine ret_one rfl rfl ?_
  exact ⟨rfl, rfl⟩

theorem len2_big : ∀ x, x < 1024 → 256 ≤ x → x / 2 ^ 8 < 256 ∧ len2 x = 8 + len2 (x / 2 ^ 8) := by decide +kernel
theorem len2_le : ∀ x, x < 1024 → len2 x ≤ 10 := by decide +kernel

theorem len64_any (x : Nat) (hx : x < 1024) (w : World) : Calls Tryd.prog 218 #[.int .u64 (x : Int)] w fun e w' => e = .returned (.int .i64 (len2 x : Int)) ∧ w' = w := by
  have hl := len2_le x hx
  refine calls_walk_n (args := [.int .u64 (x : Int)]) Tryd.func218 rfl rfl rfl ?_
  refine WC.seq ?_
  refine WC.region ?_
  refine WL.assign rfl rfl ?_
  refine (WL.done (WX.next ?_))
  refine WC.seq ?_
  refine WC.seq ?_
  refine WC.region ?_
  refine WL.move rfl rfl ?_
  refine WL.bin rfl rfl binv_geq rfl ?_
  refine (WL.done (WX.next ?_))
  refine WC.cond_false rfl (by simp; omega) ?_
  refine (WC.skip (WX.next ?_))
  refine WC.seq ?_
  refine WC.seq ?_
  refine WC.region ?_
  refine WL.move rfl rfl ?_
  refine WL.bin rfl rfl binv_geq rfl ?_
  refine (WL.done (WX.next ?_))
  refine WC.cond_false rfl (by simp; omega) ?_
  refine (WC.skip (WX.next ?_))
  refine WC.seq ?_
  refine WC.seq ?_
  refine WC.region ?_
  refine WL.move rfl rfl ?_
  refine WL.bin rfl rfl binv_geq rfl ?_
  refine (WL.done (WX.next ?_))
  first | refine WC.cond_dec rfl (fun c3 => ?_) (fun c3 => ?_) | refine WC.cond rfl (fun c3 => ?_) (fun c3 => ?_)
  · -- c3 T
    have hb := len2_big x hx (by omega)
    refine WC.seq ?_
    refine WC.region ?_
    refine WL.move rfl rfl ?_
    refine WL.bin rfl rfl (shrN (a := x) (m := 8) rfl rfl (by decide)) rfl ?_
    refine WL.assign rfl rfl ?_
    refine (WL.done (WX.next ?_))
    refine WC.region ?_
    refine WL.move rfl rfl ?_
    refine WL.bin rfl rfl (iadd (by omega) (by omega)) rfl ?_
    refine WL.assign rfl rfl ?_
    refine (WL.done (WX.next ?_))
    refine WC.seq ?_
    refine WC.region ?_
    refine WL.move rfl rfl ?_
    refine WL.move rfl rfl ?_
    refine WL.convert int250 int5 rfl (by simp only [IntKind.wrap, IntKind.bits, IntKind.signed, Bool.false_and, Bool.false_eq_true, if_false]; first | exact Int.emod_eq_of_lt (b := 2 ^ 8) (a := ((x : Nat) : Int)) (by omega) (by omega) | exact Int.emod_eq_of_lt (b := 2 ^ 8) (a := ((x / 2 ^ 8 : Nat) : Int)) (by omega) (by omega)) rfl ?_
    first | refine WL.indexStr (k := x) (g := len2) (m := 256) Tryd.underlying9 rfl rfl rfl (by decide +kernel) (by omega) rfl ?_ | refine WL.indexStr (k := x / 2 ^ 8) (g := len2) (m := 256) Tryd.underlying9 rfl rfl rfl (by decide +kernel) (by omega) rfl ?_
    refine WL.convert int5 int3 rfl (wrap_i64 (by omega) (by omega)) rfl ?_
    refine WL.bin rfl rfl (iadd (by omega) (by omega)) rfl ?_
    refine WL.assign rfl rfl ?_
    refine (WL.done (WX.next ?_))
    refine (WC.ret ?_)
    refine ret_one rfl rfl ?_
    exact ⟨reti (by rw [hb.2]; omega), rfl⟩
  · -- c3 F
    refine (WC.skip (WX.next ?_))
    refine WC.seq ?_
    refine WC.region ?_
    refine WL.move rfl rfl ?_
    refine WL.move rfl rfl ?_
    refine WL.convert int250 int5 rfl (by simp only [IntKind.wrap, IntKind.bits, IntKind.signed, Bool.false_and, Bool.false_eq_true, if_false]; first | exact Int.emod_eq_of_lt (b := 2 ^ 8) (a := ((x : Nat) : Int)) (by omega) (by omega) | exact Int.emod_eq_of_lt (b := 2 ^ 8) (a := ((x / 2 ^ 8 : Nat) : Int)) (by omega) (by omega)) rfl ?_
    first | refine WL.indexStr (k := x) (g := len2) (m := 256) Tryd.underlying9 rfl rfl rfl (by decide +kernel) (by omega) rfl ?_ | refine WL.indexStr (k := x / 2 ^ 8) (g := len2) (m := 256) Tryd.underlying9 rfl rfl rfl (by decide +kernel) (by omega) rfl ?_
    refine WL.convert int5 int3 rfl (wrap_i64 (by omega) (by omega)) rfl ?_
    refine WL.bin rfl rfl (iadd (by omega) (by omega)) rfl ?_
    refine WL.assign rfl rfl ?_
    refine (WL.done (WX.next ?_))
    refine (WC.ret ?_)
    refine ret_one rfl rfl ?_
    exact ⟨reti (by omega), rfl⟩

theorem len_any (x : Nat) (hx : x < 1024) (w : World) : Calls Tryd.prog 214 #[.int .u64 (x : Int)] w fun e w' => e = .returned (.int .i64 (len2 x : Int)) ∧ w' = w := by
  refine calls_walk_n (args := [.int .u64 (x : Int)]) Tryd.func214 rfl rfl rfl ?_
  refine WC.seq ?_
  refine WC.region ?_
  refine WL.assign rfl rfl ?_
  refine (WL.done (WX.next ?_))
  refine WC.seq ?_
  refine WC.cond_false rfl (rfl) ?_
  refine (WC.skip (WX.next ?_))
  refine WC.seq ?_
  refine WC.region ?_
  refine WL.move rfl rfl ?_
  refine WL.call call218 rfl rfl ?_
  refine Calls.mono (len64_any x hx _) ?_
  rintro _ wx ⟨rfl, rfl⟩
  refine ⟨_, rfl, ?_⟩
  refine WL.assign rfl rfl ?_
  refine (WL.done (WX.next ?_))
  refine (WC.ret ?_)
  refine ret_one rfl rfl ?_
  exact ⟨rfl, rfl⟩

theorem position_any (k t : Nat) (hk : k < 8) (ht : t < 40) (w : World) : Calls Tryd.prog 198 #[.int .i64 (k : Int), .int .i64 (t : Int)] w fun e w' => e = .returned (.int .i64 (posn (40 * k + t) : Int)) ∧ w' = w := by
  obtain ⟨j, hj⟩ : ∃ j, j = 40 * k + t + 1 := ⟨_, rfl⟩
  have hl := len2_le j (by omega)
  have hl2 := len2_le (j + len2 j) (by omega)
  have hp : posn (40 * k + t) = if len2 (j + len2 j) > len2 j then j + len2 j + 1 else j + len2 j := by subst hj; rfl
  rw [hp]
  clear hp
  refine calls_walk_n (args := [.int .i64 (k : Int), .int .i64 (t : Int)]) Tryd.func198 rfl rfl rfl ?_
  refine WC.seq ?_
  refine WC.region ?_
  refine WL.assign rfl rfl ?_
  refine (WL.done (WX.next ?_))
  refine WC.seq ?_
  refine WC.region ?_
  refine WL.move rfl rfl ?_
  refine WL.bin rfl rfl (imul (by omega) (by omega)) rfl ?_
  refine WL.move rfl rfl ?_
  refine WL.bin rfl rfl (iadd (by omega) (by omega)) rfl ?_
  rw [show ((k : Int) * 40 + (t : Int)) = ((40 * k + t : Nat) : Int) from by omega]
  refine WL.bin rfl rfl (iadd (by omega) (by omega)) rfl ?_
  rw [show (((40 * k + t : Nat) : Int) + 1) = (j : Int) from by omega]
  refine WL.assign rfl rfl ?_
  refine (WL.done (WX.next ?_))
  refine WC.seq ?_
  refine WC.region ?_
  refine WL.move rfl rfl ?_
  refine WL.move rfl rfl ?_
  refine WL.convert int3 int214 rfl (by first | exact wrap_i64 (by omega) (by omega) | exact wrap_u64 (by omega) (by omega)) rfl ?_
  refine WL.call call214 rfl rfl ?_
  refine Calls.mono (len_any _ (by omega) _) ?_
  rintro _ wx ⟨rfl, rfl⟩
  refine ⟨_, rfl, ?_⟩
  refine WL.bin rfl rfl (iadd (by omega) (by omega)) rfl ?_
  rw [show ((j : Int) + (len2 j : Int)) = ((j + len2 j : Nat) : Int) from by omega]
  refine WL.assign rfl rfl ?_
  refine (WL.done (WX.next ?_))
  refine WC.seq ?_
  refine WC.seq ?_
  refine WC.region ?_
  refine WL.move rfl rfl ?_
  refine WL.convert int3 int214 rfl (by first | exact wrap_i64 (by omega) (by omega) | exact wrap_u64 (by omega) (by omega)) rfl ?_
  refine WL.call call214 rfl rfl ?_
  refine Calls.mono (len_any _ (by omega) _) ?_
  rintro _ wx ⟨rfl, rfl⟩
  refine ⟨_, rfl, ?_⟩
  refine WL.move rfl rfl ?_
  refine WL.convert int3 int214 rfl (by first | exact wrap_i64 (by omega) (by omega) | exact wrap_u64 (by omega) (by omega)) rfl ?_
  refine WL.call call214 rfl rfl ?_
  refine Calls.mono (len_any _ (by omega) _) ?_
  rintro _ wx ⟨rfl, rfl⟩
  refine ⟨_, rfl, ?_⟩
  refine WL.bin rfl rfl binv_gtr rfl ?_
  refine (WL.done (WX.next ?_))
  first | refine WC.cond_dec rfl (fun c1 => ?_) (fun c1 => ?_) | refine WC.cond rfl (fun c1 => ?_) (fun c1 => ?_)
  · -- c1 T
    refine WC.region ?_
    refine WL.move rfl rfl ?_
    refine WL.bin rfl rfl (iadd (by omega) (by omega)) rfl ?_
    refine WL.assign rfl rfl ?_
    refine (WL.done (WX.next ?_))
    refine WC.seq ?_
    refine WC.region ?_
    refine WL.move rfl rfl ?_
    refine WL.assign rfl rfl ?_
    refine (WL.done (WX.next ?_))
    refine (WC.ret ?_)
    refine ret_one rfl rfl ?_
    exact ⟨by rw [if_pos (by omega)]; rfl, rfl⟩
  · -- c1 F
    refine (WC.skip (WX.next ?_))
    refine WC.seq ?_
    refine WC.region ?_
    refine WL.move rfl rfl ?_
    refine WL.assign rfl rfl ?_
    refine (WL.done (WX.next ?_))
    refine (WC.ret ?_)
    refine ret_one rfl rfl ?_
    exact ⟨by rw [if_neg (by omega)], rfl⟩

theorem exists_any (x y : Int) (w : World) : Calls Tryd.prog 215 #[.int .i64 x, .int .i64 y] w fun e w' => e = .returned (.bool (decide ((0 ≤ x ∧ x < 8 ∧ 0 ≤ y ∧ y < 40) ∨ (x = 8 ∧ 0 ≤ y ∧ y < 10)))) ∧ w' = w := by
  refine calls_walk_n (args := [.int .i64 x, .int .i64 y]) Tryd.func215 rfl rfl rfl ?_
  refine WC.seq ?_
  refine WC.region ?_
  refine WL.assign rfl rfl ?_
  refine (WL.done (WX.next ?_))
  refine WC.seq ?_
  refine WC.region ?_
  refine WL.move rfl rfl ?_
  refine WL.bin rfl rfl binv_geq rfl ?_
  refine WL.move rfl rfl ?_
  first | refine WL.splitD (t := 7) rfl (fun g1 => ?_) (fun g1 => ?_) | refine WL.split (t := 7) rfl (fun g1 => ?_) (fun g1 => ?_)
  · -- g1 True
    refine WL.yes rfl rfl ?_
    refine WL.move rfl rfl ?_
    refine WL.yes rfl rfl ?_
    refine WL.bin rfl rfl binv_lss rfl ?_
    refine WL.pickT rfl rfl rfl ?_
    refine WL.move rfl rfl ?_
    first | refine WL.splitD (t := 11) rfl (fun g2 => ?_) (fun g2 => ?_) | refine WL.split (t := 11) rfl (fun g2 => ?_) (fun g2 => ?_)
    · -- g2 True
      refine WL.yes rfl rfl ?_
      refine WL.move rfl rfl ?_
      refine WL.yes rfl rfl ?_
      refine WL.bin rfl rfl binv_geq rfl ?_
      refine WL.pickT rfl rfl rfl ?_
      refine WL.move rfl rfl ?_
      first | refine WL.splitD (t := 15) rfl (fun g3 => ?_) (fun g3 => ?_) | refine WL.split (t := 15) rfl (fun g3 => ?_) (fun g3 => ?_)
      · -- g3 True
        refine WL.yes rfl rfl ?_
        refine WL.move rfl rfl ?_
        refine WL.yes rfl rfl ?_
        refine WL.bin rfl rfl binv_lss rfl ?_
        refine WL.pickT rfl rfl rfl ?_
        refine WL.move rfl rfl ?_
        first | refine WL.splitD (t := 19) rfl (fun g4 => ?_) (fun g4 => ?_) | refine WL.split (t := 19) rfl (fun g4 => ?_) (fun g4 => ?_)
        · -- g4 True
          refine WL.no rfl rfl rfl ?_
          refine WL.no rfl rfl rfl ?_
          refine WL.no rfl rfl rfl ?_
          refine WL.noU rfl rfl rfl rfl ?_
          refine WL.noU rfl rfl rfl rfl ?_
          refine WL.no rfl rfl rfl ?_
          refine WL.no rfl rfl rfl ?_
          refine WL.noU rfl rfl rfl rfl ?_
          refine WL.noU rfl rfl rfl rfl ?_
          refine WL.no rfl rfl rfl ?_
          refine WL.pickT rfl rfl rfl ?_
          refine WL.assign rfl rfl ?_
          refine (WL.done (WX.next ?_))
          refine (WC.ret ?_)
          refine ret_one rfl rfl ?_
          exact ⟨retb (by simp; try omega), rfl⟩
        · -- g4 False
          refine WL.yes rfl rfl ?_
          refine WL.move rfl rfl ?_
          refine WL.yes rfl rfl ?_
          refine WL.bin rfl rfl binv_eql rfl ?_
          refine WL.yes rfl rfl ?_
          refine WL.move rfl rfl ?_
          first | refine WL.splitD (t := 22) rfl (fun g5 => ?_) (fun g5 => ?_) | refine WL.split (t := 22) rfl (fun g5 => ?_) (fun g5 => ?_)
          · -- g5 True
            refine WL.yes rfl rfl ?_
            refine WL.move rfl rfl ?_
            refine WL.yes rfl rfl ?_
            refine WL.bin rfl rfl binv_geq rfl ?_
            refine WL.yes rfl rfl ?_
            refine WL.pickT rfl rfl rfl ?_
            refine WL.yes rfl rfl ?_
            refine WL.move rfl rfl ?_
            first | refine WL.splitD (t := 26) rfl (fun g6 => ?_) (fun g6 => ?_) | refine WL.split (t := 26) rfl (fun g6 => ?_) (fun g6 => ?_)
            · -- g6 True
              refine WL.yes rfl rfl ?_
              refine WL.move rfl rfl ?_
              refine WL.yes rfl rfl ?_
              refine WL.bin rfl rfl binv_lss rfl ?_
              refine WL.yes rfl rfl ?_
              refine WL.pickT rfl rfl rfl ?_
              refine WL.pickF rfl rfl rfl ?_
              refine WL.assign rfl rfl ?_
              refine (WL.done (WX.next ?_))
              refine (WC.ret ?_)
              refine ret_one rfl rfl ?_
              exact ⟨retb (by simp; try omega), rfl⟩
            · -- g6 False
              refine WL.no rfl rfl rfl ?_
              refine WL.no rfl rfl rfl ?_
              refine WL.yes rfl rfl ?_
              refine WL.pickF rfl rfl rfl ?_
              refine WL.pickF rfl rfl rfl ?_
              refine WL.assign rfl rfl ?_
              refine (WL.done (WX.next ?_))
              refine (WC.ret ?_)
              refine ret_one rfl rfl ?_
              exact ⟨retb (by simp; try omega), rfl⟩
          · -- g5 False
            refine WL.no rfl rfl rfl ?_
            refine WL.no rfl rfl rfl ?_
            refine WL.yes rfl rfl ?_
            refine WL.pickF rfl rfl rfl ?_
            refine WL.yes rfl rfl ?_
            refine WL.move rfl rfl ?_
            refine WL.no rfl rfl rfl ?_
            refine WL.no rfl rfl rfl ?_
            refine WL.yes rfl rfl ?_
            refine WL.pickF rfl rfl rfl ?_
            refine WL.pickF rfl rfl rfl ?_
            refine WL.assign rfl rfl ?_
            refine (WL.done (WX.next ?_))
            refine (WC.ret ?_)
            refine ret_one rfl rfl ?_
            exact ⟨retb (by simp; try omega), rfl⟩
      · -- g3 False
        refine WL.no rfl rfl rfl ?_
        refine WL.no rfl rfl rfl ?_
        refine WL.pickF rfl rfl rfl ?_
        refine WL.move rfl rfl ?_
        refine WL.yes rfl rfl ?_
        refine WL.move rfl rfl ?_
        refine WL.yes rfl rfl ?_
        refine WL.bin rfl rfl binv_eql rfl ?_
        refine WL.yes rfl rfl ?_
        refine WL.move rfl rfl ?_
        first | refine WL.splitD (t := 22) rfl (fun g7 => ?_) (fun g7 => ?_) | refine WL.split (t := 22) rfl (fun g7 => ?_) (fun g7 => ?_)
        · -- g7 True
          refine WL.yes rfl rfl ?_
          refine WL.move rfl rfl ?_
          refine WL.yes rfl rfl ?_
          refine WL.bin rfl rfl binv_geq rfl ?_
          refine WL.yes rfl rfl ?_
          refine WL.pickT rfl rfl rfl ?_
          refine WL.yes rfl rfl ?_
          refine WL.move rfl rfl ?_
          first | refine WL.splitD (t := 26) rfl (fun g8 => ?_) (fun g8 => ?_) | refine WL.split (t := 26) rfl (fun g8 => ?_) (fun g8 => ?_)
          · -- g8 True
            refine WL.yes rfl rfl ?_
            refine WL.move rfl rfl ?_
            refine WL.yes rfl rfl ?_
            refine WL.bin rfl rfl binv_lss rfl ?_
            refine WL.yes rfl rfl ?_
            refine WL.pickT rfl rfl rfl ?_
            refine WL.pickF rfl rfl rfl ?_
            refine WL.assign rfl rfl ?_
            refine (WL.done (WX.next ?_))
            refine (WC.ret ?_)
            refine ret_one rfl rfl ?_
            exact ⟨retb (by simp; try omega), rfl⟩
          · -- g8 False
            refine WL.no rfl rfl rfl ?_
            refine WL.no rfl rfl rfl ?_
            refine WL.yes rfl rfl ?_
            refine WL.pickF rfl rfl rfl ?_
            refine WL.pickF rfl rfl rfl ?_
            refine WL.assign rfl rfl ?_
            refine (WL.done (WX.next ?_))
            refine (WC.ret ?_)
            refine ret_one rfl rfl ?_
            exact ⟨retb (by simp; try omega), rfl⟩
        · -- g7 False
          refine WL.no rfl rfl rfl ?_
          refine WL.no rfl rfl rfl ?_
          refine WL.yes rfl rfl ?_
          refine WL.pickF rfl rfl rfl ?_
          refine WL.yes rfl rfl ?_
          refine WL.move rfl rfl ?_
          refine WL.no rfl rfl rfl ?_
          refine WL.no rfl rfl rfl ?_
          refine WL.yes rfl rfl ?_
          refine WL.pickF rfl rfl rfl ?_
          refine WL.pickF rfl rfl rfl ?_
          refine WL.assign rfl rfl ?_
          refine (WL.done (WX.next ?_))
          refine (WC.ret ?_)
          refine ret_one rfl rfl ?_
          exact ⟨retb (by simp; try omega), rfl⟩
    · -- g2 False
      refine WL.no rfl rfl rfl ?_
      refine WL.no rfl rfl rfl ?_
      refine WL.pickF rfl rfl rfl ?_
      refine WL.move rfl rfl ?_
      refine WL.no rfl rfl rfl ?_
      refine WL.no rfl rfl rfl ?_
      refine WL.pickF rfl rfl rfl ?_
      refine WL.move rfl rfl ?_
      refine WL.yes rfl rfl ?_
      refine WL.move rfl rfl ?_
      refine WL.yes rfl rfl ?_
      refine WL.bin rfl rfl binv_eql rfl ?_
      refine WL.yes rfl rfl ?_
      refine WL.move rfl rfl ?_
      first | refine WL.splitD (t := 22) rfl (fun g9 => ?_) (fun g9 => ?_) | refine WL.split (t := 22) rfl (fun g9 => ?_) (fun g9 => ?_)
      · -- g9 True
        refine WL.yes rfl rfl ?_
        refine WL.move rfl rfl ?_
        refine WL.yes rfl rfl ?_
        refine WL.bin rfl rfl binv_geq rfl ?_
        refine WL.yes rfl rfl ?_
        refine WL.pickT rfl rfl rfl ?_
        refine WL.yes rfl rfl ?_
        refine WL.move rfl rfl ?_
        first | refine WL.splitD (t := 26) rfl (fun g10 => ?_) (fun g10 => ?_) | refine WL.split (t := 26) rfl (fun g10 => ?_) (fun g10 => ?_)
        · -- g10 True
          refine WL.yes rfl rfl ?_
          refine WL.move rfl rfl ?_
          refine WL.yes rfl rfl ?_
          refine WL.bin rfl rfl binv_lss rfl ?_
          refine WL.yes rfl rfl ?_
          refine WL.pickT rfl rfl rfl ?_
          refine WL.pickF rfl rfl rfl ?_
          refine WL.assign rfl rfl ?_
          refine (WL.done (WX.next ?_))
          refine (WC.ret ?_)
          refine ret_one rfl rfl ?_
          exact ⟨retb (by simp; try omega), rfl⟩
        · -- g10 False
          refine WL.no rfl rfl rfl ?_
          refine WL.no rfl rfl rfl ?_
          refine WL.yes rfl rfl ?_
          refine WL.pickF rfl rfl rfl ?_
          refine WL.pickF rfl rfl rfl ?_
          refine WL.assign rfl rfl ?_
          refine (WL.done (WX.next ?_))
          refine (WC.ret ?_)
          refine ret_one rfl rfl ?_
          exact ⟨retb (by simp; try omega), rfl⟩
      · -- g9 False
        refine WL.no rfl rfl rfl ?_
        refine WL.no rfl rfl rfl ?_
        refine WL.yes rfl rfl ?_
        refine WL.pickF rfl rfl rfl ?_
        refine WL.yes rfl rfl ?_
        refine WL.move rfl rfl ?_
        refine WL.no rfl rfl rfl ?_
        refine WL.no rfl rfl rfl ?_
        refine WL.yes rfl rfl ?_
        refine WL.pickF rfl rfl rfl ?_
        refine WL.pickF rfl rfl rfl ?_
        refine WL.assign rfl rfl ?_
        refine (WL.done (WX.next ?_))
        refine (WC.ret ?_)
        refine ret_one rfl rfl ?_
        exact ⟨retb (by simp; try omega), rfl⟩
  · -- g1 False
    refine WL.no rfl rfl rfl ?_
    refine WL.no rfl rfl rfl ?_
    refine WL.pickF rfl rfl rfl ?_
    refine WL.move rfl rfl ?_
    refine WL.no rfl rfl rfl ?_
    refine WL.no rfl rfl rfl ?_
    refine WL.pickF rfl rfl rfl ?_
    refine WL.move rfl rfl ?_
    refine WL.no rfl rfl rfl ?_
    refine WL.no rfl rfl rfl ?_
    refine WL.pickF rfl rfl rfl ?_
    refine WL.move rfl rfl ?_
    refine WL.yes rfl rfl ?_
    refine WL.move rfl rfl ?_
    refine WL.yes rfl rfl ?_
    refine WL.bin rfl rfl binv_eql rfl ?_
    refine WL.yes rfl rfl ?_
    refine WL.move rfl rfl ?_
    first | refine WL.splitD (t := 22) rfl (fun g11 => ?_) (fun g11 => ?_) | refine WL.split (t := 22) rfl (fun g11 => ?_) (fun g11 => ?_)
    · -- g11 True
      refine WL.yes rfl rfl ?_
      refine WL.move rfl rfl ?_
      refine WL.yes rfl rfl ?_
      refine WL.bin rfl rfl binv_geq rfl ?_
      refine WL.yes rfl rfl ?_
      refine WL.pickT rfl rfl rfl ?_
      refine WL.yes rfl rfl ?_
      refine WL.move rfl rfl ?_
      first | refine WL.splitD (t := 26) rfl (fun g12 => ?_) (fun g12 => ?_) | refine WL.split (t := 26) rfl (fun g12 => ?_) (fun g12 => ?_)
      · -- g12 True
        refine WL.yes rfl rfl ?_
        refine WL.move rfl rfl ?_
        refine WL.yes rfl rfl ?_
        refine WL.bin rfl rfl binv_lss rfl ?_
        refine WL.yes rfl rfl ?_
        refine WL.pickT rfl rfl rfl ?_
        refine WL.pickF rfl rfl rfl ?_
        refine WL.assign rfl rfl ?_
        refine (WL.done (WX.next ?_))
        refine (WC.ret ?_)
        refine ret_one rfl rfl ?_
        exact ⟨retb (by simp; try omega), rfl⟩
      · -- g12 False
        refine WL.no rfl rfl rfl ?_
        refine WL.no rfl rfl rfl ?_
        refine WL.yes rfl rfl ?_
        refine WL.pickF rfl rfl rfl ?_
        refine WL.pickF rfl rfl rfl ?_
        refine WL.assign rfl rfl ?_
        refine (WL.done (WX.next ?_))
        refine (WC.ret ?_)
        refine ret_one rfl rfl ?_
        exact ⟨retb (by simp; try omega), rfl⟩
    · -- g11 False
      refine WL.no rfl rfl rfl ?_
      refine WL.no rfl rfl rfl ?_
      refine WL.yes rfl rfl ?_
      refine WL.pickF rfl rfl rfl ?_
      refine WL.yes rfl rfl ?_
      refine WL.move rfl rfl ?_
      refine WL.no rfl rfl rfl ?_
      refine WL.no rfl rfl rfl ?_
      refine WL.yes rfl rfl ?_
      refine WL.pickF rfl rfl rfl ?_
      refine WL.pickF rfl rfl rfl ?_
      refine WL.assign rfl rfl ?_
      refine (WL.done (WX.next ?_))
      refine (WC.ret ?_)
      refine ret_one rfl rfl ?_
      exact ⟨retb (by simp; try omega), rfl⟩

end Go.Proofs.YtkncbggnaobgeaaDoor
