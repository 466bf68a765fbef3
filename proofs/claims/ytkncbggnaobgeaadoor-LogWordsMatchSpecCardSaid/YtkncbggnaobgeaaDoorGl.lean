/- Texts of this session, laid together: Crc2, Rt12. -/
import Derived.Test.YtkncbggnaobgeaaDoorGu
import Derived.Test.YtkncbggnaobgeaaDoorGm

/- The check of 40 bits by bytes and bits is that by nibbles. No Go in sight. -/
namespace Go.Proofs.YtkncbggnaobgeaaDoor
set_option linter.unusedVariables false
set_option linter.unusedSimpArgs false
set_option maxRecDepth 100000

/-- A byte's first j bits. -/
def crcBits (r b : Nat) : Nat → Nat
  | 0 => r
  | j + 1 => crcB (crcBits r b j) (b / 2 ^ (7 - j) % 2)
def crcUp (bs : List Nat) (i : Nat) : Nat := (bs.take i).foldl (fun r b => crcBits r b 8) 1099511627775
def byt (n : Int) (k : Nat) : Nat := (n / 2 ^ (32 - 8 * k) % 256).toNat
def five (n : Int) (j : Nat) : List Nat := (List.range j).map (byt n)
def bytesTo (xs : List Int) (i : Nat) : List Nat := (xs.take i).flatMap fun n => five n 5
theorem byt_lt (n : Int) (k : Nat) : byt n k < 256 := by
  unfold byt
  have h1 := Int.emod_nonneg (n / 2 ^ (32 - 8 * k)) (show (256 : Int) ≠ 0 by decide)
  have h2 := Int.emod_lt_of_pos (n / 2 ^ (32 - 8 * k)) (show (0 : Int) < 256 by decide)
  omega
theorem five_len (n : Int) (j : Nat) : (five n j).length = j := by simp [five]
theorem five_succ (n : Int) (j : Nat) : five n (j + 1) = five n j ++ [byt n j] := by unfold five; rw [List.range_succ, List.map_append]; rfl
theorem five_lt (n : Int) (j : Nat) : ∀ b ∈ five n j, b < 256 := by
  intro b hb
  obtain ⟨k, _, rfl⟩ := List.mem_map.1 hb
  exact byt_lt n k
theorem bytesTo_succ (xs : List Int) {i : Nat} (h : i < xs.length) : bytesTo xs (i + 1) = bytesTo xs i ++ five (xs.getD i 0) 5 := by
  unfold bytesTo
  rw [List.take_add_one, List.getElem?_eq_getElem h, List.flatMap_append]
  have : xs.getD i 0 = xs[i] := by simp [List.getD, List.getElem?_eq_getElem h]
  rw [this]
  simp
theorem bytesTo_len (xs : List Int) : ∀ i, i ≤ xs.length → (bytesTo xs i).length = 5 * i
  | 0, _ => rfl
  | i + 1, h => by rw [bytesTo_succ xs (by omega), List.length_append, five_len, bytesTo_len xs i (by omega)]; omega
theorem bytesTo_lt (xs : List Int) (i : Nat) : ∀ b ∈ bytesTo xs i, b < 256 := by
  intro b hb
  unfold bytesTo at hb
  obtain ⟨n, _, hn⟩ := List.mem_flatMap.1 hb
  exact five_lt n 5 b hn
theorem crcBits_lt {r : Nat} (hr : r < 1099511627776) (b : Nat) : ∀ j, crcBits r b j < 1099511627776
  | 0 => hr
  | j + 1 => crcB_lt _ _
theorem crcUp_succ (bs : List Nat) {i : Nat} (h : i < bs.length) : crcUp bs (i + 1) = crcBits (crcUp bs i) (bs.getD i 0) 8 := by
  unfold crcUp
  rw [List.take_add_one, List.getElem?_eq_getElem h, List.foldl_append]
  have : bs.getD i 0 = bs[i] := by simp [List.getD, List.getElem?_eq_getElem h]
  rw [this]
  rfl
theorem foldl_bits_lt : ∀ (bs : List Nat) (r : Nat), r < 1099511627776 → bs.foldl (fun r b => crcBits r b 8) r < 1099511627776
  | [], r, h => h
  | b :: bs, r, h => foldl_bits_lt bs _ (crcBits_lt h b 8)
theorem crcUp_lt (bs : List Nat) (i : Nat) : crcUp bs i < 1099511627776 := foldl_bits_lt _ _ (by decide)
/-- A byte is two nibbles. -/
theorem crcBits_8 {r b : Nat} (hr : r < 1099511627776) (hb : b < 256) : crcBits r b 8 = nib (nib r (b / 16)) (b % 16) := by
  rw [← nib_bits hr (show b / 16 < 16 by omega), ← nib_bits (crcB_lt _ _) (show b % 16 < 16 by omega)]
  unfold crcBits crcBits crcBits crcBits crcBits crcBits crcBits crcBits crcBits
  simp only [Nat.reduceSub, Nat.reducePow]
  rw [show b / 128 % 2 = b / 16 / 8 % 2 by omega, show b / 64 % 2 = b / 16 / 4 % 2 by omega, show b / 32 % 2 = b / 16 / 2 % 2 by omega, show b / 8 % 2 = b % 16 / 8 % 2 by omega, show b / 4 % 2 = b % 16 / 4 % 2 by omega, show b / 2 % 2 = b % 16 / 2 % 2 by omega, show b / 1 % 2 = b % 16 % 2 by omega]
theorem byt_nib (n : Int) {k : Nat} (hk : k < 5) : byt n k / 16 = nbl n (2 * k) ∧ byt n k % 16 = nbl n (2 * k + 1) := by
  have hk' : k = 0 ∨ k = 1 ∨ k = 2 ∨ k = 3 ∨ k = 4 := by omega
  unfold byt nbl
  rcases hk' with rfl | rfl | rfl | rfl | rfl <;> simp only [Nat.reduceMul, Nat.reduceSub, Nat.reduceAdd, Int.reducePow] <;> omega
theorem word_bytes {r : Nat} (hr : r < 1099511627776) (n : Int) : (five n 5).foldl (fun r b => crcBits r b 8) r = crcW r n 10 := by
  have h : ∀ j, j ≤ 5 → (five n j).foldl (fun r b => crcBits r b 8) r = crcW r n (2 * j) := by
    intro j
    induction j with
    | zero => intro _; rfl
    | succ j ih =>
      intro hj
      have hlt := crcW_lt hr n (2 * j)
      rw [five_succ, List.foldl_append, ih (by omega)]
      show crcBits (crcW r n (2 * j)) (byt n j) 8 = _
      rw [crcBits_8 hlt (byt_lt n j), (byt_nib n (by omega)).1, (byt_nib n (by omega)).2]
      rfl
  exact h 5 (Nat.le_refl _)
theorem crcTo_fold (xs : List Int) : ∀ i, i ≤ xs.length → crcTo xs i = (bytesTo xs i).foldl (fun r b => crcBits r b 8) 1099511627775
  | 0, _ => rfl
  | i + 1, h => by
    rw [bytesTo_succ xs (by omega), List.foldl_append, ← crcTo_fold xs i (by omega), word_bytes (crcTo_lt xs i)]
    rfl
theorem crc_bytes (xs : List Int) : crc xs = ((crcUp (bytesTo xs xs.length) (bytesTo xs xs.length).length ^^^ 1099511627775 : Nat) : Int) := by
  unfold crc crcUp
  rw [List.take_of_length_le (Nat.le_refl _), crcTo_fold xs xs.length (Nat.le_refl _)]
end Go.Proofs.YtkncbggnaobgeaaDoor

/- Walks of functions of the program; printed by a program of this session (walk.py) out of hand-written hints. -/
namespace Go.Proofs.YtkncbggnaobgeaaDoor
open Go.RowKit
set_option linter.unusedVariables false
set_option linter.unusedSimpArgs false
set_option maxRecDepth 100000

theorem app256 : AppT Tryd.prog 256 5 1 1 := appT_of (by kernel_rfl)
def bytC (bs : List Nat) : List Value := bs.map fun (b : Nat) => Value.int .u8 (b : Int)
theorem bytC_append (a b : List Nat) : bytC (a ++ b) = bytC a ++ bytC b := by simp [bytC]
theorem bytC_one (bs : List Nat) : ∀ u ∈ bytC bs, u.oneCell' = true := by
  intro u hu
  obtain ⟨b, _, rfl⟩ := List.mem_map.1 hu
  rfl
theorem bytC_len (bs : List Nat) : (bytC bs).length = bs.length := by simp [bytC]
theorem wrap_byt (x : Int) (k : Nat) : IntKind.u8.wrap (x / 2 ^ (32 - 8 * k)) = ((byt x k : Nat) : Int) := by
  unfold byt
  rw [Int.toNat_of_nonneg (Int.emod_nonneg _ (by decide))]
  simp [IntKind.wrap, IntKind.bits, IntKind.signed]
/-- Bytes that were handed over. -/
def BytIn (w : World) (A : Option Addr) (bs : List Nat) : Prop := bs = [] ∨ ∃ b o cs t fr, A = some ⟨b, o, none⟩ ∧ w.heap[b]? = some (.cells cs t fr) ∧ ∀ (j u : Nat), bs[j]? = some u → cs[o + j]? = some (.int .u8 (u : Int))
theorem BytIn.row {w : World} {r : Row} {n : Nat} {T : TypeId} {bs : List Nat} (hr : r.ok 1 n (bytC bs)) (hs : ∀ q ∈ r.hp T, w.heap[q.1]? = some q.2) : ∃ A cap, r.val n = .slice A n cap ∧ BytIn w A bs := by
  have hnil : bytC bs = [] → bs = [] := fun h => by cases bs with
    | nil => rfl
    | cons x xs => cases h
  cases r with
  | none => exact ⟨none, 0, rfl, .inl (hnil hr.2)⟩
  | nul a => exact ⟨some a, 0, rfl, .inl (hnil hr.2)⟩
  | some g cap cur =>
    refine ⟨_, _, rfl, .inr ⟨g, 0, cur, T, _, rfl, hs _ List.mem_cons_self, fun j u hj => ?_⟩⟩
    rw [Nat.zero_add]
    exact Row.ok_get hr (by unfold bytC; rw [List.getElem?_map, hj]; rfl)

theorem step_any (r b : Nat) (hr : r < 1099511627776) (hb : b < 2) (w : World) : Calls Tryd.prog 212 #[.int .u64 (r : Int), .int .u64 (b : Int)] w fun e w' => e = .returned (.int .u64 (crcB r b : Nat)) ∧ w' = w := by
  refine calls_walk_n (args := [.int .u64 (r : Int), .int .u64 (b : Int)]) Tryd.func212 rfl rfl rfl ?_
  refine WC.seq ?_
  refine WC.region ?_
  refine WL.assign rfl rfl ?_
  refine (WL.done (WX.next ?_))
  refine WC.seq ?_
  refine WC.region ?_
  have h39 : r / 2 ^ 39 < 2 := by omega
  have ha1 : r / 2 ^ 39 &&& 1 = r / 549755813888 % 2 := Nat.and_one_is_mod _
  have hx1 : r / 549755813888 % 2 ^^^ b < 2 := xor_lt 1 (by omega) hb
  have ha40 : r * 2 ^ 1 &&& 1099511627775 = r * 2 % 1099511627776 := Nat.and_two_pow_sub_one_eq_mod _ 40
  have hm40 : r * 2 % 1099511627776 < 1099511627776 := Nat.mod_lt _ (by decide)
  refine WL.move rfl rfl ?_
  refine WL.bin rfl rfl (shrN (a := r) (m := 39) rfl rfl (by decide)) rfl ?_
  refine WL.bin rfl rfl ((by rw [← ha1]; exact uandN (a := r / 2 ^ 39) (b := 1) rfl rfl (by omega) (by omega) : BinV Tryd.prog .and 250 (.int .u64 ((r / 2 ^ 39 : Nat) : Int)) (.int .u64 1) (.int .u64 ((r / 549755813888 % 2 : Nat) : Int)))) rfl ?_
  refine WL.move rfl rfl ?_
  refine WL.bin rfl rfl (uxorN (a := r / 549755813888 % 2) (b := b) rfl rfl (by omega) (by omega)) rfl ?_
  refine WL.assign rfl rfl ?_
  refine (WL.done (WX.next ?_))
  refine WC.seq ?_
  refine WC.region ?_
  refine WL.move rfl rfl ?_
  refine WL.bin rfl rfl (ushlN (a := r) (m := 1) rfl rfl (by decide) (by omega)) rfl ?_
  refine WL.bin rfl rfl ((by rw [← ha40]; exact uandN (a := r * 2 ^ 1) (b := 1099511627775) rfl rfl (by omega) (by omega) : BinV Tryd.prog .and 250 (.int .u64 ((r * 2 ^ 1 : Nat) : Int)) (.int .u64 1099511627775) (.int .u64 ((r * 2 % 1099511627776 : Nat) : Int)))) rfl ?_
  refine WL.assign rfl rfl ?_
  refine (WL.done (WX.next ?_))
  refine WC.seq ?_
  refine WC.seq ?_
  refine WC.region ?_
  refine WL.move rfl rfl ?_
  refine WL.bin rfl rfl (binv_eql) rfl ?_
  refine (WL.done (WX.next ?_))
  first | refine WC.cond_dec rfl (fun c1 => ?_) (fun c1 => ?_) | refine WC.cond rfl (fun c1 => ?_) (fun c1 => ?_)
  · -- c1 T
    refine WC.region ?_
    refine WL.move rfl rfl ?_
    refine WL.bin rfl rfl (uxorN (a := r * 2 % 1099511627776) (b := 75628553) rfl rfl (by omega) (by omega)) rfl ?_
    refine WL.assign rfl rfl ?_
    refine (WL.done (WX.next ?_))
    refine WC.seq ?_
    refine WC.region ?_
    refine WL.move rfl rfl ?_
    refine WL.assign rfl rfl ?_
    refine (WL.done (WX.next ?_))
    refine (WC.ret ?_)
    refine ret_one rfl rfl ?_
    refine ⟨?_, rfl⟩
    unfold crcB
    rw [if_pos (by omega)]
  · -- c1 F
    refine (WC.skip (WX.next ?_))
    refine WC.seq ?_
    refine WC.region ?_
    refine WL.move rfl rfl ?_
    refine WL.assign rfl rfl ?_
    refine (WL.done (WX.next ?_))
    refine (WC.ret ?_)
    refine ret_one rfl rfl ?_
    refine ⟨?_, rfl⟩
    unfold crcB
    rw [if_neg (by omega), Nat.xor_zero]

theorem five_any (x : Int) (w : World) : Calls Tryd.prog 213 #[.int .i64 x] w fun e w' => ∃ r : Row, e = .returned (r.val 5) ∧ r.ok 1 5 (bytC (five x 5)) ∧ St w [] w' (r.hp 5) := by
  refine calls_walk_n (args := [.int .i64 x]) Tryd.func213 rfl rfl rfl ?_
  have H := St.refl w
  refine WC.seq ?_
  refine WC.region ?_
  refine WL.assign rfl rfl ?_
  refine (WL.done (WX.next ?_))
  refine WC.seq ?_
  refine WC.region ?_
  refine WL.assign rfl rfl ?_
  refine (WL.done (WX.next ?_))
  refine WC.seq ?_
  refine WC.seq ?_
  refine WC.region ?_
  refine WL.assign rfl rfl ?_
  refine (WL.done (WX.next ?_))
  refine WC.block ?_
  -- loop 1: changed [3, 4] kept [0]
  refine WC.loop (Sub.cons (t := 0) rfl (Sub.nil _)) (fun z : Row × Nat => [(3, z.1.val z.2), (4, .int .i64 (z.2 : Int))]) (fun q z wx => q = 5 - z.2 ∧ z.2 ≤ 5 ∧ z.1.ok 1 z.2 (bytC (five x z.2)) ∧ St w [] wx (z.1.hp 5)) (5) ((Row.none, 0)) (Sub.cons (t := 3) (by first | rfl | simp) (Sub.cons (t := 4) (by first | rfl | simp) (Sub.nil _))) (⟨rfl, Nat.zero_le _, ⟨rfl, rfl⟩, H⟩) ?_
  rintro q z wx hJ N hN
  clear H
  obtain ⟨r, i⟩ := z
  obtain ⟨rfl, hi, hr, H⟩ := hJ
  change i ≤ 5 at hi
  change r.ok 1 i (bytC (five x i)) at hr
  change St w [] wx (r.hp 5) at H
  refine WC.seq ?_
  refine WC.seq ?_
  refine WC.region ?_
  refine WL.move rfl rfl ?_
  refine WL.bin rfl rfl binv_lss rfl ?_
  refine (WL.done (WX.next ?_))
  first | refine WC.cond_dec rfl (fun c1 => ?_) (fun c1 => ?_) | refine WC.cond rfl (fun c1 => ?_) (fun c1 => ?_)
  · -- c1 T
    change (i : Int) < 5 at c1
    refine (WC.skip (WX.next ?_))
    refine WC.seq ?_
    refine WC.block ?_
    refine WC.region ?_
    refine WL.move rfl rfl ?_
    refine WL.move rfl rfl ?_
    refine WL.move rfl rfl ?_
    refine WL.bin rfl rfl (imul (x := 8) (by omega) (by omega)) rfl ?_
    refine WL.bin rfl rfl (isub (by omega) (by omega)) rfl ?_
    refine WL.bin rfl rfl (shrZ (m := 32 - 8 * i) (by omega) (by show _ ≤ 64; omega)) rfl ?_
    refine WL.convert int3 int5 rfl (wrap_byt _ _) rfl ?_
    refine WL.buildSlice1 H Tryd.underlying256 (sz := 1) (by simp only [Tryd.underlying5]; exact ty5) (by omega) zer5 rfl rfl rfl rfl ?_
    intro g2 wx hg2 hgg2 H
    replace H := H.perm (List.perm_append_comm (l₁ := [(g2, _)]) (l₂ := r.hp 5))
    refine WL.append (m := 1) (news := bytC [byt x i]) app256 H hr rfl rfl rfl (fun j u hj => by rw [addr_add, cell_of (H.sat _ (List.mem_append_right _ List.mem_cons_self)), Nat.zero_add]; simpa [Value.cells, bytC] using hj) (bytC_one _) (by simp only [maxLen]; omega) (by omega) rfl ?_
    intro r1 wx hr1 H
    replace hr1 : r1.ok 1 (i + 1) (bytC (five x (i + 1))) := by rw [five_succ, bytC_append]; exact hr1
    refine WL.assign rfl rfl ?_
    refine (WL.done (WX.block_normal (WX.next ?_)))
    refine WC.region ?_
    refine WL.move rfl rfl ?_
    refine WL.bin rfl rfl (iadd (by omega) (by omega)) rfl ?_
    refine WL.assign rfl rfl ?_
    refine (WL.done (WX.round ?_))
    exact hN _ (r1, i + 1) _ _ (by show 5 - (i + 1) < 5 - i; omega) ⟨rfl, by show i + 1 ≤ 5; omega, hr1, H.weaken (List.sublist_append_left _ _)⟩ (Sub.cons (t := 3) (by first | rfl | simp) (Sub.cons (t := 4) (by first | rfl | simp) (Sub.nil _))) (Sub.cons (t := 0) rfl (Sub.nil _))
  · -- c1 F
    change ¬ (i : Int) < 5 at c1
    obtain rfl : i = 5 := by omega
    refine (WC.exit (WX.then_exit (WX.then_exit (WX.block_exit (WX.next ?_)))))
    refine WC.seq ?_
    refine WC.region ?_
    refine WL.move rfl rfl ?_
    refine WL.assign rfl rfl ?_
    refine (WL.done (WX.next ?_))
    refine (WC.ret ?_)
    refine ret_one rfl rfl ?_
    exact ⟨r, rfl, hr, H⟩

theorem bytes_any (A : Option Addr) (m cap : Nat) (xs : List Int) (hmx : m = xs.length) (hm : m ≤ 1048576) (w : World) (hx : IntsIn w A xs) : Calls Tryd.prog 197 #[.slice A m cap] w fun e w' => ∃ r : Row, e = .returned (r.val (5 * m)) ∧ r.ok 1 (5 * m) (bytC (bytesTo xs m)) ∧ St w [] w' (r.hp 5) := by
  refine calls_walk_n (args := [.slice A m cap]) Tryd.func197 rfl rfl rfl ?_
  have H := St.refl w
  refine WC.seq ?_
  refine WC.region ?_
  refine WL.assign rfl rfl ?_
  refine (WL.done (WX.next ?_))
  refine WC.seq ?_
  refine WC.region ?_
  refine WL.assign rfl rfl ?_
  refine (WL.done (WX.next ?_))
  refine WC.seq ?_
  refine WC.seq ?_
  refine WC.region ?_
  refine WL.assign rfl rfl ?_
  refine (WL.done (WX.next ?_))
  refine WC.block ?_
  -- loop 1: changed [3, 4] kept [0]
  refine WC.loop (Sub.cons (t := 0) rfl (Sub.nil _)) (fun z : Row × Nat => [(3, z.1.val (5 * z.2)), (4, .int .i64 (z.2 : Int))]) (fun q z wx => q = m - z.2 ∧ z.2 ≤ m ∧ z.1.ok 1 (5 * z.2) (bytC (bytesTo xs z.2)) ∧ St w [] wx (z.1.hp 5)) (m) ((Row.none, 0)) (Sub.cons (t := 3) (by first | rfl | simp) (Sub.cons (t := 4) (by first | rfl | simp) (Sub.nil _))) (⟨rfl, Nat.zero_le _, ⟨rfl, rfl⟩, H⟩) ?_
  rintro q z wx hJ N hN
  clear H
  obtain ⟨r, i⟩ := z
  obtain ⟨rfl, hi, hr, H⟩ := hJ
  change i ≤ m at hi
  change r.ok 1 (5 * i) (bytC (bytesTo xs i)) at hr
  change St w [] wx (r.hp 5) at H
  refine WC.seq ?_
  refine WC.seq ?_
  refine WC.region ?_
  refine WL.move rfl rfl ?_
  refine WL.move rfl rfl ?_
  refine WL.lenSlc isl43 rfl rfl ?_
  refine WL.bin rfl rfl binv_lss rfl ?_
  refine (WL.done (WX.next ?_))
  first | refine WC.cond_dec rfl (fun c1 => ?_) (fun c1 => ?_) | refine WC.cond rfl (fun c1 => ?_) (fun c1 => ?_)
  · -- c1 T
    change (i : Int) < (m : Int) at c1
    obtain ⟨b, o, cs, t, fr, rfl, hb, hcs⟩ : ∃ b o cs t fr, A = some ⟨b, o, none⟩ ∧ w.heap[b]? = some (.cells cs t fr) ∧ ∀ (j : Nat) (u : Int), xs[j]? = some u → cs[o + j]? = some (.int .i64 u) := by
      rcases hx with h | h
      · rw [h] at hmx; simp at hmx; omega
      · exact h
    have hgx : xs[i]? = some (xs.getD i 0) := by rw [List.getD, List.getElem?_eq_getElem (by omega)]; rfl
    refine (WC.skip (WX.next ?_))
    refine WC.seq ?_
    refine WC.block ?_
    refine WC.region ?_
    refine WL.move rfl rfl ?_
    refine WL.move rfl rfl ?_
    refine WL.move rfl rfl ?_
    refine WL.idxSlc (k := i) slc43 rfl rfl (by first | rfl | omega) (by omega) rfl ?_
    first | refine WL.load rfl (Rd.one ty3 (by rw [cell_of (H.oldBlock hb (by simp)), Nat.mul_one]; exact hcs i _ hgx)) rfl ?_
    refine WL.call call213 rfl rfl ?_
    refine Calls.mono (five_any (xs.getD i 0) _) ?_
    rintro _ wx ⟨r2, rfl, hr2, Hc⟩
    refine ⟨_, rfl, ?_⟩
    replace H := H.call Hc
    refine WL.appendR (r2 := r2) (m := 5) (k := 5 * i) app256 (H := r2.hp 5) (H.perm List.perm_append_comm) hr hr2 (fun q hq => H.sat q (by simp [hq])) (bytC_one _) rfl rfl (by simp only [maxLen]; omega) (by omega) rfl ?_
    intro r1 wx hr1 H
    replace hr1 : r1.ok 1 (5 * (i + 1)) (bytC (bytesTo xs (i + 1))) := by rw [bytesTo_succ xs (by omega), bytC_append]; exact hr1
    refine WL.assign rfl rfl ?_
    refine (WL.done (WX.block_normal (WX.next ?_)))
    refine WC.region ?_
    refine WL.move rfl rfl ?_
    refine WL.bin rfl rfl (iadd (by omega) (by omega)) rfl ?_
    refine WL.assign rfl rfl ?_
    refine (WL.done (WX.round ?_))
    exact hN _ (r1, i + 1) _ _ (by show m - (i + 1) < m - i; omega) ⟨rfl, by show i + 1 ≤ m; omega, hr1, H.weaken (List.sublist_append_left _ _)⟩ (Sub.cons (t := 3) (by first | rfl | simp) (Sub.cons (t := 4) (by first | rfl | simp) (Sub.nil _))) (Sub.cons (t := 0) rfl (Sub.nil _))
  · -- c1 F
    change ¬ (i : Int) < (m : Int) at c1
    obtain rfl : i = m := by omega
    refine (WC.exit (WX.then_exit (WX.then_exit (WX.block_exit (WX.next ?_)))))
    refine WC.seq ?_
    refine WC.region ?_
    refine WL.move rfl rfl ?_
    refine WL.assign rfl rfl ?_
    refine (WL.done (WX.next ?_))
    refine (WC.ret ?_)
    refine ret_one rfl rfl ?_
    exact ⟨r, rfl, hr, H⟩

theorem crc40_any (A : Option Addr) (m cap : Nat) (xs : List Nat) (hmx : m = xs.length) (hm : m ≤ 1073741824) (hlt : ∀ b ∈ xs, b < 256) (w : World) (hx : BytIn w A xs) : Calls Tryd.prog 196 #[.slice A m cap] w fun e w' => e = .returned (.int .i64 ((crcUp xs m ^^^ 1099511627775 : Nat) : Int)) ∧ St w [] w' [] := by
  refine calls_walk_n (args := [.slice A m cap]) Tryd.func196 rfl rfl rfl ?_
  have H := St.refl w
  refine WC.seq ?_
  refine WC.region ?_
  refine WL.assign rfl rfl ?_
  refine (WL.done (WX.next ?_))
  refine WC.seq ?_
  refine WC.region ?_
  refine WL.assign rfl rfl ?_
  refine (WL.done (WX.next ?_))
  refine WC.seq ?_
  refine WC.seq ?_
  refine WC.region ?_
  refine WL.assign rfl rfl ?_
  refine (WL.done (WX.next ?_))
  refine WC.block ?_
  -- loop 1: changed [3, 4] kept [0]
  refine WC.loop (Sub.cons (t := 0) rfl (Sub.nil _)) (fun i : Nat => [(3, .int .u64 ((crcUp xs i : Nat) : Int)), (4, .int .i64 (i : Int))]) (fun q i wx => q = m - i ∧ i ≤ m ∧ St w [] wx []) (m) (0) (Sub.cons (t := 3) (by first | rfl | simp) (Sub.cons (t := 4) (by first | rfl | simp) (Sub.nil _))) (⟨rfl, Nat.zero_le _, H⟩) ?_
  rintro q i wx hJ N hN
  obtain ⟨rfl, hi, H⟩ := hJ
  refine WC.seq ?_
  refine WC.seq ?_
  refine WC.region ?_
  refine WL.move rfl rfl ?_
  refine WL.move rfl rfl ?_
  refine WL.lenSlc isl256 rfl rfl ?_
  refine WL.bin rfl rfl binv_lss rfl ?_
  refine (WL.done (WX.next ?_))
  first | refine WC.cond_dec rfl (fun c1 => ?_) (fun c1 => ?_) | refine WC.cond rfl (fun c1 => ?_) (fun c1 => ?_)
  · -- c1 T
    change (i : Int) < (m : Int) at c1
    obtain ⟨b, o, cs, t, fr, rfl, hb, hcs⟩ : ∃ b o cs t fr, A = some ⟨b, o, none⟩ ∧ w.heap[b]? = some (.cells cs t fr) ∧ ∀ (j : Nat) (u : Nat), xs[j]? = some u → cs[o + j]? = some (.int .u8 (u : Int)) := by
      rcases hx with h | h
      · rw [h] at hmx; simp at hmx; omega
      · exact h
    have hgx : xs[i]? = some (xs.getD i 0) := by rw [List.getD, List.getElem?_eq_getElem (by omega)]; rfl
    have hb8 : xs.getD i 0 < 256 := hlt _ (by rw [List.getD, List.getElem?_eq_getElem (by omega)]; exact List.getElem_mem _)
    refine (WC.skip (WX.next ?_))
    refine WC.seq ?_
    refine WC.block ?_
    refine WC.seq ?_
    refine WC.region ?_
    refine WL.assign rfl rfl ?_
    refine (WL.done (WX.next ?_))
    refine WC.block ?_
    -- loop 2: changed [3, 5] kept [0, 4]
    refine WC.loop (Sub.cons (t := 0) rfl (Sub.cons (t := 4) rfl (Sub.nil _))) (fun j : Nat => [(3, .int .u64 ((crcBits (crcUp xs i) (xs.getD i 0) j : Nat) : Int)), (5, .int .i64 (j : Int))]) (fun q j wx => q = 8 - j ∧ j ≤ 8 ∧ St w [] wx []) (8) (0) (Sub.cons (t := 3) (by first | rfl | simp) (Sub.cons (t := 5) (by first | rfl | simp) (Sub.nil _))) (⟨rfl, Nat.zero_le _, H⟩) ?_
    rintro q2 j wx hJ2 N2 hN2
    obtain ⟨rfl, hj, H⟩ := hJ2
    refine WC.seq ?_
    refine WC.seq ?_
    refine WC.region ?_
    refine WL.move rfl rfl ?_
    refine WL.bin rfl rfl binv_lss rfl ?_
    refine (WL.done (WX.next ?_))
    first | refine WC.cond_dec rfl (fun c2 => ?_) (fun c2 => ?_) | refine WC.cond rfl (fun c2 => ?_) (fun c2 => ?_)
    · -- c2 T
      change (j : Int) < 8 at c2
      refine (WC.skip (WX.next ?_))
      refine WC.seq ?_
      refine WC.block ?_
      refine WC.region ?_
      have hlj := crcBits_lt (crcUp_lt xs i) (xs.getD i 0) j
      have hd8 : xs.getD i 0 / 2 ^ (7 - j) ≤ xs.getD i 0 := Nat.div_le_self _ _
      have ha1 : xs.getD i 0 / 2 ^ (7 - j) &&& 1 = xs.getD i 0 / 2 ^ (7 - j) % 2 := Nat.and_one_is_mod _
      refine WL.move rfl rfl ?_
      refine WL.move rfl rfl ?_
      refine WL.move rfl rfl ?_
      refine WL.idxSlc (k := i) slc256 rfl rfl (by first | rfl | omega) (by omega) rfl ?_
      first | refine WL.load rfl (Rd.one ty5 (by rw [cell_of (H.oldBlock hb (by simp)), Nat.mul_one]; exact hcs i _ hgx)) rfl ?_
      refine WL.convert int5 int250 rfl (wrap_u64 (by omega) (by omega)) rfl ?_
      refine WL.move rfl rfl ?_
      refine WL.bin rfl rfl (isub (x := 7) (by omega) (by omega)) rfl ?_
      refine WL.bin rfl rfl (shrN (a := xs.getD i 0) (m := 7 - j) rfl (by omega) (by show _ ≤ 64; omega)) rfl ?_
      refine WL.bin rfl rfl ((by rw [← ha1]; exact uandN (a := xs.getD i 0 / 2 ^ (7 - j)) (b := 1) rfl rfl (by omega) (by omega) : BinV Tryd.prog .and 250 (.int .u64 ((xs.getD i 0 / 2 ^ (7 - j) : Nat) : Int)) (.int .u64 1) (.int .u64 ((xs.getD i 0 / 2 ^ (7 - j) % 2 : Nat) : Int)))) rfl ?_
      refine WL.call call212 rfl rfl ?_
      refine Calls.mono (step_any (crcBits (crcUp xs i) (xs.getD i 0) j) (xs.getD i 0 / 2 ^ (7 - j) % 2) hlj (Nat.mod_lt _ (by decide)) _) ?_
      rintro _ wx ⟨rfl, rfl⟩
      refine ⟨_, rfl, ?_⟩
      refine WL.assign rfl rfl ?_
      refine (WL.done (WX.block_normal (WX.next ?_)))
      refine WC.region ?_
      refine WL.move rfl rfl ?_
      refine WL.bin rfl rfl (iadd (by omega) (by omega)) rfl ?_
      refine WL.assign rfl rfl ?_
      refine (WL.done (WX.round ?_))
      exact hN2 _ (j + 1) _ _ (by omega) ⟨rfl, by omega, H⟩ (Sub.cons (t := 3) (by first | rfl | simp) (Sub.cons (t := 5) (by first | rfl | simp) (Sub.nil _))) (Sub.cons (t := 0) rfl (Sub.cons (t := 4) rfl (Sub.nil _)))
    · -- c2 F
      change ¬ (j : Int) < 8 at c2
      obtain rfl : j = 8 := by omega
      refine (WC.exit (WX.then_exit (WX.then_exit (WX.block_exit (WX.block_normal (WX.next ?_))))))
      refine WC.region ?_
      refine WL.move rfl rfl ?_
      refine WL.bin rfl rfl (iadd (by omega) (by omega)) rfl ?_
      refine WL.assign rfl rfl ?_
      refine (WL.done (WX.round ?_))
      exact hN _ (i + 1) _ _ (by omega) ⟨rfl, by omega, H⟩ (Sub.cons (t := 3) (by rw [crcUp_succ xs (by omega)]; rfl) (Sub.cons (t := 4) rfl (Sub.nil _))) (Sub.cons (t := 0) rfl (Sub.nil _))
  · -- c1 F
    change ¬ (i : Int) < (m : Int) at c1
    obtain rfl : i = m := by omega
    have hlm := crcUp_lt xs i
    have hxm : crcUp xs i ^^^ 1099511627775 < 1099511627776 := xor_lt 40 hlm (by decide)
    refine (WC.exit (WX.then_exit (WX.then_exit (WX.block_exit (WX.next ?_)))))
    refine WC.seq ?_
    refine WC.region ?_
    refine WL.move rfl rfl ?_
    refine WL.bin rfl rfl (uxorN (a := crcUp xs i) (b := 1099511627775) rfl rfl (by omega) (by omega)) rfl ?_
    refine WL.convert int250 int3 rfl (wrap_i64 (by omega) (by omega)) rfl ?_
    refine WL.assign rfl rfl ?_
    refine (WL.done (WX.next ?_))
    refine (WC.ret ?_)
    refine ret_one rfl rfl ?_
    exact ⟨rfl, H.weaken (List.nil_sublist _)⟩

theorem refWords_any (A : Option Addr) (m cap : Nat) (xs : List Int) (hmx : m = xs.length) (hm : m ≤ 1048576) (w : World) (hx : IntsIn w A xs) : Calls Tryd.prog 151 #[.slice A m cap] w fun e w' => e = .returned (.int .i64 (crc xs)) ∧ St w [] w' [] := by
  refine calls_walk_n (args := [.slice A m cap]) Tryd.func151 rfl rfl rfl ?_
  have H := St.refl w
  refine WC.seq ?_
  refine WC.region ?_
  refine WL.assign rfl rfl ?_
  refine (WL.done (WX.next ?_))
  refine WC.seq ?_
  refine WC.region ?_
  refine WL.move rfl rfl ?_
  refine WL.call call197 rfl rfl ?_
  refine Calls.mono (bytes_any A m cap xs hmx hm _ hx) ?_
  rintro _ wx ⟨r, rfl, hr, Hc⟩
  refine ⟨_, rfl, ?_⟩
  replace H := H.call Hc
  obtain ⟨A2, cap2, he2, hx2⟩ := BytIn.row (T := 5) hr (fun q hq => H.sat q (by simp [hq]))
  rw [he2]
  have hl2 := bytesTo_len xs m (by omega)
  refine WL.call call196 rfl rfl ?_
  refine Calls.mono (crc40_any A2 (5 * m) cap2 (bytesTo xs m) hl2.symm (by omega) (bytesTo_lt xs m) _ hx2) ?_
  rintro _ wx ⟨rfl, Hc⟩
  refine ⟨_, rfl, ?_⟩
  replace H := H.call0 Hc
  refine WL.assign rfl rfl ?_
  refine (WL.done (WX.next ?_))
  refine (WC.ret ?_)
  refine ret_one rfl rfl ?_
  refine ⟨?_, H.weaken (List.nil_sublist _)⟩
  rw [crc_bytes, ← hmx, hl2]

end Go.Proofs.YtkncbggnaobgeaaDoor
