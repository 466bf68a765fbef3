/- Texts of this session, laid together: Crc, Rtk, Rootd, Rt1, Rt2, Rt3, Rt4, Rt5, Rootp, Rt6, Rt7, Rt8, Rt9, Rt10, Roots, Rt11, Card2. -/
import Derived.Test.YtkncbggnaobgeaaDoorGa
import Derived.Test.YtkncbggnaobgeaaDoorGb
import Derived.Test.YtkncbggnaobgeaaDoorGh
import Derived.Test.YtkncbggnaobgeaaDoorGf
import Derived.Test.YtkncbggnaobgeaaDoorGg

/- The check of 40 bits as a plain function: by nibbles and by bits it is the same, and it tells one inverted nibble. No Go in sight. -/
namespace Go.Proofs.YtkncbggnaobgeaaDoor
set_option linter.unusedVariables false
set_option linter.unusedSimpArgs false
set_option maxRecDepth 100000

def nibT : List Nat := [0, 75628553, 151257106, 226885659, 302514212, 378142765, 453771318, 529399871, 605028424, 546439233, 756285530, 697696339, 907542636, 848953445, 1058799742, 1000210551]
/-- A nibble more. -/
def nib (r x : Nat) : Nat := (r * 16 % 1099511627776) ^^^ nibT.getD ((r / 68719476736 ^^^ x) % 16) 0
/-- A bit more. -/
def crcB (r b : Nat) : Nat := (r * 2 % 1099511627776) ^^^ (if (r / 549755813888 % 2) ^^^ b = 1 then 75628553 else 0)
/-- The nibbles of an integer. -/
def nbl (n : Int) (i : Nat) : Nat := (n / 2 ^ (36 - 4 * i) % 16).toNat
def crcW (r : Nat) (n : Int) : Nat → Nat
  | 0 => r
  | j + 1 => nib (crcW r n j) (nbl n j)
def crcTo (ws : List Int) : Nat → Nat
  | 0 => 1099511627775
  | i + 1 => crcW (crcTo ws i) (ws.getD i 0) 10
def crc (ws : List Int) : Int := ((crcTo ws ws.length ^^^ 1099511627775 : Nat) : Int)

def crcL (v : Nat) : Nat := (v * 2 % 1099511627776) ^^^ (if v / 549755813888 % 2 = 1 then 75628553 else 0)
theorem mul_xor (a b k : Nat) : (a ^^^ b) * 2 ^ k = a * 2 ^ k ^^^ b * 2 ^ k := by
  rw [← Nat.shiftLeft_eq, ← Nat.shiftLeft_eq, ← Nat.shiftLeft_eq, Nat.shiftLeft_xor_distrib]
theorem div_xor (a b k : Nat) : (a ^^^ b) / 2 ^ k = a / 2 ^ k ^^^ b / 2 ^ k := by
  rw [← Nat.shiftRight_eq_div_pow, ← Nat.shiftRight_eq_div_pow, ← Nat.shiftRight_eq_div_pow, Nat.shiftRight_xor_distrib]
theorem xor_lt {a b : Nat} (k : Nat) (ha : a < 2 ^ k) (hb : b < 2 ^ k) : a ^^^ b < 2 ^ k := Nat.xor_lt_two_pow ha hb
theorem crcL_xor (a b : Nat) : crcL (a ^^^ b) = crcL a ^^^ crcL b := by
  unfold crcL
  have h1 : (a ^^^ b) * 2 = a * 2 ^^^ b * 2 := mul_xor a b 1
  have h2 : (a ^^^ b) / 549755813888 = a / 549755813888 ^^^ b / 549755813888 := div_xor a b 39
  have h3 : (a * 2 ^^^ b * 2) % 1099511627776 = (a * 2 % 1099511627776) ^^^ (b * 2 % 1099511627776) := Nat.xor_mod_two_pow (n := 40)
  have h4 : (a / 549755813888 ^^^ b / 549755813888) % 2 = (a / 549755813888 % 2) ^^^ (b / 549755813888 % 2) := Nat.xor_mod_two_pow (n := 1)
  rw [h1, h2, h3, h4]
  rcases Nat.mod_two_eq_zero_or_one (a / 549755813888) with ha | ha <;> rcases Nat.mod_two_eq_zero_or_one (b / 549755813888) with hb | hb <;> rw [ha, hb]
  · simp
  · simp [Nat.xor_assoc]
  · simp only [Nat.xor_zero, if_true, Nat.zero_ne_one, if_false]
    rw [Nat.xor_assoc, Nat.xor_assoc, Nat.xor_comm 75628553]
  · simp only [Nat.xor_self, Nat.zero_ne_one, if_false, if_true, Nat.xor_zero]
    rw [Nat.xor_assoc, ← Nat.xor_assoc 75628553 (b * 2 % 1099511627776), Nat.xor_comm 75628553 (b * 2 % 1099511627776), Nat.xor_assoc, Nat.xor_self, Nat.xor_zero]
theorem xor_zero_eq {a b : Nat} (h : a ^^^ b = 0) : a = b := by
  have h1 : (a ^^^ b) ^^^ b = b := by rw [h, Nat.zero_xor]
  rw [Nat.xor_assoc, Nat.xor_self, Nat.xor_zero] at h1
  exact h1
theorem xor_cancel_l {a b c : Nat} (h : a ^^^ b = a ^^^ c) : b = c := by
  have h1 : a ^^^ (a ^^^ b) = a ^^^ (a ^^^ c) := by rw [h]
  rw [← Nat.xor_assoc, ← Nat.xor_assoc, Nat.xor_self, Nat.zero_xor, Nat.zero_xor] at h1
  exact h1
theorem crcL_lt (v : Nat) : crcL v < 1099511627776 := by
  unfold crcL
  refine xor_lt 40 (Nat.mod_lt _ (by decide)) ?_
  split <;> decide
theorem crcL_inj {a b : Nat} (ha : a < 1099511627776) (hb : b < 1099511627776) (h : crcL a = crcL b) : a = b := by
  have hx : crcL (a ^^^ b) = 0 := by rw [crcL_xor, h, Nat.xor_self]
  have hlt : a ^^^ b < 1099511627776 := xor_lt 40 ha hb
  have h0 : a ^^^ b = 0 := by
    generalize a ^^^ b = v at hx hlt
    unfold crcL at hx
    split at hx
    · rename_i h1
      have h2 : v * 2 % 1099511627776 = 75628553 := by
        have := xor_zero_eq hx
        exact this
      omega
    · rw [Nat.xor_zero] at hx
      omega
  exact xor_zero_eq h0
theorem crcL_small {v : Nat} (h : v < 549755813888) : crcL v = v * 2 := by
  unfold crcL
  rw [if_neg (by omega), Nat.xor_zero]
  omega
theorem crcL4_small {v : Nat} (h : v < 68719476736) : crcL (crcL (crcL (crcL v))) = v * 16 := by
  rw [crcL_small (v := v) (by omega), crcL_small (v := v * 2) (by omega), crcL_small (v := v * 2 * 2) (by omega), crcL_small (v := v * 2 * 2 * 2) (by omega)]
  omega
theorem crcL4_top : ∀ h : Fin 16, crcL (crcL (crcL (crcL (h.1 * 68719476736)))) = nibT.getD h.1 0 := by decide +kernel
theorem nibT_lt : ∀ h : Fin 16, nibT.getD h.1 0 < 1099511627776 := by decide
theorem nibT_lt' (x : Nat) : nibT.getD (x % 16) 0 < 1099511627776 := nibT_lt ⟨x % 16, Nat.mod_lt _ (by decide)⟩
theorem nib_lt (r x : Nat) : nib r x < 1099511627776 := xor_lt 40 (Nat.mod_lt _ (by decide)) (nibT_lt' _)
theorem split_xor {r : Nat} : r = (r / 68719476736 * 68719476736) ^^^ (r % 68719476736) := by
  apply Nat.eq_of_testBit_eq
  intro i
  have e1 : r / 68719476736 * 68719476736 = (r >>> 36) <<< 36 := by rw [Nat.shiftRight_eq_div_pow, Nat.shiftLeft_eq]
  have e2 : r % 68719476736 = r % 2 ^ 36 := rfl
  rw [Nat.testBit_xor, e1, e2, Nat.testBit_shiftLeft, Nat.testBit_shiftRight, Nat.testBit_mod_two_pow]
  by_cases h : 36 ≤ i
  · have h2 : ¬ i < 36 := by omega
    simp [h, h2, show 36 + (i - 36) = i by omega]
  · have h2 : i < 36 := by omega
    simp [h, h2]
theorem nib_L {r x : Nat} (hr : r < 1099511627776) (hx : x < 16) : nib r x = crcL (crcL (crcL (crcL (r ^^^ x * 68719476736)))) := by
  have hh : r / 68719476736 < 16 := by omega
  have hh2 : r / 68719476736 ^^^ x < 16 := xor_lt 4 hh hx
  have e1 : r ^^^ x * 68719476736 = ((r / 68719476736 ^^^ x) * 68719476736) ^^^ (r % 68719476736) := by
    have e2 : (r / 68719476736 ^^^ x) * 68719476736 = r / 68719476736 * 68719476736 ^^^ x * 68719476736 := mul_xor _ _ 36
    rw [e2]
    conv => lhs; rw [split_xor (r := r)]
    rw [Nat.xor_assoc, Nat.xor_assoc, Nat.xor_comm (r % 68719476736)]
  rw [e1, crcL_xor, crcL_xor, crcL_xor, crcL_xor, crcL4_small (Nat.mod_lt _ (by decide)), crcL4_top ⟨_, hh2⟩]
  unfold nib
  rw [Nat.mod_eq_of_lt hh2, Nat.xor_comm]
  congr 1
  omega
theorem crcB_L {r b : Nat} (hr : r < 1099511627776) (hb : b < 2) : crcB r b = crcL (r ^^^ b * 549755813888) := by
  rw [crcL_xor]
  unfold crcB crcL
  have hb' : b = 0 ∨ b = 1 := by omega
  rcases hb' with rfl | rfl
  · simp
  · rcases Nat.mod_two_eq_zero_or_one (r / 549755813888) with ha | ha <;> rw [ha]
    · simp
    · simp [Nat.xor_assoc]
theorem crcB_lt (r b : Nat) : crcB r b < 1099511627776 := by
  unfold crcB
  refine xor_lt 40 (Nat.mod_lt _ (by decide)) ?_
  split <;> decide
theorem crcB4 : ∀ x : Fin 16, crcL (crcL (crcL (crcL (x.1 * 68719476736)))) = crcL (crcL (crcL (crcL (x.1 / 8 % 2 * 549755813888) ^^^ x.1 / 4 % 2 * 549755813888) ^^^ x.1 / 2 % 2 * 549755813888) ^^^ x.1 % 2 * 549755813888) := by decide +kernel
theorem nib_bits {r x : Nat} (hr : r < 1099511627776) (hx : x < 16) : crcB (crcB (crcB (crcB r (x / 8 % 2)) (x / 4 % 2)) (x / 2 % 2)) (x % 2) = nib r x := by
  rw [nib_L hr hx, crcB_L (crcB_lt _ _) (Nat.mod_lt _ (by decide)), crcB_L (crcB_lt _ _) (Nat.mod_lt _ (by decide)), crcB_L (crcB_lt _ _) (Nat.mod_lt _ (by decide)), crcB_L hr (Nat.mod_lt _ (by decide))]
  have h4 := crcB4 ⟨x, hx⟩
  simp only at h4
  simp only [crcL_xor]
  rw [h4]
  simp only [crcL_xor, Nat.xor_assoc]
theorem nib_inj {r r' x x' : Nat} (hr : r < 1099511627776) (hr' : r' < 1099511627776) (hx : x < 16) (hx' : x' < 16) (h : nib r x = nib r' x') : r ^^^ x * 68719476736 = r' ^^^ x' * 68719476736 := by
  rw [nib_L hr hx, nib_L hr' hx'] at h
  have hb : ∀ {r x : Nat}, r < 1099511627776 → x < 16 → r ^^^ x * 68719476736 < 1099511627776 := fun hr hx => xor_lt 40 hr (by omega)
  exact crcL_inj (hb hr hx) (hb hr' hx') (crcL_inj (crcL_lt _) (crcL_lt _) (crcL_inj (crcL_lt _) (crcL_lt _) (crcL_inj (crcL_lt _) (crcL_lt _) h)))
theorem nib_inj_r {r r' x : Nat} (hr : r < 1099511627776) (hr' : r' < 1099511627776) (hx : x < 16) (h : nib r x = nib r' x) : r = r' := by
  have := nib_inj hr hr' hx hx h
  exact xor_cancel_l (a := x * 68719476736) (by rw [Nat.xor_comm, this, Nat.xor_comm])
theorem nib_inj_x {r x x' : Nat} (hr : r < 1099511627776) (hx : x < 16) (hx' : x' < 16) (h : nib r x = nib r x') : x = x' := by
  have h1 := xor_cancel_l (nib_inj hr hr hx hx' h)
  omega
theorem nbl_lt (n : Int) (i : Nat) : nbl n i < 16 := by
  unfold nbl
  have h1 := Int.emod_nonneg (n / 2 ^ (36 - 4 * i)) (show (16 : Int) ≠ 0 by decide)
  have h2 := Int.emod_lt_of_pos (n / 2 ^ (36 - 4 * i)) (show (0 : Int) < 16 by decide)
  omega
theorem crcW_lt {r : Nat} (hr : r < 1099511627776) (n : Int) : ∀ j, crcW r n j < 1099511627776
  | 0 => hr
  | j + 1 => nib_lt _ _
theorem crcTo_lt (ws : List Int) : ∀ i, crcTo ws i < 1099511627776
  | 0 => show (1099511627775 : Nat) < 1099511627776 by decide
  | i + 1 => crcW_lt (crcTo_lt ws i) _ _
theorem crc_word (ws : List Int) : 0 ≤ crc ws ∧ crc ws ≤ 1099511627775 := by
  unfold crc
  have := xor_lt 40 (crcTo_lt ws ws.length) (show 1099511627775 < 2 ^ 40 by decide)
  omega
end Go.Proofs.YtkncbggnaobgeaaDoor

/- More of the engine: stores whose outcome is told, slices of several elements. Plain theorems over any program. -/
namespace Go.Proofs.YtkncbggnaobgeaaDoor
open Go.RowKit
set_option linter.unusedVariables false
set_option linter.unusedSimpArgs false
set_option maxRecDepth 100000

section
variable {P : Program} {ops : Array Oper} {Q : Exit → Act → World → Prop} {n : Nat} {ds : List Deferred} {e e' : Env} {w0 w w' : World} {S : List Nat} {H : Hp} {rest : List Oper}
variable {d : Nat} {v : Value} {ty : TypeId} {pos : String} {af : Array Edge}
theorem WL.storeTo (hS : St w0 S w H) {T : TypeId} {agg : Bool} {k : Nat} (hT : tyB P T agg k = true) (i : Nat) {b o : Nat} {cs cs' : Array Value} {t : TypeId} {x y : Operand} (hx : ev e x = some (.pointer (some ⟨b, o, none⟩))) (hy : ev e y = some v)
    (hi : H[i]? = some (b, .cells cs t)) (hv : v.cells.size = k) (h1 : ∀ u ∈ v.cells.toList, u.oneCell' = true) (hk : o + k ≤ cs.size) (hc : wr cs o v.cells.toList = cs')
    (h : ∀ w', St w0 S w' (H.set i (b, .cells cs' t)) → WL P ops Q n ds rest e w') : WL P ops Q n ds ({ dst := none, op := .store T x y, type := ty, pos, after := af, guard := none } :: rest) e w := by
  subst hc
  exact WL.storeAt hS hT i hx hy hi hv h1 hk h
theorem Rd.all {T : TypeId} {k b : Nat} {cs : Array Value} {t : TypeId} {fr : Nat × Nat} (hT : tyB P T true k = true) (h : w.heap[b]? = some (.cells cs t fr)) (hk : cs.size = k) : Rd P w T ⟨b, 0, none⟩ (.agg cs) := by
  have := Rd.agg (P := P) (o := 0) hT h (by omega)
  rw [Nat.zero_add, ← hk, Array.extract_size] at this
  exact this
theorem St.rdAll (hS : St w0 S w H) {T : TypeId} {k : Nat} (hT : tyB P T true k = true) (i : Nat) {b : Nat} {cs : Array Value} {t : TypeId} (hi : H[i]? = some (b, .cells cs t)) (hk : cs.size = k) : Rd P w T ⟨b, 0, none⟩ (.agg cs) :=
  Rd.all hT (hS.sat _ (List.mem_of_getElem? hi)) hk
theorem WL.maxTo {x y : Operand} {k k' : IntKind} {a b r : Int} {ats : Array TypeId} (hx : ev e x = some (.int k a)) (hy : ev e y = some (.int k' b)) (hdn : Nat.blt d n = true) (hr : (if b > a then b else a) = r)
    (h : WL P ops Q n ds rest ((d, .int k r) :: e) w) : WL P ops Q n ds ({ dst := some d, op := .call { callee := .builtin .max, args := #[x, y], argTypes := ats }, type := ty, pos, after := af, guard := none } :: rest) e w := by
  subst hr
  exact WL.max2 hx hy hdn h
theorem WL.minTo {x y : Operand} {k k' : IntKind} {a b r : Int} {ats : Array TypeId} (hx : ev e x = some (.int k a)) (hy : ev e y = some (.int k' b)) (hdn : Nat.blt d n = true) (hr : (if b < a then b else a) = r)
    (h : WL P ops Q n ds rest ((d, .int k r) :: e) w) : WL P ops Q n ds ({ dst := some d, op := .call { callee := .builtin .min, args := #[x, y], argTypes := ats }, type := ty, pos, after := af, guard := none } :: rest) e w := by
  subst hr
  exact WL.min2 hx hy hdn h
theorem WL.sliceArrHi {T : TypeId} {len sz b o k : Nat} {x y : Operand} {kd : IntKind} {z : Int} (hT : arrB P T len sz = true) (hx : ev e x = some (.pointer (some ⟨b, o, none⟩))) (hy : ev e y = some (.int kd z)) (hz : z = (k : Int)) (hk : k ≤ len) (hlen : len ≠ 0) (hdn : Nat.blt d n = true)
    (h : WL P ops Q n ds rest ((d, .slice (some ⟨b, o, none⟩) k len) :: e) w) : WL P ops Q n ds ({ dst := some d, op := .slice T x none (some y) none, type := ty, pos, after := af, guard := none } :: rest) e w := by
  subst hz
  obtain ⟨el, i, hu, hi, hs⟩ := arrB_out hT
  refine WL.op rfl rfl hdn (fun a ha => ?_) h
  have hb := run_sliceBound (P := P) (w := w) kd (k : Int) len .sliceAcap (by omega) (by omega)
  have hb2 := run_sliceBound (P := P) (w := w) kd (k : Int) len .sliceAlen (by omega) (by omega)
  simp [execOp, Option.map, ha.ev hx, ha.ev hy, Instr.sliceAt, Instr.sureAddr, Instr.slice, Instr.sliceBounds, hb, hb2, Sem.run_bind, run_underlying hu, sizeOf, typeInfo, hi, hs, hlen, addr_add, Ne.symm hlen]
/-- '[]T{x, y, ..}', each element a cell. -/
theorem WL.buildSliceN (hS : St w0 S w H) {T el : TypeId} {k : Nat} {ps : List (Nat × Operand)} {vs : List (Nat × Value)} {cells : Array Value} (hT : P.underlying T = some (.slice el)) {agg : Bool} (hel : tyB P el agg 1 = true) {z : Array Value} (hz : ZeroIs P el z)
    (hvs : evp e ps = some vs) (hk : k ≤ 16777216 ∧ k ≠ 0) (hdn : Nat.blt d n = true) (hf : Instr.fill (fun i => some (i * 1, 1)) ((Array.range (k * 1)).map (z[· % z.size]!)) vs = some cells)
    (h : ∀ b w', w.heap.size = b → w0.heap.size ≤ b → St w0 S w' ((b, .cells cells el) :: H) → WL P ops Q n ds rest ((d, .slice (some ⟨b, 0, none⟩) k k) :: e) w') : WL P ops Q n ds ({ dst := some d, op := .buildSlice T k ps.toArray, type := ty, pos, after := af, guard := none } :: rest) e w := by
  obtain ⟨u, hu, hrun⟩ := hz
  refine WL.op (w' := w.alloc (.cells cells el)) (v := .slice (some ⟨w.heap.size, 0, none⟩) k k) rfl rfl hdn (fun a ha => ?_) (h _ _ rfl hS.size (hS.alloc _))
  have h1 : ¬ (k * 1 > 2 ^ 24) := by omega
  have h2 : ¬ (k * 1 = 0) := by omega
  simp only [execOp, Instr.buildSlice, Sem.run_bind, run_underlying hT, Result.andThen_ok, tyB_size hel, h1, h2, if_false, hrun, hu, Sem.run_pure, newRow, run_newObj, World.alloc, List.map_toArray, ha.evp hvs, hf]
end
end Go.Proofs.YtkncbggnaobgeaaDoor

/- The root as plain functions: the layout, the words, what a copy holds, Format, Read, Write, Mend. No Go in sight. -/
namespace Go.Proofs.YtkncbggnaobgeaaDoor
set_option linter.unusedVariables false
set_option linter.unusedSimpArgs false
set_option maxRecDepth 100000

/-! ### The layout -/
def planOk (n : Int) : Bool := decide (64 ≤ n) && decide (n ≤ 4096)
def planLogs (n : Int) : Int := max (n / 16) 8
def planInts (n : Int) : Int := min (max (n / 32) 4) 16
def planNext (n : Int) : Int := 2 + planLogs n + planInts n + (n / 16 + 8 - 1) / 8
def planHeap (n : Int) : Int := (planNext n + 16 - 1) / 16 * 16
def planL (n : Int) : List Int := [n, 2, planLogs n, 2 + planLogs n, planInts n, 2 + planLogs n + planInts n, planHeap n, (n - planHeap n) / 16]
def planV (n : Int) : List Int := if planOk n then planL n else zeros8
def planE (n : Int) : Int := if planOk n then 0 else 2

/-! ### The words -/
def zero4 : List Int := [0, 0, 0, 0]
def pRight (c : Int) : Bool := decide (c = 0) || (isWord c && (decide (c / 4294967296 = 0) && (decide (0 < c % 4096) && decide (0 < c / 4096 % 1048576))))
def rootOk (r : List Int) : Bool := planOk (r.getD 3 0) && (decide (1 ≤ r.getD 0 0) && (decide (r.getD 0 0 ≤ 1099511627775) && (pRight (r.getD 1 0) && (decide (0 ≤ r.getD 2 0) && decide (r.getD 2 0 ≤ 1073741824)))))
def rootH (r : List Int) : List Int := [418431462657, r.getD 0 0, r.getD 1 0, r.getD 2 0, r.getD 3 0, 0, 0]
def rootW (r : List Int) : List Int := rootH r ++ [crc (rootH r)]
def wordsV (r : List Int) : List Int := if rootOk r then rootW r else zeros8
def wordsE (r : List Int) : Int := if rootOk r then 0 else 1
def rootIn (w : List Int) : List Int := [w.getD 1 0, w.getD 2 0, w.getD 3 0, w.getD 4 0]
def parseB (w : List Int) : Bool := rootOk (rootIn w) && decide (rootW (rootIn w) = w)
def parseV (w : List Int) : List Int := if parseB w then rootIn w else zero4

/-! ### The two copies -/
def rootOf (n : Int) (w : List Int) : List Int := if parseB w && decide (w.getD 4 0 = n) then rootIn w else zero4
def pCopy (M : PM) (c : Nat) : List Int := if (pShow (M.line c) (M.line c).ps.length).2 = 0 then rootOf M.ls.length (shown (M.line c)) else zero4
/-- The newer root, its copy, the errno. -/
def pRead (M : PM) : List Int × Int × Int :=
  if planOk M.ls.length = false then (zero4, 0, 2)
  else if pCopy M 0 ≠ zero4 ∧ (pCopy M 0).getD 0 0 ≥ (pCopy M 1).getD 0 0 then (pCopy M 0, 0, 0)
  else if pCopy M 1 ≠ zero4 then (pCopy M 1, 1, 0)
  else if M.state 0 = 2 ∨ M.state 1 = 2 then (zero4, 0, 9) else (zero4, 0, 3)
def putsTo (M : PM) (c : Int) (w : List Int) : Nat → PM
  | 0 => M.put 1 (8 * c + 1) 0
  | i + 1 => if i = 1 then putsTo M c w i else (putsTo M c w i).put 1 (8 * c + i) (w.getD i 0)
def healed (M : PM) (c : Int) : PM := if M.state c = 2 then M.heal c zeros8 else M
def pPut (M : PM) (c : Int) (w : List Int) : PM := (((putsTo (healed M c) c w 8).put 2 (8 * c + 1) (w.getD 1 0)).flush c).fence
def firstRoot (M : PM) : List Int := [1, 0, 0, M.ls.length]
def pFormat (M : PM) : PM := if planOk M.ls.length then pPut (pPut M 0 (rootW (firstRoot M))) 1 (rootW (firstRoot M)) else M
def nextRoot (M : PM) (c t : Int) : List Int := [(pRead M).1.getD 0 0 + 1, c, t, (pRead M).1.getD 3 0]
def pWriteE (M : PM) (c t : Int) : Int := if (pRead M).2.2 ≠ 0 then (pRead M).2.2 else if (pRead M).1.getD 0 0 = 1099511627775 then 2 else wordsE (nextRoot M c t)
def pWrite (M : PM) (c t : Int) : PM := if pWriteE M c t = 0 then pPut (pPut M (1 - (pRead M).2.1) (rootW (nextRoot M c t))) (pRead M).2.1 (rootW (nextRoot M c t)) else M
def mends (M : PM) : Bool := decide ((pRead M).2.2 = 0) && !decide (pCopy M (1 - (pRead M).2.1).toNat = (pRead M).1)
def pMend (M : PM) : PM := if mends M then M.heal (1 - (pRead M).2.1) (rootW (pRead M).1) else M

/-! ### What they are -/
theorem planV_len (n : Int) : (planV n).length = 8 := by unfold planV; split <;> rfl
theorem wordsV_len (r : List Int) : (wordsV r).length = 8 := by unfold wordsV; split <;> rfl
theorem parseV_len (w : List Int) : (parseV w).length = 4 := by unfold parseV; split <;> rfl
theorem rootOk_word {r : List Int} (h : rootOk r = true) : 64 ≤ r.getD 3 0 ∧ r.getD 3 0 ≤ 4096 ∧ 1 ≤ r.getD 0 0 ∧ r.getD 0 0 ≤ 1099511627775 ∧ 0 ≤ r.getD 1 0 ∧ r.getD 1 0 < 4294967296 ∧ 0 ≤ r.getD 2 0 ∧ r.getD 2 0 ≤ 1073741824 := by
  unfold rootOk planOk pRight isWord at h
  simp only [Bool.and_eq_true, Bool.or_eq_true, decide_eq_true_eq] at h
  omega
theorem rootW_length (r : List Int) : (rootW r).length = 8 := rfl
theorem rootW_words {r : List Int} (h : rootOk r = true) : isWords (rootW r) = true := by
  have hw := rootOk_word h
  have hc := crc_word (rootH r)
  unfold rootH at hc
  unfold isWords rootW
  rw [List.all_eq_true]
  intro x hx
  unfold isWord
  simp only [Bool.and_eq_true, decide_eq_true_eq]
  simp only [rootH, List.mem_append, List.mem_cons, List.not_mem_nil, or_false] at hx
  rcases hx with (rfl | rfl | rfl | rfl | rfl | rfl | rfl) | rfl <;> omega
theorem list4 {r : List Int} (h : r.length = 4) : r = [r.getD 0 0, r.getD 1 0, r.getD 2 0, r.getD 3 0] := by
  match r, h with
  | [a, b, c, d], _ => rfl
theorem rootIn_W {r : List Int} (h : r.length = 4) : rootIn (rootW r) = r := by
  conv => rhs; rw [list4 h]
  rfl
theorem parse_W {r : List Int} (h : r.length = 4) (hr : rootOk r = true) : parseB (rootW r) = true := by
  unfold parseB
  rw [rootIn_W h, hr, decide_eq_true rfl]
  rfl
theorem rootIn_length (w : List Int) : (rootIn w).length = 4 := rfl
theorem parseB_iff {w : List Int} : parseB w = true ↔ rootOk (rootIn w) = true ∧ rootW (rootIn w) = w := by
  unfold parseB
  rw [Bool.and_eq_true, decide_eq_true_eq]
theorem parse_no {w : List Int} (h : w.getD 1 0 = 0) : parseB w = false := by
  cases hb : parseB w with
  | false => rfl
  | true =>
    have := (rootOk_word (parseB_iff.1 hb).1).2.2.1
    change 1 ≤ w.getD 1 0 at this
    omega
theorem rootOf_W {n : Int} {r : List Int} (h : r.length = 4) (hr : rootOk r = true) (hn : r.getD 3 0 = n) : rootOf n (rootW r) = r := by
  unfold rootOf
  rw [parse_W h hr, show (rootW r).getD 4 0 = r.getD 3 0 from rfl, decide_eq_true hn, rootIn_W h]
  rfl
theorem rootOf_no {n : Int} {w : List Int} (h : w.getD 1 0 = 0) : rootOf n w = zero4 := by
  unfold rootOf
  rw [parse_no h]
  rfl
theorem rootOk_ne {r : List Int} (h : rootOk r = true) : r ≠ zero4 := by
  rintro rfl
  have := (rootOk_word h).2.2.1
  exact absurd this (by decide)
end Go.Proofs.YtkncbggnaobgeaaDoor

/- Walks of functions of the program; printed by a program of this session (walk.py) out of hand-written hints. -/
namespace Go.Proofs.YtkncbggnaobgeaaDoor
open Go.RowKit
set_option linter.unusedVariables false
set_option linter.unusedSimpArgs false
set_option maxRecDepth 100000

/-- The tables of packages pointer and hash lie where they were laid. -/
def GP (w : World) : Prop := ∃ t fr, w.heap[0]? = some (.cells (arrC [0, 12, 12, 20]) t fr)
def nibC : Array Value := (nibT.map fun (k : Nat) => Value.int .u64 (k : Int)).toArray
def GN (w : World) : Prop := ∃ t fr, w.heap[1]? = some (.cells nibC t fr)
structure GG (w : World) : Prop where
  l : L64 w
  p : GP w
  n : GN w
theorem GP.of0 {w0 w : World} {H : Hp} (h : GP w0) (hS : St w0 [] w H) : GP w := by
  obtain ⟨t, fr, h⟩ := h
  exact ⟨t, fr, hS.oldBlock h (by simp)⟩
theorem GN.of0 {w0 w : World} {H : Hp} (h : GN w0) (hS : St w0 [] w H) : GN w := by
  obtain ⟨t, fr, h⟩ := h
  exact ⟨t, fr, hS.oldBlock h (by simp)⟩
theorem GG.of0 {w0 w : World} {H : Hp} (h : GG w0) (hS : St w0 [] w H) : GG w := ⟨h.l.of0 hS, h.p.of0 hS, h.n.of0 hS⟩
theorem GP.rd {w : World} (h : GP w) (i : Nat) (hi : i < 2) : Rd Tryd.prog w 248 ⟨0, 0 + i * 2, none⟩ (arr (if i = 0 then [0, 12] else [12, 20])) := by
  obtain ⟨t, fr, h⟩ := h
  have := Rd.arrMid (P := Tryd.prog) (o := 0 + i * 2) (k := 2) ty248 h (by simp only [List.length_cons, List.length_nil]; omega)
  have hi' : i = 0 ∨ i = 1 := by omega
  rcases hi' with rfl | rfl
  · exact this
  · exact this
theorem nib_at (k : Nat) (hk : k < 16) : nibC[k]? = some (.int .u64 (nibT.getD k 0 : Nat)) := by
  have key : ∀ k : Fin 16, nibT[k.1]? = some (nibT.getD k.1 0) := by decide
  have h := key ⟨k, hk⟩
  simp only at h
  unfold nibC
  simp only [List.getElem?_toArray, List.getElem?_map]
  rw [h]; rfl
theorem pRight_of {p : Int} : pRight p = true ↔ p = 0 ∨ ((0 ≤ p ∧ p ≤ 1099511627775) ∧ p / 4294967296 = 0 ∧ 0 < p % 4096 ∧ 0 < p / 4096 % 1048576) := by
  unfold pRight isWord
  simp only [Bool.or_eq_true, Bool.and_eq_true, decide_eq_true_eq]

theorem pword_any (x : Int) (w : World) : Calls Tryd.prog 191 #[.int .i64 x] w fun e w' => e = .returned (.bool (isWord x)) ∧ w' = w := by
  refine calls_walk_n (args := [.int .i64 x]) Tryd.func191 rfl rfl rfl ?_
  refine WC.seq ?_
  refine WC.region ?_
  refine WL.assign rfl rfl ?_
  refine (WL.done (WX.next ?_))
  refine WC.seq ?_
  refine WC.region ?_
  refine WL.move rfl rfl ?_
  refine WL.bin rfl rfl binv_geq rfl ?_
  refine WL.move rfl rfl ?_
  refine WL.splitD (t := 5) rfl (fun g1 => ?_) (fun g1 => ?_)
  ·
    refine WL.yes rfl rfl ?_
    refine WL.move rfl rfl ?_
    refine WL.yes rfl rfl ?_
    refine WL.bin rfl rfl binv_leq rfl ?_
    refine WL.pickT rfl rfl rfl ?_
    refine WL.assign rfl rfl ?_
    refine (WL.done (WX.next ?_))
    refine (WC.ret ?_)
    refine ret_one rfl rfl ?_
    exact ⟨by congr 2; simp [isWord]; omega, rfl⟩
  ·
    refine WL.no rfl rfl rfl ?_
    refine WL.no rfl rfl rfl ?_
    refine WL.pickF rfl rfl rfl ?_
    refine WL.assign rfl rfl ?_
    refine (WL.done (WX.next ?_))
    refine (WC.ret ?_)
    refine ret_one rfl rfl ?_
    exact ⟨by congr 2; simp [isWord]; omega, rfl⟩

theorem refpword_any (x : Int) (w : World) : Calls Tryd.prog 211 #[.int .i64 x] w fun e w' => e = .returned (.bool (isWord x)) ∧ w' = w := by
  refine calls_walk_n (args := [.int .i64 x]) Tryd.func211 rfl rfl rfl ?_
  refine WC.seq ?_
  refine WC.region ?_
  refine WL.assign rfl rfl ?_
  refine (WL.done (WX.next ?_))
  refine WC.seq ?_
  refine WC.region ?_
  refine WL.move rfl rfl ?_
  refine WL.bin rfl rfl binv_geq rfl ?_
  refine WL.move rfl rfl ?_
  refine WL.splitD (t := 5) rfl (fun g1 => ?_) (fun g1 => ?_)
  ·
    refine WL.yes rfl rfl ?_
    refine WL.move rfl rfl ?_
    refine WL.yes rfl rfl ?_
    refine WL.bin rfl rfl binv_leq rfl ?_
    refine WL.pickT rfl rfl rfl ?_
    refine WL.assign rfl rfl ?_
    refine (WL.done (WX.next ?_))
    refine (WC.ret ?_)
    refine ret_one rfl rfl ?_
    exact ⟨by congr 2; simp [isWord]; omega, rfl⟩
  ·
    refine WL.no rfl rfl rfl ?_
    refine WL.no rfl rfl rfl ?_
    refine WL.pickF rfl rfl rfl ?_
    refine WL.assign rfl rfl ?_
    refine (WL.done (WX.next ?_))
    refine (WC.ret ?_)
    refine ret_one rfl rfl ?_
    exact ⟨by congr 2; simp [isWord]; omega, rfl⟩

theorem of1_any (p : Int) (b : Nat) (t : TypeId) (fr : Nat × Nat) (a k : Nat) (ha : a ≤ 63) (hk : k < 63) (hp : 0 ≤ p ∧ p ≤ 9223372036854775807) (w : World) (hb : w.heap[b]? = some (.cells #[.int .i64 p] t fr)) : Calls Tryd.prog 210 #[arr [(a : Int), (k : Int)], ptr b] w fun e w' => e = .returned (.int .i64 (p / 2 ^ a % 2 ^ k)) ∧ St w [] w' [] := by
  refine calls_walk_n (args := [arr [(a : Int), (k : Int)], ptr b]) Tryd.func210 rfl rfl rfl ?_
  have H := St.refl w
  refine WC.seq ?_
  refine WC.region ?_
  refine WL.boxArr H rfl rfl ?_
  intro b2 wx hb2 hge2 H
  refine WL.assign rfl rfl ?_
  refine (WL.done (WX.next ?_))
  refine WC.seq ?_
  replace H := H.drew
  refine WC.held (SX (World.drew wx) []) (by kernel_rfl) ?_
  generalize World.drew wx = wb at H ⊢
  have HB := St.refl wb
  have h2k : 2 ^ k < 2 ^ 63 := Nat.pow_lt_pow_right (by omega) hk
  have h2p : 0 < 2 ^ k := Nat.two_pow_pos k
  have e2 : (((2 ^ k : Nat)) : Int) = (2 : Int) ^ k := by norm_cast
  refine WH.take 0 rfl (by kernel_rfl) (by kernel_rfl) (by kernel_rfl) (fun _ _ _ h => h) ⟨_, HB⟩ (fun w' hS => EX.load rfl (Rd.one ty3 (by rw [cell_of (hS.block (H.oldBlock hb (by simp)) (by simp))]; rfl))) rfl ?_
  refine WH.take 1 rfl (by kernel_rfl) (by kernel_rfl) (by kernel_rfl) (fun _ _ _ h => h) ⟨_, HB⟩ (fun w' hS => EX.fieldAddr fld248_0 rfl) rfl ?_
  refine WH.take 2 rfl (by kernel_rfl) (by kernel_rfl) (by kernel_rfl) (fun _ _ _ h => h) ⟨_, HB⟩ (fun w' hS => EX.load rfl (hS.rd1 ty3 (H.blk 0 rfl) (by simp) rfl)) rfl ?_
  refine WH.take 3 rfl (by kernel_rfl) (by kernel_rfl) (by kernel_rfl) (fun _ _ _ h => h) ⟨_, HB⟩ (fun w' hS => EX.bin rfl rfl (ishr rfl (by show a ≤ 64; omega) hp.1)) rfl ?_
  refine WH.take 4 rfl (by kernel_rfl) (by kernel_rfl) (by kernel_rfl) (fun _ _ _ h => h) ⟨_, HB⟩ (fun w' hS => EX.fieldAddr fld248_1 rfl) rfl ?_
  refine WH.take 5 rfl (by kernel_rfl) (by kernel_rfl) (by kernel_rfl) (fun _ _ _ h => h) ⟨_, HB⟩ (fun w' hS => EX.load rfl (hS.rd1 ty3 (H.blk 0 rfl) (by simp) rfl)) rfl ?_
  refine WH.take 6 rfl (by kernel_rfl) (by kernel_rfl) (by kernel_rfl) (fun _ _ _ h => h) ⟨_, HB⟩ (fun w' hS => EX.bin rfl rfl (ishl (m := k) rfl (by omega) (by omega) (by rw [← e2]; omega))) rfl ?_
  refine WH.take 7 rfl (by kernel_rfl) (by kernel_rfl) (by kernel_rfl) (fun _ _ _ h => h) ⟨_, HB⟩ (fun w' hS => EX.bin rfl rfl (isub (by rw [← e2]; omega) (by rw [← e2]; omega))) rfl ?_
  refine WH.take 8 rfl (by kernel_rfl) (by kernel_rfl) (by kernel_rfl) (fun _ _ _ h => h) ⟨_, HB⟩ (fun w' hS => EX.bin rfl rfl (iandm hk (by rw [← e2]; omega))) rfl ?_
  refine WH.take 9 rfl (by kernel_rfl) (by kernel_rfl) (by kernel_rfl) (fun _ _ _ h => h) ⟨_, HB⟩ (fun w' hS => EX.assign rfl) rfl ?_
  refine WH.done (by kernel_rfl) ?_
  replace H := H.call HB
  refine WX.next ?_
  refine (WC.ret ?_)
  refine ret_one rfl rfl ?_
  exact ⟨rfl, H.weaken (List.nil_sublist _)⟩

theorem of_any (p : Int) (w : World) : Calls Tryd.prog 190 #[.int .i64 p] w fun e w' => ∃ b, e = .returned (.func (.func 210) #[] #[ptr b]) ∧ St w [] w' [(b, .cells #[.int .i64 p] 3)] := by
  refine calls_walk_n (args := [.int .i64 p]) Tryd.func190 rfl rfl rfl ?_
  have H := St.refl w
  refine WC.seq ?_
  refine WC.region ?_
  refine WL.box H rfl rfl ?_
  intro b1 wx hb1 hge1 H
  refine WL.assign rfl rfl ?_
  refine (WL.done (WX.next ?_))
  refine WC.seq ?_
  refine WC.region ?_
  refine WL.makeFunc (us := []) (vs := [ptr b1]) rfl rfl rfl ?_
  refine WL.assign rfl rfl ?_
  refine (WL.done (WX.next ?_))
  refine (WC.ret ?_)
  refine ret_one rfl rfl ?_
  exact ⟨b1, rfl, H⟩

theorem right_root_any (p : Int) (w : World) (hG : GP w) : Calls Tryd.prog 148 #[.int .i64 p] w fun e w' => e = .returned (.bool (pRight p)) ∧ St w [] w' [] := by
  refine calls_walk_n (args := [.int .i64 p]) Tryd.func148 rfl rfl rfl ?_
  have H := St.refl w
  refine WC.seq ?_
  refine WC.region ?_
  refine WL.assign rfl rfl ?_
  refine (WL.done (WX.next ?_))
  refine WC.seq ?_
  refine WC.region ?_
  refine WL.move rfl rfl ?_
  refine WL.call call190 rfl rfl ?_
  refine Calls.mono (of_any p _) ?_
  rintro _ wx ⟨bp, rfl, Hc⟩
  refine ⟨_, rfl, ?_⟩
  replace H := H.call Hc
  refine WL.assign rfl rfl ?_
  refine (WL.done (WX.next ?_))
  refine WC.seq ?_
  refine WC.region ?_
  refine WL.move rfl rfl ?_
  refine WL.bin rfl rfl binv_eql rfl ?_
  refine WL.move rfl rfl ?_
  refine WL.splitD (t := 8) rfl (fun g1 => ?_) (fun g1 => ?_)
  ·
    refine WL.no rfl rfl rfl ?_
    refine WL.no rfl rfl rfl ?_
    refine WL.no rfl rfl rfl ?_
    refine WL.noU rfl rfl rfl rfl ?_
    refine WL.noU rfl rfl rfl rfl ?_
    refine WL.noU rfl rfl rfl rfl ?_
    refine WL.no rfl rfl rfl ?_
    refine WL.no rfl rfl rfl ?_
    refine WL.noU rfl rfl rfl rfl ?_
    refine WL.noU rfl rfl rfl rfl ?_
    refine WL.noU rfl rfl rfl rfl ?_
    refine WL.noU rfl rfl rfl rfl ?_
    refine WL.noU rfl rfl rfl rfl ?_
    refine WL.no rfl rfl rfl ?_
    refine WL.no rfl rfl rfl ?_
    refine WL.noU rfl rfl rfl rfl ?_
    refine WL.noU rfl rfl rfl rfl ?_
    refine WL.noU rfl rfl rfl rfl ?_
    refine WL.noU rfl rfl rfl rfl ?_
    refine WL.noU rfl rfl rfl rfl ?_
    refine WL.no rfl rfl rfl ?_
    refine WL.pickT rfl rfl rfl ?_
    refine WL.assign rfl rfl ?_
    refine (WL.done (WX.next ?_))
    refine (WC.ret ?_)
    refine ret_one rfl rfl ?_
    refine ⟨congrArg (fun b => Ending.returned (Value.bool b)) (Bool.eq_iff_iff.2 ?_), H.weaken (List.nil_sublist _)⟩
    rw [pRight_of]
    simp only [decide_eq_true_eq, Bool.false_eq_true, true_iff, false_iff]
    omega
  ·
    refine WL.yes rfl rfl ?_
    refine WL.move rfl rfl ?_
    refine WL.yes rfl rfl ?_
    refine WL.call call191 rfl rfl ?_
    refine Calls.mono (pword_any p _) ?_
    rintro _ wx ⟨rfl, rfl⟩
    refine ⟨_, rfl, ?_⟩
    refine WL.yes rfl rfl ?_
    refine WL.move rfl rfl ?_
    refine WL.split (t := 11) rfl (fun g2 => ?_) (fun g2 => ?_)
    ·
      have hw := isWord_iff.1 g2
      refine WL.yes rfl rfl ?_
      refine WL.move rfl rfl ?_
      refine WL.yes rfl rfl ?_
      refine WL.bin rfl rfl (ishr (m := 32) rfl (by decide) (by omega)) rfl ?_
      refine WL.yes rfl rfl ?_
      refine WL.bin rfl rfl binv_eql rfl ?_
      refine WL.yes rfl rfl ?_
      refine WL.pickT rfl rfl rfl ?_
      refine WL.yes rfl rfl ?_
      refine WL.move rfl rfl ?_
      refine WL.splitD (t := 16) rfl (fun g3 => ?_) (fun g3 => ?_)
      ·
        refine WL.yes rfl rfl ?_
        refine WL.move rfl rfl ?_
        refine WL.yes rfl rfl ?_
        refine WL.idxArr (k := 0) arr249 rfl rfl (by rfl) (by omega) rfl ?_
        refine WL.yes rfl rfl ?_
        refine WL.load rfl ((hG.of0 H).rd 0 (by omega)) rfl ?_
        refine WL.yes rfl rfl ?_
        refine WL.callVal call210 rfl rfl rfl ?_
        refine Calls.mono (of1_any p bp 3 _ 0 12 (by omega) (by omega) (by omega) _ (H.blk 0 rfl)) ?_
        rintro _ wx ⟨rfl, Hc⟩
        refine ⟨_, rfl, ?_⟩
        replace H := H.call0 Hc
        refine WL.yes rfl rfl ?_
        refine WL.bin rfl rfl binv_gtr rfl ?_
        refine WL.yes rfl rfl ?_
        refine WL.pickT rfl rfl rfl ?_
        refine WL.yes rfl rfl ?_
        refine WL.move rfl rfl ?_
        refine WL.splitD (t := 23) rfl (fun g4 => ?_) (fun g4 => ?_)
        ·
          refine WL.yes rfl rfl ?_
          refine WL.move rfl rfl ?_
          refine WL.yes rfl rfl ?_
          refine WL.idxArr (k := 1) arr249 rfl rfl (by rfl) (by omega) rfl ?_
          refine WL.yes rfl rfl ?_
          refine WL.load rfl ((hG.of0 H).rd 1 (by omega)) rfl ?_
          refine WL.yes rfl rfl ?_
          refine WL.callVal call210 rfl rfl rfl ?_
          refine Calls.mono (of1_any p bp 3 _ 12 20 (by omega) (by omega) (by omega) _ (H.blk 0 rfl)) ?_
          rintro _ wx ⟨rfl, Hc⟩
          refine ⟨_, rfl, ?_⟩
          replace H := H.call0 Hc
          refine WL.yes rfl rfl ?_
          refine WL.bin rfl rfl binv_gtr rfl ?_
          refine WL.yes rfl rfl ?_
          refine WL.pickT rfl rfl rfl ?_
          refine WL.pickF rfl rfl rfl ?_
          refine WL.assign rfl rfl ?_
          refine (WL.done (WX.next ?_))
          refine (WC.ret ?_)
          refine ret_one rfl rfl ?_
          refine ⟨congrArg (fun b => Ending.returned (Value.bool b)) (Bool.eq_iff_iff.2 ?_), H.weaken (List.nil_sublist _)⟩
          rw [pRight_of]
          simp only [decide_eq_true_eq, Bool.false_eq_true, true_iff, false_iff]
          omega
        ·
          refine WL.no rfl rfl rfl ?_
          refine WL.no rfl rfl rfl ?_
          refine WL.no rfl rfl rfl ?_
          refine WL.no rfl rfl rfl ?_
          refine WL.no rfl rfl rfl ?_
          refine WL.yes rfl rfl ?_
          refine WL.pickF rfl rfl rfl ?_
          refine WL.pickF rfl rfl rfl ?_
          refine WL.assign rfl rfl ?_
          refine (WL.done (WX.next ?_))
          refine (WC.ret ?_)
          refine ret_one rfl rfl ?_
          refine ⟨congrArg (fun b => Ending.returned (Value.bool b)) (Bool.eq_iff_iff.2 ?_), H.weaken (List.nil_sublist _)⟩
          rw [pRight_of]
          simp only [decide_eq_true_eq, Bool.false_eq_true, true_iff, false_iff]
          omega
      ·
        refine WL.no rfl rfl rfl ?_
        refine WL.no rfl rfl rfl ?_
        refine WL.no rfl rfl rfl ?_
        refine WL.no rfl rfl rfl ?_
        refine WL.no rfl rfl rfl ?_
        refine WL.yes rfl rfl ?_
        refine WL.pickF rfl rfl rfl ?_
        refine WL.yes rfl rfl ?_
        refine WL.move rfl rfl ?_
        refine WL.no rfl rfl rfl ?_
        refine WL.no rfl rfl rfl ?_
        refine WL.no rfl rfl rfl ?_
        refine WL.no rfl rfl rfl ?_
        refine WL.no rfl rfl rfl ?_
        refine WL.yes rfl rfl ?_
        refine WL.pickF rfl rfl rfl ?_
        refine WL.pickF rfl rfl rfl ?_
        refine WL.assign rfl rfl ?_
        refine (WL.done (WX.next ?_))
        refine (WC.ret ?_)
        refine ret_one rfl rfl ?_
        refine ⟨congrArg (fun b => Ending.returned (Value.bool b)) (Bool.eq_iff_iff.2 ?_), H.weaken (List.nil_sublist _)⟩
        rw [pRight_of]
        simp only [decide_eq_true_eq, Bool.false_eq_true, true_iff, false_iff]
        omega
    ·
      have hw : ¬ (0 ≤ p ∧ p ≤ 1099511627775) := fun h => by have h2 := isWord_iff.2 h; rw [h2] at g2; cases g2
      refine WL.no rfl rfl rfl ?_
      refine WL.no rfl rfl rfl ?_
      refine WL.no rfl rfl rfl ?_
      refine WL.yes rfl rfl ?_
      refine WL.pickF rfl rfl rfl ?_
      refine WL.yes rfl rfl ?_
      refine WL.move rfl rfl ?_
      refine WL.no rfl rfl rfl ?_
      refine WL.no rfl rfl rfl ?_
      refine WL.no rfl rfl rfl ?_
      refine WL.no rfl rfl rfl ?_
      refine WL.no rfl rfl rfl ?_
      refine WL.yes rfl rfl ?_
      refine WL.pickF rfl rfl rfl ?_
      refine WL.yes rfl rfl ?_
      refine WL.move rfl rfl ?_
      refine WL.no rfl rfl rfl ?_
      refine WL.no rfl rfl rfl ?_
      refine WL.no rfl rfl rfl ?_
      refine WL.no rfl rfl rfl ?_
      refine WL.no rfl rfl rfl ?_
      refine WL.yes rfl rfl ?_
      refine WL.pickF rfl rfl rfl ?_
      refine WL.pickF rfl rfl rfl ?_
      refine WL.assign rfl rfl ?_
      refine (WL.done (WX.next ?_))
      refine (WC.ret ?_)
      refine ret_one rfl rfl ?_
      refine ⟨congrArg (fun b => Ending.returned (Value.bool b)) (Bool.eq_iff_iff.2 ?_), H.weaken (List.nil_sublist _)⟩
      rw [pRight_of]
      simp only [decide_eq_true_eq, Bool.false_eq_true, true_iff, false_iff]
      omega

theorem refright_root_any (p : Int) (w : World) : Calls Tryd.prog 195 #[.int .i64 p] w fun e w' => e = .returned (.bool (pRight p)) ∧ St w [] w' [] := by
  refine calls_walk_n (args := [.int .i64 p]) Tryd.func195 rfl rfl rfl ?_
  have H := St.refl w
  refine WC.seq ?_
  refine WC.region ?_
  refine WL.assign rfl rfl ?_
  refine (WL.done (WX.next ?_))
  refine WC.seq ?_
  refine WC.seq ?_
  refine WC.region ?_
  refine WL.move rfl rfl ?_
  refine WL.bin rfl rfl binv_eql rfl ?_
  refine (WL.done (WX.next ?_))
  refine WC.cond_dec rfl (fun c1 => ?_) (fun c1 => ?_)
  ·
    refine WC.seq ?_
    refine WC.region ?_
    refine WL.assign rfl rfl ?_
    refine (WL.done (WX.next ?_))
    refine (WC.ret (WX.then_ret ?_))
    refine ret_one rfl rfl ?_
    refine ⟨congrArg (fun b => Ending.returned (Value.bool b)) (Bool.eq_iff_iff.2 ?_), H.weaken (List.nil_sublist _)⟩
    rw [pRight_of]
    simp only [decide_eq_true_eq, Bool.false_eq_true, true_iff, false_iff]
    omega
  ·
    refine (WC.skip (WX.next ?_))
    refine WC.seq ?_
    refine WC.region ?_
    refine WL.move rfl rfl ?_
    refine WL.call call211 rfl rfl ?_
    refine Calls.mono (refpword_any p _) ?_
    rintro _ wx ⟨rfl, rfl⟩
    refine ⟨_, rfl, ?_⟩
    refine WL.move rfl rfl ?_
    refine WL.split (t := 7) rfl (fun g1 => ?_) (fun g1 => ?_)
    ·
      have hw := isWord_iff.1 g1
      refine WL.yes rfl rfl ?_
      refine WL.move rfl rfl ?_
      refine WL.yes rfl rfl ?_
      refine WL.bin rfl rfl (irem (by omega) (by omega)) rfl ?_
      refine WL.yes rfl rfl ?_
      refine WL.bin rfl rfl binv_gtr rfl ?_
      refine WL.pickT rfl rfl rfl ?_
      refine WL.move rfl rfl ?_
      refine WL.splitD (t := 12) rfl (fun g2 => ?_) (fun g2 => ?_)
      ·
        refine WL.yes rfl rfl ?_
        refine WL.move rfl rfl ?_
        refine WL.yes rfl rfl ?_
        refine WL.bin rfl rfl (iquo (by omega) (by omega) (by omega)) rfl ?_
        refine WL.yes rfl rfl ?_
        refine WL.bin rfl rfl binv_gtr rfl ?_
        refine WL.pickT rfl rfl rfl ?_
        refine WL.move rfl rfl ?_
        refine WL.splitD (t := 17) rfl (fun g3 => ?_) (fun g3 => ?_)
        ·
          refine WL.yes rfl rfl ?_
          refine WL.move rfl rfl ?_
          refine WL.yes rfl rfl ?_
          refine WL.bin rfl rfl (iquo (by omega) (by omega) (by omega)) rfl ?_
          refine WL.yes rfl rfl ?_
          refine WL.bin rfl rfl binv_lss rfl ?_
          refine WL.pickT rfl rfl rfl ?_
          refine WL.assign rfl rfl ?_
          refine (WL.done (WX.next ?_))
          refine (WC.ret ?_)
          refine ret_one rfl rfl ?_
          refine ⟨congrArg (fun b => Ending.returned (Value.bool b)) (Bool.eq_iff_iff.2 ?_), H.weaken (List.nil_sublist _)⟩
          rw [pRight_of]
          simp only [decide_eq_true_eq, Bool.false_eq_true, true_iff, false_iff]
          omega
        ·
          refine WL.no rfl rfl rfl ?_
          refine WL.no rfl rfl rfl ?_
          refine WL.no rfl rfl rfl ?_
          refine WL.pickF rfl rfl rfl ?_
          refine WL.assign rfl rfl ?_
          refine (WL.done (WX.next ?_))
          refine (WC.ret ?_)
          refine ret_one rfl rfl ?_
          refine ⟨congrArg (fun b => Ending.returned (Value.bool b)) (Bool.eq_iff_iff.2 ?_), H.weaken (List.nil_sublist _)⟩
          rw [pRight_of]
          simp only [decide_eq_true_eq, Bool.false_eq_true, true_iff, false_iff]
          omega
      ·
        refine WL.no rfl rfl rfl ?_
        refine WL.no rfl rfl rfl ?_
        refine WL.no rfl rfl rfl ?_
        refine WL.pickF rfl rfl rfl ?_
        refine WL.move rfl rfl ?_
        refine WL.no rfl rfl rfl ?_
        refine WL.no rfl rfl rfl ?_
        refine WL.no rfl rfl rfl ?_
        refine WL.pickF rfl rfl rfl ?_
        refine WL.assign rfl rfl ?_
        refine (WL.done (WX.next ?_))
        refine (WC.ret ?_)
        refine ret_one rfl rfl ?_
        refine ⟨congrArg (fun b => Ending.returned (Value.bool b)) (Bool.eq_iff_iff.2 ?_), H.weaken (List.nil_sublist _)⟩
        rw [pRight_of]
        simp only [decide_eq_true_eq, Bool.false_eq_true, true_iff, false_iff]
        omega
    ·
      have hw : ¬ (0 ≤ p ∧ p ≤ 1099511627775) := fun h => by have h2 := isWord_iff.2 h; rw [h2] at g1; cases g1
      refine WL.no rfl rfl rfl ?_
      refine WL.no rfl rfl rfl ?_
      refine WL.no rfl rfl rfl ?_
      refine WL.pickF rfl rfl rfl ?_
      refine WL.move rfl rfl ?_
      refine WL.no rfl rfl rfl ?_
      refine WL.no rfl rfl rfl ?_
      refine WL.no rfl rfl rfl ?_
      refine WL.pickF rfl rfl rfl ?_
      refine WL.move rfl rfl ?_
      refine WL.no rfl rfl rfl ?_
      refine WL.no rfl rfl rfl ?_
      refine WL.no rfl rfl rfl ?_
      refine WL.pickF rfl rfl rfl ?_
      refine WL.assign rfl rfl ?_
      refine (WL.done (WX.next ?_))
      refine (WC.ret ?_)
      refine ret_one rfl rfl ?_
      refine ⟨congrArg (fun b => Ending.returned (Value.bool b)) (Bool.eq_iff_iff.2 ?_), H.weaken (List.nil_sublist _)⟩
      rw [pRight_of]
      simp only [decide_eq_true_eq, Bool.false_eq_true, true_iff, false_iff]
      omega

end Go.Proofs.YtkncbggnaobgeaaDoor

/- Walks of functions of the program; printed by a program of this session (walk.py) out of hand-written hints. -/
namespace Go.Proofs.YtkncbggnaobgeaaDoor
open Go.RowKit
set_option linter.unusedVariables false
set_option linter.unusedSimpArgs false
set_option maxRecDepth 100000

theorem wrap_u8 {x : Int} (h : 0 ≤ x) (h' : x ≤ 255) : IntKind.u8.wrap x = x := by
  simp [IntKind.wrap, IntKind.bits, IntKind.signed]; omega
section
variable {P : Program} {t : TypeId} {x y : Int} {a b : Nat}
theorem ofInt8 (hx : x = (a : Int)) (ha : a < 256) : (BitVec.ofInt 8 x).toNat = a := by
  subst hx
  rw [BitVec.toNat_ofInt]
  omega
theorem bxorN (hx : x = (a : Int)) (hy : y = (b : Int)) (ha : a < 256) (hb : b < 256) : BinV P .xor t (.int .u8 x) (.int .u8 y) (.int .u8 ((a ^^^ b : Nat) : Int)) := by
  refine binv_xor ?_
  have h1 : a ^^^ b < 256 := Nat.xor_lt_two_pow (n := 8) ha hb
  show IntKind.u8.wrap (((BitVec.ofInt 8 x ^^^ BitVec.ofInt 8 y).toNat : Nat) : Int) = _
  rw [BitVec.toNat_xor, ofInt8 hx ha, ofInt8 hy hb]
  exact wrap_u8 (by omega) (by omega)
theorem bandN (hx : x = (a : Int)) (hy : y = (b : Int)) (ha : a < 256) (hb : b < 256) : BinV P .and t (.int .u8 x) (.int .u8 y) (.int .u8 ((a &&& b : Nat) : Int)) := by
  refine binv_and ?_
  have h1 : a &&& b ≤ a := Nat.and_le_left
  show IntKind.u8.wrap (((BitVec.ofInt 8 x &&& BitVec.ofInt 8 y).toNat : Nat) : Int) = _
  rw [BitVec.toNat_and, ofInt8 hx ha, ofInt8 hy hb]
  exact wrap_u8 (by omega) (by omega)
theorem ushlN {k' : IntKind} {m : Nat} (hx : x = (a : Int)) (hy : y = (m : Int)) (hm : m < 64) (h : a * 2 ^ m < 18446744073709551616) : BinV P .shl t (.int .u64 x) (.int k' y) (.int .u64 ((a * 2 ^ m : Nat) : Int)) := by
  refine binv_shl (by omega) ?_
  subst hx hy
  rw [show min ((m : Int)).toNat (IntKind.u64.bits) = m from Nat.min_eq_left (by show m ≤ 64; omega)]
  rw [show (a : Int) * 2 ^ m = ((a * 2 ^ m : Nat) : Int) by norm_cast]
  exact wrap_u64 (by omega) (by omega)
end
theorem GN.rd {w : World} (h : GN w) (k : Nat) (hk : k < 16) : Rd Tryd.prog w 250 ⟨1, 0 + k * 1, none⟩ (.int .u64 (nibT.getD k 0 : Nat)) := by
  obtain ⟨t, fr, h⟩ := h
  exact Rd.one ty250 (by rw [cell_of h, Nat.zero_add, Nat.mul_one]; exact nib_at k hk)
theorem GN.lt {w : World} (h : GN w) : 1 < w.heap.size := by obtain ⟨t, fr, h⟩ := h; exact lt_of_some h
theorem GN.ofX {w w' : World} {S : List Nat} (h : GN w) (hS : SX w S w') (hn : 1 ∉ S) : GN w' := by
  obtain ⟨t, fr, h⟩ := h
  exact ⟨t, fr, hS.block h hn⟩
abbrev crcv (r : Nat) : Value := .agg #[.int .u64 (r : Int)]

theorem beginCrc_any (w : World) : Calls Tryd.prog 192 #[] w fun e w' => e = .returned (crcv 1099511627775) ∧ St w [] w' [] := by
  refine calls_walk_n (args := []) Tryd.func192 rfl rfl rfl ?_
  have H := St.refl w
  refine WC.seq ?_
  refine WC.region ?_
  refine WL.alloc H zer252 rfl ?_
  intro b0 wx hb0 hge0 H
  refine (WL.done (WX.next ?_))
  refine WC.seq ?_
  refine WC.region ?_
  refine WL.build (cells := #[.int .u64 1099511627775]) pla252 zer252 rfl rfl (by kernel_rfl) ?_
  refine WL.storeTo (cs' := #[.int .u64 1099511627775]) H ty252 0 rfl rfl rfl (by rfl) (by simp [Value.cells, Value.oneCell']) (by decide) (by kernel_rfl) ?_
  intro wx H
  refine (WL.done (WX.next ?_))
  refine (WC.ret ?_)
  refine ret_cell rfl ⟨_, rfl, by exact H.rdA ty252 0 rfl (by first | decide | exact Nat.le_refl _)⟩ ?_
  exact ⟨rfl, H.weaken (List.nil_sublist _)⟩

theorem nibble_any (r x : Nat) (hr : r < 1099511627776) (hx : x < 16) (w : World) (hG : GN w) : Calls Tryd.prog 193 #[crcv r, .int .u8 (x : Int)] w fun e w' => e = .returned (crcv (nib r x)) ∧ St w [] w' [] := by
  refine calls_walk_n (args := [crcv r, .int .u8 (x : Int)]) Tryd.func193 rfl rfl rfl ?_
  have H := St.refl w
  refine WC.seq ?_
  refine WC.region ?_
  refine WL.box (v := crcv r) H rfl rfl ?_
  intro b2 wx hb2 hge2 H
  change St w [] wx [(b2, .cells #[.int .u64 (r : Int)] 252)] at H
  refine WL.alloc H zer252 rfl ?_
  intro b4 wx hb4 hge4 H
  refine (WL.done (WX.next ?_))
  refine WC.seq ?_
  refine WC.region ?_
  have hr36 : r / 2 ^ 36 < 16 := by omega
  have hx36 : r / 2 ^ 36 ^^^ x < 16 := xor_lt 4 hr36 hx
  have ha16 : (r / 2 ^ 36 ^^^ x) &&& 15 = (r / 68719476736 ^^^ x) % 16 := Nat.and_two_pow_sub_one_eq_mod _ 4
  have hm16 : (r / 68719476736 ^^^ x) % 16 < 16 := Nat.mod_lt _ (by decide)
  have ha40 : r * 2 ^ 4 &&& 1099511627775 = r * 16 % 1099511627776 := Nat.and_two_pow_sub_one_eq_mod _ 40
  have hl40 : r * 16 % 1099511627776 < 1099511627776 := Nat.mod_lt _ (by decide)
  have hn40 := nibT_lt' (r / 68719476736 ^^^ x)
  refine WL.fieldAddr fld252_0 rfl rfl ?_
  refine WL.load rfl (H.rd1 ty250 1 rfl rfl) rfl ?_
  refine WL.bin rfl rfl (shrN (a := r) (m := 36) rfl rfl (by decide)) rfl ?_
  refine WL.convert int250 int5 rfl (wrap_u8 (by omega) (by omega)) rfl ?_
  refine WL.move rfl rfl ?_
  refine WL.bin rfl rfl (bxorN (a := r / 2 ^ 36) (b := x) rfl rfl (by omega) (by omega)) rfl ?_
  refine WL.assign rfl rfl ?_
  refine (WL.done (WX.next ?_))
  refine WC.seq ?_
  replace H := H.drew
  refine WC.held (SX (World.drew wx) [b4]) (by kernel_rfl) ?_
  generalize World.drew wx = wb at H ⊢
  have HB := H.single 0 rfl
  refine WH.take 0 rfl (by kernel_rfl) (by kernel_rfl) (by kernel_rfl) (fun _ _ _ h => h) ⟨_, HB⟩ (fun w' hS => EX.fieldAddr fld252_0 rfl) rfl ?_
  refine WH.take 1 rfl (by kernel_rfl) (by kernel_rfl) (by kernel_rfl) (fun _ _ _ h => h) ⟨_, HB⟩ (fun w' hS => EX.load rfl (hS.rd1 ty250 (H.blk 1 rfl) (by simpa using H.ne 1 0 rfl rfl rfl) rfl)) rfl ?_
  refine WH.take 2 rfl (by kernel_rfl) (by kernel_rfl) (by kernel_rfl) (fun _ _ _ h => h) ⟨_, HB⟩ (fun w' hS => EX.bin rfl rfl (ushlN (a := r) (m := 4) rfl rfl (by decide) (by omega))) rfl ?_
  refine WH.take 3 rfl (by kernel_rfl) (by kernel_rfl) (by kernel_rfl) (fun _ _ _ h => h) ⟨_, HB⟩ (fun w' hS => EX.bin rfl rfl ((by rw [← ha40]; exact uandN (a := r * 2 ^ 4) (b := 1099511627775) rfl rfl (by omega) (by omega) : BinV Tryd.prog .and 250 (.int .u64 ((r * 2 ^ 4 : Nat) : Int)) (.int .u64 1099511627775) (.int .u64 ((r * 16 % 1099511627776 : Nat) : Int))))) rfl ?_
  refine WH.take 4 rfl (by kernel_rfl) (by kernel_rfl) (by kernel_rfl) (fun _ _ _ h => h) ⟨_, HB⟩ (fun w' hS => EX.move rfl) rfl ?_
  refine WH.take 5 rfl (by kernel_rfl) (by kernel_rfl) (by kernel_rfl) (fun _ _ _ h => h) ⟨_, HB⟩ (fun w' hS => EX.bin rfl rfl ((by rw [← ha16]; exact bandN (a := r / 2 ^ 36 ^^^ x) (b := 15) rfl rfl (by omega) (by omega) : BinV Tryd.prog .and 5 (.int .u8 ((r / 2 ^ 36 ^^^ x : Nat) : Int)) (.int .u8 15) (.int .u8 (((r / 68719476736 ^^^ x) % 16 : Nat) : Int))))) rfl ?_
  refine WH.take 6 rfl (by kernel_rfl) (by kernel_rfl) (by kernel_rfl) (fun _ _ _ h => h) ⟨_, HB⟩ (fun w' hS => EX.idxArr (k := (r / 68719476736 ^^^ x) % 16) arr268 rfl rfl (by rfl) (hm16)) rfl ?_
  refine WH.take 7 rfl (by kernel_rfl) (by kernel_rfl) (by kernel_rfl) (fun _ _ _ h => h) ⟨_, HB⟩ (fun w' hS => EX.load rfl (((hG.of0 H).ofX hS (by have := hG.lt; simp; omega)).rd _ hm16)) rfl ?_
  refine WH.take 8 rfl (by kernel_rfl) (by kernel_rfl) (by kernel_rfl) (fun _ _ _ h => h) ⟨_, HB⟩ (fun w' hS => EX.bin rfl rfl (uxorN (a := r * 16 % 1099511627776) (b := nibT.getD ((r / 68719476736 ^^^ x) % 16) 0) rfl rfl (by omega) (by omega))) rfl ?_
  refine WH.take 9 rfl (by kernel_rfl) (by kernel_rfl) (by kernel_rfl) (fun _ _ _ h => h) ⟨_, HB⟩ (fun w' hS => EX.build (cells := #[.int .u64 (nib r x : Nat)]) pla252 zer252 rfl (by kernel_rfl)) rfl ?_
  refine WH.hard 10 rfl (by kernel_rfl) ?_
  refine WL.storeTo (cs' := #[.int .u64 (nib r x : Nat)]) HB ty252 0 rfl rfl rfl (by rfl) (by simp [Value.cells, Value.oneCell']) (by decide) (by kernel_rfl) ?_
  intro wx HB
  refine WL.done (WX.heldOn ⟨_, HB⟩ ?_)
  refine WH.done (by kernel_rfl) ?_
  replace H := H.back (N := []) 0 rfl HB rfl
  refine WX.next ?_
  refine (WC.ret ?_)
  refine ret_cell rfl ⟨_, rfl, by exact H.rdA ty252 0 rfl (by first | decide | exact Nat.le_refl _)⟩ ?_
  exact ⟨rfl, H.weaken (List.nil_sublist _)⟩

theorem value_any (r : Nat) (hr : r < 1099511627776) (w : World) : Calls Tryd.prog 194 #[crcv r] w fun e w' => e = .returned (.int .i64 ((r ^^^ 1099511627775 : Nat) : Int)) ∧ St w [] w' [] := by
  refine calls_walk_n (args := [crcv r]) Tryd.func194 rfl rfl rfl ?_
  have H := St.refl w
  refine WC.seq ?_
  refine WC.region ?_
  refine WL.box (v := crcv r) H rfl rfl ?_
  intro b1 wx hb1 hge1 H
  change St w [] wx [(b1, .cells #[.int .u64 (r : Int)] 252)] at H
  have hx40 : r ^^^ 1099511627775 < 1099511627776 := xor_lt 40 hr (by decide)
  refine WL.assign rfl rfl ?_
  refine (WL.done (WX.next ?_))
  refine WC.seq ?_
  refine WC.region ?_
  refine WL.fieldAddr fld252_0 rfl rfl ?_
  refine WL.load rfl (H.rd1 ty250 0 rfl rfl) rfl ?_
  refine WL.bin rfl rfl (uxorN (a := r) (b := 1099511627775) rfl rfl (by omega) (by omega)) rfl ?_
  refine WL.convert int250 int3 rfl (wrap_i64 (by omega) (by omega)) rfl ?_
  refine WL.assign rfl rfl ?_
  refine (WL.done (WX.next ?_))
  refine (WC.ret ?_)
  refine ret_one rfl rfl ?_
  exact ⟨rfl, H.weaken (List.nil_sublist _)⟩

end Go.Proofs.YtkncbggnaobgeaaDoor

/- Walks of functions of the program; printed by a program of this session (walk.py) out of hand-written hints. -/
namespace Go.Proofs.YtkncbggnaobgeaaDoor
open Go.RowKit
set_option linter.unusedVariables false
set_option linter.unusedSimpArgs false
set_option maxRecDepth 100000

theorem GN.ofS {w0 w : World} {S : List Nat} {H : Hp} (h : GN w0) (hS : St w0 S w H) (hn : 1 ∉ S) : GN w := by
  obtain ⟨t, fr, h⟩ := h
  exact ⟨t, fr, hS.oldBlock h hn⟩
theorem shrZ {P : Program} {t : TypeId} {k k' : IntKind} {x y : Int} {m : Nat} (hy : y = (m : Int)) (hm : m ≤ k.bits) : BinV P .shr t (.int k x) (.int k' y) (.int k (x / 2 ^ m)) := by
  refine binv_shr (by omega) ?_
  subst hy
  rw [show min ((m : Int)).toNat k.bits = m from Nat.min_eq_left hm]
  exact Int.fdiv_eq_ediv_of_nonneg _ (by have := Nat.two_pow_pos m; norm_cast; omega)
theorem wrap_nbl (x : Int) (j : Nat) : IntKind.u8.wrap (x / 2 ^ (36 - 4 * j) % 2 ^ 4) = ((nbl x j : Nat) : Int) := by
  have h1 := nbl_lt x j
  have e : x / 2 ^ (36 - 4 * j) % 2 ^ 4 = ((nbl x j : Nat) : Int) := by
    unfold nbl
    rw [Int.toNat_of_nonneg (Int.emod_nonneg _ (by decide))]
    rfl
  rw [e]
  exact wrap_u8 (by omega) (by omega)

theorem hashWords_any (A : Option Addr) (m cap : Nat) (xs : List Int) (hmx : m = xs.length) (hm : m ≤ 9223372036854775806) (w : World) (hG : GN w) (hx : IntsIn w A xs) : Calls Tryd.prog 149 #[.slice A m cap] w fun e w' => e = .returned (.int .i64 (crc xs)) ∧ St w [] w' [] := by
  refine calls_walk_n (args := [.slice A m cap]) Tryd.func149 rfl rfl rfl ?_
  have H := St.refl w
  refine WC.seq ?_
  refine WC.region ?_
  refine WL.assign rfl rfl ?_
  refine (WL.done (WX.next ?_))
  refine WC.seq ?_
  refine WC.region ?_
  refine WL.call call192 rfl rfl ?_
  refine Calls.mono (beginCrc_any _) ?_
  rintro _ wx ⟨rfl, Hc⟩
  refine ⟨_, rfl, ?_⟩
  replace H := H.call0 Hc
  refine WL.alloc H zer252 rfl ?_
  intro b3 wx hb3 hge3 H
  refine WL.storeTo (cs' := #[.int .u64 ((crcTo xs 0 : Nat) : Int)]) H ty252 0 rfl rfl rfl (by rfl) (by simp [Value.cells, Value.oneCell']) (by decide) (by kernel_rfl) ?_
  intro wx H
  refine (WL.done (WX.next ?_))
  refine WC.seq ?_
  refine WC.seq ?_
  refine WC.region ?_
  refine WL.move rfl rfl ?_
  refine WL.lenSlc isl43 rfl rfl ?_
  refine WL.move rfl rfl ?_
  refine (WL.done (WX.next ?_))
  refine WC.block ?_
  -- loop 1: changed [10] kept [3, 8, 9]
  refine WC.loop (Sub.cons (t := 3) rfl (Sub.cons (t := 8) rfl (Sub.cons (t := 9) rfl (Sub.nil _)))) (fun i : Nat => [(10, .int .i64 (i : Int))]) (fun q i wx => q = m - i ∧ i ≤ m ∧ St w [] wx [(b3, .cells #[.int .u64 ((crcTo xs i : Nat) : Int)] 252)]) (m) (0) (Sub.cons (t := 10) (by rfl) (Sub.nil _)) (⟨rfl, Nat.zero_le _, H⟩) ?_
  rintro k g wx hI N hN
  obtain ⟨rfl, hg, H⟩ := hI
  refine WC.seq ?_
  refine WC.region ?_
  refine WL.bin rfl rfl binv_lss rfl ?_
  refine (WL.done (WX.next ?_))
  refine WC.seq ?_
  refine WC.cond_dec rfl (fun c1 => ?_) (fun c1 => ?_)
  ·
    change (g : Int) < (m : Int) at c1
    obtain ⟨b, o, cs, t, fr, rfl, hb, hcs⟩ : ∃ b o cs t fr, A = some ⟨b, o, none⟩ ∧ w.heap[b]? = some (.cells cs t fr) ∧ ∀ j u, xs[j]? = some u → cs[o + j]? = some (.int .i64 u) := by
      rcases hx with h | h
      · rw [h] at hmx; simp at hmx; omega
      · exact h
    have hgx : xs[g]? = some (xs.getD g 0) := by rw [List.getD, List.getElem?_eq_getElem (by omega)]; rfl
    refine (WC.skip (WX.next ?_))
    refine WC.seq ?_
    refine WC.block ?_
    refine WC.seq ?_
    refine WC.region ?_
    refine WL.idxSlc (k := g) slc43 rfl rfl (by rfl) (by omega) rfl ?_
    refine WL.load rfl (Rd.one ty3 (by rw [cell_of (H.oldBlock hb (by simp)), Nat.mul_one]; exact hcs g _ hgx)) rfl ?_
    refine WL.assign rfl rfl ?_
    refine (WL.done (WX.next ?_))
    refine WC.seq ?_
    refine WC.region ?_
    refine WL.assign rfl rfl ?_
    refine (WL.done (WX.next ?_))
    refine WC.block ?_
    -- loop 2: changed [6] kept [3, 5, 8, 9, 10]
    refine WC.loop (Sub.cons (t := 3) rfl (Sub.cons (t := 5) rfl (Sub.cons (t := 8) rfl (Sub.cons (t := 9) rfl (Sub.cons (t := 10) rfl (Sub.nil _)))))) (fun i : Nat => [(6, .int .i64 (36 - 4 * (i : Int)))]) (fun q i wx => q = 10 - i ∧ i ≤ 10 ∧ St w [] wx [(b3, .cells #[.int .u64 ((crcW (crcTo xs g) (xs.getD g 0) i : Nat) : Int)] 252)]) (10) (0) (Sub.cons (t := 6) (by rfl) (Sub.nil _)) (⟨rfl, Nat.zero_le _, H⟩) ?_
    rintro k2 j wx hI2 N2 hN2
    obtain ⟨rfl, hj, H⟩ := hI2
    refine WC.seq ?_
    refine WC.seq ?_
    refine WC.region ?_
    refine WL.move rfl rfl ?_
    refine WL.bin rfl rfl binv_geq rfl ?_
    refine (WL.done (WX.next ?_))
    refine WC.cond_dec rfl (fun c2 => ?_) (fun c2 => ?_)
    ·
      change 36 - 4 * (j : Int) ≥ 0 at c2
      refine (WC.skip (WX.next ?_))
      refine WC.seq ?_
      refine WC.block ?_
      replace H := H.drew
      refine WC.held (SX (World.drew wx) [b3]) (by kernel_rfl) ?_
      generalize World.drew wx = wb at H ⊢
      have HB := H.single 0 rfl
      refine WH.take 1 rfl (by kernel_rfl) (by kernel_rfl) (by kernel_rfl) (fun _ _ _ h => h) ⟨_, HB⟩ (fun w' hS => EX.move rfl) rfl ?_
      refine WH.take 2 rfl (by kernel_rfl) (by kernel_rfl) (by kernel_rfl) (fun _ _ _ h => h) ⟨_, HB⟩ (fun w' hS => EX.move rfl) rfl ?_
      refine WH.take 3 rfl (by kernel_rfl) (by kernel_rfl) (by kernel_rfl) (fun _ _ _ h => h) ⟨_, HB⟩ (fun w' hS => EX.bin rfl rfl (shrZ (m := 36 - 4 * j) (by omega) (by show _ ≤ 64; omega))) rfl ?_
      refine WH.take 4 rfl (by kernel_rfl) (by kernel_rfl) (by kernel_rfl) (fun _ _ _ h => h) ⟨_, HB⟩ (fun w' hS => EX.bin rfl rfl (iandm (k := 4) (by decide) rfl)) rfl ?_
      refine WH.take 5 rfl (by kernel_rfl) (by kernel_rfl) (by kernel_rfl) (fun _ _ _ h => h) ⟨_, HB⟩ (fun w' hS => EX.convert int3 int5 rfl (wrap_nbl _ _)) rfl ?_
      refine WH.hard 0 rfl (by kernel_rfl) ?_
      refine WL.load rfl (HB.rdAll ty252 0 rfl rfl) rfl ?_
      refine WL.done (WX.heldOn ⟨_, HB⟩ ?_)
      refine WH.hard 6 rfl (by kernel_rfl) ?_
      refine WL.call call193 rfl rfl ?_
      refine Calls.mono (nibble_any (crcW (crcTo xs g) (xs.getD g 0) j) (nbl (xs.getD g 0) j) (crcW_lt (crcTo_lt _ _) _ _) (nbl_lt _ _) _ ((hG.of0 H).ofS HB (by have := hG.lt; simp; omega))) ?_
      rintro _ wx ⟨rfl, Hc⟩
      refine ⟨_, rfl, ?_⟩
      replace HB := HB.call0 Hc
      refine WL.done (WX.heldOn ⟨_, HB⟩ ?_)
      refine WH.hard 7 rfl (by kernel_rfl) ?_
      refine WL.storeTo (cs' := #[.int .u64 ((crcW (crcTo xs g) (xs.getD g 0) (j + 1) : Nat) : Int)]) HB ty252 0 rfl rfl rfl (by rfl) (by simp [Value.cells, Value.oneCell']) (by simp [wr_size]) (by kernel_rfl) ?_
      intro wx HB
      refine WL.done (WX.heldOn ⟨_, HB⟩ ?_)
      refine WH.done (by kernel_rfl) ?_
      replace H := H.back (N := []) 0 rfl HB rfl
      refine (WX.block_normal (WX.next ?_))
      refine WC.region ?_
      refine WL.move rfl rfl ?_
      refine WL.bin rfl rfl ((by have := isub (P := Tryd.prog) (t := 3) (x := 36 - 4 * (j : Int)) (y := 4) (by omega) (by omega); rw [show 36 - 4 * (j : Int) - 4 = 36 - 4 * ((j + 1 : Nat) : Int) by omega] at this; exact this)) rfl ?_
      refine WL.assign rfl rfl ?_
      refine (WL.done (WX.round ?_))
      exact hN2 _ (j + 1) _ _ (by omega) ⟨rfl, by omega, H⟩ (Sub.cons (t := 6) (by rfl) (Sub.nil _)) (Sub.cons (t := 3) rfl (Sub.cons (t := 5) rfl (Sub.cons (t := 8) rfl (Sub.cons (t := 9) rfl (Sub.cons (t := 10) rfl (Sub.nil _))))))
    ·
      change ¬ 36 - 4 * (j : Int) ≥ 0 at c2
      obtain rfl : j = 10 := by omega
      refine (WC.exit (WX.then_exit (WX.then_exit (WX.block_exit (WX.block_normal (WX.next ?_))))))
      refine WC.region ?_
      refine WL.bin rfl rfl (iadd (by omega) (by omega)) rfl ?_
      refine WL.move rfl rfl ?_
      refine (WL.done (WX.round ?_))
      exact hN _ (g + 1) _ _ (by omega) ⟨rfl, by omega, H⟩ (Sub.cons (t := 10) (by rfl) (Sub.nil _)) (Sub.cons (t := 3) rfl (Sub.cons (t := 8) rfl (Sub.cons (t := 9) rfl (Sub.nil _))))
  ·
    change ¬ (g : Int) < (m : Int) at c1
    obtain rfl : g = m := by omega
    refine (WC.exit (WX.then_exit (WX.then_exit (WX.block_exit (WX.next ?_)))))
    refine WC.seq ?_
    refine WC.region ?_
    refine WL.load rfl (H.rdAll ty252 0 rfl rfl) rfl ?_
    refine WL.call call194 rfl rfl ?_
    refine Calls.mono (value_any (crcTo xs g) (crcTo_lt _ _) _) ?_
    rintro _ wx ⟨rfl, Hc⟩
    refine ⟨_, rfl, ?_⟩
    replace H := H.call0 Hc
    refine WL.assign rfl rfl ?_
    refine (WL.done (WX.next ?_))
    refine (WC.ret ?_)
    refine ret_one rfl rfl ?_
    refine ⟨?_, H.weaken (List.nil_sublist _)⟩
    rw [hmx]
    rfl

end Go.Proofs.YtkncbggnaobgeaaDoor

/- Walks of functions of the program; printed by a program of this session (walk.py) out of hand-written hints. -/
namespace Go.Proofs.YtkncbggnaobgeaaDoor
open Go.RowKit
set_option linter.unusedVariables false
set_option linter.unusedSimpArgs false
set_option maxRecDepth 100000

theorem rootOk_iff {s c t l : Int} : rootOk [s, c, t, l] = true ↔ planOk l = true ∧ 1 ≤ s ∧ s ≤ 1099511627775 ∧ pRight c = true ∧ 0 ≤ t ∧ t ≤ 1073741824 := by
  unfold rootOk
  show (planOk l && _) = true ↔ _
  simp only [Bool.and_eq_true, decide_eq_true_eq]
  exact Iff.rfl
theorem planE_iff {l : Int} : planE l = 0 ↔ planOk l = true := by
  unfold planE
  cases planOk l <;> simp
theorem planOk_iff {n : Int} : planOk n = true ↔ 64 ≤ n ∧ n ≤ 4096 := by
  unfold planOk; simp only [Bool.and_eq_true, decide_eq_true_eq]
theorem IntsIn.arr7 {w : World} {b : Nat} {t : TypeId} {fr : Nat × Nat} {xs ys : List Int} (h : w.heap[b]? = some (.cells (arrC ys) t fr)) (hp : ∀ (j : Nat) (u : Int), xs[j]? = some u → ys[j]? = some u) : IntsIn w (some ⟨b, 0, none⟩) xs :=
  .inr ⟨b, 0, _, t, fr, rfl, h, fun j u hj => by rw [Nat.zero_add, arrC_get, hp j u hj]; rfl⟩
theorem hp7 {s c t l z : Int} : ∀ (j : Nat) (u : Int), ([418431462657, s, c, t, l, 0, 0] : List Int)[j]? = some u → ([418431462657, s, c, t, l, 0, 0, z] : List Int)[j]? = some u := by
  intro j u h
  have hj := lt_len h
  rw [show ([418431462657, s, c, t, l, 0, 0, z] : List Int) = [418431462657, s, c, t, l, 0, 0] ++ [z] from rfl, List.getElem?_append_left hj]
  exact h

theorem plan1_any (nx sz : Int) (b : Nat) (t : TypeId) (hz : 0 ≤ nx ∧ nx ≤ 100000 ∧ 0 ≤ sz ∧ sz ≤ 100000) (w : World) (hb : w.heap[b]? = some (.cells #[.int .i64 nx] t)) : Calls Tryd.prog 147 #[.int .i64 sz, ptr b] w fun e w' => e = .returned (.int .i64 nx) ∧ St w [b] w' [(b, .cells #[.int .i64 (nx + sz)] t)] := by
  refine calls_walk_n (args := [.int .i64 sz, ptr b]) Tryd.func147 rfl rfl rfl ?_
  have H : St w [b] w [(b, .cells #[.int .i64 nx] t)] := St.start (H := [(b, .cells #[.int .i64 nx] t)]) (by simp) (by simpa using hb)
  refine WC.seq ?_
  refine WC.region ?_
  refine WL.assign rfl rfl ?_
  refine (WL.done (WX.next ?_))
  refine WC.seq ?_
  refine WC.region ?_
  refine WL.load rfl (H.rd1 ty3 0 rfl rfl) rfl ?_
  refine WL.assign rfl rfl ?_
  refine (WL.done (WX.next ?_))
  refine WC.seq ?_
  refine WC.region ?_
  refine WL.load rfl (H.rd1 ty3 0 rfl rfl) rfl ?_
  refine WL.move rfl rfl ?_
  refine WL.bin rfl rfl (iadd (by omega) (by omega)) rfl ?_
  refine WL.storeTo (cs' := #[.int .i64 (nx + sz)]) H ty3 0 rfl rfl rfl (by rfl) (by simp [Value.cells, Value.oneCell']) (by exact Nat.le_of_ble_eq_true rfl) (by kernel_rfl) ?_
  intro wx H
  refine (WL.done (WX.next ?_))
  refine WC.seq ?_
  refine WC.region ?_
  refine WL.move rfl rfl ?_
  refine WL.assign rfl rfl ?_
  refine (WL.done (WX.next ?_))
  refine (WC.ret ?_)
  refine ret_one rfl rfl ?_
  exact ⟨rfl, H⟩

theorem plan_any (n : Int) (w : World) : Calls Tryd.prog 65 #[.int .i64 n] w fun e w' => e = .returned (.tuple #[arr (planV n), .int .i64 (planE n)]) ∧ St w [] w' [] := by
  refine calls_walk_n (args := [.int .i64 n]) Tryd.func65 rfl rfl rfl ?_
  have H := St.refl w
  refine WC.seq ?_
  refine WC.region ?_
  refine WL.alloc H zer95 rfl ?_
  intro b2 wx hb2 hge2 H
  refine WL.assign rfl rfl ?_
  refine (WL.done (WX.next ?_))
  refine WC.seq ?_
  refine WC.seq ?_
  refine WC.region ?_
  refine WL.move rfl rfl ?_
  refine WL.bin rfl rfl binv_lss rfl ?_
  refine WL.move rfl rfl ?_
  refine WL.splitD (t := 9) rfl (fun g1 => ?_) (fun g1 => ?_)
  ·
    refine WL.no rfl rfl rfl ?_
    refine WL.no rfl rfl rfl ?_
    refine WL.pickT rfl rfl rfl ?_
    refine (WL.done (WX.next ?_))
    refine WC.cond_true rfl (rfl) ?_
    refine WC.seq ?_
    refine WC.region ?_
    refine WL.build (cells := arrC zeros8) pla95 zer95 rfl rfl (by kernel_rfl) ?_
    refine WL.storeTo (cs' := arrC zeros8) H ty95 0 rfl rfl rfl (by rfl) (by exact arrC_one _) (by exact Nat.le_of_ble_eq_true rfl) (by kernel_rfl) ?_
    intro wx H
    refine WL.assign rfl rfl ?_
    refine (WL.done (WX.next ?_))
    refine (WC.ret (WX.then_ret ?_))
    refine ret_two rfl ⟨_, rfl, by exact H.rdAll ty95 0 rfl rfl⟩ rfl ?_
    first
      | (have hb : planOk n = true := planOk_iff.2 hn
         unfold planV planE
         rw [hb]
         exact ⟨rfl, H.weaken (List.nil_sublist _)⟩)
      | (have hb : planOk n = false := by
           cases h : planOk n with
           | false => rfl
           | true => have := planOk_iff.1 h; exfalso; omega
         unfold planV planE
         rw [hb]
         exact ⟨rfl, H.weaken (List.nil_sublist _)⟩)
  ·
    refine WL.yes rfl rfl ?_
    refine WL.move rfl rfl ?_
    refine WL.yes rfl rfl ?_
    refine WL.bin rfl rfl binv_gtr rfl ?_
    refine WL.pickF rfl rfl rfl ?_
    refine (WL.done (WX.next ?_))
    refine WC.cond_dec rfl (fun c2 => ?_) (fun c2 => ?_)
    ·
      refine WC.seq ?_
      refine WC.region ?_
      refine WL.build (cells := arrC zeros8) pla95 zer95 rfl rfl (by kernel_rfl) ?_
      refine WL.storeTo (cs' := arrC zeros8) H ty95 0 rfl rfl rfl (by rfl) (by exact arrC_one _) (by exact Nat.le_of_ble_eq_true rfl) (by kernel_rfl) ?_
      intro wx H
      refine WL.assign rfl rfl ?_
      refine (WL.done (WX.next ?_))
      refine (WC.ret (WX.then_ret ?_))
      refine ret_two rfl ⟨_, rfl, by exact H.rdAll ty95 0 rfl rfl⟩ rfl ?_
      first
        | (have hb : planOk n = true := planOk_iff.2 hn
           unfold planV planE
           rw [hb]
           exact ⟨rfl, H.weaken (List.nil_sublist _)⟩)
        | (have hb : planOk n = false := by
             cases h : planOk n with
             | false => rfl
             | true => have := planOk_iff.1 h; exfalso; omega
           unfold planV planE
           rw [hb]
           exact ⟨rfl, H.weaken (List.nil_sublist _)⟩)
    ·
      refine (WC.skip (WX.next ?_))
      refine WC.seq ?_
      refine WC.region ?_
      refine WL.alloc H zer3 rfl ?_
      intro b4 wx hb4 hge4 H
      refine WL.storeTo (cs' := #[.int .i64 2]) H ty3 0 rfl rfl rfl (by rfl) (by simp [Value.cells, Value.oneCell']) (by exact Nat.le_of_ble_eq_true rfl) (by kernel_rfl) ?_
      intro wx H
      refine (WL.done (WX.next ?_))
      refine WC.seq ?_
      refine WC.region ?_
      have hn : 64 ≤ n ∧ n ≤ 4096 := by omega
      have hlo : 0 ≤ planLogs n ∧ planLogs n ≤ 4096 := by unfold planLogs; omega
      have hin : 0 ≤ planInts n ∧ planInts n ≤ 16 := by unfold planInts; omega
      have hnx : 0 ≤ planNext n ∧ planNext n ≤ 8192 := by unfold planNext; omega
      have hhe : 0 ≤ planHeap n ∧ planHeap n ≤ n := by unfold planHeap planNext planLogs planInts; omega
      refine WL.makeFunc (us := []) (vs := [ptr b4]) rfl rfl rfl ?_
      refine WL.assign rfl rfl ?_
      refine (WL.done (WX.next ?_))
      refine WC.seq ?_
      refine WC.region ?_
      refine WL.move rfl rfl ?_
      refine WL.move rfl rfl ?_
      refine WL.bin rfl rfl (iquo (by omega) (by omega) (by omega)) rfl ?_
      refine WL.maxTo (r := planLogs n) rfl rfl rfl (by unfold planLogs; omega) ?_
      refine WL.move rfl rfl ?_
      refine WL.bin rfl rfl (iquo (by omega) (by omega) (by omega)) rfl ?_
      refine WL.maxTo (r := max (n / 32) 4) rfl rfl rfl (by omega) ?_
      refine WL.minTo (r := planInts n) rfl rfl rfl (by unfold planInts; omega) ?_
      refine WL.build (cells := arrC [n, 0, planLogs n, 0, planInts n, 0, 0, 0]) pla95 zer95 rfl rfl (by kernel_rfl) ?_
      refine WL.alloc H zer95 rfl ?_
      intro b6 wx hb6 hge6 H
      refine WL.storeTo (cs' := arrC [n, 0, planLogs n, 0, planInts n, 0, 0, 0]) H ty95 0 rfl rfl rfl (by rfl) (by exact arrC_one _) (by exact Nat.le_of_ble_eq_true rfl) (by kernel_rfl) ?_
      intro wx H
      refine (WL.done (WX.next ?_))
      refine WC.seq ?_
      refine WC.region ?_
      refine WL.move rfl rfl ?_
      refine WL.fieldAddr fld95_2 rfl rfl ?_
      refine WL.load rfl (H.rd1 ty3 0 rfl rfl) rfl ?_
      refine WL.callVal call147 rfl rfl rfl ?_
      refine Calls.mono (plan1_any (2) (planLogs n) b4 3 (by omega) _ (H.blk 1 rfl)) ?_
      rintro _ wx ⟨rfl, Hc⟩
      refine ⟨_, rfl, ?_⟩
      replace H := H.back (N := []) 1 rfl Hc rfl
      refine WL.fieldAddr fld95_1 rfl rfl ?_
      refine WL.storeTo (cs' := arrC [n, 2, planLogs n, 0, planInts n, 0, 0, 0]) H ty3 0 rfl rfl rfl (by rfl) (by simp [Value.cells, Value.oneCell']) (by exact Nat.le_of_ble_eq_true rfl) (by kernel_rfl) ?_
      intro wx H
      refine (WL.done (WX.next ?_))
      refine WC.seq ?_
      refine WC.region ?_
      refine WL.move rfl rfl ?_
      refine WL.fieldAddr fld95_4 rfl rfl ?_
      refine WL.load rfl (H.rd1 ty3 0 rfl rfl) rfl ?_
      refine WL.callVal call147 rfl rfl rfl ?_
      refine Calls.mono (plan1_any (2 + planLogs n) (planInts n) b4 3 (by omega) _ (H.blk 1 rfl)) ?_
      rintro _ wx ⟨rfl, Hc⟩
      refine ⟨_, rfl, ?_⟩
      replace H := H.back (N := []) 1 rfl Hc rfl
      refine WL.fieldAddr fld95_3 rfl rfl ?_
      refine WL.storeTo (cs' := arrC [n, 2, planLogs n, 2 + planLogs n, planInts n, 0, 0, 0]) H ty3 0 rfl rfl rfl (by rfl) (by simp [Value.cells, Value.oneCell']) (by exact Nat.le_of_ble_eq_true rfl) (by kernel_rfl) ?_
      intro wx H
      refine (WL.done (WX.next ?_))
      refine WC.seq ?_
      refine WC.region ?_
      refine WL.move rfl rfl ?_
      refine WL.move rfl rfl ?_
      refine WL.bin rfl rfl (iquo (by omega) (by omega) (by omega)) rfl ?_
      refine WL.bin rfl rfl (iadd (by omega) (by omega)) rfl ?_
      refine WL.bin rfl rfl (isub (by omega) (by omega)) rfl ?_
      refine WL.bin rfl rfl (iquo (by omega) (by omega) (by omega)) rfl ?_
      refine WL.callVal call147 rfl rfl rfl ?_
      refine Calls.mono (plan1_any (2 + planLogs n + planInts n) ((n / 16 + 8 - 1) / 8) b4 3 (by omega) _ (H.blk 1 rfl)) ?_
      rintro _ wx ⟨rfl, Hc⟩
      refine ⟨_, rfl, ?_⟩
      replace H := H.back (N := []) 1 rfl Hc rfl
      refine WL.fieldAddr fld95_5 rfl rfl ?_
      refine WL.storeTo (cs' := arrC [n, 2, planLogs n, 2 + planLogs n, planInts n, 2 + planLogs n + planInts n, 0, 0]) H ty3 0 rfl rfl rfl (by rfl) (by simp [Value.cells, Value.oneCell']) (by exact Nat.le_of_ble_eq_true rfl) (by kernel_rfl) ?_
      intro wx H
      refine (WL.done (WX.next ?_))
      refine WC.seq ?_
      refine WC.region ?_
      refine WL.load rfl (H.rd1 ty3 1 rfl rfl) rfl ?_
      refine WL.bin rfl rfl (iadd (x := planNext n) (by omega) (by omega)) rfl ?_
      refine WL.bin rfl rfl (isub (x := planNext n + 16) (by omega) (by omega)) rfl ?_
      refine WL.bin rfl rfl (iquo (by show 0 ≤ planNext n + 16 - 1; omega) (by show planNext n + 16 - 1 ≤ _; omega) (by omega)) rfl ?_
      refine WL.bin rfl rfl (imul (x := (planNext n + 16 - 1) / 16) (by omega) (by omega)) rfl ?_
      refine WL.fieldAddr fld95_6 rfl rfl ?_
      refine WL.storeTo (cs' := arrC [n, 2, planLogs n, 2 + planLogs n, planInts n, 2 + planLogs n + planInts n, planHeap n, 0]) H ty3 0 rfl rfl rfl (by rfl) (by simp [Value.cells, Value.oneCell']) (by exact Nat.le_of_ble_eq_true rfl) (by kernel_rfl) ?_
      intro wx H
      refine (WL.done (WX.next ?_))
      refine WC.seq ?_
      refine WC.region ?_
      refine WL.move rfl rfl ?_
      refine WL.fieldAddr fld95_6 rfl rfl ?_
      refine WL.load rfl (H.rd1 ty3 0 rfl rfl) rfl ?_
      refine WL.bin rfl rfl (isub (y := planHeap n) (by omega) (by omega)) rfl ?_
      refine WL.bin rfl rfl (iquo (x := n - planHeap n) (by omega) (by omega) (by omega)) rfl ?_
      refine WL.fieldAddr fld95_7 rfl rfl ?_
      refine WL.storeTo (cs' := arrC (planL n)) H ty3 0 rfl rfl rfl (by rfl) (by simp [Value.cells, Value.oneCell']) (by exact Nat.le_of_ble_eq_true rfl) (by kernel_rfl) ?_
      intro wx H
      refine (WL.done (WX.next ?_))
      refine WC.seq ?_
      refine WC.region ?_
      refine WL.load rfl (H.rdAll ty95 0 rfl rfl) rfl ?_
      refine WL.storeTo (cs' := arrC (planL n)) H ty95 2 rfl rfl rfl (by rfl) (by exact arrC_one _) (by exact Nat.le_of_ble_eq_true rfl) (by kernel_rfl) ?_
      intro wx H
      refine WL.assign rfl rfl ?_
      refine (WL.done (WX.next ?_))
      refine (WC.ret ?_)
      refine ret_two rfl ⟨_, rfl, by exact H.rdAll ty95 2 rfl rfl⟩ rfl ?_
      first
        | (have hb : planOk n = true := planOk_iff.2 hn
           unfold planV planE
           rw [hb]
           exact ⟨rfl, H.weaken (List.nil_sublist _)⟩)
        | (have hb : planOk n = false := by
             cases h : planOk n with
             | false => rfl
             | true => have := planOk_iff.1 h; exfalso; omega
           unfold planV planE
           rw [hb]
           exact ⟨rfl, H.weaken (List.nil_sublist _)⟩)

end Go.Proofs.YtkncbggnaobgeaaDoor

/- Walks of functions of the program; printed by a program of this session (walk.py) out of hand-written hints. -/
namespace Go.Proofs.YtkncbggnaobgeaaDoor
open Go.RowKit
set_option linter.unusedVariables false
set_option linter.unusedSimpArgs false
set_option maxRecDepth 100000

theorem neq_of_bneq {a b : List Int} (h : (!(a == b)) = true) : a ≠ b := fun e => by rw [e] at h; simp at h
theorem eq_of_nbneq {a b : List Int} (h : (!(a == b)) = false) : a = b := by simpa only [Bool.not_eq_false', beq_iff_eq] using h
theorem flds77 : FldsI Tryd.prog 4 (Tryd.prog.fieldsOf 77).toList [(0, 1), (1, 1), (2, 1), (3, 1)] := by
  unfold Program.fieldsOf
  rw [Tryd.underlying77]
  exact .int (by decide) (by kernel_rfl) (by decide) (.int (by decide) (by kernel_rfl) (by decide) (.int (by decide) (by kernel_rfl) (by decide) (.int (by decide) (by kernel_rfl) (by decide) .nil)))
theorem flds95 : FldsI Tryd.prog 8 (Tryd.prog.fieldsOf 95).toList [(0, 1), (1, 1), (2, 1), (3, 1), (4, 1), (5, 1), (6, 1), (7, 1)] := by
  unfold Program.fieldsOf
  rw [Tryd.underlying95]
  exact .int (by decide) (by kernel_rfl) (by decide) (.int (by decide) (by kernel_rfl) (by decide) (.int (by decide) (by kernel_rfl) (by decide) (.int (by decide) (by kernel_rfl) (by decide) (.int (by decide) (by kernel_rfl) (by decide) (.int (by decide) (by kernel_rfl) (by decide) (.int (by decide) (by kernel_rfl) (by decide) (.int (by decide) (by kernel_rfl) (by decide) .nil)))))))
theorem split4 {xs ys : List Int} (hx : xs.length = 4) (hy : ys.length = 4) : ([(0, 1), (1, 1), (2, 1), (3, 1)].all fun s => (xs.drop s.1).take s.2 == (ys.drop s.1).take s.2) = (xs == ys) := by
  match xs, hx with
  | [a, b, c, d], _ =>
    match ys, hy with
    | [a', b', c', d'], _ => rw [Bool.eq_iff_iff]; simp [and_assoc]
theorem split8 {xs ys : List Int} (hx : xs.length = 8) (hy : ys.length = 8) : ([(0, 1), (1, 1), (2, 1), (3, 1), (4, 1), (5, 1), (6, 1), (7, 1)].all fun s => (xs.drop s.1).take s.2 == (ys.drop s.1).take s.2) = (xs == ys) := by
  match xs, hx with
  | [a, b, c, d, e, f, g, h], _ =>
    match ys, hy with
    | [a', b', c', d', e', f', g', h'], _ => rw [Bool.eq_iff_iff]; simp [and_assoc]
theorem eqI77 : EqI5 Tryd.prog 77 4 := eqI_struct (by unfold Program.fieldsOf; rw [Tryd.underlying77]) rfl (by kernel_rfl) flds77 (fun xs ys hx hy => split4 hx hy)
theorem eqI95 : EqI5 Tryd.prog 95 8 := eqI_struct (by unfold Program.fieldsOf; rw [Tryd.underlying95]) rfl (by kernel_rfl) flds95 (fun xs ys hx hy => split8 hx hy)
theorem rootIn_8 {w : List Int} (h : w.length = 8) : rootIn w = [w.getD 1 0, w.getD 2 0, w.getD 3 0, w.getD 4 0] := rfl

theorem words_root_any (s c t l : Int) (w : World) (hP : GP w) (hN : GN w) : Calls Tryd.prog 67 #[arr [s, c, t, l]] w fun e w' => e = .returned (.tuple #[arr (wordsV [s, c, t, l]), .int .i64 (wordsE [s, c, t, l])]) ∧ St w [] w' [] := by
  refine calls_walk_n (args := [arr [s, c, t, l]]) Tryd.func67 rfl rfl rfl ?_
  have H := St.refl w
  refine WC.seq ?_
  refine WC.region ?_
  refine WL.boxArr H rfl rfl ?_
  intro b1 wx hb1 hge1 H
  refine WL.alloc H zer38 rfl ?_
  intro b2 wx hb2 hge2 H
  refine WL.assign rfl rfl ?_
  refine (WL.done (WX.next ?_))
  refine WC.seq ?_
  refine WC.seq ?_
  refine WC.region ?_
  refine WL.fieldAddr fld77_3 rfl rfl ?_
  refine WL.load rfl (H.rd1 ty3 1 rfl rfl) rfl ?_
  refine WL.call call65 rfl rfl ?_
  refine Calls.mono (plan_any l _) ?_
  rintro _ wx ⟨rfl, Hc⟩
  refine ⟨_, rfl, ?_⟩
  replace H := H.call0 Hc
  refine WL.move rfl rfl ?_
  refine WL.extract rfl rfl rfl ?_
  refine WL.extract rfl rfl rfl ?_
  refine WL.alloc H zer95 rfl ?_
  intro b4 wx hb4 hge4 H
  refine WL.storeArr H ty95 0 rfl rfl rfl rfl (planV_len _) ?_
  intro wx H
  refine WL.assign rfl rfl ?_
  refine (WL.done (WX.next ?_))
  refine WC.seq ?_
  refine WC.region ?_
  refine WL.move rfl rfl ?_
  refine WL.bin rfl rfl binv_neq rfl ?_
  refine WL.move rfl rfl ?_
  refine WL.splitD (t := 15) rfl (fun g1 => ?_) (fun g1 => ?_)
  ·
    refine WL.no rfl rfl rfl ?_
    refine WL.no rfl rfl rfl ?_
    refine WL.no rfl rfl rfl ?_
    refine WL.pickT rfl rfl rfl ?_
    refine WL.move rfl rfl ?_
    refine WL.no rfl rfl rfl ?_
    refine WL.no rfl rfl rfl ?_
    refine WL.no rfl rfl rfl ?_
    refine WL.pickT rfl rfl rfl ?_
    refine WL.move rfl rfl ?_
    refine WL.no rfl rfl rfl ?_
    refine WL.no rfl rfl rfl ?_
    refine WL.no rfl rfl rfl ?_
    refine WL.no rfl rfl rfl ?_
    refine WL.pickT rfl rfl rfl ?_
    refine WL.move rfl rfl ?_
    refine WL.no rfl rfl rfl ?_
    refine WL.no rfl rfl rfl ?_
    refine WL.no rfl rfl rfl ?_
    refine WL.pickT rfl rfl rfl ?_
    refine WL.move rfl rfl ?_
    refine WL.no rfl rfl rfl ?_
    refine WL.no rfl rfl rfl ?_
    refine WL.no rfl rfl rfl ?_
    refine WL.pickT rfl rfl rfl ?_
    refine (WL.done (WX.next ?_))
    refine WC.cond_true rfl (rfl) ?_
    refine WC.seq ?_
    refine WC.region ?_
    refine WL.buildA (cells := arrC zeros8) arr38 zer38 rfl rfl (by kernel_rfl) ?_
    refine WL.storeTo (cs' := arrC zeros8) H ty38 1 rfl rfl rfl (by rfl) (by exact arrC_one _) (by exact Nat.le_of_ble_eq_true rfl) (by kernel_rfl) ?_
    intro wx H
    refine WL.assign rfl rfl ?_
    refine (WL.done (WX.next ?_))
    refine (WC.ret (WX.then_ret ?_))
    refine ret_two rfl ⟨_, rfl, by exact H.rdAll ty38 1 rfl rfl⟩ rfl ?_
    first
      | (have hr : rootOk [s, c, t, l] = true := rootOk_iff.2 ⟨planE_iff.1 (by omega), by omega, by omega, by simpa using g4, by omega, by omega⟩
         unfold wordsV wordsE
         rw [hr]
         exact ⟨rfl, H.weaken (List.nil_sublist _)⟩)
      | (have hr : rootOk [s, c, t, l] = false := by
           cases hb : rootOk [s, c, t, l] with
           | false => rfl
           | true =>
             exfalso
             obtain ⟨h1, h2, h3, h4, h5, h6⟩ := rootOk_iff.1 hb
             have h1' := planE_iff.2 h1
             omega
         unfold wordsV wordsE
         rw [hr]
         exact ⟨rfl, H.weaken (List.nil_sublist _)⟩)
  ·
    refine WL.yes rfl rfl ?_
    refine WL.fieldAddr fld77_0 rfl rfl ?_
    refine WL.yes rfl rfl ?_
    refine WL.load rfl (H.rd1 ty3 2 rfl rfl) rfl ?_
    refine WL.yes rfl rfl ?_
    refine WL.bin rfl rfl binv_lss rfl ?_
    refine WL.pickF rfl rfl rfl ?_
    refine WL.move rfl rfl ?_
    refine WL.splitD (t := 20) rfl (fun g2 => ?_) (fun g2 => ?_)
    ·
      refine WL.no rfl rfl rfl ?_
      refine WL.no rfl rfl rfl ?_
      refine WL.no rfl rfl rfl ?_
      refine WL.pickT rfl rfl rfl ?_
      refine WL.move rfl rfl ?_
      refine WL.no rfl rfl rfl ?_
      refine WL.no rfl rfl rfl ?_
      refine WL.no rfl rfl rfl ?_
      refine WL.no rfl rfl rfl ?_
      refine WL.pickT rfl rfl rfl ?_
      refine WL.move rfl rfl ?_
      refine WL.no rfl rfl rfl ?_
      refine WL.no rfl rfl rfl ?_
      refine WL.no rfl rfl rfl ?_
      refine WL.pickT rfl rfl rfl ?_
      refine WL.move rfl rfl ?_
      refine WL.no rfl rfl rfl ?_
      refine WL.no rfl rfl rfl ?_
      refine WL.no rfl rfl rfl ?_
      refine WL.pickT rfl rfl rfl ?_
      refine (WL.done (WX.next ?_))
      refine WC.cond_true rfl (rfl) ?_
      refine WC.seq ?_
      refine WC.region ?_
      refine WL.buildA (cells := arrC zeros8) arr38 zer38 rfl rfl (by kernel_rfl) ?_
      refine WL.storeTo (cs' := arrC zeros8) H ty38 1 rfl rfl rfl (by rfl) (by exact arrC_one _) (by exact Nat.le_of_ble_eq_true rfl) (by kernel_rfl) ?_
      intro wx H
      refine WL.assign rfl rfl ?_
      refine (WL.done (WX.next ?_))
      refine (WC.ret (WX.then_ret ?_))
      refine ret_two rfl ⟨_, rfl, by exact H.rdAll ty38 1 rfl rfl⟩ rfl ?_
      first
        | (have hr : rootOk [s, c, t, l] = true := rootOk_iff.2 ⟨planE_iff.1 (by omega), by omega, by omega, by simpa using g4, by omega, by omega⟩
           unfold wordsV wordsE
           rw [hr]
           exact ⟨rfl, H.weaken (List.nil_sublist _)⟩)
        | (have hr : rootOk [s, c, t, l] = false := by
             cases hb : rootOk [s, c, t, l] with
             | false => rfl
             | true =>
               exfalso
               obtain ⟨h1, h2, h3, h4, h5, h6⟩ := rootOk_iff.1 hb
               have h1' := planE_iff.2 h1
               omega
           unfold wordsV wordsE
           rw [hr]
           exact ⟨rfl, H.weaken (List.nil_sublist _)⟩)
    ·
      refine WL.yes rfl rfl ?_
      refine WL.fieldAddr fld77_0 rfl rfl ?_
      refine WL.yes rfl rfl ?_
      refine WL.load rfl (H.rd1 ty3 2 rfl rfl) rfl ?_
      refine WL.yes rfl rfl ?_
      refine WL.bin rfl rfl binv_gtr rfl ?_
      refine WL.pickF rfl rfl rfl ?_
      refine WL.move rfl rfl ?_
      refine WL.splitD (t := 25) rfl (fun g3 => ?_) (fun g3 => ?_)
      ·
        refine WL.no rfl rfl rfl ?_
        refine WL.no rfl rfl rfl ?_
        refine WL.no rfl rfl rfl ?_
        refine WL.no rfl rfl rfl ?_
        refine WL.pickT rfl rfl rfl ?_
        refine WL.move rfl rfl ?_
        refine WL.no rfl rfl rfl ?_
        refine WL.no rfl rfl rfl ?_
        refine WL.no rfl rfl rfl ?_
        refine WL.pickT rfl rfl rfl ?_
        refine WL.move rfl rfl ?_
        refine WL.no rfl rfl rfl ?_
        refine WL.no rfl rfl rfl ?_
        refine WL.no rfl rfl rfl ?_
        refine WL.pickT rfl rfl rfl ?_
        refine (WL.done (WX.next ?_))
        refine WC.cond_true rfl (rfl) ?_
        refine WC.seq ?_
        refine WC.region ?_
        refine WL.buildA (cells := arrC zeros8) arr38 zer38 rfl rfl (by kernel_rfl) ?_
        refine WL.storeTo (cs' := arrC zeros8) H ty38 1 rfl rfl rfl (by rfl) (by exact arrC_one _) (by exact Nat.le_of_ble_eq_true rfl) (by kernel_rfl) ?_
        intro wx H
        refine WL.assign rfl rfl ?_
        refine (WL.done (WX.next ?_))
        refine (WC.ret (WX.then_ret ?_))
        refine ret_two rfl ⟨_, rfl, by exact H.rdAll ty38 1 rfl rfl⟩ rfl ?_
        first
          | (have hr : rootOk [s, c, t, l] = true := rootOk_iff.2 ⟨planE_iff.1 (by omega), by omega, by omega, by simpa using g4, by omega, by omega⟩
             unfold wordsV wordsE
             rw [hr]
             exact ⟨rfl, H.weaken (List.nil_sublist _)⟩)
          | (have hr : rootOk [s, c, t, l] = false := by
               cases hb : rootOk [s, c, t, l] with
               | false => rfl
               | true =>
                 exfalso
                 obtain ⟨h1, h2, h3, h4, h5, h6⟩ := rootOk_iff.1 hb
                 have h1' := planE_iff.2 h1
                 omega
             unfold wordsV wordsE
             rw [hr]
             exact ⟨rfl, H.weaken (List.nil_sublist _)⟩)
      ·
        refine WL.yes rfl rfl ?_
        refine WL.fieldAddr fld77_1 rfl rfl ?_
        refine WL.yes rfl rfl ?_
        refine WL.load rfl (H.rd1 ty3 2 rfl rfl) rfl ?_
        refine WL.yes rfl rfl ?_
        refine WL.call call148 rfl rfl ?_
        refine Calls.mono (right_root_any c _ (hP.of0 H)) ?_
        rintro _ wx ⟨rfl, Hc⟩
        refine ⟨_, rfl, ?_⟩
        replace H := H.call0 Hc
        refine WL.yes rfl rfl ?_
        refine WL.notOp rfl rfl ?_
        refine WL.pickF rfl rfl rfl ?_
        refine WL.move rfl rfl ?_
        refine WL.split (t := 31) rfl (fun g4 => ?_) (fun g4 => ?_)
        ·
          refine WL.no rfl rfl rfl ?_
          refine WL.no rfl rfl rfl ?_
          refine WL.no rfl rfl rfl ?_
          refine WL.pickT rfl rfl rfl ?_
          refine WL.move rfl rfl ?_
          refine WL.no rfl rfl rfl ?_
          refine WL.no rfl rfl rfl ?_
          refine WL.no rfl rfl rfl ?_
          refine WL.pickT rfl rfl rfl ?_
          refine (WL.done (WX.next ?_))
          refine WC.cond_true rfl (rfl) ?_
          refine WC.seq ?_
          refine WC.region ?_
          refine WL.buildA (cells := arrC zeros8) arr38 zer38 rfl rfl (by kernel_rfl) ?_
          refine WL.storeTo (cs' := arrC zeros8) H ty38 1 rfl rfl rfl (by rfl) (by exact arrC_one _) (by exact Nat.le_of_ble_eq_true rfl) (by kernel_rfl) ?_
          intro wx H
          refine WL.assign rfl rfl ?_
          refine (WL.done (WX.next ?_))
          refine (WC.ret (WX.then_ret ?_))
          refine ret_two rfl ⟨_, rfl, by exact H.rdAll ty38 1 rfl rfl⟩ rfl ?_
          first
            | (have hr : rootOk [s, c, t, l] = true := rootOk_iff.2 ⟨planE_iff.1 (by omega), by omega, by omega, by simpa using g4, by omega, by omega⟩
               unfold wordsV wordsE
               rw [hr]
               exact ⟨rfl, H.weaken (List.nil_sublist _)⟩)
            | (have hr : rootOk [s, c, t, l] = false := by
                 cases hb : rootOk [s, c, t, l] with
                 | false => rfl
                 | true =>
                   exfalso
                   obtain ⟨h1, h2, h3, h4, h5, h6⟩ := rootOk_iff.1 hb
                   have h1' := planE_iff.2 h1
                   simp_all
               unfold wordsV wordsE
               rw [hr]
               exact ⟨rfl, H.weaken (List.nil_sublist _)⟩)
        ·
          refine WL.yes rfl rfl ?_
          refine WL.fieldAddr fld77_2 rfl rfl ?_
          refine WL.yes rfl rfl ?_
          refine WL.load rfl (H.rd1 ty3 2 rfl rfl) rfl ?_
          refine WL.yes rfl rfl ?_
          refine WL.bin rfl rfl binv_lss rfl ?_
          refine WL.pickF rfl rfl rfl ?_
          refine WL.move rfl rfl ?_
          refine WL.splitD (t := 36) rfl (fun g5 => ?_) (fun g5 => ?_)
          ·
            refine WL.no rfl rfl rfl ?_
            refine WL.no rfl rfl rfl ?_
            refine WL.no rfl rfl rfl ?_
            refine WL.pickT rfl rfl rfl ?_
            refine (WL.done (WX.next ?_))
            refine WC.cond_true rfl (rfl) ?_
            refine WC.seq ?_
            refine WC.region ?_
            refine WL.buildA (cells := arrC zeros8) arr38 zer38 rfl rfl (by kernel_rfl) ?_
            refine WL.storeTo (cs' := arrC zeros8) H ty38 1 rfl rfl rfl (by rfl) (by exact arrC_one _) (by exact Nat.le_of_ble_eq_true rfl) (by kernel_rfl) ?_
            intro wx H
            refine WL.assign rfl rfl ?_
            refine (WL.done (WX.next ?_))
            refine (WC.ret (WX.then_ret ?_))
            refine ret_two rfl ⟨_, rfl, by exact H.rdAll ty38 1 rfl rfl⟩ rfl ?_
            first
              | (have hr : rootOk [s, c, t, l] = true := rootOk_iff.2 ⟨planE_iff.1 (by omega), by omega, by omega, by simpa using g4, by omega, by omega⟩
                 unfold wordsV wordsE
                 rw [hr]
                 exact ⟨rfl, H.weaken (List.nil_sublist _)⟩)
              | (have hr : rootOk [s, c, t, l] = false := by
                   cases hb : rootOk [s, c, t, l] with
                   | false => rfl
                   | true =>
                     exfalso
                     obtain ⟨h1, h2, h3, h4, h5, h6⟩ := rootOk_iff.1 hb
                     have h1' := planE_iff.2 h1
                     omega
                 unfold wordsV wordsE
                 rw [hr]
                 exact ⟨rfl, H.weaken (List.nil_sublist _)⟩)
          ·
            refine WL.yes rfl rfl ?_
            refine WL.fieldAddr fld77_2 rfl rfl ?_
            refine WL.yes rfl rfl ?_
            refine WL.load rfl (H.rd1 ty3 2 rfl rfl) rfl ?_
            refine WL.yes rfl rfl ?_
            refine WL.bin rfl rfl binv_gtr rfl ?_
            refine WL.pickF rfl rfl rfl ?_
            refine (WL.done (WX.next ?_))
            refine WC.cond_dec rfl (fun c6 => ?_) (fun c6 => ?_)
            ·
              refine WC.seq ?_
              refine WC.region ?_
              refine WL.buildA (cells := arrC zeros8) arr38 zer38 rfl rfl (by kernel_rfl) ?_
              refine WL.storeTo (cs' := arrC zeros8) H ty38 1 rfl rfl rfl (by rfl) (by exact arrC_one _) (by exact Nat.le_of_ble_eq_true rfl) (by kernel_rfl) ?_
              intro wx H
              refine WL.assign rfl rfl ?_
              refine (WL.done (WX.next ?_))
              refine (WC.ret (WX.then_ret ?_))
              refine ret_two rfl ⟨_, rfl, by exact H.rdAll ty38 1 rfl rfl⟩ rfl ?_
              first
                | (have hr : rootOk [s, c, t, l] = true := rootOk_iff.2 ⟨planE_iff.1 (by omega), by omega, by omega, by simpa using g4, by omega, by omega⟩
                   unfold wordsV wordsE
                   rw [hr]
                   exact ⟨rfl, H.weaken (List.nil_sublist _)⟩)
                | (have hr : rootOk [s, c, t, l] = false := by
                     cases hb : rootOk [s, c, t, l] with
                     | false => rfl
                     | true =>
                       exfalso
                       obtain ⟨h1, h2, h3, h4, h5, h6⟩ := rootOk_iff.1 hb
                       have h1' := planE_iff.2 h1
                       omega
                   unfold wordsV wordsE
                   rw [hr]
                   exact ⟨rfl, H.weaken (List.nil_sublist _)⟩)
            ·
              refine (WC.skip (WX.next ?_))
              refine WC.seq ?_
              refine WC.region ?_
              refine WL.fieldAddr fld77_0 rfl rfl ?_
              refine WL.load rfl (H.rd1 ty3 2 rfl rfl) rfl ?_
              refine WL.fieldAddr fld77_1 rfl rfl ?_
              refine WL.load rfl (H.rd1 ty3 2 rfl rfl) rfl ?_
              refine WL.fieldAddr fld77_2 rfl rfl ?_
              refine WL.load rfl (H.rd1 ty3 2 rfl rfl) rfl ?_
              refine WL.fieldAddr fld77_3 rfl rfl ?_
              refine WL.load rfl (H.rd1 ty3 2 rfl rfl) rfl ?_
              refine WL.buildA (cells := arrC [418431462657, s, c, t, l, 0, 0, 0]) arr38 zer38 rfl rfl (by kernel_rfl) ?_
              refine WL.alloc H zer38 rfl ?_
              intro b6 wx hb6 hge6 H
              refine WL.storeTo (cs' := arrC [418431462657, s, c, t, l, 0, 0, 0]) H ty38 0 rfl rfl rfl (by rfl) (by exact arrC_one _) (by exact Nat.le_of_ble_eq_true rfl) (by kernel_rfl) ?_
              intro wx H
              refine (WL.done (WX.next ?_))
              refine WC.seq ?_
              refine WC.region ?_
              refine WL.sliceArrHi (k := 7) arr38 rfl rfl rfl (by omega) (by omega) rfl ?_
              refine WL.call call149 rfl rfl ?_
              refine Calls.mono (hashWords_any (some ⟨b6, 0, none⟩) 7 8 [418431462657, s, c, t, l, 0, 0] rfl (by omega) _ (hN.of0 H) (IntsIn.arr7 (ys := [418431462657, s, c, t, l, 0, 0, 0]) (H.blk 0 rfl) hp7)) ?_
              rintro _ wx ⟨rfl, Hc⟩
              refine ⟨_, rfl, ?_⟩
              replace H := H.call0 Hc
              refine WL.idxArr (k := 7) arr38 rfl rfl (by rfl) (by omega) rfl ?_
              refine WL.storeTo (cs' := arrC (rootW [s, c, t, l])) H ty3 0 rfl rfl rfl (by rfl) (by simp [Value.cells, Value.oneCell']) (by exact Nat.le_of_ble_eq_true rfl) (by kernel_rfl) ?_
              intro wx H
              refine (WL.done (WX.next ?_))
              refine WC.seq ?_
              refine WC.region ?_
              refine WL.load rfl (H.rdAll ty38 0 rfl rfl) rfl ?_
              refine WL.storeTo (cs' := arrC (rootW [s, c, t, l])) H ty38 2 rfl rfl rfl (by rfl) (by exact arrC_one _) (by exact Nat.le_of_ble_eq_true rfl) (by kernel_rfl) ?_
              intro wx H
              refine WL.assign rfl rfl ?_
              refine (WL.done (WX.next ?_))
              refine (WC.ret ?_)
              refine ret_two rfl ⟨_, rfl, by exact H.rdAll ty38 2 rfl rfl⟩ rfl ?_
              first
                | (have hr : rootOk [s, c, t, l] = true := rootOk_iff.2 ⟨planE_iff.1 (by omega), by omega, by omega, by simpa using g4, by omega, by omega⟩
                   unfold wordsV wordsE
                   rw [hr]
                   exact ⟨rfl, H.weaken (List.nil_sublist _)⟩)
                | (have hr : rootOk [s, c, t, l] = false := by
                     cases hb : rootOk [s, c, t, l] with
                     | false => rfl
                     | true =>
                       exfalso
                       obtain ⟨h1, h2, h3, h4, h5, h6⟩ := rootOk_iff.1 hb
                       have h1' := planE_iff.2 h1
                       first | omega | simp_all
                   unfold wordsV wordsE
                   rw [hr]
                   exact ⟨rfl, H.weaken (List.nil_sublist _)⟩)

theorem parse_root_any (ws : List Int) (h8 : ws.length = 8) (w : World) (hP : GP w) (hN : GN w) : Calls Tryd.prog 69 #[arr ws] w fun e w' => e = .returned (.tuple #[arr (parseV ws), .bool (parseB ws)]) ∧ St w [] w' [] := by
  refine calls_walk_n (args := [arr ws]) Tryd.func69 rfl rfl rfl ?_
  have H := St.refl w
  refine WC.seq ?_
  refine WC.region ?_
  refine WL.boxArr H rfl rfl ?_
  intro b1 wx hb1 hge1 H
  refine WL.alloc H zer77 rfl ?_
  intro b2 wx hb2 hge2 H
  refine WL.assign rfl rfl ?_
  refine (WL.done (WX.next ?_))
  refine WC.seq ?_
  refine WC.region ?_
  refine WL.idxArr (k := 1) arr38 rfl rfl (by rfl) (by omega) rfl ?_
  refine WL.load rfl (H.rdElt ty3 1 rfl (by omega)) rfl ?_
  refine WL.idxArr (k := 2) arr38 rfl rfl (by rfl) (by omega) rfl ?_
  refine WL.load rfl (H.rdElt ty3 1 rfl (by omega)) rfl ?_
  refine WL.idxArr (k := 3) arr38 rfl rfl (by rfl) (by omega) rfl ?_
  refine WL.load rfl (H.rdElt ty3 1 rfl (by omega)) rfl ?_
  refine WL.idxArr (k := 4) arr38 rfl rfl (by rfl) (by omega) rfl ?_
  refine WL.load rfl (H.rdElt ty3 1 rfl (by omega)) rfl ?_
  refine WL.build (cells := arrC (rootIn ws)) pla77 zer77 rfl rfl (by kernel_rfl) ?_
  refine WL.alloc H zer77 rfl ?_
  intro b4 wx hb4 hge4 H
  refine WL.storeTo (cs' := arrC (rootIn ws)) H ty77 0 rfl rfl rfl (by rfl) (by exact arrC_one _) (by exact Nat.le_of_ble_eq_true rfl) (by kernel_rfl) ?_
  intro wx H
  refine (WL.done (WX.next ?_))
  refine WC.seq ?_
  refine WC.seq ?_
  refine WC.region ?_
  refine WL.load rfl (H.rdAll ty77 0 rfl rfl) rfl ?_
  refine WL.call call67 rfl rfl ?_
  refine Calls.mono (words_root_any _ _ _ _ _ (hP.of0 H) (hN.of0 H)) ?_
  rintro _ wx ⟨rfl, Hc⟩
  refine ⟨_, rfl, ?_⟩
  replace H := H.call0 Hc
  refine WL.move rfl rfl ?_
  refine WL.extract rfl rfl rfl ?_
  refine WL.extract rfl rfl rfl ?_
  refine WL.alloc H zer38 rfl ?_
  intro b5 wx hb5 hge5 H
  refine WL.storeArr H ty38 0 rfl rfl rfl rfl (wordsV_len _) ?_
  intro wx H
  refine WL.assign rfl rfl ?_
  refine (WL.done (WX.next ?_))
  refine WC.seq ?_
  refine WC.region ?_
  refine WL.move rfl rfl ?_
  refine WL.bin rfl rfl binv_neq rfl ?_
  refine WL.move rfl rfl ?_
  refine WL.splitD (t := 23) rfl (fun g1 => ?_) (fun g1 => ?_)
  ·
    have hne : wordsE (rootIn ws) ≠ 0 := g1
    refine WL.no rfl rfl rfl ?_
    refine WL.no rfl rfl rfl ?_
    refine WL.no rfl rfl rfl ?_
    refine WL.pickT rfl rfl rfl ?_
    refine (WL.done (WX.next ?_))
    refine WC.cond_true rfl (rfl) ?_
    refine WC.seq ?_
    refine WC.region ?_
    refine WL.build (cells := arrC zero4) pla77 zer77 rfl rfl (by kernel_rfl) ?_
    refine WL.storeTo (cs' := arrC zero4) H ty77 2 rfl rfl rfl (by rfl) (by exact arrC_one _) (by exact Nat.le_of_ble_eq_true rfl) (by kernel_rfl) ?_
    intro wx H
    refine WL.assign rfl rfl ?_
    refine (WL.done (WX.next ?_))
    refine (WC.ret (WX.then_ret ?_))
    refine ret_two rfl ⟨_, rfl, by exact H.rdAll ty77 2 rfl rfl⟩ rfl ?_
    first
      | (have hp : parseB ws = true := by
           by_cases hr : rootOk (rootIn ws) = true
           · refine parseB_iff.2 ⟨hr, ?_⟩
             unfold wordsV at hq
             rw [hr] at hq
             simpa using hq
           · exfalso
             have : wordsE (rootIn ws) = 1 := by unfold wordsE; rw [if_neg hr]
             omega
         unfold parseV
         rw [hp]
         exact ⟨rfl, H.weaken (List.nil_sublist _)⟩)
      | (have hp : parseB ws = false := by
           cases hb : parseB ws with
           | false => rfl
           | true =>
             exfalso
             obtain ⟨h1, h2⟩ := parseB_iff.1 hb
             have e1 : wordsE (rootIn ws) = 0 := by unfold wordsE; rw [h1]; rfl
             have e2 : wordsV (rootIn ws) = ws := by unfold wordsV; rw [h1]; exact h2
             exact hne e1
         unfold parseV
         rw [hp]
         exact ⟨rfl, H.weaken (List.nil_sublist _)⟩)
  ·
    have he0 : ¬ wordsE (rootIn ws) ≠ 0 := g1
    refine WL.yes rfl rfl ?_
    refine WL.load rfl (H.rdArr ty38 0 rfl (wordsV_len _)) rfl ?_
    refine WL.yes rfl rfl ?_
    refine WL.load rfl (H.rdArr ty38 3 rfl h8) rfl ?_
    refine WL.yes rfl rfl ?_
    refine WL.bin rfl rfl (binv_agg_neq eqI38.up (by kernel_rfl) (wordsV_len _) h8) rfl ?_
    refine WL.pickF rfl rfl rfl ?_
    refine (WL.done (WX.next ?_))
    refine WC.cond rfl (fun c2 => ?_) (fun c2 => ?_)
    ·
      try (have hnq : wordsV (rootIn ws) ≠ ws := neq_of_bneq c2)
      refine WC.seq ?_
      refine WC.region ?_
      refine WL.build (cells := arrC zero4) pla77 zer77 rfl rfl (by kernel_rfl) ?_
      refine WL.storeTo (cs' := arrC zero4) H ty77 2 rfl rfl rfl (by rfl) (by exact arrC_one _) (by exact Nat.le_of_ble_eq_true rfl) (by kernel_rfl) ?_
      intro wx H
      refine WL.assign rfl rfl ?_
      refine (WL.done (WX.next ?_))
      refine (WC.ret (WX.then_ret ?_))
      refine ret_two rfl ⟨_, rfl, by exact H.rdAll ty77 2 rfl rfl⟩ rfl ?_
      first
        | (have hp : parseB ws = true := by
             by_cases hr : rootOk (rootIn ws) = true
             · refine parseB_iff.2 ⟨hr, ?_⟩
               unfold wordsV at hq
               rw [hr] at hq
               simpa using hq
             · exfalso
               have : wordsE (rootIn ws) = 1 := by unfold wordsE; rw [if_neg hr]
               omega
           unfold parseV
           rw [hp]
           exact ⟨rfl, H.weaken (List.nil_sublist _)⟩)
        | (have hp : parseB ws = false := by
             cases hb : parseB ws with
             | false => rfl
             | true =>
               exfalso
               obtain ⟨h1, h2⟩ := parseB_iff.1 hb
               have e1 : wordsE (rootIn ws) = 0 := by unfold wordsE; rw [h1]; rfl
               have e2 : wordsV (rootIn ws) = ws := by unfold wordsV; rw [h1]; exact h2
               exact hnq e2
           unfold parseV
           rw [hp]
           exact ⟨rfl, H.weaken (List.nil_sublist _)⟩)
    ·
      have hq : wordsV (rootIn ws) = ws := eq_of_nbneq c2
      refine (WC.skip (WX.next ?_))
      refine WC.seq ?_
      refine WC.region ?_
      refine WL.load rfl (H.rdAll ty77 1 rfl rfl) rfl ?_
      refine WL.storeTo (cs' := arrC (rootIn ws)) H ty77 2 rfl rfl rfl (by rfl) (by exact arrC_one _) (by exact Nat.le_of_ble_eq_true rfl) (by kernel_rfl) ?_
      intro wx H
      refine WL.assign rfl rfl ?_
      refine (WL.done (WX.next ?_))
      refine (WC.ret ?_)
      refine ret_two rfl ⟨_, rfl, by exact H.rdAll ty77 2 rfl rfl⟩ rfl ?_
      first
        | (have hp : parseB ws = true := by
             by_cases hr : rootOk (rootIn ws) = true
             · refine parseB_iff.2 ⟨hr, ?_⟩
               unfold wordsV at hq
               rw [hr] at hq
               simpa using hq
             · exfalso
               have : wordsE (rootIn ws) = 1 := by unfold wordsE; rw [if_neg hr]
               omega
           unfold parseV
           rw [hp]
           exact ⟨rfl, H.weaken (List.nil_sublist _)⟩)
        | (have hp : parseB ws = false := by
             cases hb : parseB ws with
             | false => rfl
             | true =>
               exfalso
               obtain ⟨h1, h2⟩ := parseB_iff.1 hb
               have e1 : wordsE (rootIn ws) = 0 := by unfold wordsE; rw [h1]; rfl
               have e2 : wordsV (rootIn ws) = ws := by unfold wordsV; rw [h1]; exact h2
               first | exact hne e1 | exact hnq e2
           unfold parseV
           rw [hp]
           exact ⟨rfl, H.weaken (List.nil_sublist _)⟩)

end Go.Proofs.YtkncbggnaobgeaaDoor

/- What put does to a copy, whatever the line held; what Read, Format, Write, Mend then are. No Go in sight. -/
namespace Go.Proofs.YtkncbggnaobgeaaDoor
set_option linter.unusedVariables false
set_option linter.unusedSimpArgs false
set_option maxRecDepth 100000

/-- One line, and the events, replaced. -/
def PM.at (M : PM) (c : Nat) (l : PL) (E : List (List Int)) : PM := { M with ls := M.ls.set c l, evs := E }
theorem at_line {M : PM} {c : Nat} {l : PL} {E : List (List Int)} (h : c < M.ls.length) : (M.at c l E).line c = l := by
  unfold PM.line PM.at
  rw [Int.toNat_natCast]
  show (M.ls.set c l).getD c default = l
  rw [set_getD, if_pos ⟨rfl, h⟩]
theorem at_other {M : PM} {c j : Nat} {l : PL} {E : List (List Int)} (h : c ≠ j) : (M.at c l E).line j = M.line j := by
  unfold PM.line PM.at
  rw [Int.toNat_natCast]
  show (M.ls.set c l).getD j default = M.ls.getD j default
  rw [set_getD, if_neg (by omega)]
theorem at_len {M : PM} {c : Nat} {l : PL} {E : List (List Int)} : (M.at c l E).ls.length = M.ls.length := by simp [PM.at]
theorem at_at {M : PM} {c : Nat} {l l' : PL} {E E' : List (List Int)} : (M.at c l E).at c l' E' = M.at c l' E' := by
  unfold PM.at
  simp
theorem at_self {M : PM} {c : Nat} (h : c < M.ls.length) : M.at c (M.line c) M.evs = M := by
  unfold PM.at
  rw [set_same h]

theorem put_at {M : PM} {c : Nat} {kind v : Int} {i : Nat} (hc : c < M.ls.length) (hi : i < 8) (hv : isWord v = true) (hs : (chk (M.line c).ws (M.line c).c).1 ≠ 2) :
    M.put kind (8 * (c : Int) + i) v = M.at c { M.line c with ps := (M.line c).ps ++ [((i : Int), v)] } (M.evs ++ [[kind, 8 * (c : Int) + i, v, M.span, 0, 0, 0, 0, 0, 0, 0, 0]]) := by
  have e1 : (8 * (c : Int) + i) / 8 = c := by omega
  have e2 : (8 * (c : Int) + i) % 8 = i := by omega
  have he : M.putErr (8 * (c : Int) + i) v = 0 := by
    unfold PM.putErr
    rw [if_neg (by omega), e1, has_of hc, if_pos rfl, hv, if_pos rfl, if_neg hs]
  unfold PM.put PM.at
  rw [he, if_pos rfl, e1, e2, Int.toNat_natCast]

/-- A line with pending stores. -/
def lineP (l : PL) (ps : List (Int × Int)) : PL := { l with ps := ps, mark := 0 }
def clean (ws : List Int) : PL := { ws := ws, c := enc ws, ps := [], mark := 0 }
def psTo (w : List Int) : Nat → List (Int × Int)
  | 0 => [(1, 0)]
  | i + 1 => if i = 1 then psTo w i else psTo w i ++ [((i : Int), w.getD i 0)]
def evTo (s : Int) (c : Int) (w : List Int) : Nat → List (List Int)
  | 0 => [[1, 8 * c + 1, 0, s, 0, 0, 0, 0, 0, 0, 0, 0]]
  | i + 1 => if i = 1 then evTo s c w i else evTo s c w i ++ [[1, 8 * c + i, w.getD i 0, s, 0, 0, 0, 0, 0, 0, 0, 0]]
/-- The events of a put. -/
def blk (s : Int) (c : Int) (w : List Int) : List (List Int) :=
  evTo s c w 8 ++ [[2, 8 * c + 1, w.getD 1 0, s, 0, 0, 0, 0, 0, 0, 0, 0], [3, c, 0, 0, 0, 0, 0, 0, 0, 0, 0, 0], [4, 0, 0, 0, 0, 0, 0, 0, 0, 0, 0, 0]]
theorem word_getD {w : List Int} (h : isWords w = true) (i : Nat) : isWord (w.getD i 0) = true := by
  by_cases hi : i < w.length
  · have : w.getD i 0 = w[i] := by simp [List.getD, List.getElem?_eq_getElem hi]
    rw [this]
    unfold isWords at h
    exact List.all_eq_true.1 h _ (List.getElem_mem hi)
  · have : w.getD i 0 = 0 := by simp [List.getD, List.getElem?_eq_none (by omega : w.length ≤ i)]
    rw [this]; rfl
section
variable {M : PM} {c : Nat} {w : List Int}
theorem putsTo_eq (hc : c < M.ls.length) (hm : (M.line c).mark = 0) (hp : (M.line c).ps = []) (hs : (chk (M.line c).ws (M.line c).c).1 ≠ 2) (hw : isWords w = true) : ∀ i, i ≤ 8 → putsTo M c w i = M.at c (lineP (M.line c) (psTo w i)) (M.evs ++ evTo M.span c w i)
  | 0, _ => by
    have := put_at (kind := 1) (v := 0) (i := 1) hc (by decide) rfl hs
    unfold putsTo
    refine this.trans ?_
    unfold lineP psTo evTo
    rw [hp]
    congr 1
    rw [← hm]
    rfl
  | i + 1, hi => by
    have ih := putsTo_eq hc hm hp hs hw i (by omega)
    unfold putsTo psTo evTo
    by_cases h1 : i = 1
    · rw [if_pos h1, if_pos h1, if_pos h1, ih]
    · rw [if_neg h1, if_neg h1, if_neg h1, ih]
      rw [put_at (by rw [at_len]; exact hc) (by omega) (word_getD hw i) (by rw [at_line hc]; exact hs), at_line hc, at_at]
      show PM.at M c _ ((M.evs ++ evTo M.span c w i) ++ _) = _
      rw [List.append_assoc]
      rfl
/-- No line is marked. -/
def PM.calm (M : PM) : Prop := ∀ l ∈ M.ls, l.mark = 0
theorem psTo8 (h8 : w.length = 8) {ws : List Int} (h8' : ws.length = 8) : putAll ws (psTo w 8 ++ [(1, w.getD 1 0)]) = w := by
  match w, h8 with
  | [a, b, c, d, e, f, g, h], _ =>
    match ws, h8' with
    | [a', b', c', d', e', f', g', h'], _ => rfl
theorem settle0 (l : PL) (h : l.mark = 0) : pSettle l l.mark = l := by unfold pSettle; rw [if_pos h]
theorem fence_at {l : PL} {E : List (List Int)} (hc : c < M.ls.length) (hm : M.calm) : (M.at c l E).fence = M.at c (pSettle l l.mark) (E ++ [[4, 0, 0, 0, 0, 0, 0, 0, 0, 0, 0, 0]]) := by
  unfold PM.fence PM.at
  have e1 : (M.ls.set c l).map (fun l => pSettle l l.mark) = M.ls.set c (pSettle l l.mark) := by
    rw [List.map_set]
    congr 1
    conv => rhs; rw [← List.map_id M.ls]
    exact List.map_congr_left fun l hl => settle0 l (hm l hl)
  show PM.mk ((M.ls.set c l).map (fun l => pSettle l l.mark)) M.span _ = _
  rw [e1]
theorem flush_at {l : PL} {E : List (List Int)} (hc : c < M.ls.length) : (M.at c l E).flush c = M.at c { l with mark := l.ps.length } (E ++ [[3, (c : Int), 0, 0, 0, 0, 0, 0, 0, 0, 0, 0]]) := by
  unfold PM.flush
  rw [has_of (by rw [at_len]; exact hc), if_pos rfl, at_line hc, Int.toNat_natCast]
  unfold PM.at
  simp
theorem settle_P {l : PL} {ps : List (Int × Int)} (hf : (fix l.ws l.c).2.2 = 0) (hn : ps ≠ []) : pSettle { lineP l ps with mark := (lineP l ps).ps.length } ps.length = clean (putAll (fix l.ws l.c).1 ps) := by
  have h0 : ps.length ≠ 0 := fun h => hn (List.eq_nil_of_length_eq_zero h)
  unfold pSettle
  rw [if_neg h0]
  unfold pShow lineP
  simp only [hf, if_true, List.take_length, List.drop_length, Nat.sub_self]
  rfl
theorem pPut_core (hc : c < M.ls.length) (hm : M.calm) (hp : (M.line c).ps = []) (hok : (M.line c).ok) (hs : (chk (M.line c).ws (M.line c).c).1 ≠ 2) (hw : isWords w = true) (h8 : w.length = 8) :
    pPut M c w = M.at c (clean w) (M.evs ++ blk M.span c w) := by
  have hmk : (M.line c).mark = 0 := hm _ (by rw [line_of hc]; exact List.getElem_mem hc)
  have hst : M.state c = 2 ↔ False := by
    unfold PM.state
    rw [has_of hc, if_pos rfl]
    exact iff_false_intro hs
  have hh : healed M c = M := by unfold healed; rw [if_neg (hst.1)]
  unfold pPut
  rw [hh, putsTo_eq hc hmk hp hs hw 8 (by decide)]
  have e1 : (8 * (c : Int) + 1) = 8 * (c : Int) + (1 : Nat) := rfl
  rw [e1, put_at (by rw [at_len]; exact hc) (by decide) (word_getD hw 1) (by rw [at_line hc]; exact hs), at_line hc, at_at, flush_at hc, fence_at hc hm]
  have hf := fix_sound hok hs
  have h8f : (fix (M.line c).ws (M.line c).c).1.length = 8 := fix_len hok.1
  show PM.at M c (pSettle { lineP (M.line c) (psTo w 8 ++ [((1 : Int), w.getD 1 0)]) with mark := (lineP (M.line c) (psTo w 8 ++ [((1 : Int), w.getD 1 0)])).ps.length } (psTo w 8 ++ [((1 : Int), w.getD 1 0)]).length) _ = _
  rw [settle_P hf (by simp), psTo8 h8 h8f]
  congr 1
  show (((M.evs ++ evTo M.span c w 8) ++ _) ++ _) ++ _ = _
  unfold blk
  simp only [List.append_assoc, List.cons_append, List.nil_append]
  rfl
theorem heal_at {xs : List Int} (hc : c < M.ls.length) (hx : isWords xs = true) : M.heal c xs = M.at c (clean xs) (M.evs ++ [[6, (c : Int), 0, 0] ++ xs]) := by
  unfold PM.heal PM.healErr
  rw [has_of hc, if_pos rfl, hx, if_pos rfl, if_pos rfl, Int.toNat_natCast]
  rfl
theorem clean_ok {ws : List Int} (h8 : ws.length = 8) (hw : isWords ws = true) : (clean ws).ok := ⟨h8, hw, enc_code hw, Nat.le_refl _, fun p hp => by cases hp⟩
theorem clean_chk {ws : List Int} (hw : isWords ws = true) : chk (clean ws).ws (clean ws).c = (0, 0, 0) := chk_enc hw
theorem calm_at {l : PL} {E : List (List Int)} (hm : M.calm) (hl : l.mark = 0) : (M.at c l E).calm := by
  intro x hx
  rcases List.mem_or_eq_of_mem_set hx with h | rfl
  · exact hm x h
  · exact hl
/-- A line that is rotten is healed first. -/
theorem pPut_rot (hc : c < M.ls.length) (hm : M.calm) (hs : (chk (M.line c).ws (M.line c).c).1 = 2) (hw : isWords w = true) (h8 : w.length = 8) :
    ∃ E, pPut M c w = M.at c (clean w) (M.evs ++ E) := by
  have hst : M.state c = 2 := by unfold PM.state; rw [has_of hc, if_pos rfl]; exact hs
  have hz : isWords zeros8 = true := rfl
  have hh : healed M c = M.at c (clean zeros8) (M.evs ++ [[6, (c : Int), 0, 0] ++ zeros8]) := by unfold healed; rw [if_pos hst, heal_at hc hz]
  have hl := at_line (l := clean zeros8) (E := M.evs ++ [[6, (c : Int), 0, 0] ++ zeros8]) hc
  have hc2 : c < (M.at c (clean zeros8) (M.evs ++ [[6, (c : Int), 0, 0] ++ zeros8])).ls.length := by rw [at_len]; exact hc
  have hst2 : (M.at c (clean zeros8) (M.evs ++ [[6, (c : Int), 0, 0] ++ zeros8])).state c ≠ 2 := by
    unfold PM.state
    rw [has_of hc2, if_pos rfl, hl, clean_chk hz]
    decide
  have h2 : pPut M c w = pPut (M.at c (clean zeros8) (M.evs ++ [[6, (c : Int), 0, 0] ++ zeros8])) c w := by
    unfold pPut
    rw [hh]
    conv => rhs; rw [show healed (M.at c (clean zeros8) (M.evs ++ [[6, (c : Int), 0, 0] ++ zeros8])) c = _ from if_neg hst2]
  rw [h2, pPut_core hc2 (calm_at hm rfl) (by rw [hl]; rfl) (by rw [hl]; exact clean_ok rfl hz) (by rw [hl, clean_chk hz]; decide) hw h8, at_at]
  refine ⟨([[6, (c : Int), 0, 0] ++ zeros8] : List (List Int)) ++ blk M.span c w, ?_⟩
  show PM.at M c _ ((M.evs ++ _) ++ _) = _
  rw [List.append_assoc]
  rfl
/-- Whatever a line without pending stores held. -/
theorem pPut_any (hc : c < M.ls.length) (hm : M.calm) (hp : (M.line c).ps = []) (hok : (M.line c).ok) (hw : isWords w = true) (h8 : w.length = 8) :
    ∃ E, pPut M c w = M.at c (clean w) (M.evs ++ E) := by
  by_cases hs : (chk (M.line c).ws (M.line c).c).1 = 2
  · exact pPut_rot hc hm hs hw h8
  · exact ⟨_, pPut_core hc hm hp hok hs hw h8⟩
theorem shown_clean {ws : List Int} (hw : isWords ws = true) : shown (clean ws) = ws ∧ (pShow (clean ws) (clean ws).ps.length).2 = 0 := by
  unfold shown pShow clean
  rw [fix_enc hw]
  exact ⟨rfl, rfl⟩
theorem copy_clean {ws : List Int} (hl : M.line c = clean ws) (hw : isWords ws = true) : pCopy M c = rootOf M.ls.length ws := by
  unfold pCopy
  rw [hl, (shown_clean hw).2, if_pos rfl, (shown_clean hw).1]
theorem copy_bad (hl : (pShow (M.line c) (M.line c).ps.length).2 ≠ 0) : pCopy M c = zero4 := by
  unfold pCopy
  rw [if_neg hl]
end
end Go.Proofs.YtkncbggnaobgeaaDoor

/- Walks of functions of the program; printed by a program of this session (walk.py) out of hand-written hints. -/
namespace Go.Proofs.YtkncbggnaobgeaaDoor
open Go.RowKit
set_option linter.unusedVariables false
set_option linter.unusedSimpArgs false
set_option maxRecDepth 100000

section
variable {w0 w : World} {L : Hp} {R : RM} {p k : Nat} {M : PM}
theorem a_flush_w (n : Int) (hk : k < 1073741824) (hI : Is R p M k) (H : St w0 [] w (L ++ R.hp)) (hL : L64 w0) :
    CallsW Tryd.prog 35 [ptr p, .int .i64 n] w fun e w' => ∃ R', e = .returned (.int .i64 (if M.has n then 0 else 40)) ∧ Is R' p (M.flush n) (k + 1) ∧ St w0 [] w' (L ++ R'.hp) := by
  have hm := hI.mem H hL
  have h1 := hI.evs
  obtain ⟨rfl, rfl, hok, hs⟩ := hI
  exact (flush_w R n (by omega) w hm).mono fun e w' ⟨R', h, hp, ha', hok', Hc⟩ => ⟨R', h, ⟨hp, ha', hok', hs.flush _⟩, H.callM Hc⟩
theorem a_fence_w (hk : k < 1073741824) (hI : Is R p M k) (H : St w0 [] w (L ++ R.hp)) (hL : L64 w0) :
    CallsW Tryd.prog 36 [ptr p] w fun e w' => ∃ R', e = .returned (.tuple #[]) ∧ Is R' p M.fence (k + 1) ∧ St w0 [] w' (L ++ R'.hp) := by
  have hm := hI.mem H hL
  have h1 := hI.evs; have h2 := hI.ps
  obtain ⟨rfl, rfl, hok, hs⟩ := hI
  exact (fence_w R (by omega) (fun x hx => Nat.le_trans (h2 x hx) (Nat.le_of_lt hk)) w hm (hL.of0 H)).mono fun e w' ⟨R', h, hp, ha', hok', Hc⟩ => ⟨R', h, ⟨hp, ha', hok', hs.fence⟩, H.callM Hc⟩
end

theorem rput_any {w0 w : World} {L : Hp} {R : RM} {p k : Nat} {M : PM} (c : Nat) (hc : c ≤ 100000) (ws : List Int) (h8 : ws.length = 8) (hk : k < 536870912) (hI : Is R p M k) (H : St w0 [] w (L ++ R.hp)) (hL : L64 w0) : Calls Tryd.prog 118 #[ptr p, .int .i64 (c : Int), arr ws] w fun e w' => ∃ R', e = .returned (.tuple #[]) ∧ Is R' p (pPut M c ws) (k + 20) ∧ St w0 [] w' (L ++ R'.hp) := by
  refine calls_walk_d (args := [ptr p, .int .i64 (c : Int), arr ws]) Tryd.func118 rfl rfl rfl ?_
  
  refine WC.seq ?_
  refine WC.region ?_
  refine WL.boxArr H rfl rfl ?_
  intro b5 wx hb5 hge5 H
  refine (WL.done (WX.next ?_))
  refine WC.seq ?_
  refine WC.region ?_
  refine WL.move rfl rfl ?_
  refine WL.defer (vs := [ptr p]) rfl ?_
  refine (WL.done (WX.next ?_))
  refine WC.seq ?_
  refine WC.region ?_
  refine WL.move rfl rfl ?_
  refine WL.move rfl rfl ?_
  refine WL.defer (vs := [ptr p, .int .i64 (c : Int)]) rfl ?_
  refine (WL.done (WX.next ?_))
  refine WC.seqJ (Sub.cons (t := 0) rfl (Sub.cons (t := 1) rfl (Sub.cons (t := 5) rfl (Sub.nil _)))) (fun _ : RM => []) (fun R1 wx => Is R1 p (healed M c) (k + 1) ∧ St w0 [] wx (((b5, .cells (arrC ws) 38) :: L) ++ R1.hp)) (fun N hN => ?_) (fun R1 wx hJ => ?_)
  · -- first
    refine WC.seq ?_
    refine WC.region ?_
    refine WL.move rfl rfl ?_
    refine WL.move rfl rfl ?_
    refine WL.call call31 rfl rfl ?_
    refine Calls.mono (a_state (L := (b5, .cells (arrC ws) 38) :: L) (c : Int) hI H hL) ?_
    rintro _ wx ⟨rfl, H⟩
    refine ⟨_, rfl, ?_⟩
    refine WL.bin rfl rfl binv_eql rfl ?_
    refine (WL.done (WX.next ?_))
    refine WC.cond_dec rfl (fun c1 => ?_) (fun c1 => ?_)
    ·
      refine WC.region ?_
      refine WL.move rfl rfl ?_
      refine WL.move rfl rfl ?_
      refine WL.buildA (cells := arrC zeros8) arr38 zer38 rfl rfl (by kernel_rfl) ?_
      refine WL.call call111 rfl rfl ?_
      refine Calls.mono (a_heal (L := (b5, .cells (arrC ws) 38) :: L) (c : Int) zeros8 rfl (by omega) hI H hL) ?_
      rintro _ wx ⟨R1, rfl, hI, H⟩
      refine ⟨_, rfl, ?_⟩
      refine (WL.done (WX.round ?_))
      exact hN R1 _ _ ⟨by unfold healed; rw [if_pos c1]; exact hI, H⟩ (Sub.nil _) (Sub.cons (t := 0) rfl (Sub.cons (t := 1) rfl (Sub.cons (t := 5) rfl (Sub.nil _))))
    ·
      refine (WC.skip (WX.round ?_))
      exact hN R _ _ ⟨by unfold healed; rw [if_neg c1]; exact hI.mono (by omega), H⟩ (Sub.nil _) (Sub.cons (t := 0) rfl (Sub.cons (t := 1) rfl (Sub.cons (t := 5) rfl (Sub.nil _))))
  · -- join
    obtain ⟨hI, H⟩ := hJ
    refine WC.seq ?_
    refine WC.region ?_
    refine WL.move rfl rfl ?_
    refine WL.bin rfl rfl (imul (x := 8) (by omega) (by omega)) rfl ?_
    refine WL.assign rfl rfl ?_
    refine (WL.done (WX.next ?_))
    refine WC.seq ?_
    refine WC.region ?_
    refine WL.move rfl rfl ?_
    refine WL.move rfl rfl ?_
    refine WL.bin rfl rfl (iadd (by omega) (by omega)) rfl ?_
    refine WL.call call56 rfl rfl ?_
    refine Calls.mono (a_store (L := (b5, .cells (arrC ws) 38) :: L) (8 * (c : Int) + 1) 0 (by omega) (by omega) hI H hL) ?_
    rintro _ wx ⟨R1, rfl, hI, H⟩
    refine ⟨_, rfl, ?_⟩
    refine (WL.done (WX.next ?_))
    refine WC.seq ?_
    refine WC.seq ?_
    refine WC.region ?_
    refine WL.load rfl (H.rdArr ty38 0 rfl h8) rfl ?_
    refine WL.move rfl rfl ?_
    refine (WL.done (WX.next ?_))
    refine WC.block ?_
    -- loop 1: changed [27] kept [0, 5, 6, 26]
    obtain ⟨R2, hI2, H2⟩ : ∃ R2, Is R2 p (putsTo (healed M c) c ws 0) (k + 2) ∧ St w0 [] wx (((b5, .cells (arrC ws) 38) :: L) ++ R2.hp) := ⟨R1, hI, H⟩
    clear hI H
    refine WC.loop (Sub.cons (t := 0) rfl (Sub.cons (t := 5) rfl (Sub.cons (t := 6) rfl (Sub.cons (t := 26) rfl (Sub.nil _))))) (fun z : RM × Nat => [(27, .int .i64 (z.2 : Int))]) (fun q z wx => q = 8 - z.2 ∧ z.2 ≤ 8 ∧ Is z.1 p (putsTo (healed M c) c ws z.2) (k + 2 + z.2) ∧ St w0 [] wx (((b5, .cells (arrC ws) 38) :: L) ++ z.1.hp)) (8) ((R2, 0)) (Sub.cons (t := 27) (by rfl) (Sub.nil _)) (⟨rfl, Nat.zero_le _, hI2, H2⟩) ?_
    rintro q z wx hJ N hN
    clear hI2 H2
    obtain ⟨R3, i⟩ := z
    obtain ⟨rfl, hi, hI, H⟩ := hJ
    change i ≤ 8 at hi
    change Is R3 p (putsTo (healed M c) c ws i) (k + 2 + i) at hI
    change St w0 [] wx (((b5, .cells (arrC ws) 38) :: L) ++ R3.hp) at H
    refine WC.seq ?_
    refine WC.region ?_
    refine WL.bin rfl rfl binv_lss rfl ?_
    refine (WL.done (WX.next ?_))
    refine WC.seq ?_
    refine WC.cond_dec rfl (fun c2 => ?_) (fun c2 => ?_)
    ·
      change (i : Int) < 8 at c2
      refine (WC.skip (WX.next ?_))
      refine WC.seq ?_
      refine WC.block ?_
      refine WC.seq ?_
      refine WC.region ?_
      refine WL.move rfl rfl ?_
      refine WL.indexArr (ws := _) arr38 (by assumption) rfl rfl (by rfl) (by omega) rfl ?_ (by intro el h; rw [Tryd.underlying38] at h; cases h; exact ty3)
      refine WL.assign rfl rfl ?_
      refine WL.assign rfl rfl ?_
      refine (WL.done (WX.next ?_))
      refine WC.seq ?_
      refine WC.region ?_
      refine WL.move rfl rfl ?_
      refine WL.bin rfl rfl binv_neq rfl ?_
      refine (WL.done (WX.next ?_))
      refine WC.cond_dec rfl (fun c3 => ?_) (fun c3 => ?_)
      ·
        refine WC.region ?_
        refine WL.move rfl rfl ?_
        refine WL.move rfl rfl ?_
        refine WL.move rfl rfl ?_
        refine WL.bin rfl rfl (iadd (by omega) (by omega)) rfl ?_
        refine WL.move rfl rfl ?_
        refine WL.call call56 rfl rfl ?_
        refine Calls.mono (a_store (L := (b5, .cells (arrC ws) 38) :: L) (8 * (c : Int) + i) (ws.getD i 0) (by omega) (by omega) hI H hL) ?_
        rintro _ wx ⟨R1, rfl, hI, H⟩
        refine ⟨_, rfl, ?_⟩
        refine (WL.done (WX.block_normal (WX.next ?_)))
        refine WC.region ?_
        refine WL.bin rfl rfl (iadd (by omega) (by omega)) rfl ?_
        refine WL.move rfl rfl ?_
        refine (WL.done (WX.round ?_))
        exact hN _ (R1, i + 1) _ _ (by show 8 - (i + 1) < 8 - i; omega) ⟨rfl, by show i + 1 ≤ 8; omega, by show Is R1 p (putsTo (healed M c) c ws (i + 1)) _; unfold putsTo; rw [if_neg (by omega)]; exact hI.mono (by omega), H⟩ (Sub.cons (t := 27) (by rfl) (Sub.nil _)) (Sub.cons (t := 0) rfl (Sub.cons (t := 5) rfl (Sub.cons (t := 6) rfl (Sub.cons (t := 26) rfl (Sub.nil _)))))
      ·
        refine (WC.skip (WX.block_normal (WX.next ?_)))
        refine WC.region ?_
        refine WL.bin rfl rfl (iadd (by omega) (by omega)) rfl ?_
        refine WL.move rfl rfl ?_
        refine (WL.done (WX.round ?_))
        exact hN _ (R3, i + 1) _ _ (by show 8 - (i + 1) < 8 - i; omega) ⟨rfl, by show i + 1 ≤ 8; omega, by show Is R3 p (putsTo (healed M c) c ws (i + 1)) _; unfold putsTo; rw [if_pos (by omega)]; exact hI.mono (by omega), H⟩ (Sub.cons (t := 27) (by rfl) (Sub.nil _)) (Sub.cons (t := 0) rfl (Sub.cons (t := 5) rfl (Sub.cons (t := 6) rfl (Sub.cons (t := 26) rfl (Sub.nil _)))))
    ·
      change ¬ (i : Int) < 8 at c2
      obtain rfl : i = 8 := by omega
      refine (WC.exit (WX.then_exit (WX.then_exit (WX.block_exit (WX.next ?_)))))
      refine WC.region ?_
      refine WL.move rfl rfl ?_
      refine WL.move rfl rfl ?_
      refine WL.bin rfl rfl (iadd (by omega) (by omega)) rfl ?_
      refine WL.idxArr (k := 1) arr38 rfl rfl (by rfl) (by omega) rfl ?_
      refine WL.load rfl (H.rdElt ty3 0 rfl (by omega)) rfl ?_
      refine WL.call call110 rfl rfl ?_
      refine Calls.mono (a_publish (L := (b5, .cells (arrC ws) 38) :: L) (8 * (c : Int) + 1) (ws.getD 1 0) (by omega) (by omega) hI H hL) ?_
      rintro _ wx ⟨R1, rfl, hI, H⟩
      refine ⟨_, rfl, ?_⟩
      refine (WL.done ?_)
      refine end_d (fun tmps => ?_)
      refine leaves_fn call35 (CallsW.mono (a_flush_w (L := (b5, .cells (arrC ws) 38) :: L) (c : Int) (by omega) hI H hL) ?_)
      rintro _ w1 ⟨R4, rfl, hI, H⟩
      refine ⟨⟨_, rfl⟩, ?_⟩
      refine leaves_fn call36 (CallsW.mono (a_fence_w (L := (b5, .cells (arrC ws) 38) :: L) (by omega) hI H hL) ?_)
      rintro _ w2 ⟨R5, rfl, hI, H⟩
      refine ⟨⟨_, rfl⟩, ?_⟩
      refine leaves_none rfl ⟨R5, rfl, ?_, H.tail⟩
      unfold pPut
      exact hI.mono (by omega)

end Go.Proofs.YtkncbggnaobgeaaDoor

/- Walks of functions of the program; printed by a program of this session (walk.py) out of hand-written hints. -/
namespace Go.Proofs.YtkncbggnaobgeaaDoor
open Go.RowKit
set_option linter.unusedVariables false
set_option linter.unusedSimpArgs false
set_option maxRecDepth 100000

def fillTo (ws : List Int) : Nat → List Int
  | 0 => zeros8
  | i + 1 => (fillTo ws i).set i (ws.getD i 0)
theorem fillTo_len (ws : List Int) : ∀ i, (fillTo ws i).length = 8
  | 0 => rfl
  | i + 1 => by unfold fillTo; rw [List.length_set]; exact fillTo_len ws i
theorem fillTo_8 {ws : List Int} (h : ws.length = 8) : fillTo ws 8 = ws := by
  match ws, h with
  | [a, b, c, d, e, f, g, i], _ => rfl
theorem load_line {M : PM} {c i : Nat} (hc : c < M.ls.length) (hi : i < 8) : M.load (8 * (c : Int) + i) = if (pShow (M.line c) (M.line c).ps.length).2 = 0 then ((shown (M.line c)).getD i 0, 0) else (0, 9) := by
  unfold PM.load shown
  rw [if_neg (by omega), show (8 * (c : Int) + i) / 8 = (c : Int) by omega, has_of hc, if_pos rfl, show ((8 * (c : Int) + i) % 8).toNat = i by omega]
theorem shown_len8 {R : RM} {p k : Nat} {M : PM} (hI : Is R p M k) {c : Nat} (hc : c < M.ls.length) : (shown (M.line c)).length = 8 := by
  have := hI.lok (M.line c) (by rw [line_of hc]; exact List.getElem_mem hc)
  exact pShow_len this.1
theorem m_load {w : World} {R : RM} {p k : Nat} {M : PM} (at_ : Int) (ha : at_ ≤ 9223372036854775807) (hI : Is R p M k) (hm : MemIn w R) (hL : L64 w) : Calls Tryd.prog 96 #[ptr p, .int .i64 at_] w fun e w' => e = .returned (.tuple #[.int .i64 (M.load at_).1, .int .i64 (M.load at_).2]) ∧ St w [] w' [] := by
  obtain ⟨rfl, rfl, hok, hs⟩ := hI
  rw [← load_abs]
  exact load_any R at_ ha w hm hL
theorem m_load_line {w : World} {R : RM} {p k : Nat} {M : PM} {c i : Nat} (hc : c < M.ls.length) (hi : i < 8) (hI : Is R p M k) (hm : MemIn w R) (hL : L64 w) :
    Calls Tryd.prog 96 #[ptr p, .int .i64 (8 * (c : Int) + i)] w fun e w' => ∃ x er : Int, e = .returned (.tuple #[.int .i64 x, .int .i64 er]) ∧ ((er = 0 ∧ (pShow (M.line c) (M.line c).ps.length).2 = 0 ∧ x = (shown (M.line c)).getD i 0) ∨ (er ≠ 0 ∧ (pShow (M.line c) (M.line c).ps.length).2 ≠ 0)) ∧ St w [] w' [] := by
  have hl := hI.lens
  refine (m_load (8 * (c : Int) + i) (by omega) hI hm hL).mono ?_
  rintro _ w' ⟨rfl, h⟩
  rw [load_line hc hi]
  refine ⟨_, _, rfl, ?_, h⟩
  split
  · rename_i hs; exact .inl ⟨rfl, hs, rfl⟩
  · rename_i hs; exact .inr ⟨by decide, hs⟩
theorem pCopy_len (M : PM) (c : Nat) : (pCopy M c).length = 4 := by
  unfold pCopy rootOf
  split
  · split <;> rfl
  · rfl

theorem rload_m {w : World} {R : RM} {p k : Nat} {M : PM} (c : Nat) (hc : c < M.ls.length) (hI : Is R p M k) (hm : MemIn w R) (hG : GG w) : Calls Tryd.prog 117 #[ptr p, .int .i64 (c : Int)] w fun e w' => e = .returned (arr (pCopy M c)) ∧ St w [] w' [] := by
  refine calls_walk_n (args := [ptr p, .int .i64 (c : Int)]) Tryd.func117 rfl rfl rfl ?_
  have H := St.refl w
  have hlen := hI.lens
  refine WC.seq ?_
  refine WC.region ?_
  refine WL.alloc H zer77 rfl ?_
  intro b4 wx hb4 hge4 H
  refine (WL.done (WX.next ?_))
  refine WC.seq ?_
  refine WC.region ?_
  refine WL.alloc H zer38 rfl ?_
  intro b5 wx hb5 hge5 H
  refine (WL.done (WX.next ?_))
  refine WC.seq ?_
  refine WC.seq ?_
  refine WC.region ?_
  refine WL.move rfl rfl ?_
  refine (WL.done (WX.next ?_))
  refine WC.block ?_
  -- loop 1: changed [11] kept [0, 1, 4, 5]
  replace H : St w [] wx ((b5, .cells (arrC (fillTo (shown (M.line c)) 0)) 38) :: (b4, .cells (arrC zero4) 77) :: []) := H
  refine WC.loop (Sub.cons (t := 0) rfl (Sub.cons (t := 1) rfl (Sub.cons (t := 4) rfl (Sub.cons (t := 5) rfl (Sub.nil _))))) (fun i : Nat => [(11, .int .i64 (i : Int))]) (fun q i wx => q = 8 - i ∧ i ≤ 8 ∧ (0 < i → (pShow (M.line c) (M.line c).ps.length).2 = 0) ∧ St w [] wx ((b5, .cells (arrC (fillTo (shown (M.line c)) i)) 38) :: (b4, .cells (arrC zero4) 77) :: [])) (8) (0) (Sub.cons (t := 11) (by rfl) (Sub.nil _)) (⟨rfl, Nat.zero_le _, fun h => absurd h (by omega), H⟩) ?_
  rintro q i wx hJ N hN
  obtain ⟨rfl, hi, hs, H⟩ := hJ
  refine WC.seq ?_
  refine WC.region ?_
  refine WL.bin rfl rfl binv_lss rfl ?_
  refine (WL.done (WX.next ?_))
  refine WC.seq ?_
  refine WC.cond_dec rfl (fun c1 => ?_) (fun c1 => ?_)
  ·
    change (i : Int) < 8 at c1
    refine (WC.skip (WX.next ?_))
    refine WC.seq ?_
    refine WC.block ?_
    refine WC.seq ?_
    refine WC.region ?_
    refine WL.move rfl rfl ?_
    refine WL.assign rfl rfl ?_
    refine (WL.done (WX.next ?_))
    refine WC.seq ?_
    refine WC.region ?_
    refine WL.move rfl rfl ?_
    refine WL.move rfl rfl ?_
    refine WL.bin rfl rfl (imul (x := 8) (by omega) (by omega)) rfl ?_
    refine WL.move rfl rfl ?_
    refine WL.bin rfl rfl (iadd (by omega) (by omega)) rfl ?_
    refine WL.call call96 rfl rfl ?_
    refine Calls.mono (m_load_line hc (show i < 8 by omega) hI (hm.old H) (hG.l.of0 H)) ?_
    rintro _ wx ⟨x, er, rfl, hxe, Hc⟩
    refine ⟨_, rfl, ?_⟩
    replace H := H.call0 Hc
    refine WL.move rfl rfl ?_
    refine WL.extract rfl rfl rfl ?_
    refine WL.extract rfl rfl rfl ?_
    refine WL.assign rfl rfl ?_
    refine WL.assign rfl rfl ?_
    refine (WL.done (WX.next ?_))
    refine WC.seq ?_
    refine WC.seq ?_
    refine WC.region ?_
    refine WL.move rfl rfl ?_
    refine WL.bin rfl rfl binv_neq rfl ?_
    refine (WL.done (WX.next ?_))
    refine WC.cond_dec rfl (fun c2 => ?_) (fun c2 => ?_)
    ·
      have hs0 : (pShow (M.line c) (M.line c).ps.length).2 ≠ 0 := by
        rcases hxe with h | h
        · exact absurd h.1 c2
        · exact h.2
      refine WC.seq ?_
      refine WC.region ?_
      refine WL.build (cells := arrC zero4) pla77 zer77 rfl rfl (by kernel_rfl) ?_
      refine WL.storeTo (cs' := arrC zero4) H ty77 1 rfl rfl rfl (by rfl) (by exact arrC_one _) (by exact Nat.le_of_ble_eq_true rfl) (by kernel_rfl) ?_
      intro wx H
      refine (WL.done (WX.next ?_))
      refine (WC.ret (WX.then_ret (WX.block_ret (WX.then_ret (WX.then_ret (WX.block_ret (WX.then_ret ?_)))))))
      refine ret_cell rfl ⟨_, rfl, by exact H.rdAll ty77 1 rfl rfl⟩ ?_
      refine ⟨?_, H.weaken (List.nil_sublist _)⟩
      rw [copy_bad hs0]
      rfl
    ·
      obtain ⟨hs0, rfl⟩ : (pShow (M.line c) (M.line c).ps.length).2 = 0 ∧ x = (shown (M.line c)).getD i 0 := by
        rcases hxe with h | h
        · exact h.2
        · exact absurd h.1 c2
      refine (WC.skip (WX.next ?_))
      refine WC.region ?_
      refine WL.move rfl rfl ?_
      refine WL.move rfl rfl ?_
      refine WL.idxArr (k := i) arr38 rfl rfl (by rfl) (by omega) rfl ?_
      refine WL.storeElt (o := 0 + i * 1) H ty3 0 rfl rfl rfl (by rw [fillTo_len]; omega) ?_
      intro wx H
      rw [show 0 + i * 1 = i by omega] at H
      refine (WL.done (WX.block_normal (WX.next ?_)))
      refine WC.region ?_
      refine WL.bin rfl rfl (iadd (by omega) (by omega)) rfl ?_
      refine WL.move rfl rfl ?_
      refine (WL.done (WX.round ?_))
      exact hN _ (i + 1) _ _ (by omega) ⟨rfl, by omega, fun _ => hs0, H⟩ (Sub.cons (t := 11) (by rfl) (Sub.nil _)) (Sub.cons (t := 0) rfl (Sub.cons (t := 1) rfl (Sub.cons (t := 4) rfl (Sub.cons (t := 5) rfl (Sub.nil _)))))
  ·
    change ¬ (i : Int) < 8 at c1
    obtain rfl : i = 8 := by omega
    refine (WC.exit (WX.then_exit (WX.then_exit (WX.block_exit (WX.next ?_)))))
    refine WC.seq ?_
    refine WC.seq ?_
    refine WC.region ?_
    refine WL.load rfl (H.rdArr ty38 0 rfl (fillTo_len _ _)) rfl ?_
    refine WL.call call69 rfl rfl ?_
    refine Calls.mono (parse_root_any (fillTo (shown (M.line c)) 8) (fillTo_len _ _) _ (hG.p.of0 H) (hG.n.of0 H)) ?_
    rintro _ wx ⟨rfl, Hc⟩
    refine ⟨_, rfl, ?_⟩
    replace H := H.call0 Hc
    rw [fillTo_8 (shown_len8 hI hc)]
    refine WL.move rfl rfl ?_
    refine WL.extract rfl rfl rfl ?_
    refine WL.extract rfl rfl rfl ?_
    refine WL.alloc H zer77 rfl ?_
    intro b9 wx hb9 hge9 H
    refine WL.storeArr H ty77 0 rfl rfl rfl rfl (parseV_len _) ?_
    intro wx H
    refine WL.assign rfl rfl ?_
    refine (WL.done (WX.next ?_))
    refine WC.seq ?_
    replace H := H.drew
    refine WC.held (SX (World.drew wx) []) (by kernel_rfl) ?_
    generalize World.drew wx = wb at H ⊢
    have HB := St.refl wb
    refine WH.take 0 rfl (by kernel_rfl) (by kernel_rfl) (by kernel_rfl) (fun _ _ _ h => h) ⟨_, HB⟩ (fun w' hS => EX.move rfl) rfl ?_
    refine WH.take 1 rfl (by kernel_rfl) (by kernel_rfl) (by kernel_rfl) (fun _ _ _ h => h) ⟨_, HB⟩ (fun w' hS => EX.move rfl) rfl ?_
    refine WH.split (t := 36) rfl (fun g1 => ?_) (fun g1 => ?_)
    ·
      refine WH.takeYes 2 rfl (by kernel_rfl) (by kernel_rfl) (by kernel_rfl) (fun _ _ _ h => h) ⟨_, HB⟩ rfl rfl (fun w' hS => EX.fieldAddr fld77_3 rfl) rfl ?_
      refine WH.takeYes 3 rfl (by kernel_rfl) (by kernel_rfl) (by kernel_rfl) (fun _ _ _ h => h) ⟨_, HB⟩ rfl rfl (fun w' hS => EX.load rfl (hS.rdElt ty3 (H.blk 0 rfl) (by simp) (by rw [parseV_len]; omega))) rfl ?_
      refine WH.takeYes 4 rfl (by kernel_rfl) (by kernel_rfl) (by kernel_rfl) (fun _ _ _ h => h) ⟨_, HB⟩ rfl rfl (fun w' hS => EX.move rfl) rfl ?_
      refine WH.hard 5 rfl (by kernel_rfl) ?_
      refine WL.yes rfl rfl ?_
      refine WL.call call26 rfl rfl ?_
      refine Calls.mono (m_lines hI ((hm.old H).old HB)) ?_
      rintro _ wx ⟨rfl, rfl⟩
      refine ⟨_, rfl, ?_⟩
      refine WL.done (WX.heldOn ⟨_, HB⟩ ?_)
      refine WH.takeYes 6 rfl (by kernel_rfl) (by kernel_rfl) (by kernel_rfl) (fun _ _ _ h => h) ⟨_, HB⟩ rfl rfl (fun w' hS => EX.bin rfl rfl (binv_eql)) rfl ?_
      refine WH.take 7 rfl (by kernel_rfl) (by kernel_rfl) (by kernel_rfl) (fun _ _ _ h => h) ⟨_, HB⟩ (fun w' hS => EX.pickT rfl rfl) rfl ?_
      refine WH.done (by kernel_rfl) ?_
      replace H := H.call HB
      refine WX.next ?_
      refine WC.cond_dec rfl (fun c3 => ?_) (fun c3 => ?_)
      ·
        refine WC.seq ?_
        refine WC.region ?_
        refine WL.load rfl (H.rdArr ty77 0 rfl (parseV_len _)) rfl ?_
        refine WL.storeArr H ty77 2 rfl rfl rfl rfl (parseV_len _) ?_
        intro wx H
        refine (WL.done (WX.next ?_))
        refine (WC.ret (WX.then_ret ?_))
        refine ret_cell rfl ⟨_, rfl, by exact H.rdArr ty77 2 rfl (parseV_len _)⟩ ?_
        refine ⟨?_, H.weaken (List.nil_sublist _)⟩
        have hb : (parseV (shown (M.line c))).getD 3 0 = (M.ls.length : Int) := by first | exact c3 | exact c4 | simpa using c3
        unfold pCopy rootOf
        rw [if_pos (hs (by omega)), g1]
        have e1 : parseV (shown (M.line c)) = rootIn (shown (M.line c)) := by unfold parseV; rw [g1]; rfl
        rw [e1] at hb ⊢
        rw [decide_eq_true (show (shown (M.line c)).getD 4 0 = (M.ls.length : Int) from hb)]
        rfl
      ·
        refine (WC.skip (WX.next ?_))
        refine WC.seq ?_
        refine WC.region ?_
        refine WL.build (cells := arrC zero4) pla77 zer77 rfl rfl (by kernel_rfl) ?_
        refine WL.storeTo (cs' := arrC zero4) H ty77 2 rfl rfl rfl (by rfl) (by exact arrC_one _) (by exact Nat.le_of_ble_eq_true rfl) (by kernel_rfl) ?_
        intro wx H
        refine (WL.done (WX.next ?_))
        refine (WC.ret ?_)
        refine ret_cell rfl ⟨_, rfl, by exact H.rdAll ty77 2 rfl rfl⟩ ?_
        refine ⟨?_, H.weaken (List.nil_sublist _)⟩
        have hb : ¬ (parseV (shown (M.line c))).getD 3 0 = (M.ls.length : Int) := by first | exact c3 | exact c4 | simpa using c3
        unfold pCopy rootOf
        rw [if_pos (hs (by omega)), g1]
        have e1 : parseV (shown (M.line c)) = rootIn (shown (M.line c)) := by unfold parseV; rw [g1]; rfl
        rw [e1] at hb
        rw [decide_eq_false (show ¬ (shown (M.line c)).getD 4 0 = (M.ls.length : Int) from hb)]
        rfl
    ·
      refine WH.takeNo 2 rfl (by kernel_rfl) (by kernel_rfl) (by kernel_rfl) (fun _ _ _ h => h) ⟨_, HB⟩ rfl rfl rfl ?_
      refine WH.takeNo 3 rfl (by kernel_rfl) (by kernel_rfl) (by kernel_rfl) (fun _ _ _ h => h) ⟨_, HB⟩ rfl rfl rfl ?_
      refine WH.takeNo 4 rfl (by kernel_rfl) (by kernel_rfl) (by kernel_rfl) (fun _ _ _ h => h) ⟨_, HB⟩ rfl rfl rfl ?_
      refine WH.takeNo 5 rfl (by kernel_rfl) (by kernel_rfl) (by kernel_rfl) (fun _ _ _ h => h) ⟨_, HB⟩ rfl rfl rfl ?_
      refine WH.takeNo 6 rfl (by kernel_rfl) (by kernel_rfl) (by kernel_rfl) (fun _ _ _ h => h) ⟨_, HB⟩ rfl rfl rfl ?_
      refine WH.take 7 rfl (by kernel_rfl) (by kernel_rfl) (by kernel_rfl) (fun _ _ _ h => h) ⟨_, HB⟩ (fun w' hS => EX.pickF rfl rfl) rfl ?_
      refine WH.done (by kernel_rfl) ?_
      replace H := H.call HB
      refine WX.next ?_
      refine WC.cond_false rfl (rfl) ?_
      refine (WC.skip (WX.next ?_))
      refine WC.seq ?_
      refine WC.region ?_
      refine WL.build (cells := arrC zero4) pla77 zer77 rfl rfl (by kernel_rfl) ?_
      refine WL.storeTo (cs' := arrC zero4) H ty77 2 rfl rfl rfl (by rfl) (by exact arrC_one _) (by exact Nat.le_of_ble_eq_true rfl) (by kernel_rfl) ?_
      intro wx H
      refine (WL.done (WX.next ?_))
      refine (WC.ret ?_)
      refine ret_cell rfl ⟨_, rfl, by exact H.rdAll ty77 2 rfl rfl⟩ ?_
      refine ⟨?_, H.weaken (List.nil_sublist _)⟩
      unfold pCopy rootOf
      rw [if_pos (hs (by omega)), g1]
      rfl

theorem rload_any {w0 w : World} {L : Hp} {R : RM} {p k : Nat} {M : PM} (c : Nat) (hc : c < M.ls.length) (hI : Is R p M k) (H : St w0 [] w (L ++ R.hp)) (hG : GG w0) : Calls Tryd.prog 117 #[ptr p, .int .i64 (c : Int)] w fun e w' => e = .returned (arr (pCopy M c)) ∧ St w0 [] w' (L ++ R.hp) :=
  (rload_m c hc hI (hI.mem H hG.l) (hG.of0 H)).mono fun e w' ⟨h, Hc⟩ => ⟨h, H.call0 Hc⟩

end Go.Proofs.YtkncbggnaobgeaaDoor

/- Walks of functions of the program; printed by a program of this session (walk.py) out of hand-written hints. -/
namespace Go.Proofs.YtkncbggnaobgeaaDoor
open Go.RowKit
set_option linter.unusedVariables false
set_option linter.unusedSimpArgs false
set_option maxRecDepth 100000

theorem pRead_len (M : PM) : (pRead M).1.length = 4 := by
  unfold pRead
  split
  · rfl
  · split
    · exact pCopy_len _ _
    · split
      · exact pCopy_len _ _
      · split <;> rfl
theorem read_no {M : PM} (h : planE (M.ls.length : Int) ≠ 0) : pRead M = (zero4, 0, 2) ∧ planE (M.ls.length : Int) = 2 := by
  have hb : planOk M.ls.length = false := by
    cases hb : planOk M.ls.length with
    | false => rfl
    | true => exact absurd (planE_iff.2 hb) h
  unfold pRead planE
  rw [hb]
  exact ⟨rfl, rfl⟩
theorem read_a {M : PM} (hpl : planOk M.ls.length = true) (h1 : (!(pCopy M 0 == zero4)) = true) (h2 : (pCopy M 0).getD 0 0 ≥ (pCopy M 1).getD 0 0) : pRead M = (pCopy M 0, 0, 0) := by
  unfold pRead
  rw [hpl, if_neg (by decide), if_pos ⟨neq_of_bneq h1, h2⟩]
theorem read_b {M : PM} (hpl : planOk M.ls.length = true) (h1 : (!(pCopy M 0 == zero4)) = false ∨ ¬ (pCopy M 0).getD 0 0 ≥ (pCopy M 1).getD 0 0) (h2 : (!(pCopy M 1 == zero4)) = true) : pRead M = (pCopy M 1, 1, 0) := by
  unfold pRead
  rw [hpl, if_neg (by decide), if_neg, if_pos (neq_of_bneq h2)]
  rintro ⟨h3, h4⟩
  rcases h1 with h | h
  · exact h3 (eq_of_nbneq h)
  · exact h h4
theorem read_rot {M : PM} (hpl : planOk M.ls.length = true) (h1 : (!(pCopy M 0 == zero4)) = false ∨ ¬ (pCopy M 0).getD 0 0 ≥ (pCopy M 1).getD 0 0) (h2 : (!(pCopy M 1 == zero4)) = false) (h5 : M.state 0 = 2 ∨ M.state 1 = 2) : pRead M = (zero4, 0, 9) := by
  unfold pRead
  rw [hpl, if_neg (by decide), if_neg, if_neg (fun h => h (eq_of_nbneq h2)), if_pos h5]
  rintro ⟨h3, h4⟩
  rcases h1 with h | h
  · exact h3 (eq_of_nbneq h)
  · exact h h4
theorem read_form {M : PM} (hpl : planOk M.ls.length = true) (h1 : (!(pCopy M 0 == zero4)) = false ∨ ¬ (pCopy M 0).getD 0 0 ≥ (pCopy M 1).getD 0 0) (h2 : (!(pCopy M 1 == zero4)) = false) (h5 : ¬ M.state 0 = 2) (h6 : ¬ M.state 1 = 2) : pRead M = (zero4, 0, 3) := by
  unfold pRead
  rw [hpl, if_neg (by decide), if_neg, if_neg (fun h => h (eq_of_nbneq h2)), if_neg (fun h => h.elim h5 h6)]
  rintro ⟨h3, h4⟩
  rcases h1 with h | h
  · exact h3 (eq_of_nbneq h)
  · exact h h4
theorem planOk_big {M : PM} (h : planOk M.ls.length = true) : 64 ≤ M.ls.length := by
  unfold planOk at h
  simp only [Bool.and_eq_true, decide_eq_true_eq] at h
  omega

theorem rread_any {w0 w : World} {L : Hp} {R : RM} {p k : Nat} {M : PM} (hI : Is R p M k) (H : St w0 [] w (L ++ R.hp)) (hG : GG w0) : Calls Tryd.prog 49 #[ptr p] w fun e w' => e = .returned (.tuple #[arr (pRead M).1, .int .i64 (pRead M).2.1, .int .i64 (pRead M).2.2]) ∧ St w0 [] w' (L ++ R.hp) := by
  refine calls_walk_n (args := [ptr p]) Tryd.func49 rfl rfl rfl ?_
  have hL := hG.l
  have hlen := hI.lens
  replace H : St w0 [] w (([] ++ L) ++ R.hp) := H
  refine WC.seq ?_
  refine WC.region ?_
  refine WL.alloc H zer77 rfl ?_
  intro b2 wx hb2 hge2 H
  refine WL.assign rfl rfl ?_
  refine WL.assign rfl rfl ?_
  refine (WL.done (WX.next ?_))
  refine WC.seq ?_
  refine WC.seq ?_
  refine WC.region ?_
  replace H : St w0 [] wx (((b2, .cells (arrC zero4) 77) :: L) ++ R.hp) := H
  refine WL.move rfl rfl ?_
  refine WL.call call26 rfl rfl ?_
  refine Calls.mono (a_lines hI H hL) ?_
  rintro _ wx ⟨rfl, rfl⟩
  refine ⟨_, rfl, ?_⟩
  refine WL.call call65 rfl rfl ?_
  refine Calls.mono (plan_any (M.ls.length : Int) _) ?_
  rintro _ wx ⟨rfl, Hc⟩
  refine ⟨_, rfl, ?_⟩
  replace H := H.call0 Hc
  refine WL.move rfl rfl ?_
  refine WL.extract rfl rfl rfl ?_
  refine WL.extract rfl rfl rfl ?_
  refine WL.alloc H zer95 rfl ?_
  intro b5 wx hb5 hge5 H
  refine WL.storeArr H ty95 0 rfl rfl rfl rfl (planV_len _) ?_
  intro wx H
  refine WL.assign rfl rfl ?_
  refine (WL.done (WX.next ?_))
  refine WC.seq ?_
  refine WC.region ?_
  refine WL.move rfl rfl ?_
  refine WL.bin rfl rfl binv_neq rfl ?_
  refine (WL.done (WX.next ?_))
  refine WC.cond_dec rfl (fun c1 => ?_) (fun c1 => ?_)
  ·
    refine WC.seq ?_
    refine WC.region ?_
    refine WL.build (cells := arrC zero4) pla77 zer77 rfl rfl (by kernel_rfl) ?_
    refine WL.move rfl rfl ?_
    refine WL.storeTo (cs' := arrC zero4) H ty77 1 rfl rfl rfl (by rfl) (by exact arrC_one _) (by exact Nat.le_of_ble_eq_true rfl) (by kernel_rfl) ?_
    intro wx H
    refine WL.assign rfl rfl ?_
    refine WL.assign rfl rfl ?_
    refine (WL.done (WX.next ?_))
    refine (WC.ret (WX.then_ret ?_))
    refine ret_three rfl ⟨_, rfl, by exact H.rdArr ty77 1 rfl rfl⟩ rfl rfl ?_
    refine ⟨?_, H.tail.tail⟩
    rw [(read_no c1).1, (read_no c1).2]
  ·
    have hpl : planOk M.ls.length = true := planE_iff.1 (by omega)
    have h64 := planOk_big hpl
    replace H : St w0 [] wx (((b5, .cells (arrC (planV (M.ls.length : Int))) 95) :: (b2, .cells (arrC zero4) 77) :: L) ++ R.hp) := H
    refine (WC.skip (WX.next ?_))
    refine WC.seq ?_
    refine WC.region ?_
    refine WL.move rfl rfl ?_
    refine WL.call call117 rfl rfl ?_
    refine Calls.mono (rload_any (L := _ :: _ :: L) 0 (by omega) hI H hG) ?_
    rintro _ wx ⟨rfl, H⟩
    refine ⟨_, rfl, ?_⟩
    refine WL.move rfl rfl ?_
    refine WL.call call117 rfl rfl ?_
    refine Calls.mono (rload_any (L := _ :: _ :: L) 1 (by omega) hI H hG) ?_
    rintro _ wx ⟨rfl, H⟩
    refine ⟨_, rfl, ?_⟩
    refine WL.alloc H zer77 rfl ?_
    intro b7 wx hb7 hge7 H
    refine WL.alloc H zer77 rfl ?_
    intro b8 wx hb8 hge8 H
    refine WL.storeArr H ty77 1 rfl rfl rfl rfl (pCopy_len _ _) ?_
    intro wx H
    refine WL.storeArr H ty77 0 rfl rfl rfl rfl (pCopy_len _ _) ?_
    intro wx H
    refine (WL.done (WX.next ?_))
    refine WC.seq ?_
    refine WC.region ?_
    refine WL.build (cells := arrC zero4) pla77 zer77 rfl rfl (by kernel_rfl) ?_
    refine WL.alloc H zer77 rfl ?_
    intro b9 wx hb9 hge9 H
    refine WL.storeTo (cs' := arrC zero4) H ty77 0 rfl rfl rfl (by rfl) (by exact arrC_one _) (by exact Nat.le_of_ble_eq_true rfl) (by kernel_rfl) ?_
    intro wx H
    refine (WL.done (WX.next ?_))
    refine WC.seq ?_
    refine WC.block ?_
    refine WC.seq ?_
    refine WC.region ?_
    refine WL.load rfl (H.rdArr ty77 2 rfl (pCopy_len _ _)) rfl ?_
    refine WL.load rfl (H.rdArr ty77 0 rfl rfl) rfl ?_
    refine WL.bin rfl rfl (binv_agg_neq eqI77 (by kernel_rfl) (pCopy_len _ _) rfl) rfl ?_
    refine WL.move rfl rfl ?_
    refine WL.split (t := 29) rfl (fun g1 => ?_) (fun g1 => ?_)
    ·
      refine WL.yes rfl rfl ?_
      refine WL.fieldAddr fld77_0 rfl rfl ?_
      refine WL.yes rfl rfl ?_
      refine WL.load rfl (H.rdElt ty3 2 rfl (by rw [pCopy_len]; omega)) rfl ?_
      refine WL.yes rfl rfl ?_
      refine WL.fieldAddr fld77_0 rfl rfl ?_
      refine WL.yes rfl rfl ?_
      refine WL.load rfl (H.rdElt ty3 1 rfl (by rw [pCopy_len]; omega)) rfl ?_
      refine WL.yes rfl rfl ?_
      refine WL.bin rfl rfl binv_geq rfl ?_
      refine WL.pickT rfl rfl rfl ?_
      refine WL.assign rfl rfl ?_
      refine (WL.done (WX.next ?_))
      refine WC.cond_dec rfl (fun c2 => ?_) (fun c2 => ?_)
      ·
        refine WC.seq ?_
        refine WC.region ?_
        refine WL.load rfl (H.rdArr ty77 2 rfl (pCopy_len _ _)) rfl ?_
        refine WL.storeArr H ty77 4 rfl rfl rfl rfl (pCopy_len _ _) ?_
        intro wx H
        refine WL.assign rfl rfl ?_
        refine WL.assign rfl rfl ?_
        refine (WL.done (WX.next ?_))
        refine (WC.ret (WX.block_ret (WX.then_ret ?_)))
        refine ret_three rfl ⟨_, rfl, by exact H.rdArr ty77 4 rfl (pCopy_len _ _)⟩ rfl rfl ?_
        refine ⟨?_, H.tail.tail.tail.tail.tail⟩
        rw [read_a hpl g1 c2]
      ·
        refine WC.seq ?_
        refine WC.region ?_
        refine WL.load rfl (H.rdArr ty77 1 rfl (pCopy_len _ _)) rfl ?_
        refine WL.load rfl (H.rdArr ty77 0 rfl rfl) rfl ?_
        refine WL.bin rfl rfl (binv_agg_neq eqI77 (by kernel_rfl) (pCopy_len _ _) rfl) rfl ?_
        refine WL.assign rfl rfl ?_
        refine (WL.done (WX.next ?_))
        refine WC.cond rfl (fun c3 => ?_) (fun c3 => ?_)
        ·
          refine WC.seq ?_
          refine WC.region ?_
          refine WL.load rfl (H.rdArr ty77 1 rfl (pCopy_len _ _)) rfl ?_
          refine WL.storeArr H ty77 4 rfl rfl rfl rfl (pCopy_len _ _) ?_
          intro wx H
          refine WL.assign rfl rfl ?_
          refine WL.assign rfl rfl ?_
          refine (WL.done (WX.next ?_))
          refine (WC.ret (WX.block_ret (WX.then_ret ?_)))
          refine ret_three rfl ⟨_, rfl, by exact H.rdArr ty77 4 rfl (pCopy_len _ _)⟩ rfl rfl ?_
          refine ⟨?_, H.tail.tail.tail.tail.tail⟩
          rw [read_b hpl (.inr c2) c3]
        ·
          refine WC.seq ?_
          refine WC.seq ?_
          refine WC.region ?_
          refine WL.move rfl rfl ?_
          refine WL.call call31 rfl rfl ?_
          refine Calls.mono (a_state (L := _ :: _ :: _ :: _ :: _ :: L) 0 hI H hL) ?_
          rintro _ wx ⟨rfl, H⟩
          refine ⟨_, rfl, ?_⟩
          refine WL.bin rfl rfl binv_eql rfl ?_
          refine WL.assign rfl rfl ?_
          refine (WL.done (WX.next ?_))
          refine WC.cond_dec rfl (fun c4 => ?_) (fun c4 => ?_)
          ·
            refine (WC.skip (WX.next ?_))
            refine WC.cond_dec rfl (fun c5 => ?_) (fun c5 => ?_)
            ·
              refine WC.seq ?_
              refine WC.region ?_
              refine WL.load rfl (H.rdArr ty77 0 rfl rfl) rfl ?_
              refine WL.storeArr H ty77 4 rfl rfl rfl rfl rfl ?_
              intro wx H
              refine WL.assign rfl rfl ?_
              refine WL.assign rfl rfl ?_
              refine (WL.done (WX.next ?_))
              refine (WC.ret (WX.block_ret (WX.then_ret ?_)))
              refine ret_three rfl ⟨_, rfl, by exact H.rdArr ty77 4 rfl rfl⟩ rfl rfl ?_
              refine ⟨?_, H.tail.tail.tail.tail.tail⟩
              rw [read_rot hpl (.inr c2) c3 (.inl c4)]
            ·
              refine (WC.skip (WX.block_normal (WX.next ?_)))
              refine WC.seq ?_
              refine WC.region ?_
              refine WL.load rfl (H.rdArr ty77 0 rfl rfl) rfl ?_
              refine WL.storeArr H ty77 4 rfl rfl rfl rfl rfl ?_
              intro wx H
              refine WL.assign rfl rfl ?_
              refine WL.assign rfl rfl ?_
              refine (WL.done (WX.next ?_))
              refine (WC.ret ?_)
              refine ret_three rfl ⟨_, rfl, by exact H.rdArr ty77 4 rfl rfl⟩ rfl rfl ?_
              exact absurd c4 c5
          ·
            refine WC.region ?_
            refine WL.move rfl rfl ?_
            refine WL.call call31 rfl rfl ?_
            refine Calls.mono (a_state (L := _ :: _ :: _ :: _ :: _ :: L) 1 hI H hL) ?_
            rintro _ wx ⟨rfl, H⟩
            refine ⟨_, rfl, ?_⟩
            refine WL.bin rfl rfl binv_eql rfl ?_
            refine WL.assign rfl rfl ?_
            refine (WL.done (WX.next ?_))
            refine WC.cond_dec rfl (fun c6 => ?_) (fun c6 => ?_)
            ·
              refine WC.seq ?_
              refine WC.region ?_
              refine WL.load rfl (H.rdArr ty77 0 rfl rfl) rfl ?_
              refine WL.storeArr H ty77 4 rfl rfl rfl rfl rfl ?_
              intro wx H
              refine WL.assign rfl rfl ?_
              refine WL.assign rfl rfl ?_
              refine (WL.done (WX.next ?_))
              refine (WC.ret (WX.block_ret (WX.then_ret ?_)))
              refine ret_three rfl ⟨_, rfl, by exact H.rdArr ty77 4 rfl rfl⟩ rfl rfl ?_
              refine ⟨?_, H.tail.tail.tail.tail.tail⟩
              rw [read_rot hpl (.inr c2) c3 (.inr c6)]
            ·
              refine (WC.skip (WX.block_normal (WX.next ?_)))
              refine WC.seq ?_
              refine WC.region ?_
              refine WL.load rfl (H.rdArr ty77 0 rfl rfl) rfl ?_
              refine WL.storeArr H ty77 4 rfl rfl rfl rfl rfl ?_
              intro wx H
              refine WL.assign rfl rfl ?_
              refine WL.assign rfl rfl ?_
              refine (WL.done (WX.next ?_))
              refine (WC.ret ?_)
              refine ret_three rfl ⟨_, rfl, by exact H.rdArr ty77 4 rfl rfl⟩ rfl rfl ?_
              refine ⟨?_, H.tail.tail.tail.tail.tail⟩
              rw [read_form hpl (.inr c2) c3 c4 c6]
    ·
      refine WL.no rfl rfl rfl ?_
      refine WL.no rfl rfl rfl ?_
      refine WL.no rfl rfl rfl ?_
      refine WL.no rfl rfl rfl ?_
      refine WL.no rfl rfl rfl ?_
      refine WL.pickF rfl rfl rfl ?_
      refine WL.assign rfl rfl ?_
      refine (WL.done (WX.next ?_))
      refine WC.cond_false rfl (rfl) ?_
      refine WC.seq ?_
      refine WC.region ?_
      refine WL.load rfl (H.rdArr ty77 1 rfl (pCopy_len _ _)) rfl ?_
      refine WL.load rfl (H.rdArr ty77 0 rfl rfl) rfl ?_
      refine WL.bin rfl rfl (binv_agg_neq eqI77 (by kernel_rfl) (pCopy_len _ _) rfl) rfl ?_
      refine WL.assign rfl rfl ?_
      refine (WL.done (WX.next ?_))
      refine WC.cond rfl (fun c8 => ?_) (fun c8 => ?_)
      ·
        refine WC.seq ?_
        refine WC.region ?_
        refine WL.load rfl (H.rdArr ty77 1 rfl (pCopy_len _ _)) rfl ?_
        refine WL.storeArr H ty77 4 rfl rfl rfl rfl (pCopy_len _ _) ?_
        intro wx H
        refine WL.assign rfl rfl ?_
        refine WL.assign rfl rfl ?_
        refine (WL.done (WX.next ?_))
        refine (WC.ret (WX.block_ret (WX.then_ret ?_)))
        refine ret_three rfl ⟨_, rfl, by exact H.rdArr ty77 4 rfl (pCopy_len _ _)⟩ rfl rfl ?_
        refine ⟨?_, H.tail.tail.tail.tail.tail⟩
        rw [read_b hpl (.inl g1) c8]
      ·
        refine WC.seq ?_
        refine WC.seq ?_
        refine WC.region ?_
        refine WL.move rfl rfl ?_
        refine WL.call call31 rfl rfl ?_
        refine Calls.mono (a_state (L := _ :: _ :: _ :: _ :: _ :: L) 0 hI H hL) ?_
        rintro _ wx ⟨rfl, H⟩
        refine ⟨_, rfl, ?_⟩
        refine WL.bin rfl rfl binv_eql rfl ?_
        refine WL.assign rfl rfl ?_
        refine (WL.done (WX.next ?_))
        refine WC.cond_dec rfl (fun c9 => ?_) (fun c9 => ?_)
        ·
          refine (WC.skip (WX.next ?_))
          refine WC.cond_dec rfl (fun c10 => ?_) (fun c10 => ?_)
          ·
            refine WC.seq ?_
            refine WC.region ?_
            refine WL.load rfl (H.rdArr ty77 0 rfl rfl) rfl ?_
            refine WL.storeArr H ty77 4 rfl rfl rfl rfl rfl ?_
            intro wx H
            refine WL.assign rfl rfl ?_
            refine WL.assign rfl rfl ?_
            refine (WL.done (WX.next ?_))
            refine (WC.ret (WX.block_ret (WX.then_ret ?_)))
            refine ret_three rfl ⟨_, rfl, by exact H.rdArr ty77 4 rfl rfl⟩ rfl rfl ?_
            refine ⟨?_, H.tail.tail.tail.tail.tail⟩
            rw [read_rot hpl (.inl g1) c8 (.inl c9)]
          ·
            refine (WC.skip (WX.block_normal (WX.next ?_)))
            refine WC.seq ?_
            refine WC.region ?_
            refine WL.load rfl (H.rdArr ty77 0 rfl rfl) rfl ?_
            refine WL.storeArr H ty77 4 rfl rfl rfl rfl rfl ?_
            intro wx H
            refine WL.assign rfl rfl ?_
            refine WL.assign rfl rfl ?_
            refine (WL.done (WX.next ?_))
            refine (WC.ret ?_)
            refine ret_three rfl ⟨_, rfl, by exact H.rdArr ty77 4 rfl rfl⟩ rfl rfl ?_
            exact absurd c9 c10
        ·
          refine WC.region ?_
          refine WL.move rfl rfl ?_
          refine WL.call call31 rfl rfl ?_
          refine Calls.mono (a_state (L := _ :: _ :: _ :: _ :: _ :: L) 1 hI H hL) ?_
          rintro _ wx ⟨rfl, H⟩
          refine ⟨_, rfl, ?_⟩
          refine WL.bin rfl rfl binv_eql rfl ?_
          refine WL.assign rfl rfl ?_
          refine (WL.done (WX.next ?_))
          refine WC.cond_dec rfl (fun c11 => ?_) (fun c11 => ?_)
          ·
            refine WC.seq ?_
            refine WC.region ?_
            refine WL.load rfl (H.rdArr ty77 0 rfl rfl) rfl ?_
            refine WL.storeArr H ty77 4 rfl rfl rfl rfl rfl ?_
            intro wx H
            refine WL.assign rfl rfl ?_
            refine WL.assign rfl rfl ?_
            refine (WL.done (WX.next ?_))
            refine (WC.ret (WX.block_ret (WX.then_ret ?_)))
            refine ret_three rfl ⟨_, rfl, by exact H.rdArr ty77 4 rfl rfl⟩ rfl rfl ?_
            refine ⟨?_, H.tail.tail.tail.tail.tail⟩
            rw [read_rot hpl (.inl g1) c8 (.inr c11)]
          ·
            refine (WC.skip (WX.block_normal (WX.next ?_)))
            refine WC.seq ?_
            refine WC.region ?_
            refine WL.load rfl (H.rdArr ty77 0 rfl rfl) rfl ?_
            refine WL.storeArr H ty77 4 rfl rfl rfl rfl rfl ?_
            intro wx H
            refine WL.assign rfl rfl ?_
            refine WL.assign rfl rfl ?_
            refine (WL.done (WX.next ?_))
            refine (WC.ret ?_)
            refine ret_three rfl ⟨_, rfl, by exact H.rdArr ty77 4 rfl rfl⟩ rfl rfl ?_
            refine ⟨?_, H.tail.tail.tail.tail.tail⟩
            rw [read_form hpl (.inl g1) c8 c9 c11]

end Go.Proofs.YtkncbggnaobgeaaDoor

/- Walks of functions of the program; printed by a program of this session (walk.py) out of hand-written hints. -/
namespace Go.Proofs.YtkncbggnaobgeaaDoor
open Go.RowKit
set_option linter.unusedVariables false
set_option linter.unusedSimpArgs false
set_option maxRecDepth 100000

theorem copy_ok {M : PM} {c : Nat} (h : pCopy M c ≠ zero4) : rootOk (pCopy M c) = true ∧ (pCopy M c).getD 3 0 = M.ls.length := by
  unfold pCopy at h ⊢
  split at h
  · rename_i hs
    rw [if_pos hs]
    unfold rootOf at h ⊢
    split at h
    · rename_i hb
      rw [if_pos hb]
      rw [Bool.and_eq_true, decide_eq_true_eq] at hb
      exact ⟨(parseB_iff.1 hb.1).1, hb.2⟩
    · exact absurd rfl h
  · exact absurd rfl h
theorem read_ok {M : PM} (h : (pRead M).2.2 = 0) : planOk M.ls.length = true ∧ rootOk (pRead M).1 = true ∧ (pRead M).1.getD 3 0 = M.ls.length ∧ ∃ j : Nat, j ≤ 1 ∧ (pRead M).2.1 = j := by
  unfold pRead at h ⊢
  split at h
  · cases h
  · rename_i hp
    have hpl : planOk M.ls.length = true := by simpa using hp
    rw [if_neg hp]
    split at h
    · rename_i ha
      rw [if_pos ha]
      exact ⟨hpl, (copy_ok ha.1).1, (copy_ok ha.1).2, 0, by omega, rfl⟩
    · rename_i ha
      rw [if_neg ha]
      split at h
      · rename_i hb
        rw [if_pos hb]
        exact ⟨hpl, (copy_ok hb).1, (copy_ok hb).2, 1, by omega, rfl⟩
      · split at h <;> cases h
theorem rread4_any {w0 w : World} {L : Hp} {R : RM} {p k : Nat} {M : PM} (hI : Is R p M k) (H : St w0 [] w (L ++ R.hp)) (hG : GG w0) : Calls Tryd.prog 49 #[ptr p] w fun e w' => ∃ s c t l cp er, e = .returned (.tuple #[arr [s, c, t, l], .int .i64 cp, .int .i64 er]) ∧ pRead M = ([s, c, t, l], cp, er) ∧ St w0 [] w' (L ++ R.hp) := by
  refine (rread_any hI H hG).mono ?_
  rintro _ w' ⟨rfl, h⟩
  have h4 := list4 (pRead_len M)
  refine ⟨(pRead M).1.getD 0 0, (pRead M).1.getD 1 0, (pRead M).1.getD 2 0, (pRead M).1.getD 3 0, (pRead M).2.1, (pRead M).2.2, ?_, ?_, h⟩
  · rw [← h4]
  · rw [← h4]
def fmtTo (M : PM) (W : List Int) : Nat → PM
  | 0 => M
  | i + 1 => pPut (fmtTo M W i) i W
theorem first_ok {n : Nat} (h : planOk (n : Int) = true) : rootOk [1, 0, 0, (n : Int)] = true := by
  unfold rootOk
  show (planOk (n : Int) && _) = true
  rw [h]
  rfl

theorem rformat_any {w0 w : World} {L : Hp} {R : RM} {p k : Nat} {M : PM} (hk : k < 268435456) (hI : Is R p M k) (H : St w0 [] w (L ++ R.hp)) (hG : GG w0) : Calls Tryd.prog 113 #[ptr p] w fun e w' => ∃ R', e = .returned (.int .i64 (planE M.ls.length)) ∧ Is R' p (pFormat M) (k + 40) ∧ St w0 [] w' (L ++ R'.hp) := by
  refine calls_walk_n (args := [ptr p]) Tryd.func113 rfl rfl rfl ?_
  have hL := hG.l
  have hlen := hI.lens
  replace H : St w0 [] w (([] ++ L) ++ R.hp) := H
  refine WC.seq ?_
  refine WC.region ?_
  refine WL.assign rfl rfl ?_
  refine (WL.done (WX.next ?_))
  refine WC.seq ?_
  refine WC.seq ?_
  refine WC.region ?_
  refine WL.move rfl rfl ?_
  refine WL.call call26 rfl rfl ?_
  refine Calls.mono (a_lines hI H hL) ?_
  rintro _ wx ⟨rfl, rfl⟩
  refine ⟨_, rfl, ?_⟩
  refine WL.call call65 rfl rfl ?_
  refine Calls.mono (plan_any (M.ls.length : Int) _) ?_
  rintro _ wx ⟨rfl, Hc⟩
  refine ⟨_, rfl, ?_⟩
  replace H := H.call0 Hc
  refine WL.move rfl rfl ?_
  refine WL.extract rfl rfl rfl ?_
  refine WL.extract rfl rfl rfl ?_
  refine WL.alloc H zer95 rfl ?_
  intro b3 wx hb3 hge3 H
  refine WL.storeArr H ty95 0 rfl rfl rfl rfl (planV_len _) ?_
  intro wx H
  refine WL.assign rfl rfl ?_
  refine (WL.done (WX.next ?_))
  refine WC.seq ?_
  refine WC.region ?_
  refine WL.move rfl rfl ?_
  refine WL.bin rfl rfl binv_neq rfl ?_
  refine (WL.done (WX.next ?_))
  refine WC.cond_dec rfl (fun c1 => ?_) (fun c1 => ?_)
  ·
    have hno := read_no c1
    refine WC.seq ?_
    refine WC.region ?_
    refine WL.move rfl rfl ?_
    refine WL.assign rfl rfl ?_
    refine (WL.done (WX.next ?_))
    refine (WC.ret (WX.then_ret ?_))
    refine ret_one rfl rfl ?_
    refine ⟨R, rfl, ?_, H.tail⟩
    have hb : planOk M.ls.length = false := by
      cases hb : planOk M.ls.length with
      | false => rfl
      | true => exact absurd (planE_iff.2 hb) c1
    unfold pFormat
    rw [hb]
    exact hI.mono (by omega)
  ·
    have hpl : planOk M.ls.length = true := planE_iff.1 (by omega)
    refine (WC.skip (WX.next ?_))
    refine WC.seq ?_
    refine WC.region ?_
    refine WL.move rfl rfl ?_
    refine WL.call call26 rfl rfl ?_
    refine Calls.mono (a_lines (L := _ :: L) hI H hL) ?_
    rintro _ wx ⟨rfl, rfl⟩
    refine ⟨_, rfl, ?_⟩
    refine WL.build (cells := arrC [1, 0, 0, (M.ls.length : Int)]) pla77 zer77 rfl rfl (by kernel_rfl) ?_
    refine WL.call call67 rfl rfl ?_
    refine Calls.mono (words_root_any 1 0 0 (M.ls.length : Int) _ (hG.p.of0 H) (hG.n.of0 H)) ?_
    rintro _ wx ⟨rfl, Hc⟩
    refine ⟨_, rfl, ?_⟩
    replace H := H.call0 Hc
    refine WL.move rfl rfl ?_
    refine WL.extract rfl rfl rfl ?_
    refine WL.extract rfl rfl rfl ?_
    refine WL.alloc H zer38 rfl ?_
    intro b5 wx hb5 hge5 H
    refine WL.storeArr H ty38 0 rfl rfl rfl rfl (wordsV_len _) ?_
    intro wx H
    refine WL.assign rfl rfl ?_
    refine (WL.done (WX.next ?_))
    refine WC.seq ?_
    refine WC.seq ?_
    refine WC.region ?_
    refine WL.move rfl rfl ?_
    refine (WL.done (WX.next ?_))
    refine WC.block ?_
    -- loop 1: changed [24] kept [0, 5]
    obtain ⟨b5x, hb5x⟩ : ∃ b5x, b5 = b5x := ⟨_, rfl⟩
    replace H : St w0 [] wx (((b5, .cells (arrC (wordsV [1, 0, 0, (M.ls.length : Int)])) 38) :: (b3, .cells (arrC (planV (M.ls.length : Int))) 95) :: L) ++ R.hp) := H
    refine WC.loop (Sub.cons (t := 0) rfl (Sub.cons (t := 5) rfl (Sub.nil _))) (fun z : RM × Nat => [(24, .int .i64 (z.2 : Int))]) (fun q z wx => q = 2 - z.2 ∧ z.2 ≤ 2 ∧ Is z.1 p (fmtTo M (wordsV [1, 0, 0, (M.ls.length : Int)]) z.2) (k + 20 * z.2) ∧ St w0 [] wx (((b5, .cells (arrC (wordsV [1, 0, 0, (M.ls.length : Int)])) 38) :: (b3, .cells (arrC (planV (M.ls.length : Int))) 95) :: L) ++ z.1.hp)) (2) ((R, 0)) (Sub.cons (t := 24) (by rfl) (Sub.nil _)) (⟨rfl, Nat.zero_le _, hI, H⟩) ?_
    rintro q z wx hJ N hN
    clear hI H
    obtain ⟨R3, i⟩ := z
    obtain ⟨rfl, hi, hI, H⟩ := hJ
    change i ≤ 2 at hi
    change Is R3 p (fmtTo M (wordsV [1, 0, 0, (M.ls.length : Int)]) i) (k + 20 * i) at hI
    change St w0 [] wx (((b5, .cells (arrC (wordsV [1, 0, 0, (M.ls.length : Int)])) 38) :: (b3, .cells (arrC (planV (M.ls.length : Int))) 95) :: L) ++ R3.hp) at H
    refine WC.seq ?_
    refine WC.region ?_
    refine WL.bin rfl rfl binv_lss rfl ?_
    refine (WL.done (WX.next ?_))
    refine WC.seq ?_
    refine WC.cond_dec rfl (fun c2 => ?_) (fun c2 => ?_)
    ·
      change (i : Int) < 2 at c2
      refine (WC.skip (WX.next ?_))
      refine WC.seq ?_
      refine WC.block ?_
      refine WC.seq ?_
      refine WC.region ?_
      refine WL.move rfl rfl ?_
      refine WL.assign rfl rfl ?_
      refine (WL.done (WX.next ?_))
      refine WC.region ?_
      refine WL.move rfl rfl ?_
      refine WL.move rfl rfl ?_
      refine WL.load rfl (H.rdArr ty38 0 rfl (wordsV_len _)) rfl ?_
      refine WL.call call118 rfl rfl ?_
      refine Calls.mono (rput_any (L := _ :: _ :: L) i (by omega) (wordsV [1, 0, 0, (M.ls.length : Int)]) (wordsV_len _) (by omega) hI H hL) ?_
      rintro _ wx ⟨R1, rfl, hI, H⟩
      refine ⟨_, rfl, ?_⟩
      refine (WL.done (WX.block_normal (WX.next ?_)))
      refine WC.region ?_
      refine WL.bin rfl rfl (iadd (by omega) (by omega)) rfl ?_
      refine WL.move rfl rfl ?_
      refine (WL.done (WX.round ?_))
      exact hN _ (R1, i + 1) _ _ (by show 2 - (i + 1) < 2 - i; omega) ⟨rfl, by show i + 1 ≤ 2; omega, by show Is R1 p (pPut (fmtTo M (wordsV [1, 0, 0, (M.ls.length : Int)]) i) i (wordsV [1, 0, 0, (M.ls.length : Int)])) _; exact hI.mono (by omega), H⟩ (Sub.cons (t := 24) (by rfl) (Sub.nil _)) (Sub.cons (t := 0) rfl (Sub.cons (t := 5) rfl (Sub.nil _)))
    ·
      change ¬ (i : Int) < 2 at c2
      obtain rfl : i = 2 := by omega
      refine (WC.exit (WX.then_exit (WX.then_exit (WX.block_exit (WX.next ?_)))))
      refine WC.seq ?_
      refine WC.region ?_
      refine WL.assign rfl rfl ?_
      refine (WL.done (WX.next ?_))
      refine (WC.ret ?_)
      refine ret_one rfl rfl ?_
      refine ⟨R3, by rw [planE_iff.2 hpl], ?_, H.tail.tail⟩
      unfold pFormat
      rw [hpl, if_pos rfl]
      have e1 : wordsV [1, 0, 0, (M.ls.length : Int)] = rootW (firstRoot M) := by unfold wordsV; rw [first_ok hpl]; rfl
      rw [e1] at hI
      exact hI.mono (by omega)

theorem rwrite_any {w0 w : World} {L : Hp} {R : RM} {p k : Nat} {M : PM} (c t : Int) (hk : k < 268435456) (hI : Is R p M k) (H : St w0 [] w (L ++ R.hp)) (hG : GG w0) : Calls Tryd.prog 52 #[ptr p, .int .i64 c, .int .i64 t] w fun e w' => ∃ R', e = .returned (.int .i64 (pWriteE M c t)) ∧ Is R' p (pWrite M c t) (k + 40) ∧ St w0 [] w' (L ++ R'.hp) := by
  refine calls_walk_n (args := [ptr p, .int .i64 c, .int .i64 t]) Tryd.func52 rfl rfl rfl ?_
  have hL := hG.l
  have hlen := hI.lens
  replace H : St w0 [] w (([] ++ L) ++ R.hp) := H
  refine WC.seq ?_
  refine WC.region ?_
  refine WL.assign rfl rfl ?_
  refine (WL.done (WX.next ?_))
  refine WC.seq ?_
  refine WC.region ?_
  refine WL.move rfl rfl ?_
  refine WL.call call49 rfl rfl ?_
  refine Calls.mono (rread4_any hI H hG) ?_
  rintro _ wx ⟨s0, c0, t0, l0, cp, er, rfl, hr, H⟩
  refine ⟨_, rfl, ?_⟩
  refine WL.move rfl rfl ?_
  refine WL.extract rfl rfl rfl ?_
  refine WL.extract rfl rfl rfl ?_
  refine WL.extract rfl rfl rfl ?_
  refine WL.alloc H zer77 rfl ?_
  intro b7 wx hb7 hge7 H
  refine WL.storeTo (cs' := arrC [s0, c0, t0, l0]) H ty77 0 rfl rfl rfl (by rfl) (by exact arrC_one _) (by exact Nat.le_of_ble_eq_true rfl) (by kernel_rfl) ?_
  intro wx H
  refine WL.assign rfl rfl ?_
  refine WL.assign rfl rfl ?_
  refine (WL.done (WX.next ?_))
  refine WC.seq ?_
  refine WC.seq ?_
  refine WC.region ?_
  refine WL.move rfl rfl ?_
  refine WL.bin rfl rfl binv_neq rfl ?_
  refine (WL.done (WX.next ?_))
  refine WC.cond_dec rfl (fun c1 => ?_) (fun c1 => ?_)
  ·
    refine WC.seq ?_
    refine WC.region ?_
    refine WL.move rfl rfl ?_
    refine WL.assign rfl rfl ?_
    refine (WL.done (WX.next ?_))
    refine (WC.ret (WX.then_ret ?_))
    refine ret_one rfl rfl ?_
    have e1 : pWriteE M c t = er := by unfold pWriteE; rw [hr]; exact if_pos c1
    refine ⟨R, by rw [e1], ?_, H.tail⟩
    unfold pWrite
    rw [e1, if_neg c1]
    exact hI.mono (by omega)
  ·
    obtain rfl : er = 0 := by omega
    obtain ⟨hpl, hok, hln, j, hj, hcp⟩ := read_ok (M := M) (by rw [hr])
    rw [hr] at hok hln hcp
    change cp = (j : Int) at hcp
    subst hcp
    have hbd := rootOk_word hok
    change 64 ≤ l0 ∧ l0 ≤ 4096 ∧ 1 ≤ s0 ∧ s0 ≤ 1099511627775 ∧ _ at hbd
    refine (WC.skip (WX.next ?_))
    refine WC.seq ?_
    refine WC.seq ?_
    refine WC.region ?_
    refine WL.fieldAddr fld77_0 rfl rfl ?_
    refine WL.load rfl (H.rd1 ty3 0 rfl rfl) rfl ?_
    refine WL.bin rfl rfl binv_eql rfl ?_
    refine (WL.done (WX.next ?_))
    refine WC.cond_dec rfl (fun c2 => ?_) (fun c2 => ?_)
    ·
      change s0 = 1099511627775 at c2
      refine WC.seq ?_
      refine WC.region ?_
      refine WL.assign rfl rfl ?_
      refine (WL.done (WX.next ?_))
      refine (WC.ret (WX.then_ret ?_))
      refine ret_one rfl rfl ?_
      have e1 : pWriteE M c t = 2 := by unfold pWriteE; rw [hr, if_neg c1]; exact if_pos c2
      refine ⟨R, by rw [e1], ?_, H.tail⟩
      unfold pWrite
      rw [e1, if_neg (by decide)]
      exact hI.mono (by omega)
    ·
      change ¬ s0 = 1099511627775 at c2
      refine (WC.skip (WX.next ?_))
      refine WC.seq ?_
      refine WC.region ?_
      refine WL.fieldAddr fld77_0 rfl rfl ?_
      refine WL.load rfl (H.rd1 ty3 0 rfl rfl) rfl ?_
      refine WL.bin rfl rfl (iadd (by omega) (by omega)) rfl ?_
      refine WL.fieldAddr fld77_0 rfl rfl ?_
      refine WL.storeTo (cs' := arrC [s0 + 1, c0, t0, l0]) H ty3 0 rfl rfl rfl (by rfl) (by simp [Value.cells, Value.oneCell']) (by exact Nat.le_of_ble_eq_true rfl) (by kernel_rfl) ?_
      intro wx H
      refine (WL.done (WX.next ?_))
      refine WC.seq ?_
      refine WC.region ?_
      refine WL.move rfl rfl ?_
      refine WL.move rfl rfl ?_
      refine WL.fieldAddr fld77_1 rfl rfl ?_
      refine WL.storeTo (cs' := arrC [s0 + 1, c, t0, l0]) H ty3 0 rfl rfl rfl (by rfl) (by simp [Value.cells, Value.oneCell']) (by exact Nat.le_of_ble_eq_true rfl) (by kernel_rfl) ?_
      intro wx H
      refine WL.fieldAddr fld77_2 rfl rfl ?_
      refine WL.storeTo (cs' := arrC [s0 + 1, c, t, l0]) H ty3 0 rfl rfl rfl (by rfl) (by simp [Value.cells, Value.oneCell']) (by exact Nat.le_of_ble_eq_true rfl) (by kernel_rfl) ?_
      intro wx H
      refine (WL.done (WX.next ?_))
      refine WC.seq ?_
      refine WC.region ?_
      refine WL.load rfl (H.rdAll ty77 0 rfl rfl) rfl ?_
      refine WL.call call67 rfl rfl ?_
      refine Calls.mono (words_root_any (s0 + 1) c t l0 _ (hG.p.of0 H) (hG.n.of0 H)) ?_
      rintro _ wx ⟨rfl, Hc⟩
      refine ⟨_, rfl, ?_⟩
      replace H := H.call0 Hc
      refine WL.move rfl rfl ?_
      refine WL.extract rfl rfl rfl ?_
      refine WL.extract rfl rfl rfl ?_
      refine WL.alloc H zer38 rfl ?_
      intro b10 wx hb10 hge10 H
      refine WL.storeArr H ty38 0 rfl rfl rfl rfl (wordsV_len _) ?_
      intro wx H
      refine WL.assign rfl rfl ?_
      refine (WL.done (WX.next ?_))
      refine WC.seq ?_
      refine WC.seq ?_
      refine WC.region ?_
      refine WL.move rfl rfl ?_
      refine WL.bin rfl rfl binv_neq rfl ?_
      refine (WL.done (WX.next ?_))
      refine WC.cond_dec rfl (fun c3 => ?_) (fun c3 => ?_)
      ·
        refine WC.seq ?_
        refine WC.region ?_
        refine WL.move rfl rfl ?_
        refine WL.assign rfl rfl ?_
        refine (WL.done (WX.next ?_))
        refine (WC.ret (WX.then_ret ?_))
        refine ret_one rfl rfl ?_
        have e1 : pWriteE M c t = wordsE [s0 + 1, c, t, l0] := by unfold pWriteE nextRoot; rw [hr, if_neg c1]; exact if_neg c2
        refine ⟨R, by rw [e1], ?_, H.tail.tail⟩
        unfold pWrite
        rw [e1, if_neg c3]
        exact hI.mono (by omega)
      ·
        refine (WC.skip (WX.next ?_))
        refine WC.seq ?_
        refine WC.region ?_
        refine WL.move rfl rfl ?_
        refine WL.move rfl rfl ?_
        refine WL.bin rfl rfl ((by have h := isub (P := Tryd.prog) (t := 3) (x := 1) (y := (j : Int)) (by omega) (by omega); rw [show (1 : Int) - (j : Int) = ((1 - j : Nat) : Int) by omega] at h; exact h)) rfl ?_
        refine WL.load rfl (H.rdArr ty38 0 rfl (wordsV_len _)) rfl ?_
        refine WL.call call118 rfl rfl ?_
        refine Calls.mono (rput_any (L := _ :: _ :: L) (1 - j) (by omega) (wordsV [s0 + 1, c, t, l0]) (wordsV_len _) (by omega) hI H hL) ?_
        rintro _ wx ⟨R1, rfl, hI, H⟩
        refine ⟨_, rfl, ?_⟩
        refine (WL.done (WX.next ?_))
        refine WC.seq ?_
        refine WC.region ?_
        refine WL.move rfl rfl ?_
        refine WL.move rfl rfl ?_
        refine WL.load rfl (H.rdArr ty38 0 rfl (wordsV_len _)) rfl ?_
        refine WL.call call118 rfl rfl ?_
        refine Calls.mono (rput_any (L := _ :: _ :: L) j (by omega) (wordsV [s0 + 1, c, t, l0]) (wordsV_len _) (by omega) hI H hL) ?_
        rintro _ wx ⟨R1, rfl, hI, H⟩
        refine ⟨_, rfl, ?_⟩
        refine (WL.done (WX.next ?_))
        refine WC.seq ?_
        refine WC.region ?_
        refine WL.assign rfl rfl ?_
        refine (WL.done (WX.next ?_))
        refine (WC.ret ?_)
        refine ret_one rfl rfl ?_
        have e0 : wordsE [s0 + 1, c, t, l0] = 0 := by omega
        have e1 : pWriteE M c t = 0 := by
          rw [← e0]
          unfold pWriteE nextRoot; rw [hr, if_neg c1]; exact if_neg c2
        have e2 : rootW (nextRoot M c t) = wordsV [s0 + 1, c, t, l0] := by
          unfold nextRoot wordsV
          rw [hr]
          have : rootOk [s0 + 1, c, t, l0] = true := by
            unfold wordsE at e0
            split at e0
            · assumption
            · cases e0
          rw [this]
          rfl
        refine ⟨R1, by rw [e1], ?_, H.tail.tail⟩
        unfold pWrite
        rw [e1, if_pos rfl, e2, hr]
        show Is R1 p (pPut (pPut M (1 - (j : Int)) (wordsV [s0 + 1, c, t, l0])) (j : Int) (wordsV [s0 + 1, c, t, l0])) _
        rw [show (1 : Int) - (j : Int) = ((1 - j : Nat) : Int) by omega]
        exact hI.mono (by omega)

end Go.Proofs.YtkncbggnaobgeaaDoor

/- Walks of functions of the program; printed by a program of this session (walk.py) out of hand-written hints. -/
namespace Go.Proofs.YtkncbggnaobgeaaDoor
open Go.RowKit
set_option linter.unusedVariables false
set_option linter.unusedSimpArgs false
set_option maxRecDepth 100000

theorem eqT {t : TypeId} {n : Nat} (h : EqI5 Tryd.prog t n) (hg : Tryd.prog.eqGuardType Tryd.prog.depth t = false) {xs ys : List Int} (hx : xs.length = n) (he : xs = ys) : BinV Tryd.prog .eql t (arr xs) (arr ys) (.bool true) := by
  subst he
  have := binv_agg_eql (P := Tryd.prog) h hg hx hx
  rwa [beq_self_eq_true] at this
theorem mends_no {M : PM} {r : List Int} {cp er : Int} (hr : pRead M = (r, cp, er)) (h : er ≠ 0) : mends M = false ∧ pMend M = M := by
  have : mends M = false := by unfold mends; rw [hr]; simp [h]
  exact ⟨this, by unfold pMend; rw [this]; rfl⟩
theorem mends_eq {M : PM} {r : List Int} {j : Nat} (hr : pRead M = (r, (j : Int), 0)) (hj : j ≤ 1) : mends M = !decide (pCopy M (1 - j) = r) := by
  unfold mends
  rw [hr]
  simp only [decide_true, Bool.true_and]
  rw [show ((1 : Int) - (j : Int)).toNat = 1 - j by omega]

theorem rmend_any {w0 w : World} {L : Hp} {R : RM} {p k : Nat} {M : PM} (hk : k < 268435456) (hI : Is R p M k) (H : St w0 [] w (L ++ R.hp)) (hG : GG w0) : Calls Tryd.prog 50 #[ptr p] w fun e w' => ∃ R', e = .returned (.tuple #[.bool (mends M), .int .i64 (pRead M).2.2]) ∧ Is R' p (pMend M) (k + 1) ∧ St w0 [] w' (L ++ R'.hp) := by
  refine calls_walk_n (args := [ptr p]) Tryd.func50 rfl rfl rfl ?_
  have hL := hG.l
  have hlen := hI.lens
  replace H : St w0 [] w (([] ++ L) ++ R.hp) := H
  refine WC.seq ?_
  refine WC.region ?_
  refine WL.assign rfl rfl ?_
  refine WL.assign rfl rfl ?_
  refine (WL.done (WX.next ?_))
  refine WC.seq ?_
  refine WC.region ?_
  refine WL.move rfl rfl ?_
  refine WL.call call49 rfl rfl ?_
  refine Calls.mono (rread4_any hI H hG) ?_
  rintro _ wx ⟨s0, c0, t0, l0, cp, er, rfl, hr, H⟩
  refine ⟨_, rfl, ?_⟩
  refine WL.move rfl rfl ?_
  refine WL.extract rfl rfl rfl ?_
  refine WL.extract rfl rfl rfl ?_
  refine WL.extract rfl rfl rfl ?_
  refine WL.alloc H zer77 rfl ?_
  intro b4 wx hb4 hge4 H
  refine WL.storeTo (cs' := arrC [s0, c0, t0, l0]) H ty77 0 rfl rfl rfl (by rfl) (by exact arrC_one _) (by exact Nat.le_of_ble_eq_true rfl) (by kernel_rfl) ?_
  intro wx H
  refine WL.assign rfl rfl ?_
  refine WL.assign rfl rfl ?_
  refine (WL.done (WX.next ?_))
  refine WC.seq ?_
  refine WC.seq ?_
  replace H : St w0 [] wx (((b4, .cells (arrC [s0, c0, t0, l0]) 77) :: L) ++ R.hp) := H
  replace H := H.drew
  refine WC.held (SX (World.drew wx) []) (by kernel_rfl) ?_
  generalize World.drew wx = wb at H ⊢
  have HB := St.refl wb
  refine WH.take 0 rfl (by kernel_rfl) (by kernel_rfl) (by kernel_rfl) (fun _ _ _ h => h) ⟨_, HB⟩ (fun w' hS => EX.move rfl) rfl ?_
  refine WH.take 1 rfl (by kernel_rfl) (by kernel_rfl) (by kernel_rfl) (fun _ _ _ h => h) ⟨_, HB⟩ (fun w' hS => EX.bin rfl rfl (binv_neq)) rfl ?_
  refine WH.take 2 rfl (by kernel_rfl) (by kernel_rfl) (by kernel_rfl) (fun _ _ _ h => h) ⟨_, HB⟩ (fun w' hS => EX.move rfl) rfl ?_
  refine WH.splitD (t := 17) rfl (fun g1 => ?_) (fun g1 => ?_)
  ·
    refine WH.takeNo 3 rfl (by kernel_rfl) (by kernel_rfl) (by kernel_rfl) (fun _ _ _ h => h) ⟨_, HB⟩ rfl rfl rfl ?_
    refine WH.takeNo 4 rfl (by kernel_rfl) (by kernel_rfl) (by kernel_rfl) (fun _ _ _ h => h) ⟨_, HB⟩ rfl rfl rfl ?_
    refine WH.takeNo 5 rfl (by kernel_rfl) (by kernel_rfl) (by kernel_rfl) (fun _ _ _ h => h) ⟨_, HB⟩ rfl rfl rfl ?_
    refine WH.takeNo 7 rfl (by kernel_rfl) (by kernel_rfl) (by kernel_rfl) (fun _ _ _ h => h) ⟨_, HB⟩ rfl rfl rfl ?_
    refine WH.takeNo 6 rfl (by kernel_rfl) (by kernel_rfl) (by kernel_rfl) (fun _ _ _ h => h) ⟨_, HB⟩ rfl rfl rfl ?_
    refine WH.takeNo 8 rfl (by kernel_rfl) (by kernel_rfl) (by kernel_rfl) (fun _ _ _ h => h) ⟨_, HB⟩ rfl rfl rfl ?_
    refine WH.take 9 rfl (by kernel_rfl) (by kernel_rfl) (by kernel_rfl) (fun _ _ _ h => h) ⟨_, HB⟩ (fun w' hS => EX.pickT rfl rfl) rfl ?_
    refine WH.done (by kernel_rfl) ?_
    replace H := H.call HB
    refine WX.next ?_
    refine WC.cond_true rfl (rfl) ?_
    refine WC.seq ?_
    refine WC.region ?_
    refine WL.move rfl rfl ?_
    refine WL.assign rfl rfl ?_
    refine WL.assign rfl rfl ?_
    refine (WL.done (WX.next ?_))
    refine (WC.ret (WX.then_ret ?_))
    refine ret_two rfl rfl rfl ?_
    exact ⟨R, by rw [(mends_no hr g1).1, hr], by rw [(mends_no hr g1).2]; exact hI.mono (by omega), H.tail⟩
  ·
    obtain rfl : er = 0 := by omega
    obtain ⟨hpl, hok, hln, j, hj, hcp⟩ := read_ok (M := M) (by rw [hr])
    rw [hr] at hok hln hcp
    change cp = (j : Int) at hcp
    subst hcp
    refine WH.takeYes 3 rfl (by kernel_rfl) (by kernel_rfl) (by kernel_rfl) (fun _ _ _ h => h) ⟨_, HB⟩ rfl rfl (fun w' hS => EX.move rfl) rfl ?_
    refine WH.takeYes 4 rfl (by kernel_rfl) (by kernel_rfl) (by kernel_rfl) (fun _ _ _ h => h) ⟨_, HB⟩ rfl rfl (fun w' hS => EX.move rfl) rfl ?_
    refine WH.takeYes 5 rfl (by kernel_rfl) (by kernel_rfl) (by kernel_rfl) (fun _ _ _ h => h) ⟨_, HB⟩ rfl rfl (fun w' hS => EX.bin rfl rfl ((by have h := isub (P := Tryd.prog) (t := 3) (x := 1) (y := (j : Int)) (by omega) (by omega); rw [show (1 : Int) - (j : Int) = ((1 - j : Nat) : Int) by omega] at h; exact h))) rfl ?_
    refine WH.takeYes 7 rfl (by kernel_rfl) (by kernel_rfl) (by kernel_rfl) (fun _ _ _ h => h) ⟨_, HB⟩ rfl rfl (fun w' hS => EX.load rfl (Rd.all ty77 (hS.block (H.blk 0 rfl) (by simp)) rfl)) rfl ?_
    refine WH.hard 6 rfl (by kernel_rfl) ?_
    refine WL.yes rfl rfl ?_
    refine WL.call call117 rfl rfl ?_
    refine Calls.mono (rload_m (1 - j) (by have := planOk_big hpl; omega) hI ((hI.mem (L := _ :: L) H hL).old HB) ((hG.of0 H).of0 HB)) ?_
    rintro _ wx ⟨rfl, Hc⟩
    refine ⟨_, rfl, ?_⟩
    replace HB := HB.call0 Hc
    refine WL.done (WX.heldOn ⟨_, HB⟩ ?_)
    refine WH.takeYes 8 rfl (by kernel_rfl) (by kernel_rfl) (by kernel_rfl) (fun _ _ _ h => h) ⟨_, HB⟩ rfl rfl (fun w' hS => EX.bin rfl rfl (binv_agg_eql eqI77 (by kernel_rfl) (pCopy_len _ _) rfl)) rfl ?_
    refine WH.take 9 rfl (by kernel_rfl) (by kernel_rfl) (by kernel_rfl) (fun _ _ _ h => h) ⟨_, HB⟩ (fun w' hS => EX.pickF rfl rfl) rfl ?_
    refine WH.done (by kernel_rfl) ?_
    replace H := H.call HB
    refine WX.next ?_
    refine WC.cond rfl (fun c2 => ?_) (fun c2 => ?_)
    ·
      refine WC.seq ?_
      refine WC.region ?_
      refine WL.move rfl rfl ?_
      refine WL.assign rfl rfl ?_
      refine WL.assign rfl rfl ?_
      refine (WL.done (WX.next ?_))
      refine (WC.ret (WX.then_ret ?_))
      refine ret_two rfl rfl rfl ?_
      have he : pCopy M (1 - j) = [s0, c0, t0, l0] := eq_of_beq c2
      have e1 : mends M = false := by rw [mends_eq hr hj, decide_eq_true he]; rfl
      exact ⟨R, by rw [e1, hr], by unfold pMend; rw [e1]; exact hI.mono (by omega), H.tail⟩
    ·
      refine (WC.skip (WX.next ?_))
      refine WC.seq ?_
      refine WC.region ?_
      refine WL.load rfl (H.rdAll ty77 0 rfl rfl) rfl ?_
      refine WL.call call67 rfl rfl ?_
      refine Calls.mono (words_root_any s0 c0 t0 l0 _ (hG.p.of0 H) (hG.n.of0 H)) ?_
      rintro _ wx ⟨rfl, Hc⟩
      refine ⟨_, rfl, ?_⟩
      replace H := H.call0 Hc
      refine WL.move rfl rfl ?_
      refine WL.extract rfl rfl rfl ?_
      refine WL.extract rfl rfl rfl ?_
      refine WL.alloc H zer38 rfl ?_
      intro b7 wx hb7 hge7 H
      refine WL.storeArr H ty38 0 rfl rfl rfl rfl (wordsV_len _) ?_
      intro wx H
      refine WL.assign rfl rfl ?_
      refine (WL.done (WX.next ?_))
      refine WC.seq ?_
      refine WC.region ?_
      refine WL.move rfl rfl ?_
      refine WL.move rfl rfl ?_
      refine WL.bin rfl rfl ((by have h := isub (P := Tryd.prog) (t := 3) (x := 1) (y := (j : Int)) (by omega) (by omega); rw [show (1 : Int) - (j : Int) = ((1 - j : Nat) : Int) by omega] at h; exact h)) rfl ?_
      refine WL.load rfl (H.rdArr ty38 0 rfl (wordsV_len _)) rfl ?_
      refine WL.call call111 rfl rfl ?_
      refine Calls.mono (a_heal (L := _ :: _ :: L) ((1 - j : Nat) : Int) (wordsV [s0, c0, t0, l0]) (wordsV_len _) (by omega) hI H hL) ?_
      rintro _ wx ⟨R1, rfl, hI, H⟩
      refine ⟨_, rfl, ?_⟩
      refine (WL.done (WX.next ?_))
      refine WC.seq ?_
      refine WC.region ?_
      refine WL.assign rfl rfl ?_
      refine WL.assign rfl rfl ?_
      refine (WL.done (WX.next ?_))
      refine (WC.ret ?_)
      refine ret_two rfl rfl rfl ?_
      have he : ¬ pCopy M (1 - j) = [s0, c0, t0, l0] := fun h => by rw [h, beq_self_eq_true] at c2; cases c2
      have e1 : mends M = true := by rw [mends_eq hr hj, decide_eq_false he]; rfl
      have e2 : rootW (pRead M).1 = wordsV [s0, c0, t0, l0] := by unfold wordsV; rw [hr]; rw [show rootOk [s0, c0, t0, l0] = true from hok]; rfl
      refine ⟨R1, by rw [e1, hr], ?_, H.tail.tail⟩
      unfold pMend
      rw [e1, if_pos rfl, e2, hr]
      show Is R1 p (M.heal (1 - (j : Int)) (wordsV [s0, c0, t0, l0])) _
      rw [show (1 : Int) - (j : Int) = ((1 - j : Nat) : Int) by omega]
      exact hI

end Go.Proofs.YtkncbggnaobgeaaDoor

/- Memories whose two first lines are whole: Format, Read, Write, Mend there. No Go in sight. -/
namespace Go.Proofs.YtkncbggnaobgeaaDoor
set_option linter.unusedVariables false
set_option linter.unusedSimpArgs false
set_option maxRecDepth 100000

theorem pl0_clean : pl0 = clean zeros8 := by unfold clean; rw [enc_zero]; rfl
/-- Two lines with these words, the others zero. -/
def RS (n : Nat) (a b : List Int) (E : List (List Int)) : PM := { ls := clean a :: clean b :: List.replicate (n - 2) pl0, span := 0, evs := E }
def W8 (a : List Int) : Prop := isWords a = true ∧ a.length = 8
section
variable {n : Nat} {a b w r s : List Int} {E : List (List Int)}
theorem rs_len (hn : 2 ≤ n) : (RS n a b E).ls.length = n := by simp [RS]; omega
theorem rs_l0 : (RS n a b E).line (0 : Nat) = clean a := rfl
theorem rs_l1 : (RS n a b E).line (1 : Nat) = clean b := rfl
theorem rs_calm : (RS n a b E).calm := by
  intro l hl
  unfold RS at hl
  simp only [List.mem_cons] at hl
  rcases hl with rfl | rfl | hl
  · rfl
  · rfl
  · rw [List.eq_of_mem_replicate hl]; rfl
theorem rs_at0 {E' : List (List Int)} : (RS n a b E).at 0 (clean w) E' = RS n w b E' := rfl
theorem rs_at1 {E' : List (List Int)} : (RS n a b E).at 1 (clean w) E' = RS n a w E' := rfl
theorem fresh_rs (hn : 2 ≤ n) : PM.fresh n = RS n zeros8 zeros8 [] := by
  obtain ⟨m, rfl⟩ : ∃ m, n = m + 2 := ⟨n - 2, by omega⟩
  unfold PM.fresh RS
  rw [← pl0_clean]
  rfl
theorem rs_put0 (hn : 2 ≤ n) (ha : W8 a) (hw : W8 w) : pPut (RS n a b E) 0 w = RS n w b (E ++ blk 0 0 w) := by
  have h := pPut_core (M := RS n a b E) (c := 0) (w := w) (by rw [rs_len hn]; omega) rs_calm rfl (clean_ok ha.2 ha.1) (by rw [rs_l0, clean_chk ha.1]; decide) hw.1 hw.2
  exact h
theorem rs_put1 (hn : 2 ≤ n) (hb : W8 b) (hw : W8 w) : pPut (RS n a b E) 1 w = RS n a w (E ++ blk 0 1 w) := by
  have h := pPut_core (M := RS n a b E) (c := 1) (w := w) (by rw [rs_len hn]; omega) rs_calm rfl (clean_ok hb.2 hb.1) (by rw [rs_l1, clean_chk hb.1]; decide) hw.1 hw.2
  exact h
theorem zeros_W8 : W8 zeros8 := ⟨rfl, rfl⟩
theorem rootW_W8 (h : rootOk r = true) : W8 (rootW r) := ⟨rootW_words h, rootW_length r⟩
theorem rs_copy0 (hn : 2 ≤ n) (ha : W8 a) : pCopy (RS n a b E) 0 = rootOf n a := by
  rw [copy_clean (ws := a) rs_l0 ha.1, rs_len hn]
theorem rs_copy1 (hn : 2 ≤ n) (hb : W8 b) : pCopy (RS n a b E) 1 = rootOf n b := by
  rw [copy_clean (ws := b) rs_l1 hb.1, rs_len hn]
theorem planOk_of (hn : 64 ≤ n ∧ n ≤ 4096) : planOk (n : Int) = true := by unfold planOk; simp; omega
theorem rs_read0 (hn : 64 ≤ n ∧ n ≤ 4096) (ha : W8 a) (hb : W8 b) (h : rootOf n a = r) (hr : r ≠ zero4) (hge : r.getD 0 0 ≥ (rootOf n b).getD 0 0) : pRead (RS n a b E) = (r, 0, 0) := by
  unfold pRead
  rw [rs_len (by omega), planOk_of hn, rs_copy0 (by omega) ha, rs_copy1 (by omega) hb, h, if_neg (by decide), if_pos ⟨hr, hge⟩]
theorem rs_read1 (hn : 64 ≤ n ∧ n ≤ 4096) (ha : W8 a) (hb : W8 b) (h : rootOf n b = r) (hr : r ≠ zero4) (hlt : rootOf n a = zero4 ∨ (rootOf n a).getD 0 0 < r.getD 0 0) : pRead (RS n a b E) = (r, 1, 0) := by
  unfold pRead
  rw [rs_len (by omega), planOk_of hn, rs_copy0 (by omega) ha, rs_copy1 (by omega) hb, h, if_neg (by decide), if_neg ?_, if_pos hr]
  rintro ⟨h1, h2⟩
  rcases hlt with h3 | h3
  · exact h1 h3
  · omega
/-- A root of a memory of n lines. -/
def RootN (n : Nat) (r : List Int) : Prop := r.length = 4 ∧ rootOk r = true ∧ r.getD 3 0 = n
theorem RootN.of (h : RootN n r) : rootOf n (rootW r) = r := rootOf_W h.1 h.2.1 h.2.2
theorem RootN.W (h : RootN n r) : W8 (rootW r) := rootW_W8 h.2.1
theorem RootN.ne (h : RootN n r) : r ≠ zero4 := rootOk_ne h.2.1
theorem rs_readW (hn : 64 ≤ n ∧ n ≤ 4096) (h : RootN n r) : pRead (RS n (rootW r) (rootW r) E) = (r, 0, 0) :=
  rs_read0 hn h.W h.W h.of h.ne (by rw [h.of]; exact Int.le_refl _)
theorem first_rootN (hn : 64 ≤ n ∧ n ≤ 4096) : RootN n [1, 0, 0, (n : Int)] := by
  refine ⟨rfl, ?_, rfl⟩
  unfold rootOk
  show (planOk (n : Int) && _) = true
  rw [planOk_of hn]
  rfl
theorem format_fresh (hn : 64 ≤ n ∧ n ≤ 4096) : pFormat (PM.fresh n) = RS n (rootW [1, 0, 0, (n : Int)]) (rootW [1, 0, 0, (n : Int)]) (blk 0 0 (rootW [1, 0, 0, (n : Int)]) ++ blk 0 1 (rootW [1, 0, 0, (n : Int)])) := by
  have hW := (first_rootN hn).W
  have hl : (RS n zeros8 zeros8 []).ls.length = n := rs_len (by omega)
  unfold pFormat firstRoot
  rw [fresh_rs (by omega), hl, planOk_of hn, if_pos rfl, rs_put0 (by omega) zeros_W8 hW, rs_put1 (by omega) zeros_W8 hW]
  rfl
/-- A write. -/
theorem write_rs (hn : 64 ≤ n ∧ n ≤ 4096) (h : RootN n r) {c t : Int} (h' : RootN n [r.getD 0 0 + 1, c, t, (n : Int)]) :
    pWriteE (RS n (rootW r) (rootW r) E) c t = 0 ∧ pWrite (RS n (rootW r) (rootW r) E) c t = RS n (rootW [r.getD 0 0 + 1, c, t, (n : Int)]) (rootW [r.getD 0 0 + 1, c, t, (n : Int)]) (E ++ blk 0 1 (rootW [r.getD 0 0 + 1, c, t, (n : Int)]) ++ blk 0 0 (rootW [r.getD 0 0 + 1, c, t, (n : Int)])) := by
  have hr := rs_readW (E := E) hn h
  have hnx : nextRoot (RS n (rootW r) (rootW r) E) c t = [r.getD 0 0 + 1, c, t, (n : Int)] := by
    unfold nextRoot
    rw [hr]
    simp only []
    rw [h.2.2]
  have hlt : r.getD 0 0 ≠ 1099511627775 := by
    have := (rootOk_word h'.2.1).2.2.2.1
    change r.getD 0 0 + 1 ≤ _ at this
    omega
  have hE : pWriteE (RS n (rootW r) (rootW r) E) c t = 0 := by
    unfold pWriteE
    rw [hnx, hr]
    simp only [ne_eq, not_true_eq_false, if_false]
    rw [if_neg hlt]
    unfold wordsE
    rw [h'.2.1]
    rfl
  refine ⟨hE, ?_⟩
  unfold pWrite
  rw [if_pos hE, hnx, hr]
  show pPut (pPut (RS n (rootW r) (rootW r) E) 1 _) 0 _ = _
  rw [rs_put1 (by omega) h.W h'.W, rs_put0 (by omega) h.W h'.W]
end
end Go.Proofs.YtkncbggnaobgeaaDoor

/- Walks of functions of the program; printed by a program of this session (walk.py) out of hand-written hints. -/
namespace Go.Proofs.YtkncbggnaobgeaaDoor
open Go.RowKit
set_option linter.unusedVariables false
set_option linter.unusedSimpArgs false
set_option maxRecDepth 100000

def root64 : List Int := [1, 0, 0, 64]
def next64 : List Int := [2, 0, 5, 64]
theorem next64_N : RootN 64 next64 := ⟨rfl, by decide, rfl⟩
theorem sane_format : pFormat (PM.fresh (64 : Int).toNat) = RS 64 (rootW root64) (rootW root64) (blk 0 0 (rootW root64) ++ blk 0 1 (rootW root64)) := format_fresh (n := 64) (by omega)
theorem sane_read {E : List (List Int)} : pRead (RS 64 (rootW root64) (rootW root64) E) = (root64, 0, 0) := rs_readW (n := 64) (by omega) (first_rootN (by omega))
theorem sane_write {E : List (List Int)} : pWriteE (RS 64 (rootW root64) (rootW root64) E) 0 5 = 0 ∧ pWrite (RS 64 (rootW root64) (rootW root64) E) 0 5 = RS 64 (rootW next64) (rootW next64) (E ++ blk 0 1 (rootW next64) ++ blk 0 0 (rootW next64)) :=
  write_rs (n := 64) (r := root64) (by omega) (first_rootN (by omega)) (c := 0) (t := 5) next64_N
theorem sane_read2 {E : List (List Int)} : pRead (RS 64 (rootW next64) (rootW next64) E) = (next64, 0, 0) := rs_readW (n := 64) (by omega) next64_N

theorem sanity8_any (w : World) (hG : GG w) : Calls Tryd.prog 46 #[] w fun e w' => e = .returned (.bool true) ∧ St w [] w' [] := by
  refine calls_walk_n (args := []) Tryd.func46 rfl rfl rfl ?_
  have hL := hG.l
  have H := St.refl w
  refine WC.seq ?_
  refine WC.region ?_
  refine WL.assign rfl rfl ?_
  refine (WL.done (WX.next ?_))
  refine WC.seq ?_
  refine WC.region ?_
  refine WL.call call65 rfl rfl ?_
  refine Calls.mono (plan_any 64 _) ?_
  rintro _ wx ⟨rfl, Hc⟩
  refine ⟨_, rfl, ?_⟩
  replace H := H.call0 Hc
  refine WL.move rfl rfl ?_
  refine WL.extract rfl rfl rfl ?_
  refine WL.extract rfl rfl rfl ?_
  refine WL.alloc H zer95 rfl ?_
  intro b1 wx hb1 hge1 H
  refine WL.storeArr H ty95 0 rfl rfl rfl rfl (planV_len _) ?_
  intro wx H
  refine WL.assign rfl rfl ?_
  refine (WL.done (WX.next ?_))
  refine WC.seq ?_
  refine WC.region ?_
  refine WL.call call65 rfl rfl ?_
  refine Calls.mono (plan_any 4096 _) ?_
  rintro _ wx ⟨rfl, Hc⟩
  refine ⟨_, rfl, ?_⟩
  replace H := H.call0 Hc
  refine WL.move rfl rfl ?_
  refine WL.extract rfl rfl rfl ?_
  refine WL.extract rfl rfl rfl ?_
  refine WL.alloc H zer95 rfl ?_
  intro b3 wx hb3 hge3 H
  refine WL.storeArr H ty95 0 rfl rfl rfl rfl (planV_len _) ?_
  intro wx H
  refine WL.assign rfl rfl ?_
  refine (WL.done (WX.next ?_))
  refine WC.seq ?_
  refine WC.region ?_
  refine WL.call call65 rfl rfl ?_
  refine Calls.mono (plan_any 63 _) ?_
  rintro _ wx ⟨rfl, Hc⟩
  refine ⟨_, rfl, ?_⟩
  replace H := H.call0 Hc
  refine WL.move rfl rfl ?_
  refine WL.extract rfl rfl rfl ?_
  refine WL.extract rfl rfl rfl ?_
  refine WL.alloc H zer95 rfl ?_
  intro b5 wx hb5 hge5 H
  refine WL.storeArr H ty95 0 rfl rfl rfl rfl (planV_len _) ?_
  intro wx H
  refine WL.assign rfl rfl ?_
  refine (WL.done (WX.next ?_))
  refine WC.seq ?_
  refine WC.region ?_
  refine WL.call call23 rfl rfl ?_
  refine Calls.mono (a_new_ok 64 (by decide) H hL) ?_
  rintro _ wx ⟨p, R, rfl, hI, H⟩
  refine ⟨_, rfl, ?_⟩
  refine WL.assign rfl rfl ?_
  refine (WL.done (WX.next ?_))
  refine WC.seq ?_
  refine WC.seq ?_
  refine WC.region ?_
  refine WL.move rfl rfl ?_
  refine WL.bin rfl rfl (binv_ptr_eql (by kernel_rfl) _) rfl ?_
  refine (WL.done (WX.next ?_))
  refine WC.cond_false rfl (rfl) ?_
  refine (WC.skip (WX.next ?_))
  refine WC.seq ?_
  refine WC.region ?_
  refine WL.move rfl rfl ?_
  refine WL.call call113 rfl rfl ?_
  refine Calls.mono (rformat_any (L := _ :: _ :: _ :: []) (by omega) hI H hG) ?_
  rintro _ wx ⟨R, rfl, hI, H⟩
  refine ⟨_, rfl, ?_⟩
  rw [sane_format] at hI
  refine WL.assign rfl rfl ?_
  refine (WL.done (WX.next ?_))
  refine WC.seq ?_
  refine WC.region ?_
  refine WL.move rfl rfl ?_
  refine WL.call call49 rfl rfl ?_
  refine Calls.mono (rread_any (L := _ :: _ :: _ :: []) hI H hG) ?_
  rintro _ wx ⟨rfl, H⟩
  refine ⟨_, rfl, ?_⟩
  rw [sane_read]
  refine WL.move rfl rfl ?_
  refine WL.extract rfl rfl rfl ?_
  refine WL.extract rfl rfl rfl ?_
  refine WL.extract rfl rfl rfl ?_
  refine WL.alloc H zer77 rfl ?_
  intro b9 wx hb9 hge9 H
  refine WL.storeArr (ws' := root64) H ty77 0 rfl rfl rfl rfl rfl ?_
  intro wx H
  refine WL.assign rfl rfl ?_
  refine WL.assign rfl rfl ?_
  refine (WL.done (WX.next ?_))
  refine WC.seq ?_
  refine WC.region ?_
  refine WL.move rfl rfl ?_
  refine WL.call call52 rfl rfl ?_
  refine Calls.mono (rwrite_any (L := _ :: _ :: _ :: _ :: []) 0 5 (by omega) hI H hG) ?_
  rintro _ wx ⟨R, rfl, hI, H⟩
  refine ⟨_, rfl, ?_⟩
  rw [sane_write.1]
  rw [sane_write.2] at hI
  refine WL.assign rfl rfl ?_
  refine (WL.done (WX.next ?_))
  refine WC.seq ?_
  refine WC.region ?_
  refine WL.move rfl rfl ?_
  refine WL.call call49 rfl rfl ?_
  refine Calls.mono (rread_any (L := _ :: _ :: _ :: _ :: []) hI H hG) ?_
  rintro _ wx ⟨rfl, H⟩
  refine ⟨_, rfl, ?_⟩
  rw [sane_read2]
  refine WL.move rfl rfl ?_
  refine WL.extract rfl rfl rfl ?_
  refine WL.extract rfl rfl rfl ?_
  refine WL.extract rfl rfl rfl ?_
  refine WL.alloc H zer77 rfl ?_
  intro b13 wx hb13 hge13 H
  refine WL.storeArr (ws' := next64) H ty77 0 rfl rfl rfl rfl rfl ?_
  intro wx H
  refine WL.assign rfl rfl ?_
  refine WL.assign rfl rfl ?_
  refine (WL.done (WX.next ?_))
  refine WC.seq ?_
  refine WC.region ?_
  refine WL.load rfl (H.rdArr ty95 4 rfl (planV_len _)) rfl ?_
  refine WL.build (cells := arrC [64, 2, 8, 10, 4, 14, 16, 3]) pla95 zer95 rfl rfl (by kernel_rfl) ?_
  refine WL.bin rfl rfl (eqT eqI95 (by kernel_rfl) (planV_len _) (by decide)) rfl ?_
  refine WL.move rfl rfl ?_
  refine WL.known (t := 53) rfl (b := true) (rfl) ?_
  refine WL.yes rfl rfl ?_
  refine WL.load rfl (H.rdArr ty95 3 rfl (planV_len _)) rfl ?_
  refine WL.yes rfl rfl ?_
  refine WL.build (cells := arrC [4096, 2, 256, 258, 16, 274, 320, 236]) pla95 zer95 rfl rfl (by kernel_rfl) ?_
  refine WL.yes rfl rfl ?_
  refine WL.bin rfl rfl (eqT eqI95 (by kernel_rfl) (planV_len _) (by decide)) rfl ?_
  refine WL.pickT rfl rfl rfl ?_
  refine WL.assign rfl rfl ?_
  refine (WL.done (WX.next ?_))
  refine WC.seq ?_
  refine WC.region ?_
  refine WL.load rfl (H.rdArr ty77 1 rfl rfl) rfl ?_
  refine WL.build (cells := arrC root64) pla77 zer77 rfl rfl (by kernel_rfl) ?_
  refine WL.bin rfl rfl (eqT eqI77 (by kernel_rfl) (xs := root64) rfl rfl) rfl ?_
  refine WL.move rfl rfl ?_
  refine WL.known (t := 61) rfl (b := true) (rfl) ?_
  refine WL.yes rfl rfl ?_
  refine WL.move rfl rfl ?_
  refine WL.yes rfl rfl ?_
  refine WL.bin rfl rfl binv_eql rfl ?_
  refine WL.pickT rfl rfl rfl ?_
  refine WL.assign rfl rfl ?_
  refine (WL.done (WX.next ?_))
  refine WC.seq ?_
  refine WC.region ?_
  refine WL.load rfl (H.rdArr ty77 0 rfl rfl) rfl ?_
  refine WL.build (cells := arrC next64) pla77 zer77 rfl rfl (by kernel_rfl) ?_
  refine WL.bin rfl rfl (eqT eqI77 (by kernel_rfl) (xs := next64) rfl rfl) rfl ?_
  refine WL.move rfl rfl ?_
  refine WL.known (t := 68) rfl (b := true) (rfl) ?_
  refine WL.yes rfl rfl ?_
  refine WL.move rfl rfl ?_
  refine WL.yes rfl rfl ?_
  refine WL.bin rfl rfl binv_eql rfl ?_
  refine WL.pickT rfl rfl rfl ?_
  refine WL.assign rfl rfl ?_
  refine (WL.done (WX.next ?_))
  refine WC.seq ?_
  refine WC.region ?_
  refine WL.move rfl rfl ?_
  refine WL.move rfl rfl ?_
  refine WL.known (t := 73) rfl (b := true) (rfl) ?_
  refine WL.yes rfl rfl ?_
  refine WL.move rfl rfl ?_
  refine WL.pickT rfl rfl rfl ?_
  refine WL.move rfl rfl ?_
  refine WL.known (t := 76) rfl (b := true) (rfl) ?_
  refine WL.yes rfl rfl ?_
  refine WL.move rfl rfl ?_
  refine WL.pickT rfl rfl rfl ?_
  refine WL.move rfl rfl ?_
  refine WL.known (t := 79) rfl (b := true) (rfl) ?_
  refine WL.yes rfl rfl ?_
  refine WL.move rfl rfl ?_
  refine WL.yes rfl rfl ?_
  refine WL.bin rfl rfl binv_eql rfl ?_
  refine WL.pickT rfl rfl rfl ?_
  refine WL.move rfl rfl ?_
  refine WL.known (t := 83) rfl (b := true) (rfl) ?_
  refine WL.yes rfl rfl ?_
  refine WL.move rfl rfl ?_
  refine WL.yes rfl rfl ?_
  refine WL.bin rfl rfl binv_eql rfl ?_
  refine WL.pickT rfl rfl rfl ?_
  refine WL.move rfl rfl ?_
  refine WL.known (t := 87) rfl (b := true) (rfl) ?_
  refine WL.yes rfl rfl ?_
  refine WL.move rfl rfl ?_
  refine WL.yes rfl rfl ?_
  refine WL.bin rfl rfl binv_eql rfl ?_
  refine WL.pickT rfl rfl rfl ?_
  refine WL.move rfl rfl ?_
  refine WL.known (t := 91) rfl (b := true) (rfl) ?_
  refine WL.yes rfl rfl ?_
  refine WL.move rfl rfl ?_
  refine WL.yes rfl rfl ?_
  refine WL.bin rfl rfl binv_eql rfl ?_
  refine WL.pickT rfl rfl rfl ?_
  refine WL.move rfl rfl ?_
  refine WL.known (t := 95) rfl (b := true) (rfl) ?_
  refine WL.yes rfl rfl ?_
  refine WL.move rfl rfl ?_
  refine WL.yes rfl rfl ?_
  refine WL.bin rfl rfl binv_eql rfl ?_
  refine WL.pickT rfl rfl rfl ?_
  refine WL.move rfl rfl ?_
  refine WL.known (t := 99) rfl (b := true) (rfl) ?_
  refine WL.yes rfl rfl ?_
  refine WL.move rfl rfl ?_
  refine WL.yes rfl rfl ?_
  refine WL.bin rfl rfl binv_eql rfl ?_
  refine WL.pickT rfl rfl rfl ?_
  refine WL.move rfl rfl ?_
  refine WL.known (t := 103) rfl (b := true) (rfl) ?_
  refine WL.yes rfl rfl ?_
  refine WL.move rfl rfl ?_
  refine WL.yes rfl rfl ?_
  refine WL.bin rfl rfl binv_eql rfl ?_
  refine WL.pickT rfl rfl rfl ?_
  refine WL.assign rfl rfl ?_
  refine (WL.done (WX.next ?_))
  refine (WC.ret ?_)
  refine ret_one rfl rfl ?_
  exact ⟨rfl, H.weaken (List.nil_sublist _)⟩

end Go.Proofs.YtkncbggnaobgeaaDoor

/- What else the laid variables give the walks; structs and arrays of integers among a law's arguments. -/
namespace Go.Proofs.YtkncbggnaobgeaaDoor
open Go.ChangeShapes Go.WideShapes Go.ChangeAt Go.WideMaps Go.WideElems Go.RowKit
set_option linter.unusedVariables false
set_option linter.unusedSimpArgs false
set_option linter.unusedSectionVars false
set_option maxRecDepth 100000

theorem gPtr : Tryd.prog.globalNamed "alum/pointer.pointers" = some 0 := by kernel_rfl
theorem gNib : Tryd.prog.globalNamed "alum/hash.nibbles" = some 1 := by kernel_rfl
theorem GP.laid {w : World} {laid : List (String × DataW Unit)} (h : laidMet Tryd.prog laid w) (hm : ("alum/pointer.pointers", Rows.laid_alum_pointer_pointers) ∈ laid) : GP w := by
  obtain ⟨t', fr, hb⟩ := laid_ints (k := .i64) (f := 3) (t := (Tryd.prog.globals[0]?.map (·.type)).getD 0) h hm gPtr (by kernel_rfl) (by kernel_rfl)
  exact ⟨t', fr, hb.trans (by kernel_rfl)⟩
theorem GN.laid {w : World} {laid : List (String × DataW Unit)} (h : laidMet Tryd.prog laid w) (hm : ("alum/hash.nibbles", Rows.laid_alum_hash_nibbles) ∈ laid) : GN w := by
  obtain ⟨t', fr, hb⟩ := laid_ints (k := .u64) (f := 2) (t := (Tryd.prog.globals[1]?.map (·.type)).getD 0) h hm gNib (by kernel_rfl) (by kernel_rfl)
  exact ⟨t', fr, hb.trans (by kernel_rfl)⟩
theorem GG.laid {w : World} {laid : List (String × DataW Unit)} (h : laidMet Tryd.prog laid w) (hm : ("math/bits.deBruijn64tab", Rows.laid_math_bits_deBruijn64tab) ∈ laid) (hp : ("alum/pointer.pointers", Rows.laid_alum_pointer_pointers) ∈ laid) (hn : ("alum/hash.nibbles", Rows.laid_alum_hash_nibbles) ∈ laid) : GG w :=
  ⟨L64.laid h hm, GP.laid h hp, GN.laid h hn⟩
section
variable {H : Type} {enc : TypeId × Value → H} {w : World} {base b0 : Nat} {spare : Nat → Bool} {held : Bool} {r : Reach}
theorem leafS_open {t : TypeId} {fs : Array Field} {f n : Nat} (hu : Tryd.prog.underlying t = some (.struct fs)) (hl : leafB Tryd.prog .i64 f t = true) (hn : Tryd.prog.cellsOf t = n) {v : Value} {d : DataW H} {ps : List MemPlace} (hval : Value.okWide Tryd.prog w r b0 t v) (h : DataW.Trod enc Tryd.prog w base spare held t v d ps) :
    ∃ ws, v = arr ws ∧ ws.length = n := by
  obtain ⟨cs, rfl, _⟩ := okWide_struct hu hval
  obtain ⟨fuel, hf⟩ := h
  obtain ⟨e1, _, e3⟩ := leaf_open f t hl hf
  have e1' : cs.toList = (flatZ f d).map (Value.int .i64) := e1
  refine ⟨flatZ f d, ?_, ?_⟩
  · show Value.agg cs = Value.agg (arrC (flatZ f d))
    unfold arrC
    rw [← e1']
  · have e4 : cs.toList.length = n := by rw [← hn]; exact e3
    rw [e1', List.length_map] at e4
    exact e4
theorem leafA_open {t e : TypeId} {k f n : Nat} (hu : Tryd.prog.underlying t = some (.array k e)) (hl : leafB Tryd.prog .i64 f t = true) (hn : Tryd.prog.cellsOf t = n) {v : Value} {d : DataW H} {ps : List MemPlace} (hval : Value.okWide Tryd.prog w r b0 t v) (h : DataW.Trod enc Tryd.prog w base spare held t v d ps) :
    ∃ ws, v = arr ws ∧ ws.length = n := by
  simp only [Value.okWide, hu] at hval
  obtain ⟨cs, rfl, _, _⟩ := hval
  obtain ⟨fuel, hf⟩ := h
  obtain ⟨e1, _, e3⟩ := leaf_open f t hl hf
  have e1' : cs.toList = (flatZ f d).map (Value.int .i64) := e1
  refine ⟨flatZ f d, ?_, ?_⟩
  · show Value.agg cs = Value.agg (arrC (flatZ f d))
    unfold arrC
    rw [← e1']
  · have e4 : cs.toList.length = n := by rw [← hn]; exact e3
    rw [e1', List.length_map] at e4
    exact e4
end
theorem len4 {ws : List Int} (h : ws.length = 4) : ∃ a b c d, ws = [a, b, c, d] := ⟨_, _, _, _, list4 h⟩
theorem wf_u16 {z : Int} (h : (Lit.int .u16 z).wf = true) : 0 ≤ z ∧ z ≤ 65535 := by
  simp only [Lit.wf, Bool.and_eq_true, decide_eq_true_eq] at h
  have h1 : IntKind.min .u16 = 0 := by decide
  have h2 : IntKind.max .u16 = 65535 := by decide
  omega
end Go.Proofs.YtkncbggnaobgeaaDoor
