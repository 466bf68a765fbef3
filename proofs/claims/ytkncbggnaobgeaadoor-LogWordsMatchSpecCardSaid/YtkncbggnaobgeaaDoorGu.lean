/- Texts of this session, laid together: Crc, Rtk, Rootd, Rt1, Rt2, Rt3, Afl, Card2. -/
import Derived.Test.YtkncbggnaobgeaaDoorGa
import Derived.Test.YtkncbggnaobgeaaDoorGb
import Derived.Test.YtkncbggnaobgeaaDoorGh
import Derived.Test.YtkncbggnaobgeaaDoorGg

/- The check of 40 bits as a plain function: by nibbles and by bits it is the same, and it tells one inverted nibble. No Go in sight. -/
namespace Go.Proofs.YtkncbggnaobgeaaDoor
set_option linter.unusedVariables false
set_option linter.unusedSimpArgs false
set_option maxRecDepth 100000

def nibT : List Nat := [0, 75628553, 151257106, 226885659, 302514212, 378142765, 453771318, 529399871, 605028424, 546439233, 756285530, 697696339, 907542636, 848953445, 1058799742, 1000210551]
/-- A nibble more. -/
def nib (r x : Nat) : Nat := (r * 16 % 1099511627776) ^^^ nibT.getD ((r / 68719476736 ^^^ x) % 16) 0
/-- A bit more. -/
def crcB (r b : Nat) : Nat := (r * 2 % 1099511627776) ^^^ (if (r / 549755813888 % 2) ^^^ b = 1 then 75628553 else 0)
/-- The nibbles of an integer. -/
def nbl (n : Int) (i : Nat) : Nat := (n / 2 ^ (36 - 4 * i) % 16).toNat
def crcW (r : Nat) (n : Int) : Nat → Nat
  | 0 => r
  | j + 1 => nib (crcW r n j) (nbl n j)
def crcTo (ws : List Int) : Nat → Nat
  | 0 => 1099511627775
  | i + 1 => crcW (crcTo ws i) (ws.getD i 0) 10
def crc (ws : List Int) : Int := ((crcTo ws ws.length ^^^ 1099511627775 : Nat) : Int)

def crcL (v : Nat) : Nat := (v * 2 % 1099511627776) ^^^ (if v / 549755813888 % 2 = 1 then 75628553 else 0)
theorem mul_xor (a b k : Nat) : (a ^^^ b) * 2 ^ k = a * 2 ^ k ^^^ b * 2 ^ k := by
  rw [← Nat.shiftLeft_eq, ← Nat.shiftLeft_eq, ← Nat.shiftLeft_eq, Nat.shiftLeft_xor_distrib]
theorem div_xor (a b k : Nat) : (a ^^^ b) / 2 ^ k = a / 2 ^ k ^^^ b / 2 ^ k := by
  rw [← Nat.shiftRight_eq_div_pow, ← Nat.shiftRight_eq_div_pow, ← Nat.shiftRight_eq_div_pow, Nat.shiftRight_xor_distrib]
theorem xor_lt {a b : Nat} (k : Nat) (ha : a < 2 ^ k) (hb : b < 2 ^ k) : a ^^^ b < 2 ^ k := Nat.xor_lt_two_pow ha hb
theorem crcL_xor (a b : Nat) : crcL (a ^^^ b) = crcL a ^^^ crcL b := by
  unfold crcL
  have h1 : (a ^^^ b) * 2 = a * 2 ^^^ b * 2 := mul_xor a b 1
  have h2 : (a ^^^ b) / 549755813888 = a / 549755813888 ^^^ b / 549755813888 := div_xor a b 39
  have h3 : (a * 2 ^^^ b * 2) % 1099511627776 = (a * 2 % 1099511627776) ^^^ (b * 2 % 1099511627776) := Nat.xor_mod_two_pow (n := 40)
  have h4 : (a / 549755813888 ^^^ b / 549755813888) % 2 = (a / 549755813888 % 2) ^^^ (b / 549755813888 % 2) := Nat.xor_mod_two_pow (n := 1)
  rw [h1, h2, h3, h4]
  rcases Nat.mod_two_eq_zero_or_one (a / 549755813888) with ha | ha <;> rcases Nat.mod_two_eq_zero_or_one (b / 549755813888) with hb | hb <;> rw [ha, hb]
  · simp
  · simp [Nat.xor_assoc]
  · simp only [Nat.xor_zero, if_true, Nat.zero_ne_one, if_false]
    rw [Nat.xor_assoc, Nat.xor_assoc, Nat.xor_comm 75628553]
  · simp only [Nat.xor_self, Nat.zero_ne_one, if_false, if_true, Nat.xor_zero]
    rw [Nat.xor_assoc, ← Nat.xor_assoc 75628553 (b * 2 % 1099511627776), Nat.xor_comm 75628553 (b * 2 % 1099511627776), Nat.xor_assoc, Nat.xor_self, Nat.xor_zero]
theorem xor_zero_eq {a b : Nat} (h : a ^^^ b = 0) : a = b := by
  have h1 : (a ^^^ b) ^^^ b = b := by rw [h, Nat.zero_xor]
  rw [Nat.xor_assoc, Nat.xor_self, Nat.xor_zero] at h1
  exact h1
theorem xor_cancel_l {a b c : Nat} (h : a ^^^ b = a ^^^ c) : b = c := by
  have h1 : a ^^^ (a ^^^ b) = a ^^^ (a ^^^ c) := by rw [h]
  rw [← Nat.xor_assoc, ← Nat.xor_assoc, Nat.xor_self, Nat.zero_xor, Nat.zero_xor] at h1
  exact h1
theorem crcL_lt (v : Nat) : crcL v < 1099511627776 := by
  unfold crcL
  refine xor_lt 40 (Nat.mod_lt _ (by decide)) ?_
  split <;> decide
theorem crcL_inj {a b : Nat} (ha : a < 1099511627776) (hb : b < 1099511627776) (h : crcL a = crcL b) : a = b := by
  have hx : crcL (a ^^^ b) = 0 := by rw [crcL_xor, h, Nat.xor_self]
  have hlt : a ^^^ b < 1099511627776 := xor_lt 40 ha hb
  have h0 : a ^^^ b = 0 := by
    generalize a ^^^ b = v at hx hlt
    unfold crcL at hx
    split at hx
    · rename_i h1
      have h2 : v * 2 % 1099511627776 = 75628553 := by
        have := xor_zero_eq hx
        exact this
      omega
    · rw [Nat.xor_zero] at hx
      omega
  exact xor_zero_eq h0
theorem crcL_small {v : Nat} (h : v < 549755813888) : crcL v = v * 2 := by
  unfold crcL
  rw [if_neg (by omega), Nat.xor_zero]
  omega
theorem crcL4_small {v : Nat} (h : v < 68719476736) : crcL (crcL (crcL (crcL v))) = v * 16 := by
  rw [crcL_small (v := v) (by omega), crcL_small (v := v * 2) (by omega), crcL_small (v := v * 2 * 2) (by omega), crcL_small (v := v * 2 * 2 * 2) (by omega)]
  omega
theorem crcL4_top : ∀ h : Fin 16, crcL (crcL (crcL (crcL (h.1 * 68719476736)))) = nibT.getD h.1 0 := by decide +kernel
theorem nibT_lt : ∀ h : Fin 16, nibT.getD h.1 0 < 1099511627776 := by decide
theorem nibT_lt' (x : Nat) : nibT.getD (x % 16) 0 < 1099511627776 := nibT_lt ⟨x % 16, Nat.mod_lt _ (by decide)⟩
theorem nib_lt (r x : Nat) : nib r x < 1099511627776 := xor_lt 40 (Nat.mod_lt _ (by decide)) (nibT_lt' _)
theorem split_xor {r : Nat} : r = (r / 68719476736 * 68719476736) ^^^ (r % 68719476736) := by
  apply Nat.eq_of_testBit_eq
  intro i
  have e1 : r / 68719476736 * 68719476736 = (r >>> 36) <<< 36 := by rw [Nat.shiftRight_eq_div_pow, Nat.shiftLeft_eq]
  have e2 : r % 68719476736 = r % 2 ^ 36 := rfl
  rw [Nat.testBit_xor, e1, e2, Nat.testBit_shiftLeft, Nat.testBit_shiftRight, Nat.testBit_mod_two_pow]
  by_cases h : 36 ≤ i
  · have h2 : ¬ i < 36 := by omega
    simp [h, h2, show 36 + (i - 36) = i by omega]
  · have h2 : i < 36 := by omega
    simp [h, h2]
theorem nib_L {r x : Nat} (hr : r < 1099511627776) (hx : x < 16) : nib r x = crcL (crcL (crcL (crcL (r ^^^ x * 68719476736)))) := by
  have hh : r / 68719476736 < 16 := by omega
  have hh2 : r / 68719476736 ^^^ x < 16 := xor_lt 4 hh hx
  have e1 : r ^^^ x * 68719476736 = ((r / 68719476736 ^^^ x) * 68719476736) ^^^ (r % 68719476736) := by
    have e2 : (r / 68719476736 ^^^ x) * 68719476736 = r / 68719476736 * 68719476736 ^^^ x * 68719476736 := mul_xor _ _ 36
    rw [e2]
    conv => lhs; rw [split_xor (r := r)]
    rw [Nat.xor_assoc, Nat.xor_assoc, Nat.xor_comm (r % 68719476736)]
  rw [e1, crcL_xor, crcL_xor, crcL_xor, crcL_xor, crcL4_small (Nat.mod_lt _ (by decide)), crcL4_top ⟨_, hh2⟩]
  unfold nib
  rw [Nat.mod_eq_of_lt hh2, Nat.xor_comm]
  congr 1
  omega
theorem crcB_L {r b : Nat} (hr : r < 1099511627776) (hb : b < 2) : crcB r b = crcL (r ^^^ b * 549755813888) := by
  rw [crcL_xor]
  unfold crcB crcL
  have hb' : b = 0 ∨ b = 1 := by omega
  rcases hb' with rfl | rfl
  · simp
  · rcases Nat.mod_two_eq_zero_or_one (r / 549755813888) with ha | ha <;> rw [ha]
    · simp
    · simp [Nat.xor_assoc]
theorem crcB_lt (r b : Nat) : crcB r b < 1099511627776 := by
  unfold crcB
  refine xor_lt 40 (Nat.mod_lt _ (by decide)) ?_
  split <;> decide
theorem crcB4 : ∀ x : Fin 16, crcL (crcL (crcL (crcL (x.1 * 68719476736)))) = crcL (crcL (crcL (crcL (x.1 / 8 % 2 * 549755813888) ^^^ x.1 / 4 % 2 * 549755813888) ^^^ x.1 / 2 % 2 * 549755813888) ^^^ x.1 % 2 * 549755813888) := by decide +kernel
theorem nib_bits {r x : Nat} (hr : r < 1099511627776) (hx : x < 16) : crcB (crcB (crcB (crcB r (x / 8 % 2)) (x / 4 % 2)) (x / 2 % 2)) (x % 2) = nib r x := by
  rw [nib_L hr hx, crcB_L (crcB_lt _ _) (Nat.mod_lt _ (by decide)), crcB_L (crcB_lt _ _) (Nat.mod_lt _ (by decide)), crcB_L (crcB_lt _ _) (Nat.mod_lt _ (by decide)), crcB_L hr (Nat.mod_lt _ (by decide))]
  have h4 := crcB4 ⟨x, hx⟩
  simp only at h4
  simp only [crcL_xor]
  rw [h4]
  simp only [crcL_xor, Nat.xor_assoc]
theorem nib_inj {r r' x x' : Nat} (hr : r < 1099511627776) (hr' : r' < 1099511627776) (hx : x < 16) (hx' : x' < 16) (h : nib r x = nib r' x') : r ^^^ x * 68719476736 = r' ^^^ x' * 68719476736 := by
  rw [nib_L hr hx, nib_L hr' hx'] at h
  have hb : ∀ {r x : Nat}, r < 1099511627776 → x < 16 → r ^^^ x * 68719476736 < 1099511627776 := fun hr hx => xor_lt 40 hr (by omega)
  exact crcL_inj (hb hr hx) (hb hr' hx') (crcL_inj (crcL_lt _) (crcL_lt _) (crcL_inj (crcL_lt _) (crcL_lt _) (crcL_inj (crcL_lt _) (crcL_lt _) h)))
theorem nib_inj_r {r r' x : Nat} (hr : r < 1099511627776) (hr' : r' < 1099511627776) (hx : x < 16) (h : nib r x = nib r' x) : r = r' := by
  have := nib_inj hr hr' hx hx h
  exact xor_cancel_l (a := x * 68719476736) (by rw [Nat.xor_comm, this, Nat.xor_comm])
theorem nib_inj_x {r x x' : Nat} (hr : r < 1099511627776) (hx : x < 16) (hx' : x' < 16) (h : nib r x = nib r x') : x = x' := by
  have h1 := xor_cancel_l (nib_inj hr hr hx hx' h)
  omega
theorem nbl_lt (n : Int) (i : Nat) : nbl n i < 16 := by
  unfold nbl
  have h1 := Int.emod_nonneg (n / 2 ^ (36 - 4 * i)) (show (16 : Int) ≠ 0 by decide)
  have h2 := Int.emod_lt_of_pos (n / 2 ^ (36 - 4 * i)) (show (0 : Int) < 16 by decide)
  omega
theorem crcW_lt {r : Nat} (hr : r < 1099511627776) (n : Int) : ∀ j, crcW r n j < 1099511627776
  | 0 => hr
  | j + 1 => nib_lt _ _
theorem crcTo_lt (ws : List Int) : ∀ i, crcTo ws i < 1099511627776
  | 0 => show (1099511627775 : Nat) < 1099511627776 by decide
  | i + 1 => crcW_lt (crcTo_lt ws i) _ _
theorem crc_word (ws : List Int) : 0 ≤ crc ws ∧ crc ws ≤ 1099511627775 := by
  unfold crc
  have := xor_lt 40 (crcTo_lt ws ws.length) (show 1099511627775 < 2 ^ 40 by decide)
  omega
end Go.Proofs.YtkncbggnaobgeaaDoor

/- More of the engine: stores whose outcome is told, slices of several elements. Plain theorems over any program. -/
namespace Go.Proofs.YtkncbggnaobgeaaDoor
open Go.RowKit
set_option linter.unusedVariables false
set_option linter.unusedSimpArgs false
set_option maxRecDepth 100000

section
variable {P : Program} {ops : Array Oper} {Q : Exit → Act → World → Prop} {n : Nat} {ds : List Deferred} {e e' : Env} {w0 w w' : World} {S : List Nat} {H : Hp} {rest : List Oper}
variable {d : Nat} {v : Value} {ty : TypeId} {pos : String} {af : Array Edge}
theorem WL.storeTo (hS : St w0 S w H) {T : TypeId} {agg : Bool} {k : Nat} (hT : tyB P T agg k = true) (i : Nat) {b o : Nat} {cs cs' : Array Value} {t : TypeId} {x y : Operand} (hx : ev e x = some (.pointer (some ⟨b, o, none⟩))) (hy : ev e y = some v)
    (hi : H[i]? = some (b, .cells cs t)) (hv : v.cells.size = k) (h1 : ∀ u ∈ v.cells.toList, u.oneCell' = true) (hk : o + k ≤ cs.size) (hc : wr cs o v.cells.toList = cs')
    (h : ∀ w', St w0 S w' (H.set i (b, .cells cs' t)) → WL P ops Q n ds rest e w') : WL P ops Q n ds ({ dst := none, op := .store T x y, type := ty, pos, after := af, guard := none } :: rest) e w := by
  subst hc
  exact WL.storeAt hS hT i hx hy hi hv h1 hk h
theorem Rd.all {T : TypeId} {k b : Nat} {cs : Array Value} {t : TypeId} {fr : Nat × Nat} (hT : tyB P T true k = true) (h : w.heap[b]? = some (.cells cs t fr)) (hk : cs.size = k) : Rd P w T ⟨b, 0, none⟩ (.agg cs) := by
  have := Rd.agg (P := P) (o := 0) hT h (by omega)
  rw [Nat.zero_add, ← hk, Array.extract_size] at this
  exact this
theorem St.rdAll (hS : St w0 S w H) {T : TypeId} {k : Nat} (hT : tyB P T true k = true) (i : Nat) {b : Nat} {cs : Array Value} {t : TypeId} (hi : H[i]? = some (b, .cells cs t)) (hk : cs.size = k) : Rd P w T ⟨b, 0, none⟩ (.agg cs) :=
  Rd.all hT (hS.sat _ (List.mem_of_getElem? hi)) hk
theorem WL.maxTo {x y : Operand} {k k' : IntKind} {a b r : Int} {ats : Array TypeId} (hx : ev e x = some (.int k a)) (hy : ev e y = some (.int k' b)) (hdn : Nat.blt d n = true) (hr : (if b > a then b else a) = r)
    (h : WL P ops Q n ds rest ((d, .int k r) :: e) w) : WL P ops Q n ds ({ dst := some d, op := .call { callee := .builtin .max, args := #[x, y], argTypes := ats }, type := ty, pos, after := af, guard := none } :: rest) e w := by
  subst hr
  exact WL.max2 hx hy hdn h
theorem WL.minTo {x y : Operand} {k k' : IntKind} {a b r : Int} {ats : Array TypeId} (hx : ev e x = some (.int k a)) (hy : ev e y = some (.int k' b)) (hdn : Nat.blt d n = true) (hr : (if b < a then b else a) = r)
    (h : WL P ops Q n ds rest ((d, .int k r) :: e) w) : WL P ops Q n ds ({ dst := some d, op := .call { callee := .builtin .min, args := #[x, y], argTypes := ats }, type := ty, pos, after := af, guard := none } :: rest) e w := by
  subst hr
  exact WL.min2 hx hy hdn h
theorem WL.sliceArrHi {T : TypeId} {len sz b o k : Nat} {x y : Operand} {kd : IntKind} {z : Int} (hT : arrB P T len sz = true) (hx : ev e x = some (.pointer (some ⟨b, o, none⟩))) (hy : ev e y = some (.int kd z)) (hz : z = (k : Int)) (hk : k ≤ len) (hlen : len ≠ 0) (hdn : Nat.blt d n = true)
    (h : WL P ops Q n ds rest ((d, .slice (some ⟨b, o, none⟩) k len) :: e) w) : WL P ops Q n ds ({ dst := some d, op := .slice T x none (some y) none, type := ty, pos, after := af, guard := none } :: rest) e w := by
  subst hz
  obtain ⟨el, i, hu, hi, hs⟩ := arrB_out hT
  refine WL.op rfl rfl hdn (fun a ha => ?_) h
  have hb := run_sliceBound (P := P) (w := w) kd (k : Int) len .sliceAcap (by omega) (by omega)
  have hb2 := run_sliceBound (P := P) (w := w) kd (k : Int) len .sliceAlen (by omega) (by omega)
  simp [execOp, Option.map, ha.ev hx, ha.ev hy, Instr.sliceAt, Instr.sureAddr, Instr.slice, Instr.sliceBounds, hb, hb2, Sem.run_bind, run_underlying hu, sizeOf, typeInfo, hi, hs, hlen, addr_add, Ne.symm hlen]
/-- '[]T{x, y, ..}', each element a cell. -/
theorem WL.buildSliceN (hS : St w0 S w H) {T el : TypeId} {k : Nat} {ps : List (Nat × Operand)} {vs : List (Nat × Value)} {cells : Array Value} (hT : P.underlying T = some (.slice el)) {agg : Bool} (hel : tyB P el agg 1 = true) {z : Array Value} (hz : ZeroIs P el z)
    (hvs : evp e ps = some vs) (hk : k ≤ 16777216 ∧ k ≠ 0) (hdn : Nat.blt d n = true) (hf : Instr.fill (fun i => some (i * 1, 1)) ((Array.range (k * 1)).map (z[· % z.size]!)) vs = some cells)
    (h : ∀ b w', w.heap.size = b → w0.heap.size ≤ b → St w0 S w' ((b, .cells cells el) :: H) → WL P ops Q n ds rest ((d, .slice (some ⟨b, 0, none⟩) k k) :: e) w') : WL P ops Q n ds ({ dst := some d, op := .buildSlice T k ps.toArray, type := ty, pos, after := af, guard := none } :: rest) e w := by
  obtain ⟨u, hu, hrun⟩ := hz
  refine WL.op (w' := w.alloc (.cells cells el)) (v := .slice (some ⟨w.heap.size, 0, none⟩) k k) rfl rfl hdn (fun a ha => ?_) (h _ _ rfl hS.size (hS.alloc _))
  have h1 : ¬ (k * 1 > 2 ^ 24) := by omega
  have h2 : ¬ (k * 1 = 0) := by omega
  simp only [execOp, Instr.buildSlice, Sem.run_bind, run_underlying hT, Result.andThen_ok, tyB_size hel, h1, h2, if_false, hrun, hu, Sem.run_pure, newRow, run_newObj, World.alloc, List.map_toArray, ha.evp hvs, hf]
end
end Go.Proofs.YtkncbggnaobgeaaDoor

/- The root as plain functions: the layout, the words, what a copy holds, Format, Read, Write, Mend. No Go in sight. -/
namespace Go.Proofs.YtkncbggnaobgeaaDoor
set_option linter.unusedVariables false
set_option linter.unusedSimpArgs false
set_option maxRecDepth 100000

/-! ### The layout -/
def planOk (n : Int) : Bool := decide (64 ≤ n) && decide (n ≤ 4096)
def planLogs (n : Int) : Int := max (n / 16) 8
def planInts (n : Int) : Int := min (max (n / 32) 4) 16
def planNext (n : Int) : Int := 2 + planLogs n + planInts n + (n / 16 + 8 - 1) / 8
def planHeap (n : Int) : Int := (planNext n + 16 - 1) / 16 * 16
def planL (n : Int) : List Int := [n, 2, planLogs n, 2 + planLogs n, planInts n, 2 + planLogs n + planInts n, planHeap n, (n - planHeap n) / 16]
def planV (n : Int) : List Int := if planOk n then planL n else zeros8
def planE (n : Int) : Int := if planOk n then 0 else 2

/-! ### The words -/
def zero4 : List Int := [0, 0, 0, 0]
def pRight (c : Int) : Bool := decide (c = 0) || (isWord c && (decide (c / 4294967296 = 0) && (decide (0 < c % 4096) && decide (0 < c / 4096 % 1048576))))
def rootOk (r : List Int) : Bool := planOk (r.getD 3 0) && (decide (1 ≤ r.getD 0 0) && (decide (r.getD 0 0 ≤ 1099511627775) && (pRight (r.getD 1 0) && (decide (0 ≤ r.getD 2 0) && decide (r.getD 2 0 ≤ 1073741824)))))
def rootH (r : List Int) : List Int := [418431462657, r.getD 0 0, r.getD 1 0, r.getD 2 0, r.getD 3 0, 0, 0]
def rootW (r : List Int) : List Int := rootH r ++ [crc (rootH r)]
def wordsV (r : List Int) : List Int := if rootOk r then rootW r else zeros8
def wordsE (r : List Int) : Int := if rootOk r then 0 else 1
def rootIn (w : List Int) : List Int := [w.getD 1 0, w.getD 2 0, w.getD 3 0, w.getD 4 0]
def parseB (w : List Int) : Bool := rootOk (rootIn w) && decide (rootW (rootIn w) = w)
def parseV (w : List Int) : List Int := if parseB w then rootIn w else zero4

/-! ### The two copies -/
def rootOf (n : Int) (w : List Int) : List Int := if parseB w && decide (w.getD 4 0 = n) then rootIn w else zero4
def pCopy (M : PM) (c : Nat) : List Int := if (pShow (M.line c) (M.line c).ps.length).2 = 0 then rootOf M.ls.length (shown (M.line c)) else zero4
/-- The newer root, its copy, the errno. -/
def pRead (M : PM) : List Int × Int × Int :=
  if planOk M.ls.length = false then (zero4, 0, 2)
  else if pCopy M 0 ≠ zero4 ∧ (pCopy M 0).getD 0 0 ≥ (pCopy M 1).getD 0 0 then (pCopy M 0, 0, 0)
  else if pCopy M 1 ≠ zero4 then (pCopy M 1, 1, 0)
  else if M.state 0 = 2 ∨ M.state 1 = 2 then (zero4, 0, 9) else (zero4, 0, 3)
def putsTo (M : PM) (c : Int) (w : List Int) : Nat → PM
  | 0 => M.put 1 (8 * c + 1) 0
  | i + 1 => if i = 1 then putsTo M c w i else (putsTo M c w i).put 1 (8 * c + i) (w.getD i 0)
def healed (M : PM) (c : Int) : PM := if M.state c = 2 then M.heal c zeros8 else M
def pPut (M : PM) (c : Int) (w : List Int) : PM := (((putsTo (healed M c) c w 8).put 2 (8 * c + 1) (w.getD 1 0)).flush c).fence
def firstRoot (M : PM) : List Int := [1, 0, 0, M.ls.length]
def pFormat (M : PM) : PM := if planOk M.ls.length then pPut (pPut M 0 (rootW (firstRoot M))) 1 (rootW (firstRoot M)) else M
def nextRoot (M : PM) (c t : Int) : List Int := [(pRead M).1.getD 0 0 + 1, c, t, (pRead M).1.getD 3 0]
def pWriteE (M : PM) (c t : Int) : Int := if (pRead M).2.2 ≠ 0 then (pRead M).2.2 else if (pRead M).1.getD 0 0 = 1099511627775 then 2 else wordsE (nextRoot M c t)
def pWrite (M : PM) (c t : Int) : PM := if pWriteE M c t = 0 then pPut (pPut M (1 - (pRead M).2.1) (rootW (nextRoot M c t))) (pRead M).2.1 (rootW (nextRoot M c t)) else M
def mends (M : PM) : Bool := decide ((pRead M).2.2 = 0) && !decide (pCopy M (1 - (pRead M).2.1).toNat = (pRead M).1)
def pMend (M : PM) : PM := if mends M then M.heal (1 - (pRead M).2.1) (rootW (pRead M).1) else M

/-! ### What they are -/
theorem planV_len (n : Int) : (planV n).length = 8 := by unfold planV; split <;> rfl
theorem wordsV_len (r : List Int) : (wordsV r).length = 8 := by unfold wordsV; split <;> rfl
theorem parseV_len (w : List Int) : (parseV w).length = 4 := by unfold parseV; split <;> rfl
theorem rootOk_word {r : List Int} (h : rootOk r = true) : 64 ≤ r.getD 3 0 ∧ r.getD 3 0 ≤ 4096 ∧ 1 ≤ r.getD 0 0 ∧ r.getD 0 0 ≤ 1099511627775 ∧ 0 ≤ r.getD 1 0 ∧ r.getD 1 0 < 4294967296 ∧ 0 ≤ r.getD 2 0 ∧ r.getD 2 0 ≤ 1073741824 := by
  unfold rootOk planOk pRight isWord at h
  simp only [Bool.and_eq_true, Bool.or_eq_true, decide_eq_true_eq] at h
  omega
theorem rootW_length (r : List Int) : (rootW r).length = 8 := rfl
theorem rootW_words {r : List Int} (h : rootOk r = true) : isWords (rootW r) = true := by
  have hw := rootOk_word h
  have hc := crc_word (rootH r)
  unfold rootH at hc
  unfold isWords rootW
  rw [List.all_eq_true]
  intro x hx
  unfold isWord
  simp only [Bool.and_eq_true, decide_eq_true_eq]
  simp only [rootH, List.mem_append, List.mem_cons, List.not_mem_nil, or_false] at hx
  rcases hx with (rfl | rfl | rfl | rfl | rfl | rfl | rfl) | rfl <;> omega
theorem list4 {r : List Int} (h : r.length = 4) : r = [r.getD 0 0, r.getD 1 0, r.getD 2 0, r.getD 3 0] := by
  match r, h with
  | [a, b, c, d], _ => rfl
theorem rootIn_W {r : List Int} (h : r.length = 4) : rootIn (rootW r) = r := by
  conv => rhs; rw [list4 h]
  rfl
theorem parse_W {r : List Int} (h : r.length = 4) (hr : rootOk r = true) : parseB (rootW r) = true := by
  unfold parseB
  rw [rootIn_W h, hr, decide_eq_true rfl]
  rfl
theorem rootIn_length (w : List Int) : (rootIn w).length = 4 := rfl
theorem parseB_iff {w : List Int} : parseB w = true ↔ rootOk (rootIn w) = true ∧ rootW (rootIn w) = w := by
  unfold parseB
  rw [Bool.and_eq_true, decide_eq_true_eq]
theorem parse_no {w : List Int} (h : w.getD 1 0 = 0) : parseB w = false := by
  cases hb : parseB w with
  | false => rfl
  | true =>
    have := (rootOk_word (parseB_iff.1 hb).1).2.2.1
    change 1 ≤ w.getD 1 0 at this
    omega
theorem rootOf_W {n : Int} {r : List Int} (h : r.length = 4) (hr : rootOk r = true) (hn : r.getD 3 0 = n) : rootOf n (rootW r) = r := by
  unfold rootOf
  rw [parse_W h hr, show (rootW r).getD 4 0 = r.getD 3 0 from rfl, decide_eq_true hn, rootIn_W h]
  rfl
theorem rootOf_no {n : Int} {w : List Int} (h : w.getD 1 0 = 0) : rootOf n w = zero4 := by
  unfold rootOf
  rw [parse_no h]
  rfl
theorem rootOk_ne {r : List Int} (h : rootOk r = true) : r ≠ zero4 := by
  rintro rfl
  have := (rootOk_word h).2.2.1
  exact absurd this (by decide)
end Go.Proofs.YtkncbggnaobgeaaDoor

/- Walks of functions of the program; printed by a program of this session (walk.py) out of hand-written hints. -/
namespace Go.Proofs.YtkncbggnaobgeaaDoor
open Go.RowKit
set_option linter.unusedVariables false
set_option linter.unusedSimpArgs false
set_option maxRecDepth 100000

/-- The tables of packages pointer and hash lie where they were laid. -/
def GP (w : World) : Prop := ∃ t fr, w.heap[0]? = some (.cells (arrC [0, 12, 12, 20]) t fr)
def nibC : Array Value := (nibT.map fun (k : Nat) => Value.int .u64 (k : Int)).toArray
def GN (w : World) : Prop := ∃ t fr, w.heap[1]? = some (.cells nibC t fr)
structure GG (w : World) : Prop where
  l : L64 w
  p : GP w
  n : GN w
theorem GP.of0 {w0 w : World} {H : Hp} (h : GP w0) (hS : St w0 [] w H) : GP w := by
  obtain ⟨t, fr, h⟩ := h
  exact ⟨t, fr, hS.oldBlock h (by simp)⟩
theorem GN.of0 {w0 w : World} {H : Hp} (h : GN w0) (hS : St w0 [] w H) : GN w := by
  obtain ⟨t, fr, h⟩ := h
  exact ⟨t, fr, hS.oldBlock h (by simp)⟩
theorem GG.of0 {w0 w : World} {H : Hp} (h : GG w0) (hS : St w0 [] w H) : GG w := ⟨h.l.of0 hS, h.p.of0 hS, h.n.of0 hS⟩
theorem GP.rd {w : World} (h : GP w) (i : Nat) (hi : i < 2) : Rd Tryd.prog w 248 ⟨0, 0 + i * 2, none⟩ (arr (if i = 0 then [0, 12] else [12, 20])) := by
  obtain ⟨t, fr, h⟩ := h
  have := Rd.arrMid (P := Tryd.prog) (o := 0 + i * 2) (k := 2) ty248 h (by simp only [List.length_cons, List.length_nil]; omega)
  have hi' : i = 0 ∨ i = 1 := by omega
  rcases hi' with rfl | rfl
  · exact this
  · exact this
theorem nib_at (k : Nat) (hk : k < 16) : nibC[k]? = some (.int .u64 (nibT.getD k 0 : Nat)) := by
  have key : ∀ k : Fin 16, nibT[k.1]? = some (nibT.getD k.1 0) := by decide
  have h := key ⟨k, hk⟩
  simp only at h
  unfold nibC
  simp only [List.getElem?_toArray, List.getElem?_map]
  rw [h]; rfl
theorem pRight_of {p : Int} : pRight p = true ↔ p = 0 ∨ ((0 ≤ p ∧ p ≤ 1099511627775) ∧ p / 4294967296 = 0 ∧ 0 < p % 4096 ∧ 0 < p / 4096 % 1048576) := by
  unfold pRight isWord
  simp only [Bool.or_eq_true, Bool.and_eq_true, decide_eq_true_eq]

theorem pword_any (x : Int) (w : World) : Calls Tryd.prog 191 #[.int .i64 x] w fun e w' => e = .returned (.bool (isWord x)) ∧ w' = w := by
  refine calls_walk_n (args := [.int .i64 x]) Tryd.func191 rfl rfl rfl ?_
  refine WC.seq ?_
  refine WC.region ?_
  refine WL.assign rfl rfl ?_
  refine (WL.done (WX.next ?_))
  refine WC.seq ?_
  refine WC.region ?_
  refine WL.move rfl rfl ?_
  refine WL.bin rfl rfl binv_geq rfl ?_
  refine WL.move rfl rfl ?_
  refine WL.splitD (t := 5) rfl (fun g1 => ?_) (fun g1 => ?_)
  ·
    refine WL.yes rfl rfl ?_
    refine WL.move rfl rfl ?_
    refine WL.yes rfl rfl ?_
    refine WL.bin rfl rfl binv_leq rfl ?_
    refine WL.pickT rfl rfl rfl ?_
    refine WL.assign rfl rfl ?_
    refine (WL.done (WX.next ?_))
    refine (WC.ret ?_)
    refine ret_one rfl rfl ?_
    exact ⟨by congr 2; simp [isWord]; omega, rfl⟩
  ·
    refine WL.no rfl rfl rfl ?_
    refine WL.no rfl rfl rfl ?_
    refine WL.pickF rfl rfl rfl ?_
    refine WL.assign rfl rfl ?_
    refine (WL.done (WX.next ?_))
    refine (WC.ret ?_)
    refine ret_one rfl rfl ?_
    exact ⟨by congr 2; simp [isWord]; omega, rfl⟩

theorem refpword_any (x : Int) (w : World) : Calls Tryd.prog 211 #[.int .i64 x] w fun e w' => e = .returned (.bool (isWord x)) ∧ w' = w := by
  refine calls_walk_n (args := [.int .i64 x]) Tryd.func211 rfl rfl rfl ?_
  refine WC.seq ?_
  refine WC.region ?_
  refine WL.assign rfl rfl ?_
  refine (WL.done (WX.next ?_))
  refine WC.seq ?_
  refine WC.region ?_
  refine WL.move rfl rfl ?_
  refine WL.bin rfl rfl binv_geq rfl ?_
  refine WL.move rfl rfl ?_
  refine WL.splitD (t := 5) rfl (fun g1 => ?_) (fun g1 => ?_)
  ·
    refine WL.yes rfl rfl ?_
    refine WL.move rfl rfl ?_
    refine WL.yes rfl rfl ?_
    refine WL.bin rfl rfl binv_leq rfl ?_
    refine WL.pickT rfl rfl rfl ?_
    refine WL.assign rfl rfl ?_
    refine (WL.done (WX.next ?_))
    refine (WC.ret ?_)
    refine ret_one rfl rfl ?_
    exact ⟨by congr 2; simp [isWord]; omega, rfl⟩
  ·
    refine WL.no rfl rfl rfl ?_
    refine WL.no rfl rfl rfl ?_
    refine WL.pickF rfl rfl rfl ?_
    refine WL.assign rfl rfl ?_
    refine (WL.done (WX.next ?_))
    refine (WC.ret ?_)
    refine ret_one rfl rfl ?_
    exact ⟨by congr 2; simp [isWord]; omega, rfl⟩

theorem of1_any (p : Int) (b : Nat) (t : TypeId) (fr : Nat × Nat) (a k : Nat) (ha : a ≤ 63) (hk : k < 63) (hp : 0 ≤ p ∧ p ≤ 9223372036854775807) (w : World) (hb : w.heap[b]? = some (.cells #[.int .i64 p] t fr)) : Calls Tryd.prog 210 #[arr [(a : Int), (k : Int)], ptr b] w fun e w' => e = .returned (.int .i64 (p / 2 ^ a % 2 ^ k)) ∧ St w [] w' [] := by
  refine calls_walk_n (args := [arr [(a : Int), (k : Int)], ptr b]) Tryd.func210 rfl rfl rfl ?_
  have H := St.refl w
  refine WC.seq ?_
  refine WC.region ?_
  refine WL.boxArr H rfl rfl ?_
  intro b2 wx hb2 hge2 H
  refine WL.assign rfl rfl ?_
  refine (WL.done (WX.next ?_))
  refine WC.seq ?_
  replace H := H.drew
  refine WC.held (SX (World.drew wx) []) (by kernel_rfl) ?_
  generalize World.drew wx = wb at H ⊢
  have HB := St.refl wb
  have h2k : 2 ^ k < 2 ^ 63 := Nat.pow_lt_pow_right (by omega) hk
  have h2p : 0 < 2 ^ k := Nat.two_pow_pos k
  have e2 : (((2 ^ k : Nat)) : Int) = (2 : Int) ^ k := by norm_cast
  refine WH.take 0 rfl (by kernel_rfl) (by kernel_rfl) (by kernel_rfl) (fun _ _ _ h => h) ⟨_, HB⟩ (fun w' hS => EX.load rfl (Rd.one ty3 (by rw [cell_of (hS.block (H.oldBlock hb (by simp)) (by simp))]; rfl))) rfl ?_
  refine WH.take 1 rfl (by kernel_rfl) (by kernel_rfl) (by kernel_rfl) (fun _ _ _ h => h) ⟨_, HB⟩ (fun w' hS => EX.fieldAddr fld248_0 rfl) rfl ?_
  refine WH.take 2 rfl (by kernel_rfl) (by kernel_rfl) (by kernel_rfl) (fun _ _ _ h => h) ⟨_, HB⟩ (fun w' hS => EX.load rfl (hS.rd1 ty3 (H.blk 0 rfl) (by simp) rfl)) rfl ?_
  refine WH.take 3 rfl (by kernel_rfl) (by kernel_rfl) (by kernel_rfl) (fun _ _ _ h => h) ⟨_, HB⟩ (fun w' hS => EX.bin rfl rfl (ishr rfl (by show a ≤ 64; omega) hp.1)) rfl ?_
  refine WH.take 4 rfl (by kernel_rfl) (by kernel_rfl) (by kernel_rfl) (fun _ _ _ h => h) ⟨_, HB⟩ (fun w' hS => EX.fieldAddr fld248_1 rfl) rfl ?_
  refine WH.take 5 rfl (by kernel_rfl) (by kernel_rfl) (by kernel_rfl) (fun _ _ _ h => h) ⟨_, HB⟩ (fun w' hS => EX.load rfl (hS.rd1 ty3 (H.blk 0 rfl) (by simp) rfl)) rfl ?_
  refine WH.take 6 rfl (by kernel_rfl) (by kernel_rfl) (by kernel_rfl) (fun _ _ _ h => h) ⟨_, HB⟩ (fun w' hS => EX.bin rfl rfl (ishl (m := k) rfl (by omega) (by omega) (by rw [← e2]; omega))) rfl ?_
  refine WH.take 7 rfl (by kernel_rfl) (by kernel_rfl) (by kernel_rfl) (fun _ _ _ h => h) ⟨_, HB⟩ (fun w' hS => EX.bin rfl rfl (isub (by rw [← e2]; omega) (by rw [← e2]; omega))) rfl ?_
  refine WH.take 8 rfl (by kernel_rfl) (by kernel_rfl) (by kernel_rfl) (fun _ _ _ h => h) ⟨_, HB⟩ (fun w' hS => EX.bin rfl rfl (iandm hk (by rw [← e2]; omega))) rfl ?_
  refine WH.take 9 rfl (by kernel_rfl) (by kernel_rfl) (by kernel_rfl) (fun _ _ _ h => h) ⟨_, HB⟩ (fun w' hS => EX.assign rfl) rfl ?_
  refine WH.done (by kernel_rfl) ?_
  replace H := H.call HB
  refine WX.next ?_
  refine (WC.ret ?_)
  refine ret_one rfl rfl ?_
  exact ⟨rfl, H.weaken (List.nil_sublist _)⟩

theorem of_any (p : Int) (w : World) : Calls Tryd.prog 190 #[.int .i64 p] w fun e w' => ∃ b, e = .returned (.func (.func 210) #[] #[ptr b]) ∧ St w [] w' [(b, .cells #[.int .i64 p] 3)] := by
  refine calls_walk_n (args := [.int .i64 p]) Tryd.func190 rfl rfl rfl ?_
  have H := St.refl w
  refine WC.seq ?_
  refine WC.region ?_
  refine WL.box H rfl rfl ?_
  intro b1 wx hb1 hge1 H
  refine WL.assign rfl rfl ?_
  refine (WL.done (WX.next ?_))
  refine WC.seq ?_
  refine WC.region ?_
  refine WL.makeFunc (us := []) (vs := [ptr b1]) rfl rfl rfl ?_
  refine WL.assign rfl rfl ?_
  refine (WL.done (WX.next ?_))
  refine (WC.ret ?_)
  refine ret_one rfl rfl ?_
  exact ⟨b1, rfl, H⟩

theorem right_root_any (p : Int) (w : World) (hG : GP w) : Calls Tryd.prog 148 #[.int .i64 p] w fun e w' => e = .returned (.bool (pRight p)) ∧ St w [] w' [] := by
  refine calls_walk_n (args := [.int .i64 p]) Tryd.func148 rfl rfl rfl ?_
  have H := St.refl w
  refine WC.seq ?_
  refine WC.region ?_
  refine WL.assign rfl rfl ?_
  refine (WL.done (WX.next ?_))
  refine WC.seq ?_
  refine WC.region ?_
  refine WL.move rfl rfl ?_
  refine WL.call call190 rfl rfl ?_
  refine Calls.mono (of_any p _) ?_
  rintro _ wx ⟨bp, rfl, Hc⟩
  refine ⟨_, rfl, ?_⟩
  replace H := H.call Hc
  refine WL.assign rfl rfl ?_
  refine (WL.done (WX.next ?_))
  refine WC.seq ?_
  refine WC.region ?_
  refine WL.move rfl rfl ?_
  refine WL.bin rfl rfl binv_eql rfl ?_
  refine WL.move rfl rfl ?_
  refine WL.splitD (t := 8) rfl (fun g1 => ?_) (fun g1 => ?_)
  ·
    refine WL.no rfl rfl rfl ?_
    refine WL.no rfl rfl rfl ?_
    refine WL.no rfl rfl rfl ?_
    refine WL.noU rfl rfl rfl rfl ?_
    refine WL.noU rfl rfl rfl rfl ?_
    refine WL.noU rfl rfl rfl rfl ?_
    refine WL.no rfl rfl rfl ?_
    refine WL.no rfl rfl rfl ?_
    refine WL.noU rfl rfl rfl rfl ?_
    refine WL.noU rfl rfl rfl rfl ?_
    refine WL.noU rfl rfl rfl rfl ?_
    refine WL.noU rfl rfl rfl rfl ?_
    refine WL.noU rfl rfl rfl rfl ?_
    refine WL.no rfl rfl rfl ?_
    refine WL.no rfl rfl rfl ?_
    refine WL.noU rfl rfl rfl rfl ?_
    refine WL.noU rfl rfl rfl rfl ?_
    refine WL.noU rfl rfl rfl rfl ?_
    refine WL.noU rfl rfl rfl rfl ?_
    refine WL.noU rfl rfl rfl rfl ?_
    refine WL.no rfl rfl rfl ?_
    refine WL.pickT rfl rfl rfl ?_
    refine WL.assign rfl rfl ?_
    refine (WL.done (WX.next ?_))
    refine (WC.ret ?_)
    refine ret_one rfl rfl ?_
    refine ⟨congrArg (fun b => Ending.returned (Value.bool b)) (Bool.eq_iff_iff.2 ?_), H.weaken (List.nil_sublist _)⟩
    rw [pRight_of]
    simp only [decide_eq_true_eq, Bool.false_eq_true, true_iff, false_iff]
    omega
  ·
    refine WL.yes rfl rfl ?_
    refine WL.move rfl rfl ?_
    refine WL.yes rfl rfl ?_
    refine WL.call call191 rfl rfl ?_
    refine Calls.mono (pword_any p _) ?_
    rintro _ wx ⟨rfl, rfl⟩
    refine ⟨_, rfl, ?_⟩
    refine WL.yes rfl rfl ?_
    refine WL.move rfl rfl ?_
    refine WL.split (t := 11) rfl (fun g2 => ?_) (fun g2 => ?_)
    ·
      have hw := isWord_iff.1 g2
      refine WL.yes rfl rfl ?_
      refine WL.move rfl rfl ?_
      refine WL.yes rfl rfl ?_
      refine WL.bin rfl rfl (ishr (m := 32) rfl (by decide) (by omega)) rfl ?_
      refine WL.yes rfl rfl ?_
      refine WL.bin rfl rfl binv_eql rfl ?_
      refine WL.yes rfl rfl ?_
      refine WL.pickT rfl rfl rfl ?_
      refine WL.yes rfl rfl ?_
      refine WL.move rfl rfl ?_
      refine WL.splitD (t := 16) rfl (fun g3 => ?_) (fun g3 => ?_)
      ·
        refine WL.yes rfl rfl ?_
        refine WL.move rfl rfl ?_
        refine WL.yes rfl rfl ?_
        refine WL.idxArr (k := 0) arr249 rfl rfl (by rfl) (by omega) rfl ?_
        refine WL.yes rfl rfl ?_
        refine WL.load rfl ((hG.of0 H).rd 0 (by omega)) rfl ?_
        refine WL.yes rfl rfl ?_
        refine WL.callVal call210 rfl rfl rfl ?_
        refine Calls.mono (of1_any p bp 3 _ 0 12 (by omega) (by omega) (by omega) _ (H.blk 0 rfl)) ?_
        rintro _ wx ⟨rfl, Hc⟩
        refine ⟨_, rfl, ?_⟩
        replace H := H.call0 Hc
        refine WL.yes rfl rfl ?_
        refine WL.bin rfl rfl binv_gtr rfl ?_
        refine WL.yes rfl rfl ?_
        refine WL.pickT rfl rfl rfl ?_
        refine WL.yes rfl rfl ?_
        refine WL.move rfl rfl ?_
        refine WL.splitD (t := 23) rfl (fun g4 => ?_) (fun g4 => ?_)
        ·
          refine WL.yes rfl rfl ?_
          refine WL.move rfl rfl ?_
          refine WL.yes rfl rfl ?_
          refine WL.idxArr (k := 1) arr249 rfl rfl (by rfl) (by omega) rfl ?_
          refine WL.yes rfl rfl ?_
          refine WL.load rfl ((hG.of0 H).rd 1 (by omega)) rfl ?_
          refine WL.yes rfl rfl ?_
          refine WL.callVal call210 rfl rfl rfl ?_
          refine Calls.mono (of1_any p bp 3 _ 12 20 (by omega) (by omega) (by omega) _ (H.blk 0 rfl)) ?_
          rintro _ wx ⟨rfl, Hc⟩
          refine ⟨_, rfl, ?_⟩
          replace H := H.call0 Hc
          refine WL.yes rfl rfl ?_
          refine WL.bin rfl rfl binv_gtr rfl ?_
          refine WL.yes rfl rfl ?_
          refine WL.pickT rfl rfl rfl ?_
          refine WL.pickF rfl rfl rfl ?_
          refine WL.assign rfl rfl ?_
          refine (WL.done (WX.next ?_))
          refine (WC.ret ?_)
          refine ret_one rfl rfl ?_
          refine ⟨congrArg (fun b => Ending.returned (Value.bool b)) (Bool.eq_iff_iff.2 ?_), H.weaken (List.nil_sublist _)⟩
          rw [pRight_of]
          simp only [decide_eq_true_eq, Bool.false_eq_true, true_iff, false_iff]
          omega
        ·
          refine WL.no rfl rfl rfl ?_
          refine WL.no rfl rfl rfl ?_
          refine WL.no rfl rfl rfl ?_
          refine WL.no rfl rfl rfl ?_
          refine WL.no rfl rfl rfl ?_
          refine WL.yes rfl rfl ?_
          refine WL.pickF rfl rfl rfl ?_
          refine WL.pickF rfl rfl rfl ?_
          refine WL.assign rfl rfl ?_
          refine (WL.done (WX.next ?_))
          refine (WC.ret ?_)
          refine ret_one rfl rfl ?_
          refine ⟨congrArg (fun b => Ending.returned (Value.bool b)) (Bool.eq_iff_iff.2 ?_), H.weaken (List.nil_sublist _)⟩
          rw [pRight_of]
          simp only [decide_eq_true_eq, Bool.false_eq_true, true_iff, false_iff]
          omega
      ·
        refine WL.no rfl rfl rfl ?_
        refine WL.no rfl rfl rfl ?_
        refine WL.no rfl rfl rfl ?_
        refine WL.no rfl rfl rfl ?_
        refine WL.no rfl rfl rfl ?_
        refine WL.yes rfl rfl ?_
        refine WL.pickF rfl rfl rfl ?_
        refine WL.yes rfl rfl ?_
        refine WL.move rfl rfl ?_
        refine WL.no rfl rfl rfl ?_
        refine WL.no rfl rfl rfl ?_
        refine WL.no rfl rfl rfl ?_
        refine WL.no rfl rfl rfl ?_
        refine WL.no rfl rfl rfl ?_
        refine WL.yes rfl rfl ?_
        refine WL.pickF rfl rfl rfl ?_
        refine WL.pickF rfl rfl rfl ?_
        refine WL.assign rfl rfl ?_
        refine (WL.done (WX.next ?_))
        refine (WC.ret ?_)
        refine ret_one rfl rfl ?_
        refine ⟨congrArg (fun b => Ending.returned (Value.bool b)) (Bool.eq_iff_iff.2 ?_), H.weaken (List.nil_sublist _)⟩
        rw [pRight_of]
        simp only [decide_eq_true_eq, Bool.false_eq_true, true_iff, false_iff]
        omega
    ·
      have hw : ¬ (0 ≤ p ∧ p ≤ 1099511627775) := fun h => by have h2 := isWord_iff.2 h; rw [h2] at g2; cases g2
      refine WL.no rfl rfl rfl ?_
      refine WL.no rfl rfl rfl ?_
      refine WL.no rfl rfl rfl ?_
      refine WL.yes rfl rfl ?_
      refine WL.pickF rfl rfl rfl ?_
      refine WL.yes rfl rfl ?_
      refine WL.move rfl rfl ?_
      refine WL.no rfl rfl rfl ?_
      refine WL.no rfl rfl rfl ?_
      refine WL.no rfl rfl rfl ?_
      refine WL.no rfl rfl rfl ?_
      refine WL.no rfl rfl rfl ?_
      refine WL.yes rfl rfl ?_
      refine WL.pickF rfl rfl rfl ?_
      refine WL.yes rfl rfl ?_
      refine WL.move rfl rfl ?_
      refine WL.no rfl rfl rfl ?_
      refine WL.no rfl rfl rfl ?_
      refine WL.no rfl rfl rfl ?_
      refine WL.no rfl rfl rfl ?_
      refine WL.no rfl rfl rfl ?_
      refine WL.yes rfl rfl ?_
      refine WL.pickF rfl rfl rfl ?_
      refine WL.pickF rfl rfl rfl ?_
      refine WL.assign rfl rfl ?_
      refine (WL.done (WX.next ?_))
      refine (WC.ret ?_)
      refine ret_one rfl rfl ?_
      refine ⟨congrArg (fun b => Ending.returned (Value.bool b)) (Bool.eq_iff_iff.2 ?_), H.weaken (List.nil_sublist _)⟩
      rw [pRight_of]
      simp only [decide_eq_true_eq, Bool.false_eq_true, true_iff, false_iff]
      omega

theorem refright_root_any (p : Int) (w : World) : Calls Tryd.prog 195 #[.int .i64 p] w fun e w' => e = .returned (.bool (pRight p)) ∧ St w [] w' [] := by
  refine calls_walk_n (args := [.int .i64 p]) Tryd.func195 rfl rfl rfl ?_
  have H := St.refl w
  refine WC.seq ?_
  refine WC.region ?_
  refine WL.assign rfl rfl ?_
  refine (WL.done (WX.next ?_))
  refine WC.seq ?_
  refine WC.seq ?_
  refine WC.region ?_
  refine WL.move rfl rfl ?_
  refine WL.bin rfl rfl binv_eql rfl ?_
  refine (WL.done (WX.next ?_))
  refine WC.cond_dec rfl (fun c1 => ?_) (fun c1 => ?_)
  ·
    refine WC.seq ?_
    refine WC.region ?_
    refine WL.assign rfl rfl ?_
    refine (WL.done (WX.next ?_))
    refine (WC.ret (WX.then_ret ?_))
    refine ret_one rfl rfl ?_
    refine ⟨congrArg (fun b => Ending.returned (Value.bool b)) (Bool.eq_iff_iff.2 ?_), H.weaken (List.nil_sublist _)⟩
    rw [pRight_of]
    simp only [decide_eq_true_eq, Bool.false_eq_true, true_iff, false_iff]
    omega
  ·
    refine (WC.skip (WX.next ?_))
    refine WC.seq ?_
    refine WC.region ?_
    refine WL.move rfl rfl ?_
    refine WL.call call211 rfl rfl ?_
    refine Calls.mono (refpword_any p _) ?_
    rintro _ wx ⟨rfl, rfl⟩
    refine ⟨_, rfl, ?_⟩
    refine WL.move rfl rfl ?_
    refine WL.split (t := 7) rfl (fun g1 => ?_) (fun g1 => ?_)
    ·
      have hw := isWord_iff.1 g1
      refine WL.yes rfl rfl ?_
      refine WL.move rfl rfl ?_
      refine WL.yes rfl rfl ?_
      refine WL.bin rfl rfl (irem (by omega) (by omega)) rfl ?_
      refine WL.yes rfl rfl ?_
      refine WL.bin rfl rfl binv_gtr rfl ?_
      refine WL.pickT rfl rfl rfl ?_
      refine WL.move rfl rfl ?_
      refine WL.splitD (t := 12) rfl (fun g2 => ?_) (fun g2 => ?_)
      ·
        refine WL.yes rfl rfl ?_
        refine WL.move rfl rfl ?_
        refine WL.yes rfl rfl ?_
        refine WL.bin rfl rfl (iquo (by omega) (by omega) (by omega)) rfl ?_
        refine WL.yes rfl rfl ?_
        refine WL.bin rfl rfl binv_gtr rfl ?_
        refine WL.pickT rfl rfl rfl ?_
        refine WL.move rfl rfl ?_
        refine WL.splitD (t := 17) rfl (fun g3 => ?_) (fun g3 => ?_)
        ·
          refine WL.yes rfl rfl ?_
          refine WL.move rfl rfl ?_
          refine WL.yes rfl rfl ?_
          refine WL.bin rfl rfl (iquo (by omega) (by omega) (by omega)) rfl ?_
          refine WL.yes rfl rfl ?_
          refine WL.bin rfl rfl binv_lss rfl ?_
          refine WL.pickT rfl rfl rfl ?_
          refine WL.assign rfl rfl ?_
          refine (WL.done (WX.next ?_))
          refine (WC.ret ?_)
          refine ret_one rfl rfl ?_
          refine ⟨congrArg (fun b => Ending.returned (Value.bool b)) (Bool.eq_iff_iff.2 ?_), H.weaken (List.nil_sublist _)⟩
          rw [pRight_of]
          simp only [decide_eq_true_eq, Bool.false_eq_true, true_iff, false_iff]
          omega
        ·
          refine WL.no rfl rfl rfl ?_
          refine WL.no rfl rfl rfl ?_
          refine WL.no rfl rfl rfl ?_
          refine WL.pickF rfl rfl rfl ?_
          refine WL.assign rfl rfl ?_
          refine (WL.done (WX.next ?_))
          refine (WC.ret ?_)
          refine ret_one rfl rfl ?_
          refine ⟨congrArg (fun b => Ending.returned (Value.bool b)) (Bool.eq_iff_iff.2 ?_), H.weaken (List.nil_sublist _)⟩
          rw [pRight_of]
          simp only [decide_eq_true_eq, Bool.false_eq_true, true_iff, false_iff]
          omega
      ·
        refine WL.no rfl rfl rfl ?_
        refine WL.no rfl rfl rfl ?_
        refine WL.no rfl rfl rfl ?_
        refine WL.pickF rfl rfl rfl ?_
        refine WL.move rfl rfl ?_
        refine WL.no rfl rfl rfl ?_
        refine WL.no rfl rfl rfl ?_
        refine WL.no rfl rfl rfl ?_
        refine WL.pickF rfl rfl rfl ?_
        refine WL.assign rfl rfl ?_
        refine (WL.done (WX.next ?_))
        refine (WC.ret ?_)
        refine ret_one rfl rfl ?_
        refine ⟨congrArg (fun b => Ending.returned (Value.bool b)) (Bool.eq_iff_iff.2 ?_), H.weaken (List.nil_sublist _)⟩
        rw [pRight_of]
        simp only [decide_eq_true_eq, Bool.false_eq_true, true_iff, false_iff]
        omega
    ·
      have hw : ¬ (0 ≤ p ∧ p ≤ 1099511627775) := fun h => by have h2 := isWord_iff.2 h; rw [h2] at g1; cases g1
      refine WL.no rfl rfl rfl ?_
      refine WL.no rfl rfl rfl ?_
      refine WL.no rfl rfl rfl ?_
      refine WL.pickF rfl rfl rfl ?_
      refine WL.move rfl rfl ?_
      refine WL.no rfl rfl rfl ?_
      refine WL.no rfl rfl rfl ?_
      refine WL.no rfl rfl rfl ?_
      refine WL.pickF rfl rfl rfl ?_
      refine WL.move rfl rfl ?_
      refine WL.no rfl rfl rfl ?_
      refine WL.no rfl rfl rfl ?_
      refine WL.no rfl rfl rfl ?_
      refine WL.pickF rfl rfl rfl ?_
      refine WL.assign rfl rfl ?_
      refine (WL.done (WX.next ?_))
      refine (WC.ret ?_)
      refine ret_one rfl rfl ?_
      refine ⟨congrArg (fun b => Ending.returned (Value.bool b)) (Bool.eq_iff_iff.2 ?_), H.weaken (List.nil_sublist _)⟩
      rw [pRight_of]
      simp only [decide_eq_true_eq, Bool.false_eq_true, true_iff, false_iff]
      omega

end Go.Proofs.YtkncbggnaobgeaaDoor

/- Walks of functions of the program; printed by a program of this session (walk.py) out of hand-written hints. -/
namespace Go.Proofs.YtkncbggnaobgeaaDoor
open Go.RowKit
set_option linter.unusedVariables false
set_option linter.unusedSimpArgs false
set_option maxRecDepth 100000

theorem wrap_u8 {x : Int} (h : 0 ≤ x) (h' : x ≤ 255) : IntKind.u8.wrap x = x := by
  simp [IntKind.wrap, IntKind.bits, IntKind.signed]; omega
section
variable {P : Program} {t : TypeId} {x y : Int} {a b : Nat}
theorem ofInt8 (hx : x = (a : Int)) (ha : a < 256) : (BitVec.ofInt 8 x).toNat = a := by
  subst hx
  rw [BitVec.toNat_ofInt]
  omega
theorem bxorN (hx : x = (a : Int)) (hy : y = (b : Int)) (ha : a < 256) (hb : b < 256) : BinV P .xor t (.int .u8 x) (.int .u8 y) (.int .u8 ((a ^^^ b : Nat) : Int)) := by
  refine binv_xor ?_
  have h1 : a ^^^ b < 256 := Nat.xor_lt_two_pow (n := 8) ha hb
  show IntKind.u8.wrap (((BitVec.ofInt 8 x ^^^ BitVec.ofInt 8 y).toNat : Nat) : Int) = _
  rw [BitVec.toNat_xor, ofInt8 hx ha, ofInt8 hy hb]
  exact wrap_u8 (by omega) (by omega)
theorem bandN (hx : x = (a : Int)) (hy : y = (b : Int)) (ha : a < 256) (hb : b < 256) : BinV P .and t (.int .u8 x) (.int .u8 y) (.int .u8 ((a &&& b : Nat) : Int)) := by
  refine binv_and ?_
  have h1 : a &&& b ≤ a := Nat.and_le_left
  show IntKind.u8.wrap (((BitVec.ofInt 8 x &&& BitVec.ofInt 8 y).toNat : Nat) : Int) = _
  rw [BitVec.toNat_and, ofInt8 hx ha, ofInt8 hy hb]
  exact wrap_u8 (by omega) (by omega)
theorem ushlN {k' : IntKind} {m : Nat} (hx : x = (a : Int)) (hy : y = (m : Int)) (hm : m < 64) (h : a * 2 ^ m < 18446744073709551616) : BinV P .shl t (.int .u64 x) (.int k' y) (.int .u64 ((a * 2 ^ m : Nat) : Int)) := by
  refine binv_shl (by omega) ?_
  subst hx hy
  rw [show min ((m : Int)).toNat (IntKind.u64.bits) = m from Nat.min_eq_left (by show m ≤ 64; omega)]
  rw [show (a : Int) * 2 ^ m = ((a * 2 ^ m : Nat) : Int) by norm_cast]
  exact wrap_u64 (by omega) (by omega)
end
theorem GN.rd {w : World} (h : GN w) (k : Nat) (hk : k < 16) : Rd Tryd.prog w 250 ⟨1, 0 + k * 1, none⟩ (.int .u64 (nibT.getD k 0 : Nat)) := by
  obtain ⟨t, fr, h⟩ := h
  exact Rd.one ty250 (by rw [cell_of h, Nat.zero_add, Nat.mul_one]; exact nib_at k hk)
theorem GN.lt {w : World} (h : GN w) : 1 < w.heap.size := by obtain ⟨t, fr, h⟩ := h; exact lt_of_some h
theorem GN.ofX {w w' : World} {S : List Nat} (h : GN w) (hS : SX w S w') (hn : 1 ∉ S) : GN w' := by
  obtain ⟨t, fr, h⟩ := h
  exact ⟨t, fr, hS.block h hn⟩
abbrev crcv (r : Nat) : Value := .agg #[.int .u64 (r : Int)]

theorem beginCrc_any (w : World) : Calls Tryd.prog 192 #[] w fun e w' => e = .returned (crcv 1099511627775) ∧ St w [] w' [] := by
  refine calls_walk_n (args := []) Tryd.func192 rfl rfl rfl ?_
  have H := St.refl w
  refine WC.seq ?_
  refine WC.region ?_
  refine WL.alloc H zer252 rfl ?_
  intro b0 wx hb0 hge0 H
  refine (WL.done (WX.next ?_))
  refine WC.seq ?_
  refine WC.region ?_
  refine WL.build (cells := #[.int .u64 1099511627775]) pla252 zer252 rfl rfl (by kernel_rfl) ?_
  refine WL.storeTo (cs' := #[.int .u64 1099511627775]) H ty252 0 rfl rfl rfl (by rfl) (by simp [Value.cells, Value.oneCell']) (by decide) (by kernel_rfl) ?_
  intro wx H
  refine (WL.done (WX.next ?_))
  refine (WC.ret ?_)
  refine ret_cell rfl ⟨_, rfl, by exact H.rdA ty252 0 rfl (by first | decide | exact Nat.le_refl _)⟩ ?_
  exact ⟨rfl, H.weaken (List.nil_sublist _)⟩

theorem nibble_any (r x : Nat) (hr : r < 1099511627776) (hx : x < 16) (w : World) (hG : GN w) : Calls Tryd.prog 193 #[crcv r, .int .u8 (x : Int)] w fun e w' => e = .returned (crcv (nib r x)) ∧ St w [] w' [] := by
  refine calls_walk_n (args := [crcv r, .int .u8 (x : Int)]) Tryd.func193 rfl rfl rfl ?_
  have H := St.refl w
  refine WC.seq ?_
  refine WC.region ?_
  refine WL.box (v := crcv r) H rfl rfl ?_
  intro b2 wx hb2 hge2 H
  change St w [] wx [(b2, .cells #[.int .u64 (r : Int)] 252)] at H
  refine WL.alloc H zer252 rfl ?_
  intro b4 wx hb4 hge4 H
  refine (WL.done (WX.next ?_))
  refine WC.seq ?_
  refine WC.region ?_
  have hr36 : r / 2 ^ 36 < 16 := by omega
  have hx36 : r / 2 ^ 36 ^^^ x < 16 := xor_lt 4 hr36 hx
  have ha16 : (r / 2 ^ 36 ^^^ x) &&& 15 = (r / 68719476736 ^^^ x) % 16 := Nat.and_two_pow_sub_one_eq_mod _ 4
  have hm16 : (r / 68719476736 ^^^ x) % 16 < 16 := Nat.mod_lt _ (by decide)
  have ha40 : r * 2 ^ 4 &&& 1099511627775 = r * 16 % 1099511627776 := Nat.and_two_pow_sub_one_eq_mod _ 40
  have hl40 : r * 16 % 1099511627776 < 1099511627776 := Nat.mod_lt _ (by decide)
  have hn40 := nibT_lt' (r / 68719476736 ^^^ x)
  refine WL.fieldAddr fld252_0 rfl rfl ?_
  refine WL.load rfl (H.rd1 ty250 1 rfl rfl) rfl ?_
  refine WL.bin rfl rfl (shrN (a := r) (m := 36) rfl rfl (by decide)) rfl ?_
  refine WL.convert int250 int5 rfl (wrap_u8 (by omega) (by omega)) rfl ?_
  refine WL.move rfl rfl ?_
  refine WL.bin rfl rfl (bxorN (a := r / 2 ^ 36) (b := x) rfl rfl (by omega) (by omega)) rfl ?_
  refine WL.assign rfl rfl ?_
  refine (WL.done (WX.next ?_))
  refine WC.seq ?_
  replace H := H.drew
  refine WC.held (SX (World.drew wx) [b4]) (by kernel_rfl) ?_
  generalize World.drew wx = wb at H ⊢
  have HB := H.single 0 rfl
  refine WH.take 0 rfl (by kernel_rfl) (by kernel_rfl) (by kernel_rfl) (fun _ _ _ h => h) ⟨_, HB⟩ (fun w' hS => EX.fieldAddr fld252_0 rfl) rfl ?_
  refine WH.take 1 rfl (by kernel_rfl) (by kernel_rfl) (by kernel_rfl) (fun _ _ _ h => h) ⟨_, HB⟩ (fun w' hS => EX.load rfl (hS.rd1 ty250 (H.blk 1 rfl) (by simpa using H.ne 1 0 rfl rfl rfl) rfl)) rfl ?_
  refine WH.take 2 rfl (by kernel_rfl) (by kernel_rfl) (by kernel_rfl) (fun _ _ _ h => h) ⟨_, HB⟩ (fun w' hS => EX.bin rfl rfl (ushlN (a := r) (m := 4) rfl rfl (by decide) (by omega))) rfl ?_
  refine WH.take 3 rfl (by kernel_rfl) (by kernel_rfl) (by kernel_rfl) (fun _ _ _ h => h) ⟨_, HB⟩ (fun w' hS => EX.bin rfl rfl ((by rw [← ha40]; exact uandN (a := r * 2 ^ 4) (b := 1099511627775) rfl rfl (by omega) (by omega) : BinV Tryd.prog .and 250 (.int .u64 ((r * 2 ^ 4 : Nat) : Int)) (.int .u64 1099511627775) (.int .u64 ((r * 16 % 1099511627776 : Nat) : Int))))) rfl ?_
  refine WH.take 4 rfl (by kernel_rfl) (by kernel_rfl) (by kernel_rfl) (fun _ _ _ h => h) ⟨_, HB⟩ (fun w' hS => EX.move rfl) rfl ?_
  refine WH.take 5 rfl (by kernel_rfl) (by kernel_rfl) (by kernel_rfl) (fun _ _ _ h => h) ⟨_, HB⟩ (fun w' hS => EX.bin rfl rfl ((by rw [← ha16]; exact bandN (a := r / 2 ^ 36 ^^^ x) (b := 15) rfl rfl (by omega) (by omega) : BinV Tryd.prog .and 5 (.int .u8 ((r / 2 ^ 36 ^^^ x : Nat) : Int)) (.int .u8 15) (.int .u8 (((r / 68719476736 ^^^ x) % 16 : Nat) : Int))))) rfl ?_
  refine WH.take 6 rfl (by kernel_rfl) (by kernel_rfl) (by kernel_rfl) (fun _ _ _ h => h) ⟨_, HB⟩ (fun w' hS => EX.idxArr (k := (r / 68719476736 ^^^ x) % 16) arr268 rfl rfl (by rfl) (hm16)) rfl ?_
  refine WH.take 7 rfl (by kernel_rfl) (by kernel_rfl) (by kernel_rfl) (fun _ _ _ h => h) ⟨_, HB⟩ (fun w' hS => EX.load rfl (((hG.of0 H).ofX hS (by have := hG.lt; simp; omega)).rd _ hm16)) rfl ?_
  refine WH.take 8 rfl (by kernel_rfl) (by kernel_rfl) (by kernel_rfl) (fun _ _ _ h => h) ⟨_, HB⟩ (fun w' hS => EX.bin rfl rfl (uxorN (a := r * 16 % 1099511627776) (b := nibT.getD ((r / 68719476736 ^^^ x) % 16) 0) rfl rfl (by omega) (by omega))) rfl ?_
  refine WH.take 9 rfl (by kernel_rfl) (by kernel_rfl) (by kernel_rfl) (fun _ _ _ h => h) ⟨_, HB⟩ (fun w' hS => EX.build (cells := #[.int .u64 (nib r x : Nat)]) pla252 zer252 rfl (by kernel_rfl)) rfl ?_
  refine WH.hard 10 rfl (by kernel_rfl) ?_
  refine WL.storeTo (cs' := #[.int .u64 (nib r x : Nat)]) HB ty252 0 rfl rfl rfl (by rfl) (by simp [Value.cells, Value.oneCell']) (by decide) (by kernel_rfl) ?_
  intro wx HB
  refine WL.done (WX.heldOn ⟨_, HB⟩ ?_)
  refine WH.done (by kernel_rfl) ?_
  replace H := H.back (N := []) 0 rfl HB rfl
  refine WX.next ?_
  refine (WC.ret ?_)
  refine ret_cell rfl ⟨_, rfl, by exact H.rdA ty252 0 rfl (by first | decide | exact Nat.le_refl _)⟩ ?_
  exact ⟨rfl, H.weaken (List.nil_sublist _)⟩

theorem value_any (r : Nat) (hr : r < 1099511627776) (w : World) : Calls Tryd.prog 194 #[crcv r] w fun e w' => e = .returned (.int .i64 ((r ^^^ 1099511627775 : Nat) : Int)) ∧ St w [] w' [] := by
  refine calls_walk_n (args := [crcv r]) Tryd.func194 rfl rfl rfl ?_
  have H := St.refl w
  refine WC.seq ?_
  refine WC.region ?_
  refine WL.box (v := crcv r) H rfl rfl ?_
  intro b1 wx hb1 hge1 H
  change St w [] wx [(b1, .cells #[.int .u64 (r : Int)] 252)] at H
  have hx40 : r ^^^ 1099511627775 < 1099511627776 := xor_lt 40 hr (by decide)
  refine WL.assign rfl rfl ?_
  refine (WL.done (WX.next ?_))
  refine WC.seq ?_
  refine WC.region ?_
  refine WL.fieldAddr fld252_0 rfl rfl ?_
  refine WL.load rfl (H.rd1 ty250 0 rfl rfl) rfl ?_
  refine WL.bin rfl rfl (uxorN (a := r) (b := 1099511627775) rfl rfl (by omega) (by omega)) rfl ?_
  refine WL.convert int250 int3 rfl (wrap_i64 (by omega) (by omega)) rfl ?_
  refine WL.assign rfl rfl ?_
  refine (WL.done (WX.next ?_))
  refine (WC.ret ?_)
  refine ret_one rfl rfl ?_
  exact ⟨rfl, H.weaken (List.nil_sublist _)⟩

end Go.Proofs.YtkncbggnaobgeaaDoor

/- Walks of functions of the program; printed by a program of this session (walk.py) out of hand-written hints. -/
namespace Go.Proofs.YtkncbggnaobgeaaDoor
open Go.RowKit
set_option linter.unusedVariables false
set_option linter.unusedSimpArgs false
set_option maxRecDepth 100000

theorem GN.ofS {w0 w : World} {S : List Nat} {H : Hp} (h : GN w0) (hS : St w0 S w H) (hn : 1 ∉ S) : GN w := by
  obtain ⟨t, fr, h⟩ := h
  exact ⟨t, fr, hS.oldBlock h hn⟩
theorem shrZ {P : Program} {t : TypeId} {k k' : IntKind} {x y : Int} {m : Nat} (hy : y = (m : Int)) (hm : m ≤ k.bits) : BinV P .shr t (.int k x) (.int k' y) (.int k (x / 2 ^ m)) := by
  refine binv_shr (by omega) ?_
  subst hy
  rw [show min ((m : Int)).toNat k.bits = m from Nat.min_eq_left hm]
  exact Int.fdiv_eq_ediv_of_nonneg _ (by have := Nat.two_pow_pos m; norm_cast; omega)
theorem wrap_nbl (x : Int) (j : Nat) : IntKind.u8.wrap (x / 2 ^ (36 - 4 * j) % 2 ^ 4) = ((nbl x j : Nat) : Int) := by
  have h1 := nbl_lt x j
  have e : x / 2 ^ (36 - 4 * j) % 2 ^ 4 = ((nbl x j : Nat) : Int) := by
    unfold nbl
    rw [Int.toNat_of_nonneg (Int.emod_nonneg _ (by decide))]
    rfl
  rw [e]
  exact wrap_u8 (by omega) (by omega)

theorem hashWords_any (A : Option Addr) (m cap : Nat) (xs : List Int) (hmx : m = xs.length) (hm : m ≤ 9223372036854775806) (w : World) (hG : GN w) (hx : IntsIn w A xs) : Calls Tryd.prog 149 #[.slice A m cap] w fun e w' => e = .returned (.int .i64 (crc xs)) ∧ St w [] w' [] := by
  refine calls_walk_n (args := [.slice A m cap]) Tryd.func149 rfl rfl rfl ?_
  have H := St.refl w
  refine WC.seq ?_
  refine WC.region ?_
  refine WL.assign rfl rfl ?_
  refine (WL.done (WX.next ?_))
  refine WC.seq ?_
  refine WC.region ?_
  refine WL.call call192 rfl rfl ?_
  refine Calls.mono (beginCrc_any _) ?_
  rintro _ wx ⟨rfl, Hc⟩
  refine ⟨_, rfl, ?_⟩
  replace H := H.call0 Hc
  refine WL.alloc H zer252 rfl ?_
  intro b3 wx hb3 hge3 H
  refine WL.storeTo (cs' := #[.int .u64 ((crcTo xs 0 : Nat) : Int)]) H ty252 0 rfl rfl rfl (by rfl) (by simp [Value.cells, Value.oneCell']) (by decide) (by kernel_rfl) ?_
  intro wx H
  refine (WL.done (WX.next ?_))
  refine WC.seq ?_
  refine WC.seq ?_
  refine WC.region ?_
  refine WL.move rfl rfl ?_
  refine WL.lenSlc isl43 rfl rfl ?_
  refine WL.move rfl rfl ?_
  refine (WL.done (WX.next ?_))
  refine WC.block ?_
  -- loop 1: changed [10] kept [3, 8, 9]
  refine WC.loop (Sub.cons (t := 3) rfl (Sub.cons (t := 8) rfl (Sub.cons (t := 9) rfl (Sub.nil _)))) (fun i : Nat => [(10, .int .i64 (i : Int))]) (fun q i wx => q = m - i ∧ i ≤ m ∧ St w [] wx [(b3, .cells #[.int .u64 ((crcTo xs i : Nat) : Int)] 252)]) (m) (0) (Sub.cons (t := 10) (by rfl) (Sub.nil _)) (⟨rfl, Nat.zero_le _, H⟩) ?_
  rintro k g wx hI N hN
  obtain ⟨rfl, hg, H⟩ := hI
  refine WC.seq ?_
  refine WC.region ?_
  refine WL.bin rfl rfl binv_lss rfl ?_
  refine (WL.done (WX.next ?_))
  refine WC.seq ?_
  refine WC.cond_dec rfl (fun c1 => ?_) (fun c1 => ?_)
  ·
    change (g : Int) < (m : Int) at c1
    obtain ⟨b, o, cs, t, fr, rfl, hb, hcs⟩ : ∃ b o cs t fr, A = some ⟨b, o, none⟩ ∧ w.heap[b]? = some (.cells cs t fr) ∧ ∀ j u, xs[j]? = some u → cs[o + j]? = some (.int .i64 u) := by
      rcases hx with h | h
      · rw [h] at hmx; simp at hmx; omega
      · exact h
    have hgx : xs[g]? = some (xs.getD g 0) := by rw [List.getD, List.getElem?_eq_getElem (by omega)]; rfl
    refine (WC.skip (WX.next ?_))
    refine WC.seq ?_
    refine WC.block ?_
    refine WC.seq ?_
    refine WC.region ?_
    refine WL.idxSlc (k := g) slc43 rfl rfl (by rfl) (by omega) rfl ?_
    refine WL.load rfl (Rd.one ty3 (by rw [cell_of (H.oldBlock hb (by simp)), Nat.mul_one]; exact hcs g _ hgx)) rfl ?_
    refine WL.assign rfl rfl ?_
    refine (WL.done (WX.next ?_))
    refine WC.seq ?_
    refine WC.region ?_
    refine WL.assign rfl rfl ?_
    refine (WL.done (WX.next ?_))
    refine WC.block ?_
    -- loop 2: changed [6] kept [3, 5, 8, 9, 10]
    refine WC.loop (Sub.cons (t := 3) rfl (Sub.cons (t := 5) rfl (Sub.cons (t := 8) rfl (Sub.cons (t := 9) rfl (Sub.cons (t := 10) rfl (Sub.nil _)))))) (fun i : Nat => [(6, .int .i64 (36 - 4 * (i : Int)))]) (fun q i wx => q = 10 - i ∧ i ≤ 10 ∧ St w [] wx [(b3, .cells #[.int .u64 ((crcW (crcTo xs g) (xs.getD g 0) i : Nat) : Int)] 252)]) (10) (0) (Sub.cons (t := 6) (by rfl) (Sub.nil _)) (⟨rfl, Nat.zero_le _, H⟩) ?_
    rintro k2 j wx hI2 N2 hN2
    obtain ⟨rfl, hj, H⟩ := hI2
    refine WC.seq ?_
    refine WC.seq ?_
    refine WC.region ?_
    refine WL.move rfl rfl ?_
    refine WL.bin rfl rfl binv_geq rfl ?_
    refine (WL.done (WX.next ?_))
    refine WC.cond_dec rfl (fun c2 => ?_) (fun c2 => ?_)
    ·
      change 36 - 4 * (j : Int) ≥ 0 at c2
      refine (WC.skip (WX.next ?_))
      refine WC.seq ?_
      refine WC.block ?_
      replace H := H.drew
      refine WC.held (SX (World.drew wx) [b3]) (by kernel_rfl) ?_
      generalize World.drew wx = wb at H ⊢
      have HB := H.single 0 rfl
      refine WH.take 1 rfl (by kernel_rfl) (by kernel_rfl) (by kernel_rfl) (fun _ _ _ h => h) ⟨_, HB⟩ (fun w' hS => EX.move rfl) rfl ?_
      refine WH.take 2 rfl (by kernel_rfl) (by kernel_rfl) (by kernel_rfl) (fun _ _ _ h => h) ⟨_, HB⟩ (fun w' hS => EX.move rfl) rfl ?_
      refine WH.take 3 rfl (by kernel_rfl) (by kernel_rfl) (by kernel_rfl) (fun _ _ _ h => h) ⟨_, HB⟩ (fun w' hS => EX.bin rfl rfl (shrZ (m := 36 - 4 * j) (by omega) (by show _ ≤ 64; omega))) rfl ?_
      refine WH.take 4 rfl (by kernel_rfl) (by kernel_rfl) (by kernel_rfl) (fun _ _ _ h => h) ⟨_, HB⟩ (fun w' hS => EX.bin rfl rfl (iandm (k := 4) (by decide) rfl)) rfl ?_
      refine WH.take 5 rfl (by kernel_rfl) (by kernel_rfl) (by kernel_rfl) (fun _ _ _ h => h) ⟨_, HB⟩ (fun w' hS => EX.convert int3 int5 rfl (wrap_nbl _ _)) rfl ?_
      refine WH.hard 0 rfl (by kernel_rfl) ?_
      refine WL.load rfl (HB.rdAll ty252 0 rfl rfl) rfl ?_
      refine WL.done (WX.heldOn ⟨_, HB⟩ ?_)
      refine WH.hard 6 rfl (by kernel_rfl) ?_
      refine WL.call call193 rfl rfl ?_
      refine Calls.mono (nibble_any (crcW (crcTo xs g) (xs.getD g 0) j) (nbl (xs.getD g 0) j) (crcW_lt (crcTo_lt _ _) _ _) (nbl_lt _ _) _ ((hG.of0 H).ofS HB (by have := hG.lt; simp; omega))) ?_
      rintro _ wx ⟨rfl, Hc⟩
      refine ⟨_, rfl, ?_⟩
      replace HB := HB.call0 Hc
      refine WL.done (WX.heldOn ⟨_, HB⟩ ?_)
      refine WH.hard 7 rfl (by kernel_rfl) ?_
      refine WL.storeTo (cs' := #[.int .u64 ((crcW (crcTo xs g) (xs.getD g 0) (j + 1) : Nat) : Int)]) HB ty252 0 rfl rfl rfl (by rfl) (by simp [Value.cells, Value.oneCell']) (by simp [wr_size]) (by kernel_rfl) ?_
      intro wx HB
      refine WL.done (WX.heldOn ⟨_, HB⟩ ?_)
      refine WH.done (by kernel_rfl) ?_
      replace H := H.back (N := []) 0 rfl HB rfl
      refine (WX.block_normal (WX.next ?_))
      refine WC.region ?_
      refine WL.move rfl rfl ?_
      refine WL.bin rfl rfl ((by have := isub (P := Tryd.prog) (t := 3) (x := 36 - 4 * (j : Int)) (y := 4) (by omega) (by omega); rw [show 36 - 4 * (j : Int) - 4 = 36 - 4 * ((j + 1 : Nat) : Int) by omega] at this; exact this)) rfl ?_
      refine WL.assign rfl rfl ?_
      refine (WL.done (WX.round ?_))
      exact hN2 _ (j + 1) _ _ (by omega) ⟨rfl, by omega, H⟩ (Sub.cons (t := 6) (by rfl) (Sub.nil _)) (Sub.cons (t := 3) rfl (Sub.cons (t := 5) rfl (Sub.cons (t := 8) rfl (Sub.cons (t := 9) rfl (Sub.cons (t := 10) rfl (Sub.nil _))))))
    ·
      change ¬ 36 - 4 * (j : Int) ≥ 0 at c2
      obtain rfl : j = 10 := by omega
      refine (WC.exit (WX.then_exit (WX.then_exit (WX.block_exit (WX.block_normal (WX.next ?_))))))
      refine WC.region ?_
      refine WL.bin rfl rfl (iadd (by omega) (by omega)) rfl ?_
      refine WL.move rfl rfl ?_
      refine (WL.done (WX.round ?_))
      exact hN _ (g + 1) _ _ (by omega) ⟨rfl, by omega, H⟩ (Sub.cons (t := 10) (by rfl) (Sub.nil _)) (Sub.cons (t := 3) rfl (Sub.cons (t := 8) rfl (Sub.cons (t := 9) rfl (Sub.nil _))))
  ·
    change ¬ (g : Int) < (m : Int) at c1
    obtain rfl : g = m := by omega
    refine (WC.exit (WX.then_exit (WX.then_exit (WX.block_exit (WX.next ?_)))))
    refine WC.seq ?_
    refine WC.region ?_
    refine WL.load rfl (H.rdAll ty252 0 rfl rfl) rfl ?_
    refine WL.call call194 rfl rfl ?_
    refine Calls.mono (value_any (crcTo xs g) (crcTo_lt _ _) _) ?_
    rintro _ wx ⟨rfl, Hc⟩
    refine ⟨_, rfl, ?_⟩
    replace H := H.call0 Hc
    refine WL.assign rfl rfl ?_
    refine (WL.done (WX.next ?_))
    refine (WC.ret ?_)
    refine ret_one rfl rfl ?_
    refine ⟨?_, H.weaken (List.nil_sublist _)⟩
    rw [hmx]
    rfl

end Go.Proofs.YtkncbggnaobgeaaDoor

/- Flush and fence, as a deferred call has them. -/
namespace Go.Proofs.YtkncbggnaobgeaaDoor
open Go.RowKit
set_option linter.unusedVariables false
set_option linter.unusedSimpArgs false
set_option maxRecDepth 100000

section
variable {w0 w : World} {L : Hp} {R : RM} {p k : Nat} {M : PM}
theorem a_flush_w (n : Int) (hk : k < 1073741824) (hI : Is R p M k) (H : St w0 [] w (L ++ R.hp)) (hL : L64 w0) :
    CallsW Tryd.prog 35 [ptr p, .int .i64 n] w fun e w' => ∃ R', e = .returned (.int .i64 (if M.has n then 0 else 40)) ∧ Is R' p (M.flush n) (k + 1) ∧ St w0 [] w' (L ++ R'.hp) := by
  have hm := hI.mem H hL
  have h1 := hI.evs
  obtain ⟨rfl, rfl, hok, hs⟩ := hI
  exact (flush_w R n (by omega) w hm).mono fun e w' ⟨R', h, hp, ha', hok', Hc⟩ => ⟨R', h, ⟨hp, ha', hok', hs.flush _⟩, H.callM Hc⟩
theorem a_fence_w (hk : k < 1073741824) (hI : Is R p M k) (H : St w0 [] w (L ++ R.hp)) (hL : L64 w0) :
    CallsW Tryd.prog 36 [ptr p] w fun e w' => ∃ R', e = .returned (.tuple #[]) ∧ Is R' p M.fence (k + 1) ∧ St w0 [] w' (L ++ R'.hp) := by
  have hm := hI.mem H hL
  have h1 := hI.evs; have h2 := hI.ps
  obtain ⟨rfl, rfl, hok, hs⟩ := hI
  exact (fence_w R (by omega) (fun x hx => Nat.le_trans (h2 x hx) (Nat.le_of_lt hk)) w hm (hL.of0 H)).mono fun e w' ⟨R', h, hp, ha', hok', Hc⟩ => ⟨R', h, ⟨hp, ha', hok', hs.fence⟩, H.callM Hc⟩
end
end Go.Proofs.YtkncbggnaobgeaaDoor

/- What else the laid variables give the walks; structs and arrays of integers among a law's arguments. -/
namespace Go.Proofs.YtkncbggnaobgeaaDoor
open Go.ChangeShapes Go.WideShapes Go.ChangeAt Go.WideMaps Go.WideElems Go.RowKit
set_option linter.unusedVariables false
set_option linter.unusedSimpArgs false
set_option linter.unusedSectionVars false
set_option maxRecDepth 100000

theorem gPtr : Tryd.prog.globalNamed "alum/pointer.pointers" = some 0 := by kernel_rfl
theorem gNib : Tryd.prog.globalNamed "alum/hash.nibbles" = some 1 := by kernel_rfl
theorem GP.laid {w : World} {laid : List (String × DataW Unit)} (h : laidMet Tryd.prog laid w) (hm : ("alum/pointer.pointers", Rows.laid_alum_pointer_pointers) ∈ laid) : GP w := by
  obtain ⟨t', fr, hb⟩ := laid_ints (k := .i64) (f := 3) (t := (Tryd.prog.globals[0]?.map (·.type)).getD 0) h hm gPtr (by kernel_rfl) (by kernel_rfl)
  exact ⟨t', fr, hb.trans (by kernel_rfl)⟩
theorem GN.laid {w : World} {laid : List (String × DataW Unit)} (h : laidMet Tryd.prog laid w) (hm : ("alum/hash.nibbles", Rows.laid_alum_hash_nibbles) ∈ laid) : GN w := by
  obtain ⟨t', fr, hb⟩ := laid_ints (k := .u64) (f := 2) (t := (Tryd.prog.globals[1]?.map (·.type)).getD 0) h hm gNib (by kernel_rfl) (by kernel_rfl)
  exact ⟨t', fr, hb.trans (by kernel_rfl)⟩
theorem GG.laid {w : World} {laid : List (String × DataW Unit)} (h : laidMet Tryd.prog laid w) (hm : ("math/bits.deBruijn64tab", Rows.laid_math_bits_deBruijn64tab) ∈ laid) (hp : ("alum/pointer.pointers", Rows.laid_alum_pointer_pointers) ∈ laid) (hn : ("alum/hash.nibbles", Rows.laid_alum_hash_nibbles) ∈ laid) : GG w :=
  ⟨L64.laid h hm, GP.laid h hp, GN.laid h hn⟩
section
variable {H : Type} {enc : TypeId × Value → H} {w : World} {base b0 : Nat} {spare : Nat → Bool} {held : Bool} {r : Reach}
theorem leafS_open {t : TypeId} {fs : Array Field} {f n : Nat} (hu : Tryd.prog.underlying t = some (.struct fs)) (hl : leafB Tryd.prog .i64 f t = true) (hn : Tryd.prog.cellsOf t = n) {v : Value} {d : DataW H} {ps : List MemPlace} (hval : Value.okWide Tryd.prog w r b0 t v) (h : DataW.Trod enc Tryd.prog w base spare held t v d ps) :
    ∃ ws, v = arr ws ∧ ws.length = n := by
  obtain ⟨cs, rfl, _⟩ := okWide_struct hu hval
  obtain ⟨fuel, hf⟩ := h
  obtain ⟨e1, _, e3⟩ := leaf_open f t hl hf
  have e1' : cs.toList = (flatZ f d).map (Value.int .i64) := e1
  refine ⟨flatZ f d, ?_, ?_⟩
  · show Value.agg cs = Value.agg (arrC (flatZ f d))
    unfold arrC
    rw [← e1']
  · have e4 : cs.toList.length = n := by rw [← hn]; exact e3
    rw [e1', List.length_map] at e4
    exact e4
theorem leafA_open {t e : TypeId} {k f n : Nat} (hu : Tryd.prog.underlying t = some (.array k e)) (hl : leafB Tryd.prog .i64 f t = true) (hn : Tryd.prog.cellsOf t = n) {v : Value} {d : DataW H} {ps : List MemPlace} (hval : Value.okWide Tryd.prog w r b0 t v) (h : DataW.Trod enc Tryd.prog w base spare held t v d ps) :
    ∃ ws, v = arr ws ∧ ws.length = n := by
  simp only [Value.okWide, hu] at hval
  obtain ⟨cs, rfl, _, _⟩ := hval
  obtain ⟨fuel, hf⟩ := h
  obtain ⟨e1, _, e3⟩ := leaf_open f t hl hf
  have e1' : cs.toList = (flatZ f d).map (Value.int .i64) := e1
  refine ⟨flatZ f d, ?_, ?_⟩
  · show Value.agg cs = Value.agg (arrC (flatZ f d))
    unfold arrC
    rw [← e1']
  · have e4 : cs.toList.length = n := by rw [← hn]; exact e3
    rw [e1', List.length_map] at e4
    exact e4
end
theorem len4 {ws : List Int} (h : ws.length = 4) : ∃ a b c d, ws = [a, b, c, d] := ⟨_, _, _, _, list4 h⟩
theorem wf_u16 {z : Int} (h : (Lit.int .u16 z).wf = true) : 0 ≤ z ∧ z ≤ 65535 := by
  simp only [Lit.wf, Bool.and_eq_true, decide_eq_true_eq] at h
  have h1 : IntKind.min .u16 = 0 := by decide
  have h2 : IntKind.max .u16 = 65535 := by decide
  omega
end Go.Proofs.YtkncbggnaobgeaaDoor
