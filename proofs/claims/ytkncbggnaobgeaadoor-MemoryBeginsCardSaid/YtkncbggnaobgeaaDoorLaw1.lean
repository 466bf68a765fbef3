/- Walks of functions of the program; printed by a program of this session (walk.py) out of hand-written hints. -/
import Derived.Test.YtkncbggnaobgeaaDoorRef2
namespace Go.Proofs.YtkncbggnaobgeaaDoor
open Go.RowKit
set_option linter.unusedVariables false
set_option linter.unusedSimpArgs false
set_option maxRecDepth 100000

theorem tmod_bounds (x : Int) {n : Int} (hn : 0 < n) : -n < x.tmod n ∧ x.tmod n < n := by
  rcases Int.le_total 0 x with h | h
  · have h1 := Int.tmod_nonneg n h
    have h2 := Int.tmod_lt_of_pos x hn
    omega
  · obtain ⟨y, hy⟩ : ∃ y, y = -x := ⟨_, rfl⟩
    have h1 := Int.tmod_nonneg n (show 0 ≤ y by omega)
    have h2 := Int.tmod_lt_of_pos y hn
    have h3 : x.tmod n = -(y.tmod n) := by rw [hy, Int.neg_tmod]; omega
    omega
theorem least_eq (x : Int) {n : Int} (hn : 0 < n) : (x.tmod n + n) % n = x % n := by
  have h := Int.mul_tdiv_add_tmod x n
  rw [Int.add_emod_right]
  conv => rhs; rw [← h]
  rw [Int.add_comm, Int.add_mul_emod_self_left]

theorem least_any (x n : Int) (hn : 0 < n ∧ n ≤ 1073741824) (w : World) : Calls Tryd.prog 33 #[.int .i64 x, .int .i64 n] w fun e w' => e = .returned (.int .i64 (x % n)) ∧ w' = w := by
  have hb := tmod_bounds x hn.1
  refine calls_walk_n (args := [.int .i64 x, .int .i64 n]) Tryd.func33 rfl rfl rfl ?_
  refine WC.seq ?_
  refine WC.region ?_
  refine WL.assign rfl rfl ?_
  refine (WL.done (WX.next ?_))
  refine WC.seq ?_
  refine WC.region ?_
  refine WL.move rfl rfl ?_
  refine WL.move rfl rfl ?_
  refine WL.bin rfl rfl (iremT (by omega)) rfl ?_
  refine WL.move rfl rfl ?_
  refine WL.bin rfl rfl (iadd (by omega) (by omega)) rfl ?_
  refine WL.move rfl rfl ?_
  refine WL.bin rfl rfl (irem (by omega) (by omega)) rfl ?_
  refine WL.assign rfl rfl ?_
  refine (WL.done (WX.next ?_))
  refine (WC.ret ?_)
  refine ret_one rfl rfl ?_
  exact ⟨by rw [least_eq x hn.1], rfl⟩

end Go.Proofs.YtkncbggnaobgeaaDoor
