/- Walks of functions of the program; printed by a program of this session (walk.py) out of hand-written hints. -/
import Derived.Test.YtkncbggnaobgeaaDoorMem1
import Derived.Laws.Cover3
namespace Go.Proofs.YtkncbggnaobgeaaDoor
open Go.RowKit
set_option linter.unusedVariables false
set_option linter.unusedSimpArgs false
set_option maxRecDepth 100000

theorem binv_slc_eql {P : Program} {t e : TypeId} (h : P.underlying t = some (.slice e)) (a : Option Addr) (l c : Nat) : BinV P .eql t (.slice a l c) (.slice none 0 0) (.bool a.isNone) := fun x y w => by
  have : (eqGuard .eql t x y (.slice a l c) (.slice none 0 0)).run P w = .ok () w := by cases a <;> rfl
  simp [this, binOp, run_equal_slice_nil w t e a l c h]
theorem Row.ok_cast {r : Row} {sz n n' : Nat} {xs xs' : List Value} (h : r.ok sz n xs) (hn : n = n') (hx : xs = xs') : r.ok sz n' xs' := by subst hn; subst hx; exact h

theorem cloneP_nil (w : World) : Calls Tryd.prog 108 #[.slice none 0 0] w fun e w' => e = .returned (.slice none 0 0) ∧ w' = w := by
  refine calls_walk_n (args := [.slice none 0 0]) Tryd.func108 rfl rfl rfl ?_
  refine WC.seq ?_
  refine WC.region ?_
  refine WL.assign rfl rfl ?_
  refine (WL.done (WX.next ?_))
  refine WC.seq ?_
  refine WC.seq ?_
  refine WC.region ?_
  refine WL.move rfl rfl ?_
  refine WL.bin rfl rfl (binv_slc_eql Tryd.underlying52 _ _ _) rfl ?_
  refine (WL.done (WX.next ?_))
  refine WC.cond_true rfl (rfl) ?_
  refine WC.seq ?_
  refine WC.region ?_
  refine WL.assign rfl rfl ?_
  refine (WL.done (WX.next ?_))
  refine (WC.ret (WX.then_ret ?_))
  refine ret_one rfl rfl ?_
  exact ⟨rfl, rfl⟩

theorem cloneP_any (b o m c : Nat) (cs : Array Value) (t : TypeId) (w : World) (hb : w.heap[b]? = some (.cells cs t)) (news : List Value) (hl : news.length = m * 2) (hn : ∀ j u, news[j]? = some u → cs[o + j]? = some u) (h1 : ∀ u ∈ news, u.oneCell' = true) (hm : m ≤ 1073741824) : Calls Tryd.prog 108 #[.slice (some ⟨b, o, none⟩) m c] w fun e w' => ∃ r : Row, e = .returned (r.val m) ∧ r.ok 2 m news ∧ St w [] w' (r.hp 111) := by
  refine calls_walk_n (args := [.slice (some ⟨b, o, none⟩) m c]) Tryd.func108 rfl rfl rfl ?_
  have H := St.refl w
  refine WC.seq ?_
  refine WC.region ?_
  refine WL.assign rfl rfl ?_
  refine (WL.done (WX.next ?_))
  refine WC.seq ?_
  refine WC.seq ?_
  refine WC.region ?_
  refine WL.move rfl rfl ?_
  refine WL.bin rfl rfl (binv_slc_eql Tryd.underlying52 _ _ _) rfl ?_
  refine (WL.done (WX.next ?_))
  refine WC.cond_false rfl (rfl) ?_
  refine (WC.skip (WX.next ?_))
  refine WC.seq ?_
  refine WC.region ?_
  refine WL.buildS0 H app52 rfl ?_
  intro g wx hg hge H
  refine WL.move rfl rfl ?_
  refine WL.append (r := .some g 0 #[]) (k := 0) (xs := []) (H := []) app52 H ⟨by simp, Nat.le_refl _, by simp [maxLen], by simp, by simp⟩ rfl rfl hl (fun j u hj => by rw [addr_add, cell_of (H.oldBlock hb (by simp))]; exact hn j u hj) h1 (by simp only [maxLen]; omega) (by omega) rfl ?_
  intro r' wx hok H
  rw [Nat.zero_add] at hok ⊢
  rw [List.nil_append] at hok
  rw [List.append_nil] at H
  refine WL.assign rfl rfl ?_
  refine (WL.done (WX.next ?_))
  refine (WC.ret ?_)
  refine ret_one rfl rfl ?_
  exact ⟨r', rfl, hok, H⟩

theorem cloneE_nil (w : World) : Calls Tryd.prog 100 #[.slice none 0 0] w fun e w' => e = .returned (.slice none 0 0) ∧ w' = w := by
  refine calls_walk_n (args := [.slice none 0 0]) Tryd.func100 rfl rfl rfl ?_
  refine WC.seq ?_
  refine WC.region ?_
  refine WL.assign rfl rfl ?_
  refine (WL.done (WX.next ?_))
  refine WC.seq ?_
  refine WC.seq ?_
  refine WC.region ?_
  refine WL.move rfl rfl ?_
  refine WL.bin rfl rfl (binv_slc_eql Tryd.underlying30 _ _ _) rfl ?_
  refine (WL.done (WX.next ?_))
  refine WC.cond_true rfl (rfl) ?_
  refine WC.seq ?_
  refine WC.region ?_
  refine WL.assign rfl rfl ?_
  refine (WL.done (WX.next ?_))
  refine (WC.ret (WX.then_ret ?_))
  refine ret_one rfl rfl ?_
  exact ⟨rfl, rfl⟩

theorem cloneE_any (b o m c : Nat) (cs : Array Value) (t : TypeId) (w : World) (hb : w.heap[b]? = some (.cells cs t)) (news : List Value) (hl : news.length = m * 12) (hn : ∀ j u, news[j]? = some u → cs[o + j]? = some u) (h1 : ∀ u ∈ news, u.oneCell' = true) (hm : m ≤ 1073741824) : Calls Tryd.prog 100 #[.slice (some ⟨b, o, none⟩) m c] w fun e w' => ∃ r : Row, e = .returned (r.val m) ∧ r.ok 12 m news ∧ St w [] w' (r.hp 164) := by
  refine calls_walk_n (args := [.slice (some ⟨b, o, none⟩) m c]) Tryd.func100 rfl rfl rfl ?_
  have H := St.refl w
  refine WC.seq ?_
  refine WC.region ?_
  refine WL.assign rfl rfl ?_
  refine (WL.done (WX.next ?_))
  refine WC.seq ?_
  refine WC.seq ?_
  refine WC.region ?_
  refine WL.move rfl rfl ?_
  refine WL.bin rfl rfl (binv_slc_eql Tryd.underlying30 _ _ _) rfl ?_
  refine (WL.done (WX.next ?_))
  refine WC.cond_false rfl (rfl) ?_
  refine (WC.skip (WX.next ?_))
  refine WC.seq ?_
  refine WC.region ?_
  refine WL.buildS0 H app30 rfl ?_
  intro g wx hg hge H
  refine WL.move rfl rfl ?_
  refine WL.append (r := .some g 0 #[]) (k := 0) (xs := []) (H := []) app30 H ⟨by simp, Nat.le_refl _, by simp [maxLen], by simp, by simp⟩ rfl rfl hl (fun j u hj => by rw [addr_add, cell_of (H.oldBlock hb (by simp))]; exact hn j u hj) h1 (by simp only [maxLen]; omega) (by omega) rfl ?_
  intro r' wx hok H
  rw [Nat.zero_add] at hok ⊢
  rw [List.nil_append] at hok
  rw [List.append_nil] at H
  refine WL.assign rfl rfl ?_
  refine (WL.done (WX.next ?_))
  refine (WC.ret ?_)
  refine ret_one rfl rfl ?_
  exact ⟨r', rfl, hok, H⟩

theorem cloneL_nil (w : World) : Calls Tryd.prog 109 #[.slice none 0 0] w fun e w' => e = .returned (.slice none 0 0) ∧ w' = w := by
  refine calls_walk_n (args := [.slice none 0 0]) Tryd.func109 rfl rfl rfl ?_
  refine WC.seq ?_
  refine WC.region ?_
  refine WL.assign rfl rfl ?_
  refine (WL.done (WX.next ?_))
  refine WC.seq ?_
  refine WC.seq ?_
  refine WC.region ?_
  refine WL.move rfl rfl ?_
  refine WL.bin rfl rfl (binv_slc_eql Tryd.underlying156 _ _ _) rfl ?_
  refine (WL.done (WX.next ?_))
  refine WC.cond_true rfl (rfl) ?_
  refine WC.seq ?_
  refine WC.region ?_
  refine WL.assign rfl rfl ?_
  refine (WL.done (WX.next ?_))
  refine (WC.ret (WX.then_ret ?_))
  refine ret_one rfl rfl ?_
  exact ⟨rfl, rfl⟩

theorem cloneL_any (b o m c : Nat) (cs : Array Value) (t : TypeId) (w : World) (hb : w.heap[b]? = some (.cells cs t)) (news : List Value) (hl : news.length = m * 11) (hn : ∀ j u, news[j]? = some u → cs[o + j]? = some u) (h1 : ∀ u ∈ news, u.oneCell' = true) (hm : m ≤ 1073741824) : Calls Tryd.prog 109 #[.slice (some ⟨b, o, none⟩) m c] w fun e w' => ∃ r : Row, e = .returned (r.val m) ∧ r.ok 11 m news ∧ St w [] w' (r.hp 158) := by
  refine calls_walk_n (args := [.slice (some ⟨b, o, none⟩) m c]) Tryd.func109 rfl rfl rfl ?_
  have H := St.refl w
  refine WC.seq ?_
  refine WC.region ?_
  refine WL.assign rfl rfl ?_
  refine (WL.done (WX.next ?_))
  refine WC.seq ?_
  refine WC.seq ?_
  refine WC.region ?_
  refine WL.move rfl rfl ?_
  refine WL.bin rfl rfl (binv_slc_eql Tryd.underlying156 _ _ _) rfl ?_
  refine (WL.done (WX.next ?_))
  refine WC.cond_false rfl (rfl) ?_
  refine (WC.skip (WX.next ?_))
  refine WC.seq ?_
  refine WC.region ?_
  refine WL.buildS0 H app156 rfl ?_
  intro g wx hg hge H
  refine WL.move rfl rfl ?_
  refine WL.append (r := .some g 0 #[]) (k := 0) (xs := []) (H := []) app156 H ⟨by simp, Nat.le_refl _, by simp [maxLen], by simp, by simp⟩ rfl rfl hl (fun j u hj => by rw [addr_add, cell_of (H.oldBlock hb (by simp))]; exact hn j u hj) h1 (by simp only [maxLen]; omega) (by omega) rfl ?_
  intro r' wx hok H
  rw [Nat.zero_add] at hok ⊢
  rw [List.nil_append] at hok
  rw [List.append_nil] at H
  refine WL.assign rfl rfl ?_
  refine (WL.done (WX.next ?_))
  refine (WC.ret ?_)
  refine ret_one rfl rfl ?_
  exact ⟨r', rfl, hok, H⟩

end Go.Proofs.YtkncbggnaobgeaaDoor
