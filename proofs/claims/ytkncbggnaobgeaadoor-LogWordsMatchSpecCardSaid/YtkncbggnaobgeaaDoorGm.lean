/- Texts of this session, laid together: Apx. -/
import Derived.Test.YtkncbggnaobgeaaDoorGa
import Derived.Deep.Upon

/- An append of a row of someone's. Plain theorems over any program. -/
namespace Go.Proofs.YtkncbggnaobgeaaDoor
open Go.RowKit
set_option linter.unusedVariables false
set_option linter.unusedSimpArgs false
set_option maxRecDepth 100000

/-! ### An append of a row of someone's -/
section
variable {P : Program} {ops : Array Oper} {Q : Exit → Act → World → Prop} {n : Nat} {ds : List Deferred} {e e' : Env} {w w' w0 : World} {S : List Nat} {H : Hp} {rest : List Oper} {S : List Nat} {H : Hp}
variable {d : Nat} {v : Value} {ty : TypeId} {pos : String} {af : Array Edge}
theorem WL.appendR {x y : Operand} {t el : TypeId} {sz bytes k m : Nat} {r r2 : Row} {xs news : List Value} (hT : AppT P t el sz bytes) (hS : St w0 S w (r.hp el ++ H)) (hok : r.ok sz k xs) (hok2 : r2.ok sz m news) (h2 : ∀ q ∈ r2.hp el, w.heap[q.1]? = some q.2) (h1 : ∀ u ∈ news, u.oneCell' = true)
    (hx : ev e x = some (r.val k)) (hy : ev e y = some (r2.val m)) (h63 : k + m ≤ maxLen) (hbytes : (k + m) * bytes ≤ 140737488355328) (hdn : Nat.blt d n = true)
    (h : ∀ (r' : Row) w', r'.ok sz (k + m) (xs ++ news) → St w0 S w' (r'.hp el ++ H) → WL P ops Q n ds rest ((d, r'.val (k + m)) :: e) w') :
    WL P ops Q n ds ({ dst := some d, op := .call { callee := .builtin .append, args := #[x, y], argTypes := #[t, t] }, type := ty, pos, after := af, guard := none } :: rest) e w := by
  have none0 : m = 0 → news = [] → (∃ A2 c2, r2.val m = .slice A2 0 c2) → WL P ops Q n ds ({ dst := some d, op := .call { callee := .builtin .append, args := #[x, y], argTypes := #[t, t] }, type := ty, pos, after := af, guard := none } :: rest) e w := by
    rintro rfl rfl ⟨A2, c2, e2⟩
    obtain ⟨i, z, t1, t2, t3, t4, t5, t6, t7⟩ := hT
    have hv : ∃ A c, r.val k = .slice A k c ∧ k ≤ c := by
      cases r with
      | none => obtain ⟨rfl, rfl⟩ := hok; exact ⟨_, _, rfl, Nat.le_refl _⟩
      | nul a => obtain ⟨rfl, rfl⟩ := hok; exact ⟨_, _, rfl, Nat.le_refl _⟩
      | some g cap cur => exact ⟨_, _, rfl, hok.2.1⟩
    obtain ⟨A, c, e1, hle⟩ := hv
    have hsrc : Src P i.size t (.slice A2 0 c2) 0 [] w := by
      cases A2 with
      | none => exact Src.ofNil w t1 c2
      | some a => exact Src.ofSlice w t1 a 0 c2 [] (by simp) (fun j u hj => by cases hj) (fun u hu => by cases hu)
    refine WL.builtin (xs := [x, y]) (vs := [r.val k, r2.val 0]) (w' := w) (v := r.val k) (by simp [evs, hx, hy]) hdn (fun cs => ?_) ?_
    · have hrun := run_append_nothing (P := P) w t t ty el i t1 t2 A k c hle (.slice A2 0 c2) hsrc
      rw [e1, e2]
      unfold Go.builtin
      rw [Sem.run_bind]
      show ((Builtin.append_ #[t, t] ty #[.slice A k c, .slice A2 0 c2]).run P w).andThen _ = _
      rw [hrun]; rfl
    · have := h r w (by rw [Nat.add_zero, List.append_nil]; exact hok) hS
      rw [Nat.add_zero] at this
      exact this
  cases r2 with
  | none => obtain ⟨hm, hn⟩ := hok2; exact none0 hm hn ⟨_, _, by rw [hm]; rfl⟩
  | nul a => obtain ⟨hm, hn⟩ := hok2; exact none0 hm hn ⟨_, _, by rw [hm]; rfl⟩
  | some g cap cur =>
    rcases Nat.eq_zero_or_pos m with hm | hm
    · exact none0 hm (by have := Row.ok_len hok2; rw [hm, Nat.zero_mul] at this; exact List.eq_nil_of_length_eq_zero this) ⟨_, _, by rw [hm]; rfl⟩
    · exact WL.append (a := ⟨g, 0, none⟩) (m := m) (c := cap) (news := news) hT hS hok hx hy (Row.ok_len hok2) (fun j u hj => by
        rw [addr_add, cell_of (h2 _ List.mem_cons_self), Nat.zero_add]; exact Row.ok_get hok2 hj) h1 h63 hbytes hdn h (.inl (by omega))
end
end Go.Proofs.YtkncbggnaobgeaaDoor
