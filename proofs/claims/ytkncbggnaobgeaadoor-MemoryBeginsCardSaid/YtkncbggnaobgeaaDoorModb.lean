/- The memory: one line put anew; the map of busy lines. -/
import Derived.Test.YtkncbggnaobgeaaDoorMem4
namespace Go.Proofs.YtkncbggnaobgeaaDoor
open Go.RowKit
set_option linter.unusedVariables false
set_option linter.unusedSimpArgs false
set_option linter.unusedSectionVars false
set_option maxRecDepth 100000

theorem any_key {mp : List (Int × Nat)} {n : Int} : (mp.any fun x => n == x.1) = true ↔ n ∈ mp.map Prod.fst := by
  simp only [List.any_eq_true, List.mem_map, beq_iff_eq]
  exact ⟨fun ⟨x, h1, h2⟩ => ⟨x, h1, h2.symm⟩, fun ⟨x, h1, h2⟩ => ⟨x, h1, h2.symm⟩⟩
theorem mIns_keys {mp : List (Int × Nat)} {clk : Nat} {n x : Int} : x ∈ (mIns mp clk n).map Prod.fst ↔ x ∈ mp.map Prod.fst ∨ x = n := by
  unfold mIns
  split
  · rename_i h; exact ⟨.inl, fun hh => hh.elim id (fun e => e ▸ any_key.1 h)⟩
  · simp
theorem mIns_ok {mp : List (Int × Nat)} {clk : Nat} {n : Int} (h : MapOk mp clk) : MapOk (mIns mp clk n) (mClk mp clk n) := by
  obtain ⟨h1, h2, h3⟩ := h
  unfold mIns mClk
  split
  · exact ⟨h1, h2, h3⟩
  · rename_i hn
    refine ⟨?_, ?_, ?_⟩
    · intro x hx
      rcases List.mem_append.1 hx with hx | hx
      · have := h1 x hx; omega
      · simp only [List.mem_singleton] at hx; subst hx; exact Nat.lt_succ_self _
    · rw [List.map_append, List.nodup_append]
      refine ⟨h2, by simp, ?_⟩
      intro a ha b hb hab
      simp only [List.map_cons, List.map_nil, List.mem_singleton] at hb
      obtain ⟨x, hx, rfl⟩ := List.mem_map.1 ha
      have := h1 x hx
      omega
    · rw [List.map_append, List.nodup_append]
      refine ⟨h3, by simp, ?_⟩
      intro a ha b hb hab
      simp only [List.map_cons, List.map_nil, List.mem_singleton] at hb
      exact hn (any_key.2 (by rw [← hb, ← hab]; exact ha))
theorem eraseIdx_keys {mp : List (Int × Nat)} (h : (mp.map Prod.fst).Nodup) {i : Nat} (hi : i < mp.length) {x : Int} : x ∈ (mp.eraseIdx i).map Prod.fst ↔ x ∈ mp.map Prod.fst ∧ x ≠ (mp[i]).1 := by
  rw [ChangeMaps.map_eraseIdx]
  have hi' : i < (mp.map Prod.fst).length := by simpa using hi
  have he : (mp[i]).1 = (mp.map Prod.fst)[i] := by simp
  rw [he]
  generalize mp.map Prod.fst = l at h hi' ⊢
  rw [List.mem_eraseIdx_iff_getElem]
  constructor
  · rintro ⟨j, hj, hne, rfl⟩
    refine ⟨List.getElem_mem _, fun hh => ?_⟩
    rcases Nat.lt_trichotomy j i with hlt | heq | hgt
    · exact List.pairwise_iff_getElem.1 h j i hj hi' hlt hh
    · exact hne heq
    · exact List.pairwise_iff_getElem.1 h i j hi' hj hgt hh.symm
  · rintro ⟨hx, hne⟩
    obtain ⟨j, hj, rfl⟩ := List.mem_iff_getElem.1 hx
    exact ⟨j, hj, fun hh => hne (by subst hh; rfl), rfl⟩
theorem mDel_keys {mp : List (Int × Nat)} {n x : Int} (h : (mp.map Prod.fst).Nodup) : x ∈ (mDel mp n).map Prod.fst ↔ x ∈ mp.map Prod.fst ∧ x ≠ n := by
  unfold mDel
  split
  · rename_i i hi
    obtain ⟨hil, hki, _⟩ := List.findIdx?_eq_some_iff_getElem.1 hi
    have hke : n = (mp[i]).1 := by simpa using hki
    rw [hke]
    exact eraseIdx_keys h hil
  · rename_i hn
    refine ⟨fun hx => ⟨hx, fun e => ?_⟩, fun hx => hx.1⟩
    subst e
    obtain ⟨y, hy, rfl⟩ := List.mem_map.1 hx
    have := List.findIdx?_eq_none_iff.1 hn y hy
    simp at this
theorem mDel_sub (mp : List (Int × Nat)) (n : Int) : (mDel mp n).Sublist mp := by
  unfold mDel
  split
  · exact List.eraseIdx_sublist _ _
  · exact List.Sublist.refl _
theorem mDel_ok {mp : List (Int × Nat)} {clk : Nat} {n : Int} (h : MapOk mp clk) : MapOk (mDel mp n) clk := by
  obtain ⟨h1, h2, h3⟩ := h
  have hs := mDel_sub mp n
  exact ⟨fun x hx => h1 x (hs.subset hx), h2.sublist (hs.map _), h3.sublist (hs.map _)⟩
theorem pRest_ok {mp : List (Int × Nat)} {clk : Nat} {n : Int} {ps : List (Int × Int)} (h : MapOk mp clk) : MapOk (pRest mp clk n ps).1 (pRest mp clk n ps).2 := by
  unfold pRest; split
  · exact mDel_ok h
  · exact mIns_ok h
theorem pRest_keys {mp : List (Int × Nat)} {clk : Nat} {n x : Int} {ps : List (Int × Int)} (h : MapOk mp clk) : x ∈ (pRest mp clk n ps).1.map Prod.fst ↔ (x ≠ n ∧ x ∈ mp.map Prod.fst) ∨ (x = n ∧ ps ≠ []) := by
  unfold pRest; split
  · rename_i hp
    rw [mDel_keys h.2.2]
    constructor
    · rintro ⟨h1, h2⟩; exact .inl ⟨h2, h1⟩
    · rintro (⟨h1, h2⟩ | ⟨_, h2⟩)
      · exact ⟨h2, h1⟩
      · exact absurd hp h2
  · rename_i hp
    rw [mIns_keys]
    by_cases hx : x = n
    · simp [hx, hp]
    · simp [hx]

/-- A line put anew. -/
def RM.upd (R : RM) (A B : List (PL × Row)) (l : PL) (r : Row) (mp : List (Int × Nat)) (clk : Nat) : RM := { R with X := A ++ (l, r) :: B, mp := mp, clk := clk }
theorem St.refocus {w0 w : World} {S : List Nat} {L : Hp} {R : RM} {A B : List (PL × Row)} {l l' : PL} {r r' : Row} {mp : List (Int × Nat)} {clk : Nat} (hX : R.X = A ++ (l, r) :: B)
    (h : St w0 S w (L ++ fhp R.p R.lb R.X.length R.lcap R.mb mp clk R.span R.er R.evs.length (linesC A) l' r' (linesC B ++ R.junk) (R.er.hp 164 ++ pendHp A ++ pendHp B))) : St w0 S w (L ++ (R.upd A B l' r' mp clk).hp) := by
  have hl : R.X.length = (R.upd A B l' r' mp clk).X.length := by rw [hX]; simp [RM.upd]
  rw [hl] at h
  exact St.unfocus (R := R.upd A B l' r' mp clk) (A := A) (B := B) (l := l') (r := r') rfl h
theorem RM.ok.upd {R : RM} (h : R.ok) {A B : List (PL × Row)} {l l' : PL} {r r' : Row} {mp : List (Int × Nat)} {clk k : Nat} (hX : R.X = A ++ (l, r) :: B) (hA : A.length = k) (hl : l'.ok) (hr : r'.ok 2 l'.ps.length (flatP l'.ps))
    (hmap : MapOk mp clk) (hkeys : ∀ x : Int, x ∈ mp.map Prod.fst ↔ (x ≠ (k : Int) ∧ x ∈ R.mp.map Prod.fst) ∨ (x = (k : Int) ∧ l'.ps ≠ [])) : (R.upd A B l' r' mp clk).ok := by
  have hlen : (A ++ (l', r') :: B).length = R.X.length := by rw [hX]; simp
  refine ⟨by show 1 ≤ (A ++ (l', r') :: B).length ∧ _; rw [show (R.upd A B l' r' mp clk).X.length = R.X.length from hlen, hlen]; exact h.len, by show (A ++ (l', r') :: B).length ≤ _ ∧ _; rw [hlen]; exact h.lcap, by show R.junk.length = 11 * (R.lcap - (A ++ (l', r') :: B).length); rw [hlen]; exact h.junk, ?_, hmap, ?_, h.evs, h.er, h.span⟩
  · intro x hx
    rcases List.mem_append.1 hx with hx | hx
    · exact h.lines x (by rw [hX]; exact List.mem_append_left _ hx)
    · rcases List.mem_cons.1 hx with rfl | hx
      · exact ⟨hl, hr⟩
      · exact h.lines x (by rw [hX]; exact List.mem_append_right _ (List.mem_cons_of_mem _ hx))
  · intro n
    show n ∈ mp.map Prod.fst ↔ 0 ≤ n ∧ ∃ x, (A ++ (l', r') :: B)[n.toNat]? = some x ∧ x.1.ps ≠ []
    rw [hkeys, h.busy n]
    by_cases hn : n = (k : Int)
    · subst hn
      rw [Int.toNat_natCast, List.getElem?_append_right (by omega), hA, Nat.sub_self]
      simp
    · simp only [hn, ne_eq, not_false_eq_true, true_and, false_and, or_false]
      constructor
      · rintro ⟨h0, x, hx, hp⟩
        refine ⟨h0, x, ?_, hp⟩
        rw [← hx, hX]
        by_cases hlt : n.toNat < A.length
        · rw [List.getElem?_append_left hlt, List.getElem?_append_left hlt]
        · rw [List.getElem?_append_right (by omega), List.getElem?_append_right (by omega)]
          obtain ⟨j, hj⟩ : ∃ j, n.toNat - A.length = j + 1 := ⟨n.toNat - A.length - 1, by omega⟩
          rw [hj]; simp
      · rintro ⟨h0, x, hx, hp⟩
        refine ⟨h0, x, ?_, hp⟩
        rw [← hx, hX]
        by_cases hlt : n.toNat < A.length
        · rw [List.getElem?_append_left hlt, List.getElem?_append_left hlt]
        · rw [List.getElem?_append_right (by omega), List.getElem?_append_right (by omega)]
          obtain ⟨j, hj⟩ : ∃ j, n.toNat - A.length = j + 1 := ⟨n.toNat - A.length - 1, by omega⟩
          rw [hj]; simp
theorem St.pull4 {w0 w : World} {S : List Nat} {M K : Hp} {x y z u : Nat × Obj} (h : St w0 S w (x :: y :: z :: u :: (M ++ K))) : St w0 S w (M ++ x :: y :: z :: u :: K) :=
  h.perm (((List.perm_middle.trans (List.Perm.cons _ (List.perm_middle.trans (List.Perm.cons _ (List.perm_middle.trans (List.Perm.cons _ List.perm_middle))))))).symm)
theorem St.put4 {w0 w : World} {S : List Nat} {M K : Hp} {x y z u : Nat × Obj} (h : St w0 S w (M ++ x :: y :: z :: u :: K)) : St w0 S w (x :: y :: z :: u :: (M ++ K)) :=
  h.perm (List.perm_middle.trans (List.Perm.cons _ (List.perm_middle.trans (List.Perm.cons _ (List.perm_middle.trans (List.Perm.cons _ List.perm_middle))))))
def RM.noted (R : RM) (v : List Int) (er : Row) : RM := { R with evs := R.evs ++ [v], er := er }
theorem RM.ok.noted {R : RM} (h : R.ok) {v : List Int} {er : Row} (hv : v.length = 12) (he : er.ok 12 (R.evs.length + 1) (flatE (R.evs ++ [v]))) : (R.noted v er).ok :=
  ⟨h.len, h.lcap, h.junk, h.lines, h.map, h.busy, fun u hu => (List.mem_append.1 hu).elim (h.evs u) (fun hh => by simp only [List.mem_singleton] at hh; subst hh; exact hv), by
    show er.ok 12 (R.evs ++ [v]).length _; rw [List.length_append]; exact he, h.span⟩
end Go.Proofs.YtkncbggnaobgeaaDoor
