/- While a crash settles its cuts. -/
import Derived.Test.YtkncbggnaobgeaaDoorMem15
namespace Go.Proofs.YtkncbggnaobgeaaDoor
open Go.RowKit
set_option linter.unusedVariables false
set_option linter.unusedSimpArgs false
set_option linter.unusedSectionVars false
set_option maxRecDepth 100000

/-- One cut's line settled. -/
def cutStep (ls : List PL) (c : Int × Int) : List PL := ls.set c.1.toNat (pSettle (ls.getD c.1.toNat default) c.2.toNat)
structure Settling (R R' : RM) (cuts : List (Int × Int)) (i : Nat) : Prop where
  ok : R'.ok
  p : R'.p = R.p
  mb : R'.mb = R.mb
  clk : R'.clk = R.clk
  len : R'.X.length = R.X.length
  ls : R'.abs.ls = (cuts.take i).foldl cutStep R.abs.ls
  rest : ∀ (j : Nat) x, R.X[j]? = some x → (∀ c ∈ cuts.take i, c.1 ≠ (j : Int)) → ∃ x', R'.X[j]? = some x' ∧ x'.1 = x.1
theorem Settling.start {R : RM} (h : R.ok) (cuts : List (Int × Int)) : Settling R R cuts 0 := ⟨h, rfl, rfl, rfl, rfl, by simp, fun j x hx _ => ⟨x, hx, rfl⟩⟩
theorem Settling.step {R g : RM} {cuts : List (Int × Int)} {i : Nat} (h : Settling R (R.like g) cuts i) (hi : i < cuts.length) {A B : List (PL × Row)} {l : PL} {r r' : Row} {k kp : Nat} {mp : List (Int × Nat)} (hX : (R.like g).X = A ++ (l, r) :: B) (hA : A.length = k)
    (hk : (cuts[i]).1 = (k : Int)) (hkp : (cuts[i]).2 = (kp : Int)) (hget : (R.like g).X[k]? = some (l, r))
    (hok : ((R.like g).upd A B (pSettle l kp) r' mp R.clk).ok) : Settling R ((R.like g).upd A B (pSettle l kp) r' mp R.clk) cuts (i + 1) := by
  refine ⟨hok, h.p, h.mb, rfl, ?_, ?_, fun j x hx hc => ?_⟩
  · rw [← h.len, hX]; simp [RM.upd]
  · rw [List.take_add_one, List.getElem?_eq_getElem hi, List.foldl_append, ← h.ls]
    have e1 := abs_upd (R := R.like g) (l' := pSettle l kp) (r' := r') (mp := mp) (clk := R.clk) hX hA
    rw [e1]
    show (R.like g).abs.ls.set k (pSettle l kp) = cutStep (R.like g).abs.ls (cuts[i])
    unfold cutStep
    rw [hk, hkp, Int.toNat_natCast, Int.toNat_natCast]
    have e2 : (R.like g).abs.ls.getD k default = l := by simp [RM.abs, hget]
    rw [e2]
  · have hc1 : ∀ c ∈ cuts.take i, c.1 ≠ (j : Int) := fun c hcm => hc c (by rw [List.take_add_one]; exact List.mem_append_left _ hcm)
    have hc2 : (cuts[i]).1 ≠ (j : Int) := hc _ (by rw [List.take_add_one, List.getElem?_eq_getElem hi]; exact List.mem_append_right _ (by simp))
    obtain ⟨x', hx', he⟩ := h.rest j x hx hc1
    refine ⟨x', ?_, he⟩
    have hjk : j ≠ k := fun e => hc2 (by rw [hk, e])
    show (A ++ (pSettle l kp, r') :: B)[j]? = some x'
    rw [← hx', hX]
    by_cases hlt : j < A.length
    · rw [List.getElem?_append_left hlt, List.getElem?_append_left hlt]
    · rw [List.getElem?_append_right (by omega), List.getElem?_append_right (by omega)]
      obtain ⟨q, hq⟩ : ∃ q, j - A.length = q + 1 := ⟨j - A.length - 1, by omega⟩
      rw [hq]; simp
/-- Dropped: nothing pending, no mark. -/
def drop0 (l : PL) : PL := { l with ps := [], mark := 0 }
/-- While a crash drops what is pending: a line is R's own, or dropped. -/
structure Clearing (R : RM) (X : List (PL × Row)) (seen : Array Nat) : Prop where
  len : X.length = R.X.length
  each : ∀ (i : Nat) x, R.X[i]? = some x → (X[i]? = some x ∧ ∀ b, ((i : Int), b) ∈ R.mp → b ∉ seen) ∨ X[i]? = some (drop0 x.1, Row.none)
theorem Clearing.start (R : RM) : Clearing R R.X #[] := ⟨rfl, fun i x hx => .inl ⟨hx, by simp⟩⟩
theorem Clearing.at {R : RM} {X : List (PL × Row)} {seen : Array Nat} (h : Clearing R X seen) (hR : R.ok) {k : Nat} (hk : k < R.X.length) : ∃ A l r B x, X = A ++ (l, r) :: B ∧ A.length = k ∧ (linesC A).length = 11 * k ∧ l.ws.length = 8 ∧ R.X[k]? = some x ∧ drop0 l = drop0 x.1 := by
  obtain ⟨A, ⟨l, r⟩, B, hX, hA⟩ := split_at (X := X) (n := k) (by rw [h.len]; exact hk)
  have hall : ∀ y ∈ X, y.1.ws.length = 8 := by
    intro y hy
    obtain ⟨i, hi⟩ := List.getElem?_of_mem hy
    have hil : i < X.length := by
      rcases Nat.lt_or_ge i X.length with hl | hg
      · exact hl
      · rw [List.getElem?_eq_none hg] at hi; cases hi
    have hx := List.getElem?_eq_getElem (show i < R.X.length by rw [← h.len]; exact hil)
    have h8 := (hR.lines _ (List.getElem_mem (show i < R.X.length by rw [← h.len]; exact hil))).1.1
    rcases h.each i _ hx with ⟨h1, _⟩ | h1
    · rw [h1] at hi; cases hi; exact h8
    · rw [h1] at hi; cases hi; exact h8
  refine ⟨A, l, r, B, R.X[k], hX, hA, ?_, hall (l, r) (by rw [hX]; simp), List.getElem?_eq_getElem hk, ?_⟩
  · rw [linesC_length (fun x hx => hall x (by rw [hX]; exact List.mem_append_left _ hx)), hA]
  · have hget : X[k]? = some (l, r) := by rw [hX, List.getElem?_append_right (by omega), hA, Nat.sub_self]; rfl
    rcases h.each k _ (List.getElem?_eq_getElem hk) with ⟨h1, _⟩ | h1
    · rw [hget] at h1; rw [← Option.some.inj h1]
    · rw [hget] at h1
      have e : l = drop0 (R.X[k]).1 := congrArg Prod.fst (Option.some.inj h1)
      rw [e]; rfl
theorem Clearing.step {R : RM} {X : List (PL × Row)} {seen : Array Nat} (h : Clearing R X seen) (hR : R.ok) {A B : List (PL × Row)} {l : PL} {r : Row} {k bn : Nat} {x : PL × Row} (hX : X = A ++ (l, r) :: B) (hA : A.length = k) (hx : R.X[k]? = some x) (hd : drop0 l = drop0 x.1)
    (hm : ((k : Int), bn) ∈ R.mp) : Clearing R (A ++ (drop0 l, Row.none) :: B) (seen.push bn) := by
  refine ⟨by rw [← h.len, hX]; simp, fun i y hy => ?_⟩
  by_cases hi : i = k
  · subst hi
    rw [hx] at hy; cases hy
    exact .inr (by rw [List.getElem?_append_right (by omega), hA, Nat.sub_self, hd]; rfl)
  · have hsame : (A ++ (drop0 l, Row.none) :: B)[i]? = X[i]? := by
      rw [hX]
      by_cases hlt : i < A.length
      · rw [List.getElem?_append_left hlt, List.getElem?_append_left hlt]
      · rw [List.getElem?_append_right (by omega), List.getElem?_append_right (by omega)]
        obtain ⟨q, hq⟩ : ∃ q, i - A.length = q + 1 := ⟨i - A.length - 1, by omega⟩
        rw [hq]; simp
    rcases h.each i y hy with ⟨h1, h2⟩ | h1
    · refine .inl ⟨by rw [hsame]; exact h1, fun b hb => ?_⟩
      have hb1 := h2 b hb
      simp only [Array.mem_push, not_or]
      refine ⟨hb1, fun he => hi ?_⟩
      subst he
      have e1 := find_born hR.map.2.1 hb
      have e2 := find_born hR.map.2.1 hm
      rw [e1] at e2
      have := (Prod.mk.inj (Option.some.inj e2)).1
      omega
    · exact .inr (by rw [hsame]; exact h1)
theorem Clearing.done {R : RM} {X : List (PL × Row)} {seen : Array Nat} (h : Clearing R X seen) (hR : R.ok) (hall : ∀ x ∈ R.mp, x.2 ∈ seen) :
    X.map Prod.fst = R.X.map (fun x => drop0 x.1) ∧ ∀ x ∈ X, x.1.ok ∧ x.2.ok 2 x.1.ps.length (flatP x.1.ps) ∧ x.1.ps = [] := by
  have key : ∀ (i : Nat) x, R.X[i]? = some x → ∃ y, X[i]? = some y ∧ y.1 = drop0 x.1 ∧ y.1.ok ∧ y.2.ok 2 y.1.ps.length (flatP y.1.ps) ∧ y.1.ps = [] := by
    intro i x hx
    obtain ⟨hok, hr⟩ := hR.lines x (List.mem_of_getElem? hx)
    have hdok : (drop0 x.1).ok := ⟨hok.1, hok.2.1, hok.2.2.1, Nat.le_refl _, by intro p hp; cases hp⟩
    rcases h.each i x hx with ⟨h1, h2⟩ | h1
    · have hps : x.1.ps = [] := by
        rcases Classical.em (x.1.ps = []) with hh | hh
        · exact hh
        · exfalso
          have hb := (hR.busy (i : Int)).2 ⟨by omega, x, by rw [Int.toNat_natCast]; exact hx, hh⟩
          obtain ⟨⟨k, b⟩, hkb, hk⟩ := List.mem_map.1 hb
          simp only at hk
          subst hk
          exact h2 b hkb (hall _ hkb)
      have hm0 : x.1.mark = 0 := by have := hok.2.2.2.1; rw [hps] at this; simpa using this
      refine ⟨x, h1, ?_, hok, hr, hps⟩
      unfold drop0
      rw [← hps, ← hm0]
    · exact ⟨_, h1, rfl, hdok, ⟨rfl, rfl⟩, rfl⟩
  refine ⟨?_, fun y hy => ?_⟩
  · apply List.ext_getElem?
    intro i
    rw [List.getElem?_map, List.getElem?_map]
    cases hx : R.X[i]? with
    | none =>
      have : X[i]? = none := by rw [List.getElem?_eq_none_iff] at hx ⊢; rw [h.len]; exact hx
      rw [this]; rfl
    | some x =>
      obtain ⟨y, hy, he, _⟩ := key i x hx
      rw [hy]; simp [he]
  · obtain ⟨i, hi⟩ := List.getElem?_of_mem hy
    have hil : i < R.X.length := by
      rw [← h.len]
      rcases Nat.lt_or_ge i X.length with hl | hg
      · exact hl
      · rw [List.getElem?_eq_none hg] at hi; cases hi
    obtain ⟨y', hy', _, h3⟩ := key i _ (List.getElem?_eq_getElem hil)
    rw [hi] at hy'; cases hy'
    exact h3
/-- The lines put anew, the map as it was. -/
def RM.xs (R : RM) (X : List (PL × Row)) : RM := { R with X := X }
/-- Behind a crash. -/
def RM.crashed (R : RM) (X : List (PL × Row)) : RM := { R with X := X, mp := [], span := 0, evs := [], er := .none }
theorem RM.crashed_ok {R : RM} (hR : R.ok) {X : List (PL × Row)} (hlen : X.length = R.X.length) (h : ∀ x ∈ X, x.1.ok ∧ x.2.ok 2 x.1.ps.length (flatP x.1.ps) ∧ x.1.ps = []) : (R.crashed X).ok := by
  refine ⟨by show 1 ≤ X.length ∧ _; rw [show (R.crashed X).X.length = X.length from rfl, hlen]; exact hR.len, by show X.length ≤ _ ∧ _; rw [hlen]; exact hR.lcap, by show R.junk.length = 11 * (R.lcap - X.length); rw [hlen]; exact hR.junk, fun x hx => ⟨(h x hx).1, (h x hx).2.1⟩, ⟨by simp [RM.crashed], by simp [RM.crashed], by simp [RM.crashed]⟩, ?_, by simp [RM.crashed], ⟨rfl, rfl⟩, by simp [RM.crashed]⟩
  intro n
  constructor
  · intro hn; simp [RM.crashed] at hn
  · rintro ⟨_, x, hx, hp⟩
    exact absurd (h x (List.mem_of_getElem? hx)).2.2 hp
theorem foldl_len (cuts : List (Int × Int)) : ∀ ls : List PL, (cuts.foldl cutStep ls).length = ls.length := by
  induction cuts with
  | nil => intro ls; rfl
  | cons c cuts ih => intro ls; rw [List.foldl_cons, ih]; simp [cutStep]
theorem St.dropped {w0 w : World} {S : List Nat} {R : RM} {X A B : List (PL × Row)} {l : PL} {r : Row} {q : Nat × Obj} (hX : X = A ++ (l, r) :: B)
    (h : St w0 S w (q :: (R.p, structO R.lb X.length R.lcap R.mb R.span R.er R.evs.length) :: (R.lb, .cells (lineL (linesC A) (drop0 l) Row.none (linesC B ++ R.junk)) 158) :: (R.mb, mO R.mp R.clk) :: (r.hp 111 ++ (R.er.hp 164 ++ pendHp A ++ pendHp B)))) :
    St w0 S w (q :: (R.xs (A ++ (drop0 l, Row.none) :: B)).hp) := by
  have h2 := h.weaken (List.Sublist.cons_cons _ (List.Sublist.cons_cons _ (List.Sublist.cons_cons _ (List.Sublist.cons_cons _ (List.sublist_append_right _ _)))))
  have hl : X.length = (A ++ (drop0 l, Row.none) :: B).length := by rw [hX]; simp
  rw [hl] at h2
  exact St.unfocus (L := [q]) (R := R.xs (A ++ (drop0 l, Row.none) :: B)) (A := A) (B := B) (l := drop0 l) (r := Row.none) rfl h2
end Go.Proofs.YtkncbggnaobgeaaDoor
