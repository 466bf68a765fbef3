/- Calls that belong to different lines change places. No Go in sight. -/
import Derived.Test.YtkncbggnaobgeaaDoorGh
namespace Go.Proofs.YtkncbggnaobgeaaDoor
set_option linter.unusedVariables false
set_option linter.unusedSimpArgs false
set_option maxRecDepth 100000

/-- To which line a call belongs. -/
def POp.line0 (x : POp) : Int :=
  if x.kind = 0 ∨ x.kind = 1 then (if 0 ≤ x.a then x.a / 8 else -1) else if x.kind = 3 ∨ x.kind = 5 ∨ x.kind = 6 ∨ x.kind = 7 then x.a else -1
def POp.line (x : POp) (lines : Int) : Int := if x.line0 ≥ lines then -1 else x.line0
def lineDo (x : POp) (l : PL) : PL × Int :=
  if x.kind = 0 ∨ x.kind = 1 then (if isWord x.b then (if (chk l.ws l.c).1 = 2 then (l, 9) else ({ l with ps := l.ps ++ [(x.a % 8, x.b)] }, 0)) else (l, 1))
  else if x.kind = 3 then ({ l with mark := l.ps.length }, 0)
  else if x.kind = 5 then (if x.b < 1 ∨ l.ps.length < x.b then (l, 1) else (pSettle l x.b.toNat, 0))
  else if x.kind = 6 then (if isWords x.ws then ({ ws := x.ws, c := enc x.ws, ps := [], mark := 0 }, 0) else (l, 1))
  else (if isWords x.ws && isCode x.b then (if l.ps = [] then ({ l with ws := xorTo l.ws x.ws 8, c := ((l.c.toNat ^^^ x.b.toNat : Nat) : Int) }, 0) else (l, 4)) else (l, 1))
theorem set_same {M : PM} {k : Nat} (h : k < M.ls.length) : M.ls.set k (M.line k) = M.ls := by
  rw [line_of h]; exact List.set_getElem_self h
theorem put_line {M : PM} {kind a b : Int} {k : Nat} (ha : 0 ≤ a) (hk : a / 8 = k) (hlt : k < M.ls.length) :
    (M.put kind a b).ls = M.ls.set k (if isWord b then (if (chk (M.line k).ws (M.line k).c).1 = 2 then (M.line k, (9 : Int)) else ({ M.line k with ps := (M.line k).ps ++ [(a % 8, b)] }, 0)) else (M.line k, 1)).1 ∧
    M.putErr a b = (if isWord b then (if (chk (M.line k).ws (M.line k).c).1 = 2 then (M.line k, (9 : Int)) else ({ M.line k with ps := (M.line k).ps ++ [(a % 8, b)] }, 0)) else (M.line k, 1)).2 := by
  have he : M.putErr a b = if isWord b then (if (chk (M.line k).ws (M.line k).c).1 = 2 then 9 else 0) else 1 := by
    unfold PM.putErr
    rw [if_neg (by omega), hk, has_of hlt, if_pos rfl]
  unfold PM.put
  rw [he, hk]
  by_cases hw : isWord b = true
  · rw [if_pos hw, if_pos hw]
    by_cases hc : (chk (M.line k).ws (M.line k).c).1 = 2
    · rw [if_pos hc, if_pos hc, if_neg (by decide)]
      exact ⟨(set_same hlt).symm, rfl⟩
    · rw [if_neg hc, if_neg hc, if_pos rfl, Int.toNat_natCast]
      exact ⟨rfl, rfl⟩
  · rw [if_neg hw, if_neg hw, if_neg (by decide)]
    exact ⟨(set_same hlt).symm, rfl⟩
theorem do_line {M : PM} {x : POp} {k : Nat} (hk : x.line M.ls.length = k) : k < M.ls.length ∧ (M.do x).ls = M.ls.set k (lineDo x (M.line k)).1 ∧ (M.res x).2 = (lineDo x (M.line k)).2 := by
  unfold POp.line at hk
  split at hk
  · omega
  rename_i hlt0
  have hlt : k < M.ls.length := by omega
  refine ⟨hlt, ?_⟩
  unfold POp.line0 at hk
  unfold lineDo
  by_cases h01 : x.kind = 0 ∨ x.kind = 1
  · rw [if_pos h01] at hk
    split at hk
    · rename_i ha
      rw [if_pos h01]
      rcases h01 with h | h
      · have e1 : M.do x = M.put 1 x.a x.b := by simp [PM.do, h]
        have e2 : (M.res x).2 = M.putErr x.a x.b := by simp [PM.res, h]
        rw [e1, e2]; exact put_line ha hk hlt
      · have e1 : M.do x = M.put 2 x.a x.b := by simp [PM.do, h]
        have e2 : (M.res x).2 = M.putErr x.a x.b := by simp [PM.res, h]
        rw [e1, e2]; exact put_line ha hk hlt
    · omega
  · rw [if_neg h01] at hk ⊢
    split at hk
    · rename_i h
      rcases h with h | h | h | h
      · have e1 : M.do x = M.flush x.a := by simp [PM.do, h]
        have e2 : (M.res x).2 = if M.has x.a then 0 else 40 := by simp [PM.res, h]
        rw [e1, e2, if_pos h, hk, has_of hlt]
        refine ⟨?_, rfl⟩
        unfold PM.flush
        rw [has_of hlt, if_pos rfl, Int.toNat_natCast]
      · have e1 : M.do x = M.evict x.a x.b := by simp [PM.do, h]
        have e2 : (M.res x).2 = M.evictErr x.a x.b := by simp [PM.res, h]
        rw [e1, e2, if_neg (by omega), if_pos h, hk]
        have he : M.evictErr (k : Int) x.b = if x.b < 1 ∨ (M.line k).ps.length < x.b then 1 else 0 := by unfold PM.evictErr; rw [has_of hlt, if_pos rfl]
        unfold PM.evict
        rw [he]
        by_cases hb : x.b < 1 ∨ (M.line k).ps.length < x.b
        · rw [if_pos hb, if_pos hb, if_neg (by decide)]; exact ⟨(set_same hlt).symm, rfl⟩
        · rw [if_neg hb, if_neg hb, if_pos rfl, Int.toNat_natCast]; exact ⟨rfl, rfl⟩
      · have e1 : M.do x = M.heal x.a x.ws := by simp [PM.do, h]
        have e2 : (M.res x).2 = M.healErr x.a x.ws := by simp [PM.res, h]
        rw [e1, e2, if_neg (by omega), if_neg (by omega), if_pos h, hk]
        have he : M.healErr (k : Int) x.ws = if isWords x.ws then 0 else 1 := by unfold PM.healErr; rw [has_of hlt, if_pos rfl]
        unfold PM.heal
        rw [he]
        by_cases hb : isWords x.ws = true
        · rw [if_pos hb, if_pos hb, if_pos rfl, Int.toNat_natCast]; exact ⟨rfl, rfl⟩
        · rw [if_neg hb, if_neg hb, if_neg (by decide)]; exact ⟨(set_same hlt).symm, rfl⟩
      · have e1 : M.do x = M.rot x.a x.ws x.b := by simp [PM.do, h]
        have e2 : (M.res x).2 = M.rotErr x.a x.ws x.b := by simp [PM.res, h]
        rw [e1, e2, if_neg (by omega), if_neg (by omega), if_neg (by omega), hk]
        have he : M.rotErr (k : Int) x.ws x.b = if isWords x.ws && isCode x.b then (if (M.line k).ps = [] then 0 else 4) else 1 := by unfold PM.rotErr; rw [has_of hlt, if_pos rfl]
        unfold PM.rot
        rw [he]
        by_cases hb : (isWords x.ws && isCode x.b) = true
        · rw [if_pos hb, if_pos hb]
          by_cases hp : (M.line k).ps = []
          · rw [if_pos hp, if_pos hp, if_pos rfl, Int.toNat_natCast]; exact ⟨rfl, rfl⟩
          · rw [if_neg hp, if_neg hp, if_neg (by decide)]; exact ⟨(set_same hlt).symm, rfl⟩
        · rw [if_neg hb, if_neg hb, if_neg (by decide)]; exact ⟨(set_same hlt).symm, rfl⟩
    · omega
theorem line_do_other {M : PM} {x : POp} {p q : Nat} (hx : x.line M.ls.length = p) (hpq : p ≠ q) : (M.do x).line q = M.line q := by
  obtain ⟨h1, h2, _⟩ := do_line hx
  unfold PM.line
  rw [h2, Int.toNat_natCast, set_getD, if_neg (fun h => hpq h.1)]
/-- P4.3 to P4.5, P4.9. -/
theorem apart {M : PM} {x y : POp} {p q : Nat} (hx : x.line M.ls.length = p) (hy : y.line M.ls.length = q) (hpq : p ≠ q) :
    ((M.do x).do y).ls = ((M.do y).do x).ls ∧ (M.res x).2 = ((M.do y).res x).2 ∧ ((M.do x).res y).2 = (M.res y).2 := by
  obtain ⟨a1, a2, a3⟩ := do_line hx
  obtain ⟨b1, b2, b3⟩ := do_line hy
  obtain ⟨c1, c2, c3⟩ := do_line (M := M.do x) (x := y) (k := q) (by rw [do_len]; exact hy)
  obtain ⟨d1, d2, d3⟩ := do_line (M := M.do y) (x := x) (k := p) (by rw [do_len]; exact hx)
  rw [line_do_other hx hpq] at c2 c3
  rw [line_do_other hy (Ne.symm hpq)] at d2 d3
  refine ⟨?_, by rw [a3, d3], by rw [b3, c3]⟩
  rw [c2, d2, a2, b2]
  exact List.set_comm _ _ hpq
end Go.Proofs.YtkncbggnaobgeaaDoor
