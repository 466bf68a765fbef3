/- The memory: what it is, and how it lies in blocks. -/
import Derived.Test.YtkncbggnaobgeaaDoorSlc
import Derived.Test.YtkncbggnaobgeaaDoorCode0
namespace Go.Proofs.YtkncbggnaobgeaaDoor
open Go.RowKit
set_option linter.unusedVariables false
set_option linter.unusedSimpArgs false
set_option linter.unusedSectionVars false
set_option maxRecDepth 100000

/-! ### The plain memory -/
/-- A line: its words, its code, what is pending, how much of that is flushed. -/
structure PL where
  ws : List Int
  c : Int
  ps : List (Int × Int)
  mark : Nat
structure PM where
  ls : List PL
  span : Int
  evs : List (List Int)

def putAll (ws : List Int) (ps : List (Int × Int)) : List Int := ps.foldl (fun w p => w.set p.1.toNat p.2) ws
/-- What a line shows behind its first k pending stores, and the errno. -/
def pShow (l : PL) (k : Nat) : List Int × Int := if (fix l.ws l.c).2.2 = 0 then (putAll (fix l.ws l.c).1 (l.ps.take k), 0) else (zeros8, (fix l.ws l.c).2.2)
def pSettle (l : PL) (k : Nat) : PL := if k = 0 then l else { ws := (pShow l k).1, c := enc (pShow l k).1, ps := l.ps.drop k, mark := l.mark - k }
def PL.ok (l : PL) : Prop := l.ws.length = 8 ∧ isWords l.ws = true ∧ isCode l.c = true ∧ l.mark ≤ l.ps.length ∧ ∀ p ∈ l.ps, 0 ≤ p.1 ∧ p.1 < 8 ∧ isWord p.2 = true

/-! ### How it lies -/
def intsC (xs : List Int) : List Value := xs.map (.int .i64)
theorem arrC_ints (xs : List Int) : arrC xs = (intsC xs).toArray := rfl
def flatP (ps : List (Int × Int)) : List Value := ps.flatMap fun p => [Value.int .i64 p.1, .int .i64 p.2]
def flatE (es : List (List Int)) : List Value := es.flatMap intsC
def lineC (l : PL) (r : Row) : List Value := intsC l.ws ++ ([Value.int .i64 l.c] ++ ([r.val l.ps.length] ++ [Value.int .i64 (l.mark : Int)]))
def linesC (X : List (PL × Row)) : List Value := X.flatMap fun x => lineC x.1 x.2
def pendHp (X : List (PL × Row)) : Hp := X.flatMap fun x => x.2.hp 111
def lineL (a : List Value) (l : PL) (r : Row) (b : List Value) : Array Value := (a ++ (lineC l r ++ b)).toArray

structure RM where
  p : Nat
  lb : Nat
  lcap : Nat
  junk : List Value
  mb : Nat
  X : List (PL × Row)
  mp : List (Int × Nat)
  clk : Nat
  span : Int
  evs : List (List Int)
  er : Row
def RM.abs (R : RM) : PM := { ls := R.X.map Prod.fst, span := R.span, evs := R.evs }
def structO (lb len lcap mb : Nat) (span : Int) (er : Row) (ne : Nat) : Obj := .cells #[.slice (some ⟨lb, 0, none⟩) len lcap, .map (some mb), .int .i64 span, er.val ne] 161
def RM.hp (R : RM) : Hp := (R.p, structO R.lb R.X.length R.lcap R.mb R.span R.er R.evs.length) :: (R.lb, .cells (linesC R.X ++ R.junk).toArray 158) :: (R.mb, mO R.mp R.clk) :: (R.er.hp 164 ++ pendHp R.X)
/-- The map of busy lines: as many stamps as keys, none twice, none to come. -/
def MapOk (mp : List (Int × Nat)) (clk : Nat) : Prop := (∀ x ∈ mp, x.2 < clk) ∧ (mp.map Prod.snd).Nodup ∧ (mp.map Prod.fst).Nodup
structure RM.ok (R : RM) : Prop where
  len : 1 ≤ R.X.length ∧ R.X.length ≤ 4096
  lcap : R.X.length ≤ R.lcap ∧ R.lcap ≤ maxLen
  junk : R.junk.length = 11 * (R.lcap - R.X.length)
  lines : ∀ x ∈ R.X, x.1.ok ∧ x.2.ok 2 x.1.ps.length (flatP x.1.ps)
  map : MapOk R.mp R.clk
  busy : ∀ n : Int, n ∈ R.mp.map Prod.fst ↔ 0 ≤ n ∧ ∃ x, R.X[n.toNat]? = some x ∧ x.1.ps ≠ []
  evs : ∀ v ∈ R.evs, v.length = 12
  er : R.er.ok 12 R.evs.length (flatE R.evs)
  span : 0 ≤ R.span ∧ R.span ≤ 9223372036854775807
/-- The memory R lies in w. -/
structure MemIn (w : World) (R : RM) : Prop where
  nd : (R.hp.map Prod.fst).Nodup
  sat : ∀ q ∈ R.hp, w.heap[q.1]? = some q.2
  ok : R.ok
  hi : ∀ q ∈ R.hp, 3 < q.1

theorem flatP_length (ps : List (Int × Int)) : (flatP ps).length = ps.length * 2 := by
  induction ps with
  | nil => rfl
  | cons p ps ih => simp only [flatP, List.flatMap_cons, List.length_append] at ih ⊢; rw [ih]; simp; omega
theorem flatE_length {es : List (List Int)} (h : ∀ v ∈ es, v.length = 12) : (flatE es).length = es.length * 12 := by
  induction es with
  | nil => rfl
  | cons p ps ih =>
    have h1 := h p List.mem_cons_self
    have h2 := ih (fun v hv => h v (List.mem_cons_of_mem _ hv))
    simp only [flatE, List.flatMap_cons, List.length_append] at h2 ⊢
    rw [h2]; simp [intsC, h1]; omega
theorem lineC_length {l : PL} {r : Row} (h : l.ws.length = 8) : (lineC l r).length = 11 := by simp [lineC, intsC, h]
theorem linesC_length {X : List (PL × Row)} (h : ∀ x ∈ X, x.1.ws.length = 8) : (linesC X).length = 11 * X.length := by
  induction X with
  | nil => rfl
  | cons x X ih =>
    have h1 := lineC_length (r := x.2) (h x List.mem_cons_self)
    have h2 := ih (fun v hv => h v (List.mem_cons_of_mem _ hv))
    simp only [linesC, List.flatMap_cons, List.length_append] at h2 ⊢
    rw [h1, h2]; simp; omega
theorem linesC_append (A B : List (PL × Row)) : linesC (A ++ B) = linesC A ++ linesC B := by simp [linesC]
theorem linesC_cons (x : PL × Row) (B : List (PL × Row)) : linesC (x :: B) = lineC x.1 x.2 ++ linesC B := by simp [linesC]
theorem pendHp_append (A B : List (PL × Row)) : pendHp (A ++ B) = pendHp A ++ pendHp B := by simp [pendHp]
theorem pendHp_cons (x : PL × Row) (B : List (PL × Row)) : pendHp (x :: B) = x.2.hp 111 ++ pendHp B := by simp [pendHp]
theorem split_at {α : Type} {X : List α} {n : Nat} (h : n < X.length) : ∃ A x B, X = A ++ x :: B ∧ A.length = n :=
  ⟨X.take n, X[n], X.drop (n + 1), by rw [List.getElem_cons_drop, List.take_append_drop], by simp; omega⟩

/-! ### Cells in the middle of a block -/
section
variable {P : Program} {w0 w w' : World} {S : List Nat} {H : Hp} {T t : TypeId} {k b o : Nat} {a c x : List Value} {v : Value} {l : PL} {r : Row}
theorem Rd.mid (hT : tyB P T true k = true) (h : w.heap[b]? = some (.cells (a ++ (x ++ c)).toArray t)) (ho : o = a.length) (hx : x.length = k) : Rd P w T ⟨b, o, none⟩ (.agg x.toArray) := by
  subst ho
  have := Rd.agg (P := P) (o := a.length) hT h (by simp; omega)
  have e : (a ++ (x ++ c)).toArray.extract a.length (a.length + k) = x.toArray := by
    subst hx; simp
  rw [e] at this
  exact this
theorem Rd.mid1 (hT : tyB P T false k = true) (h : w.heap[b]? = some (.cells (a ++ ([v] ++ c)).toArray t)) (ho : o = a.length) : Rd P w T ⟨b, o, none⟩ v := by
  subst ho
  exact Rd.one hT (by rw [cell_of h]; simp)
theorem wr_mid {y : List Value} (ho : o = a.length) (hl : y.length = x.length) : wr (a ++ (x ++ c)).toArray o y = (a ++ (y ++ c)).toArray := by
  subst ho
  apply Array.ext_getElem?
  intro i
  rw [wr_get _ _ _ _ (by simp; omega)]
  simp only [List.getElem?_toArray]
  by_cases h1 : i < a.length
  · rw [if_neg (by omega), List.getElem?_append_left h1, List.getElem?_append_left h1]
  · by_cases h2 : i < a.length + y.length
    · rw [if_pos (by omega), List.getElem?_append_right (by omega), List.getElem?_append_left (by omega)]
    · rw [if_neg (by omega), List.getElem?_append_right (by omega), List.getElem?_append_right (by omega), List.getElem?_append_right (by omega), List.getElem?_append_right (by omega), hl]

theorem lineL_w : lineL a l r c = (a ++ (intsC l.ws ++ ([Value.int .i64 l.c] ++ ([r.val l.ps.length] ++ ([Value.int .i64 (l.mark : Int)] ++ c))))).toArray := by simp [lineL, lineC]
theorem lineL_c : lineL a l r c = ((a ++ intsC l.ws) ++ ([Value.int .i64 l.c] ++ ([r.val l.ps.length] ++ ([Value.int .i64 (l.mark : Int)] ++ c)))).toArray := by simp [lineL, lineC]
theorem lineL_s : lineL a l r c = ((a ++ intsC l.ws ++ [Value.int .i64 l.c]) ++ ([r.val l.ps.length] ++ ([Value.int .i64 (l.mark : Int)] ++ c))).toArray := by simp [lineL, lineC]
theorem lineL_m : lineL a l r c = ((a ++ intsC l.ws ++ [Value.int .i64 l.c] ++ [r.val l.ps.length]) ++ ([Value.int .i64 (l.mark : Int)] ++ c)).toArray := by simp [lineL, lineC]
theorem lineL_l : lineL a l r c = (a ++ (intsC (l.ws ++ [l.c]) ++ ([r.val l.ps.length] ++ ([Value.int .i64 (l.mark : Int)] ++ c)))).toArray := by simp [lineL, lineC, intsC]

theorem Rd.lineW (hT : tyB P T true 8 = true) (h : w.heap[b]? = some (.cells (lineL a l r c) t)) (ho : o = a.length) (h8 : l.ws.length = 8) : Rd P w T ⟨b, o, none⟩ (YtkncbggnaobgeaaDoor.arr l.ws) := by
  rw [lineL_w] at h
  exact Rd.mid (x := intsC l.ws) hT h ho (by simp [intsC, h8])
theorem Rd.lineLn (hT : tyB P T true 9 = true) (h : w.heap[b]? = some (.cells (lineL a l r c) t)) (ho : o = a.length) (h8 : l.ws.length = 8) : Rd P w T ⟨b, o, none⟩ (YtkncbggnaobgeaaDoor.arr (l.ws ++ [l.c])) := by
  rw [lineL_l] at h
  exact Rd.mid (x := intsC (l.ws ++ [l.c])) hT h ho (by simp [intsC, h8])
theorem Rd.lineAll (hT : tyB P T true 11 = true) (h : w.heap[b]? = some (.cells (lineL a l r c) t)) (ho : o = a.length) (h8 : l.ws.length = 8) : Rd P w T ⟨b, o, none⟩ (.agg (lineC l r).toArray) :=
  Rd.mid (x := lineC l r) hT h ho (lineC_length h8)
theorem Rd.lineCo (hT : tyB P T false k = true) (h : w.heap[b]? = some (.cells (lineL a l r c) t)) (ho : o = a.length + 8) (h8 : l.ws.length = 8) : Rd P w T ⟨b, o, none⟩ (.int .i64 l.c) := by
  rw [lineL_c] at h
  exact Rd.mid1 hT h (by simp [intsC, h8, ho])
theorem Rd.lineS (hT : tyB P T false k = true) (h : w.heap[b]? = some (.cells (lineL a l r c) t)) (ho : o = a.length + 9) (h8 : l.ws.length = 8) : Rd P w T ⟨b, o, none⟩ (r.val l.ps.length) := by
  rw [lineL_s] at h
  exact Rd.mid1 hT h (by simp [intsC, h8, ho])
theorem Rd.lineM (hT : tyB P T false k = true) (h : w.heap[b]? = some (.cells (lineL a l r c) t)) (ho : o = a.length + 10) (h8 : l.ws.length = 8) : Rd P w T ⟨b, o, none⟩ (.int .i64 (l.mark : Int)) := by
  rw [lineL_m] at h
  exact Rd.mid1 hT h (by simp [intsC, h8, ho])
theorem wr_lineW {ws' : List Int} (ho : o = a.length) (h8 : l.ws.length = 8) (h8' : ws'.length = 8) : wr (lineL a l r c) o (intsC ws') = lineL a { l with ws := ws' } r c := by
  rw [lineL_w, wr_mid ho (by simp [intsC, h8, h8']), lineL_w]
theorem wr_lineC {z : Int} (ho : o = a.length + 8) (h8 : l.ws.length = 8) : wr (lineL a l r c) o [Value.int .i64 z] = lineL a { l with c := z } r c := by
  rw [lineL_c, wr_mid (by simp [intsC, h8, ho]) (by simp), lineL_c]
theorem wr_lineS {r' : Row} {ps' : List (Int × Int)} (ho : o = a.length + 9) (h8 : l.ws.length = 8) : wr (lineL a l r c) o [r'.val ps'.length] = lineL a { l with ps := ps' } r' c := by
  rw [lineL_s, wr_mid (by simp [intsC, h8, ho]) (by simp), lineL_s]
theorem wr_lineM {z : Nat} (ho : o = a.length + 10) (h8 : l.ws.length = 8) : wr (lineL a l r c) o [Value.int .i64 (z : Int)] = lineL a { l with mark := z } r c := by
  rw [lineL_m, wr_mid (by simp [intsC, h8, ho]) (by simp), lineL_m]
theorem lineL_size (h8 : l.ws.length = 8) : (lineL a l r c).size = a.length + (11 + c.length) := by
  simp [lineL, lineC_length h8]
/-- A pending store, read out of its row. -/
theorem Row.getP {g cap n : Nat} {cur : Array Value} {ps : List (Int × Int)} (h : Row.ok (.some g cap cur) 2 n (flatP ps)) {j : Nat} (hj : j < ps.length) : cur[2 * j]? = Option.some (Value.int .i64 (ps[j]).1) ∧ cur[2 * j + 1]? = Option.some (Value.int .i64 (ps[j]).2) := by
  have key : ∀ (ps : List (Int × Int)) (j : Nat) (hj : j < ps.length), (flatP ps)[2 * j]? = Option.some (Value.int .i64 (ps[j]).1) ∧ (flatP ps)[2 * j + 1]? = Option.some (Value.int .i64 (ps[j]).2) := by
    intro ps
    induction ps with
    | nil => intro j hj; simp at hj
    | cons p ps ih =>
      intro j hj
      have e : flatP (p :: ps) = .int .i64 p.1 :: .int .i64 p.2 :: flatP ps := rfl
      rw [e]
      cases j with
      | zero => exact ⟨rfl, rfl⟩
      | succ j =>
        have := ih j (by simpa using hj)
        rw [show 2 * (j + 1) = 2 * j + 1 + 1 from by omega]
        simpa using this
  have := key ps j hj
  exact ⟨Row.ok_get h this.1, Row.ok_get h this.2⟩
end
theorem flatP_append (a b : List (Int × Int)) : flatP (a ++ b) = flatP a ++ flatP b := by simp [flatP]
theorem flatP_drop (ps : List (Int × Int)) (k : Nat) : flatP (ps.drop k) = (flatP ps).drop (2 * k) := by
  induction ps generalizing k with
  | nil => simp [flatP]
  | cons p ps ih =>
    cases k with
    | zero => simp
    | succ k =>
      have e : flatP (p :: ps) = .int .i64 p.1 :: .int .i64 p.2 :: flatP ps := rfl
      rw [List.drop_succ_cons, ih k, e, show 2 * (k + 1) = 2 * k + 1 + 1 from by omega, List.drop_succ_cons, List.drop_succ_cons]
theorem flatE_append (a b : List (List Int)) : flatE (a ++ b) = flatE a ++ flatE b := by simp [flatE]
theorem flatP_one (ps : List (Int × Int)) : ∀ u ∈ flatP ps, u.oneCell' = true := by
  intro u hu
  simp only [flatP, List.mem_flatMap] at hu
  obtain ⟨p, _, hu⟩ := hu
  simp only [List.mem_cons, List.not_mem_nil, or_false] at hu
  rcases hu with rfl | rfl <;> rfl
theorem intsC_one (xs : List Int) : ∀ u ∈ intsC xs, u.oneCell' = true := by
  intro u hu
  simp only [intsC, List.mem_map] at hu
  obtain ⟨p, _, rfl⟩ := hu
  rfl
theorem flatE_one (es : List (List Int)) : ∀ u ∈ flatE es, u.oneCell' = true := by
  intro u hu
  simp only [flatE, List.mem_flatMap] at hu
  obtain ⟨p, _, hu⟩ := hu
  exact intsC_one _ u hu

/-! ### The whole, and one line of it brought to the front -/
/-- A memory's blocks with the eyes on one line. -/
def fhp (p lb len lcap mb : Nat) (mp : List (Int × Nat)) (clk : Nat) (span : Int) (er : Row) (ne : Nat) (a : List Value) (l : PL) (r : Row) (c : List Value) (Z : Hp) : Hp :=
  (p, structO lb len lcap mb span er ne) :: (lb, .cells (lineL a l r c) 158) :: (mb, mO mp clk) :: (r.hp 111 ++ Z)
theorem hp_focus {R : RM} {A B : List (PL × Row)} {l : PL} {r : Row} (hX : R.X = A ++ (l, r) :: B) :
    R.hp.Perm (fhp R.p R.lb R.X.length R.lcap R.mb R.mp R.clk R.span R.er R.evs.length (linesC A) l r (linesC B ++ R.junk) (R.er.hp 164 ++ pendHp A ++ pendHp B)) := by
  unfold RM.hp fhp
  have e1 : (linesC R.X ++ R.junk).toArray = lineL (linesC A) l r (linesC B ++ R.junk) := by
    rw [hX, linesC_append, linesC_cons]; simp [lineL]
  have e2 : pendHp R.X = pendHp A ++ (r.hp 111 ++ pendHp B) := by rw [hX, pendHp_append, pendHp_cons]
  rw [e1, e2]
  refine List.Perm.cons _ (List.Perm.cons _ (List.Perm.cons _ ?_))
  have e3 : R.er.hp 164 ++ (pendHp A ++ (r.hp 111 ++ pendHp B)) = (R.er.hp 164 ++ pendHp A) ++ r.hp 111 ++ pendHp B := by simp
  have e4 : r.hp 111 ++ (R.er.hp 164 ++ pendHp A ++ pendHp B) = r.hp 111 ++ (R.er.hp 164 ++ pendHp A) ++ pendHp B := by simp
  rw [e3, e4]
  exact List.Perm.append_right _ List.perm_append_comm
theorem St.focus {w0 w : World} {S : List Nat} {L : Hp} {R : RM} {A B : List (PL × Row)} {l : PL} {r : Row} (hX : R.X = A ++ (l, r) :: B) (h : St w0 S w (L ++ R.hp)) :
    St w0 S w (L ++ fhp R.p R.lb R.X.length R.lcap R.mb R.mp R.clk R.span R.er R.evs.length (linesC A) l r (linesC B ++ R.junk) (R.er.hp 164 ++ pendHp A ++ pendHp B)) :=
  h.perm (List.Perm.append_left _ (hp_focus hX))
theorem St.unfocus {w0 w : World} {S : List Nat} {L : Hp} {R : RM} {A B : List (PL × Row)} {l : PL} {r : Row} (hX : R.X = A ++ (l, r) :: B)
    (h : St w0 S w (L ++ fhp R.p R.lb R.X.length R.lcap R.mb R.mp R.clk R.span R.er R.evs.length (linesC A) l r (linesC B ++ R.junk) (R.er.hp 164 ++ pendHp A ++ pendHp B))) : St w0 S w (L ++ R.hp) :=
  h.perm (List.Perm.append_left _ (hp_focus hX).symm)
theorem MemIn.start {w : World} {R : RM} (h : MemIn w R) : St w (R.hp.map Prod.fst) w R.hp := St.start h.nd h.sat
theorem MemIn.of {w0 w : World} {S : List Nat} {L : Hp} {R : RM} (h : St w0 S w (L ++ R.hp)) (ok : R.ok) (hS : ∀ k ∈ S, 3 < k) (h3 : 3 < w0.heap.size) : MemIn w R := by
  have h' : St w0 S w R.hp := h.weaken (List.sublist_append_right _ _)
  exact ⟨h'.nd, h'.sat, ok, fun q hq => (h'.own q hq).elim (hS _) (Nat.lt_of_lt_of_le h3)⟩
theorem MemIn.n3 {w : World} {R : RM} (h : MemIn w R) : 3 ∉ R.hp.map Prod.fst := fun hm => by
  obtain ⟨q, hq, he⟩ := List.mem_map.1 hm
  have := h.hi q hq
  omega
/-- Behind a call that was handed R and gives back R'. -/
theorem MemIn.next {w w' : World} {R R' : RM} (h : MemIn w R) (h' : St w (R.hp.map Prod.fst) w' R'.hp) (ok : R'.ok) : MemIn w' R' :=
  MemIn.of (L := []) h' ok (fun k hk => by obtain ⟨q, hq, rfl⟩ := List.mem_map.1 hk; exact h.hi q hq) (Nat.lt_of_lt_of_le (h.hi (R.p, structO R.lb R.X.length R.lcap R.mb R.span R.er R.evs.length) List.mem_cons_self) (Nat.le_of_lt (lt_of_some (h.sat _ List.mem_cons_self))))
/-- As long as nobody touches it. -/
theorem MemIn.keep {w0 w : World} {S : List Nat} {L : Hp} {R : RM} (hm : MemIn w0 R) (h : St w0 S w (L ++ R.hp)) : MemIn w R := by
  have h' : St w0 S w R.hp := h.weaken (List.sublist_append_right _ _)
  exact ⟨h'.nd, h'.sat, hm.ok, hm.hi⟩
/-- Nothing that lay has changed. -/
theorem St.same {w w' : World} {M L : Hp} (h : St w (M.map Prod.fst) w' (L ++ M)) (hs : ∀ q ∈ M, w.heap[q.1]? = some q.2) : St w [] w' [] := by
  refine ⟨h.os, h.tape, h.output, h.size, fun k hk _ => ?_, by simp, by simp, by simp⟩
  by_cases hm : k ∈ M.map Prod.fst
  · obtain ⟨q, hq, rfl⟩ := List.mem_map.1 hm
    rw [h.sat q (List.mem_append_right _ hq), hs q hq]
  · exact h.old k hk hm
end Go.Proofs.YtkncbggnaobgeaaDoor
