/- Texts of this session, laid together: Mod, Tya, Mem1, Mem2, Mem3, Mem4, Modb, Mem5, Mem6, Mem7. -/
import Derived.Test.YtkncbggnaobgeaaDoorGa
import Derived.Test.YtkncbggnaobgeaaDoorGb
import Derived.Test.YtkncbggnaobgeaaDoorGc
import Derived.Laws.Cover3

/- The memory: what it is, and how it lies in blocks. -/
namespace Go.Proofs.YtkncbggnaobgeaaDoor
open Go.RowKit
set_option linter.unusedVariables false
set_option linter.unusedSimpArgs false
set_option linter.unusedSectionVars false
set_option maxRecDepth 100000

/-! ### The plain memory -/
/-- A line: its words, its code, what is pending, how much of that is flushed. -/
structure PL where
  ws : List Int
  c : Int
  ps : List (Int × Int)
  mark : Nat
structure PM where
  ls : List PL
  span : Int
  evs : List (List Int)

def putAll (ws : List Int) (ps : List (Int × Int)) : List Int := ps.foldl (fun w p => w.set p.1.toNat p.2) ws
/-- What a line shows behind its first k pending stores, and the errno. -/
def pShow (l : PL) (k : Nat) : List Int × Int := if (fix l.ws l.c).2.2 = 0 then (putAll (fix l.ws l.c).1 (l.ps.take k), 0) else (zeros8, (fix l.ws l.c).2.2)
def pSettle (l : PL) (k : Nat) : PL := if k = 0 then l else { ws := (pShow l k).1, c := enc (pShow l k).1, ps := l.ps.drop k, mark := l.mark - k }
def PL.ok (l : PL) : Prop := l.ws.length = 8 ∧ isWords l.ws = true ∧ isCode l.c = true ∧ l.mark ≤ l.ps.length ∧ ∀ p ∈ l.ps, 0 ≤ p.1 ∧ p.1 < 8 ∧ isWord p.2 = true

/-! ### How it lies -/
def intsC (xs : List Int) : List Value := xs.map (.int .i64)
theorem arrC_ints (xs : List Int) : arrC xs = (intsC xs).toArray := rfl
def flatP (ps : List (Int × Int)) : List Value := ps.flatMap fun p => [Value.int .i64 p.1, .int .i64 p.2]
def flatE (es : List (List Int)) : List Value := es.flatMap intsC
def lineC (l : PL) (r : Row) : List Value := intsC l.ws ++ ([Value.int .i64 l.c] ++ ([r.val l.ps.length] ++ [Value.int .i64 (l.mark : Int)]))
def linesC (X : List (PL × Row)) : List Value := X.flatMap fun x => lineC x.1 x.2
def pendHp (X : List (PL × Row)) : Hp := X.flatMap fun x => x.2.hp 111
def lineL (a : List Value) (l : PL) (r : Row) (b : List Value) : Array Value := (a ++ (lineC l r ++ b)).toArray

structure RM where
  p : Nat
  lb : Nat
  lcap : Nat
  junk : List Value
  mb : Nat
  X : List (PL × Row)
  mp : List (Int × Nat)
  clk : Nat
  span : Int
  evs : List (List Int)
  er : Row
def RM.abs (R : RM) : PM := { ls := R.X.map Prod.fst, span := R.span, evs := R.evs }
def structO (lb len lcap mb : Nat) (span : Int) (er : Row) (ne : Nat) : Obj := .cells #[.slice (some ⟨lb, 0, none⟩) len lcap, .map (some mb), .int .i64 span, er.val ne] 161
def RM.hp (R : RM) : Hp := (R.p, structO R.lb R.X.length R.lcap R.mb R.span R.er R.evs.length) :: (R.lb, .cells (linesC R.X ++ R.junk).toArray 158) :: (R.mb, mO R.mp R.clk) :: (R.er.hp 164 ++ pendHp R.X)
/-- The map of busy lines: as many stamps as keys, none twice, none to come. -/
def MapOk (mp : List (Int × Nat)) (clk : Nat) : Prop := (∀ x ∈ mp, x.2 < clk) ∧ (mp.map Prod.snd).Nodup ∧ (mp.map Prod.fst).Nodup
structure RM.ok (R : RM) : Prop where
  len : 1 ≤ R.X.length ∧ R.X.length ≤ 4096
  lcap : R.X.length ≤ R.lcap ∧ R.lcap ≤ maxLen
  junk : R.junk.length = 11 * (R.lcap - R.X.length)
  lines : ∀ x ∈ R.X, x.1.ok ∧ x.2.ok 2 x.1.ps.length (flatP x.1.ps)
  map : MapOk R.mp R.clk
  busy : ∀ n : Int, n ∈ R.mp.map Prod.fst ↔ 0 ≤ n ∧ ∃ x, R.X[n.toNat]? = some x ∧ x.1.ps ≠ []
  evs : ∀ v ∈ R.evs, v.length = 12
  er : R.er.ok 12 R.evs.length (flatE R.evs)
  span : 0 ≤ R.span ∧ R.span ≤ 9223372036854775807
/-- The memory R lies in w. -/
structure MemIn (w : World) (R : RM) : Prop where
  nd : (R.hp.map Prod.fst).Nodup
  sat : ∀ q ∈ R.hp, w.heap[q.1]? = some q.2
  ok : R.ok
  hi : ∀ q ∈ R.hp, 3 < q.1

theorem flatP_length (ps : List (Int × Int)) : (flatP ps).length = ps.length * 2 := by
  induction ps with
  | nil => rfl
  | cons p ps ih => simp only [flatP, List.flatMap_cons, List.length_append] at ih ⊢; rw [ih]; simp; omega
theorem flatE_length {es : List (List Int)} (h : ∀ v ∈ es, v.length = 12) : (flatE es).length = es.length * 12 := by
  induction es with
  | nil => rfl
  | cons p ps ih =>
    have h1 := h p List.mem_cons_self
    have h2 := ih (fun v hv => h v (List.mem_cons_of_mem _ hv))
    simp only [flatE, List.flatMap_cons, List.length_append] at h2 ⊢
    rw [h2]; simp [intsC, h1]; omega
theorem lineC_length {l : PL} {r : Row} (h : l.ws.length = 8) : (lineC l r).length = 11 := by simp [lineC, intsC, h]
theorem linesC_length {X : List (PL × Row)} (h : ∀ x ∈ X, x.1.ws.length = 8) : (linesC X).length = 11 * X.length := by
  induction X with
  | nil => rfl
  | cons x X ih =>
    have h1 := lineC_length (r := x.2) (h x List.mem_cons_self)
    have h2 := ih (fun v hv => h v (List.mem_cons_of_mem _ hv))
    simp only [linesC, List.flatMap_cons, List.length_append] at h2 ⊢
    rw [h1, h2]; simp; omega
theorem linesC_append (A B : List (PL × Row)) : linesC (A ++ B) = linesC A ++ linesC B := by simp [linesC]
theorem linesC_cons (x : PL × Row) (B : List (PL × Row)) : linesC (x :: B) = lineC x.1 x.2 ++ linesC B := by simp [linesC]
theorem pendHp_append (A B : List (PL × Row)) : pendHp (A ++ B) = pendHp A ++ pendHp B := by simp [pendHp]
theorem pendHp_cons (x : PL × Row) (B : List (PL × Row)) : pendHp (x :: B) = x.2.hp 111 ++ pendHp B := by simp [pendHp]
theorem split_at {α : Type} {X : List α} {n : Nat} (h : n < X.length) : ∃ A x B, X = A ++ x :: B ∧ A.length = n :=
  ⟨X.take n, X[n], X.drop (n + 1), by rw [List.getElem_cons_drop, List.take_append_drop], by simp; omega⟩

/-! ### Cells in the middle of a block -/
section
variable {P : Program} {w0 w w' : World} {S : List Nat} {H : Hp} {T t : TypeId} {k b o : Nat} {a c x : List Value} {v : Value} {l : PL} {r : Row}
theorem Rd.mid (hT : tyB P T true k = true) (h : w.heap[b]? = some (.cells (a ++ (x ++ c)).toArray t)) (ho : o = a.length) (hx : x.length = k) : Rd P w T ⟨b, o, none⟩ (.agg x.toArray) := by
  subst ho
  have := Rd.agg (P := P) (o := a.length) hT h (by simp; omega)
  have e : (a ++ (x ++ c)).toArray.extract a.length (a.length + k) = x.toArray := by
    subst hx; simp
  rw [e] at this
  exact this
theorem Rd.mid1 (hT : tyB P T false k = true) (h : w.heap[b]? = some (.cells (a ++ ([v] ++ c)).toArray t)) (ho : o = a.length) : Rd P w T ⟨b, o, none⟩ v := by
  subst ho
  exact Rd.one hT (by rw [cell_of h]; simp)
theorem wr_mid {y : List Value} (ho : o = a.length) (hl : y.length = x.length) : wr (a ++ (x ++ c)).toArray o y = (a ++ (y ++ c)).toArray := by
  subst ho
  apply Array.ext_getElem?
  intro i
  rw [wr_get _ _ _ _ (by simp; omega)]
  simp only [List.getElem?_toArray]
  by_cases h1 : i < a.length
  · rw [if_neg (by omega), List.getElem?_append_left h1, List.getElem?_append_left h1]
  · by_cases h2 : i < a.length + y.length
    · rw [if_pos (by omega), List.getElem?_append_right (by omega), List.getElem?_append_left (by omega)]
    · rw [if_neg (by omega), List.getElem?_append_right (by omega), List.getElem?_append_right (by omega), List.getElem?_append_right (by omega), List.getElem?_append_right (by omega), hl]

theorem lineL_w : lineL a l r c = (a ++ (intsC l.ws ++ ([Value.int .i64 l.c] ++ ([r.val l.ps.length] ++ ([Value.int .i64 (l.mark : Int)] ++ c))))).toArray := by simp [lineL, lineC]
theorem lineL_c : lineL a l r c = ((a ++ intsC l.ws) ++ ([Value.int .i64 l.c] ++ ([r.val l.ps.length] ++ ([Value.int .i64 (l.mark : Int)] ++ c)))).toArray := by simp [lineL, lineC]
theorem lineL_s : lineL a l r c = ((a ++ intsC l.ws ++ [Value.int .i64 l.c]) ++ ([r.val l.ps.length] ++ ([Value.int .i64 (l.mark : Int)] ++ c))).toArray := by simp [lineL, lineC]
theorem lineL_m : lineL a l r c = ((a ++ intsC l.ws ++ [Value.int .i64 l.c] ++ [r.val l.ps.length]) ++ ([Value.int .i64 (l.mark : Int)] ++ c)).toArray := by simp [lineL, lineC]
theorem lineL_l : lineL a l r c = (a ++ (intsC (l.ws ++ [l.c]) ++ ([r.val l.ps.length] ++ ([Value.int .i64 (l.mark : Int)] ++ c)))).toArray := by simp [lineL, lineC, intsC]

theorem Rd.lineW (hT : tyB P T true 8 = true) (h : w.heap[b]? = some (.cells (lineL a l r c) t)) (ho : o = a.length) (h8 : l.ws.length = 8) : Rd P w T ⟨b, o, none⟩ (YtkncbggnaobgeaaDoor.arr l.ws) := by
  rw [lineL_w] at h
  exact Rd.mid (x := intsC l.ws) hT h ho (by simp [intsC, h8])
theorem Rd.lineLn (hT : tyB P T true 9 = true) (h : w.heap[b]? = some (.cells (lineL a l r c) t)) (ho : o = a.length) (h8 : l.ws.length = 8) : Rd P w T ⟨b, o, none⟩ (YtkncbggnaobgeaaDoor.arr (l.ws ++ [l.c])) := by
  rw [lineL_l] at h
  exact Rd.mid (x := intsC (l.ws ++ [l.c])) hT h ho (by simp [intsC, h8])
theorem Rd.lineAll (hT : tyB P T true 11 = true) (h : w.heap[b]? = some (.cells (lineL a l r c) t)) (ho : o = a.length) (h8 : l.ws.length = 8) : Rd P w T ⟨b, o, none⟩ (.agg (lineC l r).toArray) :=
  Rd.mid (x := lineC l r) hT h ho (lineC_length h8)
theorem Rd.lineCo (hT : tyB P T false k = true) (h : w.heap[b]? = some (.cells (lineL a l r c) t)) (ho : o = a.length + 8) (h8 : l.ws.length = 8) : Rd P w T ⟨b, o, none⟩ (.int .i64 l.c) := by
  rw [lineL_c] at h
  exact Rd.mid1 hT h (by simp [intsC, h8, ho])
theorem Rd.lineS (hT : tyB P T false k = true) (h : w.heap[b]? = some (.cells (lineL a l r c) t)) (ho : o = a.length + 9) (h8 : l.ws.length = 8) : Rd P w T ⟨b, o, none⟩ (r.val l.ps.length) := by
  rw [lineL_s] at h
  exact Rd.mid1 hT h (by simp [intsC, h8, ho])
theorem Rd.lineM (hT : tyB P T false k = true) (h : w.heap[b]? = some (.cells (lineL a l r c) t)) (ho : o = a.length + 10) (h8 : l.ws.length = 8) : Rd P w T ⟨b, o, none⟩ (.int .i64 (l.mark : Int)) := by
  rw [lineL_m] at h
  exact Rd.mid1 hT h (by simp [intsC, h8, ho])
theorem wr_lineW {ws' : List Int} (ho : o = a.length) (h8 : l.ws.length = 8) (h8' : ws'.length = 8) : wr (lineL a l r c) o (intsC ws') = lineL a { l with ws := ws' } r c := by
  rw [lineL_w, wr_mid ho (by simp [intsC, h8, h8']), lineL_w]
theorem wr_lineC {z : Int} (ho : o = a.length + 8) (h8 : l.ws.length = 8) : wr (lineL a l r c) o [Value.int .i64 z] = lineL a { l with c := z } r c := by
  rw [lineL_c, wr_mid (by simp [intsC, h8, ho]) (by simp), lineL_c]
theorem wr_lineS {r' : Row} {ps' : List (Int × Int)} (ho : o = a.length + 9) (h8 : l.ws.length = 8) : wr (lineL a l r c) o [r'.val ps'.length] = lineL a { l with ps := ps' } r' c := by
  rw [lineL_s, wr_mid (by simp [intsC, h8, ho]) (by simp), lineL_s]
theorem wr_lineM {z : Nat} (ho : o = a.length + 10) (h8 : l.ws.length = 8) : wr (lineL a l r c) o [Value.int .i64 (z : Int)] = lineL a { l with mark := z } r c := by
  rw [lineL_m, wr_mid (by simp [intsC, h8, ho]) (by simp), lineL_m]
theorem lineL_size (h8 : l.ws.length = 8) : (lineL a l r c).size = a.length + (11 + c.length) := by
  simp [lineL, lineC_length h8]
/-- A pending store, read out of its row. -/
theorem Row.getP {g cap n : Nat} {cur : Array Value} {ps : List (Int × Int)} (h : Row.ok (.some g cap cur) 2 n (flatP ps)) {j : Nat} (hj : j < ps.length) : cur[2 * j]? = Option.some (Value.int .i64 (ps[j]).1) ∧ cur[2 * j + 1]? = Option.some (Value.int .i64 (ps[j]).2) := by
  have key : ∀ (ps : List (Int × Int)) (j : Nat) (hj : j < ps.length), (flatP ps)[2 * j]? = Option.some (Value.int .i64 (ps[j]).1) ∧ (flatP ps)[2 * j + 1]? = Option.some (Value.int .i64 (ps[j]).2) := by
    intro ps
    induction ps with
    | nil => intro j hj; simp at hj
    | cons p ps ih =>
      intro j hj
      have e : flatP (p :: ps) = .int .i64 p.1 :: .int .i64 p.2 :: flatP ps := rfl
      rw [e]
      cases j with
      | zero => exact ⟨rfl, rfl⟩
      | succ j =>
        have := ih j (by simpa using hj)
        rw [show 2 * (j + 1) = 2 * j + 1 + 1 from by omega]
        simpa using this
  have := key ps j hj
  exact ⟨Row.ok_get h this.1, Row.ok_get h this.2⟩
end
theorem flatP_append (a b : List (Int × Int)) : flatP (a ++ b) = flatP a ++ flatP b := by simp [flatP]
theorem flatP_drop (ps : List (Int × Int)) (k : Nat) : flatP (ps.drop k) = (flatP ps).drop (2 * k) := by
  induction ps generalizing k with
  | nil => simp [flatP]
  | cons p ps ih =>
    cases k with
    | zero => simp
    | succ k =>
      have e : flatP (p :: ps) = .int .i64 p.1 :: .int .i64 p.2 :: flatP ps := rfl
      rw [List.drop_succ_cons, ih k, e, show 2 * (k + 1) = 2 * k + 1 + 1 from by omega, List.drop_succ_cons, List.drop_succ_cons]
theorem flatE_append (a b : List (List Int)) : flatE (a ++ b) = flatE a ++ flatE b := by simp [flatE]
theorem flatP_one (ps : List (Int × Int)) : ∀ u ∈ flatP ps, u.oneCell' = true := by
  intro u hu
  simp only [flatP, List.mem_flatMap] at hu
  obtain ⟨p, _, hu⟩ := hu
  simp only [List.mem_cons, List.not_mem_nil, or_false] at hu
  rcases hu with rfl | rfl <;> rfl
theorem intsC_one (xs : List Int) : ∀ u ∈ intsC xs, u.oneCell' = true := by
  intro u hu
  simp only [intsC, List.mem_map] at hu
  obtain ⟨p, _, rfl⟩ := hu
  rfl
theorem flatE_one (es : List (List Int)) : ∀ u ∈ flatE es, u.oneCell' = true := by
  intro u hu
  simp only [flatE, List.mem_flatMap] at hu
  obtain ⟨p, _, hu⟩ := hu
  exact intsC_one _ u hu

/-! ### The whole, and one line of it brought to the front -/
/-- A memory's blocks with the eyes on one line. -/
def fhp (p lb len lcap mb : Nat) (mp : List (Int × Nat)) (clk : Nat) (span : Int) (er : Row) (ne : Nat) (a : List Value) (l : PL) (r : Row) (c : List Value) (Z : Hp) : Hp :=
  (p, structO lb len lcap mb span er ne) :: (lb, .cells (lineL a l r c) 158) :: (mb, mO mp clk) :: (r.hp 111 ++ Z)
theorem hp_focus {R : RM} {A B : List (PL × Row)} {l : PL} {r : Row} (hX : R.X = A ++ (l, r) :: B) :
    R.hp.Perm (fhp R.p R.lb R.X.length R.lcap R.mb R.mp R.clk R.span R.er R.evs.length (linesC A) l r (linesC B ++ R.junk) (R.er.hp 164 ++ pendHp A ++ pendHp B)) := by
  unfold RM.hp fhp
  have e1 : (linesC R.X ++ R.junk).toArray = lineL (linesC A) l r (linesC B ++ R.junk) := by
    rw [hX, linesC_append, linesC_cons]; simp [lineL]
  have e2 : pendHp R.X = pendHp A ++ (r.hp 111 ++ pendHp B) := by rw [hX, pendHp_append, pendHp_cons]
  rw [e1, e2]
  refine List.Perm.cons _ (List.Perm.cons _ (List.Perm.cons _ ?_))
  have e3 : R.er.hp 164 ++ (pendHp A ++ (r.hp 111 ++ pendHp B)) = (R.er.hp 164 ++ pendHp A) ++ r.hp 111 ++ pendHp B := by simp
  have e4 : r.hp 111 ++ (R.er.hp 164 ++ pendHp A ++ pendHp B) = r.hp 111 ++ (R.er.hp 164 ++ pendHp A) ++ pendHp B := by simp
  rw [e3, e4]
  exact List.Perm.append_right _ List.perm_append_comm
theorem St.focus {w0 w : World} {S : List Nat} {L : Hp} {R : RM} {A B : List (PL × Row)} {l : PL} {r : Row} (hX : R.X = A ++ (l, r) :: B) (h : St w0 S w (L ++ R.hp)) :
    St w0 S w (L ++ fhp R.p R.lb R.X.length R.lcap R.mb R.mp R.clk R.span R.er R.evs.length (linesC A) l r (linesC B ++ R.junk) (R.er.hp 164 ++ pendHp A ++ pendHp B)) :=
  h.perm (List.Perm.append_left _ (hp_focus hX))
theorem St.unfocus {w0 w : World} {S : List Nat} {L : Hp} {R : RM} {A B : List (PL × Row)} {l : PL} {r : Row} (hX : R.X = A ++ (l, r) :: B)
    (h : St w0 S w (L ++ fhp R.p R.lb R.X.length R.lcap R.mb R.mp R.clk R.span R.er R.evs.length (linesC A) l r (linesC B ++ R.junk) (R.er.hp 164 ++ pendHp A ++ pendHp B))) : St w0 S w (L ++ R.hp) :=
  h.perm (List.Perm.append_left _ (hp_focus hX).symm)
theorem MemIn.start {w : World} {R : RM} (h : MemIn w R) : St w (R.hp.map Prod.fst) w R.hp := St.start h.nd h.sat
theorem MemIn.of {w0 w : World} {S : List Nat} {L : Hp} {R : RM} (h : St w0 S w (L ++ R.hp)) (ok : R.ok) (hS : ∀ k ∈ S, 3 < k) (h3 : 3 < w0.heap.size) : MemIn w R := by
  have h' : St w0 S w R.hp := h.weaken (List.sublist_append_right _ _)
  exact ⟨h'.nd, h'.sat, ok, fun q hq => (h'.own q hq).elim (hS _) (Nat.lt_of_lt_of_le h3)⟩
theorem MemIn.n3 {w : World} {R : RM} (h : MemIn w R) : 3 ∉ R.hp.map Prod.fst := fun hm => by
  obtain ⟨q, hq, he⟩ := List.mem_map.1 hm
  have := h.hi q hq
  omega
/-- Behind a call that was handed R and gives back R'. -/
theorem MemIn.next {w w' : World} {R R' : RM} (h : MemIn w R) (h' : St w (R.hp.map Prod.fst) w' R'.hp) (ok : R'.ok) : MemIn w' R' :=
  MemIn.of (L := []) h' ok (fun k hk => by obtain ⟨q, hq, rfl⟩ := List.mem_map.1 hk; exact h.hi q hq) (Nat.lt_of_lt_of_le (h.hi (R.p, structO R.lb R.X.length R.lcap R.mb R.span R.er R.evs.length) List.mem_cons_self) (Nat.le_of_lt (lt_of_some (h.sat _ List.mem_cons_self))))
/-- As long as nobody touches it. -/
theorem MemIn.keep {w0 w : World} {S : List Nat} {L : Hp} {R : RM} (hm : MemIn w0 R) (h : St w0 S w (L ++ R.hp)) : MemIn w R := by
  have h' : St w0 S w R.hp := h.weaken (List.sublist_append_right _ _)
  exact ⟨h'.nd, h'.sat, hm.ok, hm.hi⟩
/-- Nothing that lay has changed. -/
theorem St.same {w w' : World} {M L : Hp} (h : St w (M.map Prod.fst) w' (L ++ M)) (hs : ∀ q ∈ M, w.heap[q.1]? = some q.2) : St w [] w' [] := by
  refine ⟨h.os, h.tape, h.output, h.size, fun k hk _ => ?_, by simp, by simp, by simp⟩
  by_cases hm : k ∈ M.map Prod.fst
  · obtain ⟨q, hq, rfl⟩ := List.mem_map.1 hm
    rw [h.sat q (List.mem_append_right _ hq), hs q hq]
  · exact h.old k hk hm
end Go.Proofs.YtkncbggnaobgeaaDoor

/- Facts on types that grow, and on maps. -/
namespace Go.Proofs.YtkncbggnaobgeaaDoor
open Go.RowKit
set_option maxRecDepth 100000
theorem map159 : mapB Tryd.prog 159 = true := by kernel_rfl
theorem app52 : AppT Tryd.prog 52 111 2 16 := appT_of (by kernel_rfl)
theorem app30 : AppT Tryd.prog 30 164 12 96 := appT_of (by kernel_rfl)
theorem app156 : AppT Tryd.prog 156 158 11 104 := appT_of (by kernel_rfl)
theorem app23 : AppT Tryd.prog 23 40 9 72 := appT_of (by kernel_rfl)
theorem app45 : AppT Tryd.prog 45 38 8 64 := appT_of (by kernel_rfl)
end Go.Proofs.YtkncbggnaobgeaaDoor

/- Walks of functions of the program; printed by a program of this session (walk.py) out of hand-written hints. -/
namespace Go.Proofs.YtkncbggnaobgeaaDoor
open Go.RowKit
set_option linter.unusedVariables false
set_option linter.unusedSimpArgs false
set_option maxRecDepth 100000

theorem RM.ok.l8 {R : RM} (h : R.ok) : ∀ x ∈ R.X, x.1.ws.length = 8 := fun x hx => (h.lines x hx).1.1
/-- The eyes on line k. -/
theorem RM.ok.at {R : RM} (h : R.ok) {k : Nat} (hk : k < R.X.length) : ∃ A l r B, R.X = A ++ (l, r) :: B ∧ A.length = k ∧ (linesC A).length = 11 * k ∧ l.ok ∧ r.ok 2 l.ps.length (flatP l.ps) ∧ R.X[k]? = some (l, r) := by
  obtain ⟨A, ⟨l, r⟩, B, hX, hA⟩ := split_at hk
  have hmem : (l, r) ∈ R.X := by rw [hX]; simp
  refine ⟨A, l, r, B, hX, hA, ?_, (h.lines _ hmem).1, (h.lines _ hmem).2, ?_⟩
  · rw [linesC_length (fun x hx => h.l8 x (by rw [hX]; exact List.mem_append_left _ hx)), hA]
  · rw [hX, List.getElem?_append_right (by omega), hA, Nat.sub_self]; rfl
def pHas (R : RM) (n : Int) : Bool := decide (0 ≤ n) && decide (n < R.X.length)
theorem pHas_iff {R : RM} {n : Int} : pHas R n = true ↔ 0 ≤ n ∧ n < R.X.length := by simp [pHas]
theorem pHas_no {R : RM} {n : Int} : pHas R n = false ↔ ¬ (0 ≤ n ∧ n < R.X.length) := by
  cases h : pHas R n with
  | true => simp [pHas_iff.1 h]
  | false => simp; intro h1; have : ¬ (0 ≤ n ∧ n < R.X.length) := fun hh => by rw [pHas_iff.2 hh] at h; cases h
             omega

theorem has_any (R : RM) (n : Int) (w : World) (hm : MemIn w R) : Calls Tryd.prog 101 #[.pointer (some ⟨R.p, 0, none⟩), .int .i64 n] w fun e w' => e = .returned (.bool (pHas R n)) ∧ w' = w := by
  refine calls_walk_n (args := [.pointer (some ⟨R.p, 0, none⟩), .int .i64 n]) Tryd.func101 rfl rfl rfl ?_
  have H := hm.start
  refine WC.seq ?_
  refine WC.region ?_
  refine WL.assign rfl rfl ?_
  refine (WL.done (WX.next ?_))
  refine WC.seq ?_
  refine WC.region ?_
  refine WL.move rfl rfl ?_
  refine WL.bin rfl rfl binv_geq rfl ?_
  refine WL.move rfl rfl ?_
  refine WL.splitD (t := 7) rfl (fun g1 => ?_) (fun g1 => ?_)
  ·
    refine WL.yes rfl rfl ?_
    refine WL.move rfl rfl ?_
    refine WL.yes rfl rfl ?_
    refine WL.move rfl rfl ?_
    refine WL.yes rfl rfl ?_
    refine WL.nilCheck rfl rfl ?_
    refine WL.yes rfl rfl ?_
    refine WL.fieldAddr fld161_0 rfl rfl ?_
    refine WL.yes rfl rfl ?_
    refine WL.load rfl (H.rd1 ty156 0 rfl rfl) rfl ?_
    refine WL.yes rfl rfl ?_
    refine WL.lenSlc isl156 rfl rfl ?_
    refine WL.yes rfl rfl ?_
    refine WL.bin rfl rfl binv_lss rfl ?_
    refine WL.pickT rfl rfl rfl ?_
    refine WL.assign rfl rfl ?_
    refine (WL.done (WX.next ?_))
    refine (WC.ret ?_)
    refine ret_one rfl rfl ?_
    exact ⟨by unfold pHas; simp [g1], rfl⟩
  ·
    refine WL.no rfl rfl rfl ?_
    refine WL.no rfl rfl rfl ?_
    refine WL.no rfl rfl rfl ?_
    refine WL.no rfl rfl rfl ?_
    refine WL.no rfl rfl rfl ?_
    refine WL.no rfl rfl rfl ?_
    refine WL.no rfl rfl rfl ?_
    refine WL.pickF rfl rfl rfl ?_
    refine WL.assign rfl rfl ?_
    refine (WL.done (WX.next ?_))
    refine (WC.ret ?_)
    refine ret_one rfl rfl ?_
    exact ⟨by unfold pHas; simp [g1], rfl⟩

theorem lines_any (R : RM) (w : World) (hm : MemIn w R) : Calls Tryd.prog 26 #[.pointer (some ⟨R.p, 0, none⟩)] w fun e w' => e = .returned (.int .i64 (R.X.length : Int)) ∧ w' = w := by
  refine calls_walk_n (args := [.pointer (some ⟨R.p, 0, none⟩)]) Tryd.func26 rfl rfl rfl ?_
  have H := hm.start
  refine WC.seq ?_
  refine WC.region ?_
  refine WL.assign rfl rfl ?_
  refine (WL.done (WX.next ?_))
  refine WC.seq ?_
  refine WC.region ?_
  refine WL.move rfl rfl ?_
  refine WL.nilCheck rfl rfl ?_
  refine WL.fieldAddr fld161_0 rfl rfl ?_
  refine WL.load rfl (H.rd1 ty156 0 rfl rfl) rfl ?_
  refine WL.lenSlc isl156 rfl rfl ?_
  refine WL.assign rfl rfl ?_
  refine (WL.done (WX.next ?_))
  refine (WC.ret ?_)
  refine ret_one rfl rfl ?_
  exact ⟨rfl, rfl⟩

theorem state_any (R : RM) (n : Int) (w : World) (hm : MemIn w R) (hL : L64 w) : Calls Tryd.prog 31 #[.pointer (some ⟨R.p, 0, none⟩), .int .i64 n] w fun e w' => e = .returned (.int .i64 (if pHas R n then (match R.X[n.toNat]? with | some x => (chk x.1.ws x.1.c).1 | none => 0) else -1)) ∧ St w [] w' [] := by
  refine calls_walk_n (args := [.pointer (some ⟨R.p, 0, none⟩), .int .i64 n]) Tryd.func31 rfl rfl rfl ?_
  have H := hm.start
  refine WC.seq ?_
  refine WC.region ?_
  refine WL.assign rfl rfl ?_
  refine (WL.done (WX.next ?_))
  refine WC.seq ?_
  refine WC.seq ?_
  refine WC.region ?_
  refine WL.move rfl rfl ?_
  refine WL.move rfl rfl ?_
  refine WL.call call101 rfl rfl ?_
  refine Calls.mono (has_any R n _ hm) ?_
  rintro _ wx ⟨rfl, rfl⟩
  refine ⟨_, rfl, ?_⟩
  refine WL.notOp rfl rfl ?_
  refine (WL.done (WX.next ?_))
  refine WC.cond rfl (fun c1 => ?_) (fun c1 => ?_)
  ·
    have hh : pHas R n = false := by cases hh : pHas R n <;> simp [hh] at c1 ⊢
    refine WC.seq ?_
    refine WC.region ?_
    refine WL.assign rfl rfl ?_
    refine (WL.done (WX.next ?_))
    refine (WC.ret (WX.then_ret ?_))
    refine ret_one rfl rfl ?_
    rw [hh]
    exact ⟨rfl, H.same (L := []) hm.sat⟩
  ·
    have hh : pHas R n = true := by cases hh : pHas R n <;> simp [hh] at c1 ⊢
    obtain ⟨hn0, hn1⟩ := pHas_iff.1 hh
    obtain ⟨k, rfl⟩ : ∃ k : Nat, n = (k : Int) := ⟨n.toNat, by omega⟩
    obtain ⟨A, l, r, B, hX, hA, ha, hok, hr, hget⟩ := hm.ok.at (k := k) (by omega)
    replace H := St.focus (L := []) hX H
    refine (WC.skip (WX.next ?_))
    refine WC.seq ?_
    replace H := H.drew
    refine WC.held (SX (World.drew wx) []) (by kernel_rfl) ?_
    generalize World.drew wx = wb at H ⊢
    have HB := St.refl wb
    refine WH.take 0 rfl (by kernel_rfl) (by kernel_rfl) (by kernel_rfl) (fun _ _ _ h => h) ⟨_, HB⟩ (fun w' hS => EX.move rfl) rfl ?_
    refine WH.take 1 rfl (by kernel_rfl) (by kernel_rfl) (by kernel_rfl) (fun _ _ _ h => h) ⟨_, HB⟩ (fun w' hS => EX.nilCheck rfl) rfl ?_
    refine WH.take 2 rfl (by kernel_rfl) (by kernel_rfl) (by kernel_rfl) (fun _ _ _ h => h) ⟨_, HB⟩ (fun w' hS => EX.fieldAddr fld161_0 rfl) rfl ?_
    refine WH.take 3 rfl (by kernel_rfl) (by kernel_rfl) (by kernel_rfl) (fun _ _ _ h => h) ⟨_, HB⟩ (fun w' hS => EX.load rfl (hS.rd1 ty156 (H.blk 0 rfl) (by simp) rfl)) rfl ?_
    refine WH.take 4 rfl (by kernel_rfl) (by kernel_rfl) (by kernel_rfl) (fun _ _ _ h => h) ⟨_, HB⟩ (fun w' hS => EX.move rfl) rfl ?_
    refine WH.take 5 rfl (by kernel_rfl) (by kernel_rfl) (by kernel_rfl) (fun _ _ _ h => h) ⟨_, HB⟩ (fun w' hS => EX.idxSlc (k := k) slc156 rfl rfl (by rfl) (by omega)) rfl ?_
    refine WH.take 6 rfl (by kernel_rfl) (by kernel_rfl) (by kernel_rfl) (fun _ _ _ h => h) ⟨_, HB⟩ (fun w' hS => EX.fieldAddr fld158_0 rfl) rfl ?_
    refine WH.take 7 rfl (by kernel_rfl) (by kernel_rfl) (by kernel_rfl) (fun _ _ _ h => h) ⟨_, HB⟩ (fun w' hS => EX.fieldAddr fld40_0 rfl) rfl ?_
    refine WH.take 8 rfl (by kernel_rfl) (by kernel_rfl) (by kernel_rfl) (fun _ _ _ h => h) ⟨_, HB⟩ (fun w' hS => EX.load rfl (Rd.lineW ty38 (hS.block (H.blk 1 rfl) (by simp)) (by omega) hok.1)) rfl ?_
    refine WH.take 9 rfl (by kernel_rfl) (by kernel_rfl) (by kernel_rfl) (fun _ _ _ h => h) ⟨_, HB⟩ (fun w' hS => EX.move rfl) rfl ?_
    refine WH.take 10 rfl (by kernel_rfl) (by kernel_rfl) (by kernel_rfl) (fun _ _ _ h => h) ⟨_, HB⟩ (fun w' hS => EX.nilCheck rfl) rfl ?_
    refine WH.take 11 rfl (by kernel_rfl) (by kernel_rfl) (by kernel_rfl) (fun _ _ _ h => h) ⟨_, HB⟩ (fun w' hS => EX.fieldAddr fld161_0 rfl) rfl ?_
    refine WH.take 12 rfl (by kernel_rfl) (by kernel_rfl) (by kernel_rfl) (fun _ _ _ h => h) ⟨_, HB⟩ (fun w' hS => EX.load rfl (hS.rd1 ty156 (H.blk 0 rfl) (by simp) rfl)) rfl ?_
    refine WH.take 13 rfl (by kernel_rfl) (by kernel_rfl) (by kernel_rfl) (fun _ _ _ h => h) ⟨_, HB⟩ (fun w' hS => EX.move rfl) rfl ?_
    refine WH.take 14 rfl (by kernel_rfl) (by kernel_rfl) (by kernel_rfl) (fun _ _ _ h => h) ⟨_, HB⟩ (fun w' hS => EX.idxSlc (k := k) slc156 rfl rfl (by rfl) (by omega)) rfl ?_
    refine WH.take 15 rfl (by kernel_rfl) (by kernel_rfl) (by kernel_rfl) (fun _ _ _ h => h) ⟨_, HB⟩ (fun w' hS => EX.fieldAddr fld158_0 rfl) rfl ?_
    refine WH.take 16 rfl (by kernel_rfl) (by kernel_rfl) (by kernel_rfl) (fun _ _ _ h => h) ⟨_, HB⟩ (fun w' hS => EX.fieldAddr fld40_1 rfl) rfl ?_
    refine WH.take 17 rfl (by kernel_rfl) (by kernel_rfl) (by kernel_rfl) (fun _ _ _ h => h) ⟨_, HB⟩ (fun w' hS => EX.load rfl (Rd.lineCo ty3 (hS.block (H.blk 1 rfl) (by simp)) (by omega) hok.1)) rfl ?_
    refine WH.hard 18 rfl (by kernel_rfl) ?_
    refine WL.call call102 rfl rfl ?_
    refine Calls.mono (chk_any l.ws hok.1 l.c _ (hL.of H hm.n3)) ?_
    rintro _ wx ⟨rfl, Hc⟩
    refine ⟨_, rfl, ?_⟩
    replace HB := HB.call0 Hc
    refine WL.done (WX.heldOn ⟨_, HB⟩ ?_)
    refine WH.take 19 rfl (by kernel_rfl) (by kernel_rfl) (by kernel_rfl) (fun _ _ _ h => h) ⟨_, HB⟩ (fun w' hS => EX.move rfl) rfl ?_
    refine WH.take 20 rfl (by kernel_rfl) (by kernel_rfl) (by kernel_rfl) (fun _ _ _ h => h) ⟨_, HB⟩ (fun w' hS => EX.extract rfl rfl) rfl ?_
    refine WH.take 21 rfl (by kernel_rfl) (by kernel_rfl) (by kernel_rfl) (fun _ _ _ h => h) ⟨_, HB⟩ (fun w' hS => EX.extract rfl rfl) rfl ?_
    refine WH.take 22 rfl (by kernel_rfl) (by kernel_rfl) (by kernel_rfl) (fun _ _ _ h => h) ⟨_, HB⟩ (fun w' hS => EX.extract rfl rfl) rfl ?_
    refine WH.take 23 rfl (by kernel_rfl) (by kernel_rfl) (by kernel_rfl) (fun _ _ _ h => h) ⟨_, HB⟩ (fun w' hS => EX.assign rfl) rfl ?_
    refine WH.take 24 rfl (by kernel_rfl) (by kernel_rfl) (by kernel_rfl) (fun _ _ _ h => h) ⟨_, HB⟩ (fun w' hS => EX.assign rfl) rfl ?_
    refine WH.take 25 rfl (by kernel_rfl) (by kernel_rfl) (by kernel_rfl) (fun _ _ _ h => h) ⟨_, HB⟩ (fun w' hS => EX.assign rfl) rfl ?_
    refine WH.done (by kernel_rfl) ?_
    replace H := H.call0 HB
    refine WX.next ?_
    refine WC.seq ?_
    refine WC.region ?_
    refine WL.move rfl rfl ?_
    refine WL.assign rfl rfl ?_
    refine (WL.done (WX.next ?_))
    refine (WC.ret ?_)
    refine ret_one rfl rfl ?_
    refine ⟨by simp only [hh, if_true, Int.toNat_natCast, hget], ?_⟩
    exact ((St.unfocus (L := []) hX H).same (L := []) hm.sat)

end Go.Proofs.YtkncbggnaobgeaaDoor

/- Walks of functions of the program; printed by a program of this session (walk.py) out of hand-written hints. -/
namespace Go.Proofs.YtkncbggnaobgeaaDoor
open Go.RowKit
set_option linter.unusedVariables false
set_option linter.unusedSimpArgs false
set_option maxRecDepth 100000

theorem binv_slc_eql {P : Program} {t e : TypeId} (h : P.underlying t = some (.slice e)) (a : Option Addr) (l c : Nat) : BinV P .eql t (.slice a l c) (.slice none 0 0) (.bool a.isNone) := fun x y w => by
  have : (eqGuard .eql t x y (.slice a l c) (.slice none 0 0)).run P w = .ok () w := by cases a <;> rfl
  simp [this, binOp, run_equal_slice_nil w t e a l c h]
theorem Row.ok_cast {r : Row} {sz n n' : Nat} {xs xs' : List Value} (h : r.ok sz n xs) (hn : n = n') (hx : xs = xs') : r.ok sz n' xs' := by subst hn; subst hx; exact h

theorem St.cellKeep {w0 w : World} {H : Hp} (h : St w0 [] w H) {a : Addr} {v : Value} (hc : w0.cell? a = some v) : w.cell? a = some v := by
  unfold World.cell? at hc ⊢
  split at hc
  · rename_i c t fr hb
    rw [h.oldBlock hb (by simp)]
    exact hc
  · cases hc

theorem cloneP_nil (w : World) : Calls Tryd.prog 108 #[.slice none 0 0] w fun e w' => e = .returned (.slice none 0 0) ∧ w' = w := by
  refine calls_walk_n (args := [.slice none 0 0]) Tryd.func108 rfl rfl rfl ?_
  refine WC.seq ?_
  refine WC.region ?_
  refine WL.assign rfl rfl ?_
  refine (WL.done (WX.next ?_))
  refine WC.seq ?_
  refine WC.seq ?_
  refine WC.region ?_
  refine WL.move rfl rfl ?_
  refine WL.bin rfl rfl (binv_slc_eql Tryd.underlying52 _ _ _) rfl ?_
  refine (WL.done (WX.next ?_))
  refine WC.cond_true rfl (rfl) ?_
  refine WC.seq ?_
  refine WC.region ?_
  refine WL.assign rfl rfl ?_
  refine (WL.done (WX.next ?_))
  refine (WC.ret (WX.then_ret ?_))
  refine ret_one rfl rfl ?_
  exact ⟨rfl, rfl⟩

theorem cloneP_addr (a : Addr) (m c : Nat) (w : World) (news : List Value) (hl : news.length = m * 2) (hn : ∀ j u, news[j]? = some u → w.cell? (a.add j) = some u) (h1 : ∀ u ∈ news, u.oneCell' = true) (hm : m ≤ 1073741824) : Calls Tryd.prog 108 #[.slice (some a) m c] w fun e w' => ∃ r : Row, e = .returned (r.val m) ∧ r.ok 2 m news ∧ St w [] w' (r.hp 111) := by
  refine calls_walk_n (args := [.slice (some a) m c]) Tryd.func108 rfl rfl rfl ?_
  have H := St.refl w
  refine WC.seq ?_
  refine WC.region ?_
  refine WL.assign rfl rfl ?_
  refine (WL.done (WX.next ?_))
  refine WC.seq ?_
  refine WC.seq ?_
  refine WC.region ?_
  refine WL.move rfl rfl ?_
  refine WL.bin rfl rfl (binv_slc_eql Tryd.underlying52 _ _ _) rfl ?_
  refine (WL.done (WX.next ?_))
  refine WC.cond_false rfl (rfl) ?_
  refine (WC.skip (WX.next ?_))
  refine WC.seq ?_
  refine WC.region ?_
  refine WL.buildS0 H app52 rfl ?_
  intro g wx hg hge H
  refine WL.move rfl rfl ?_
  refine WL.append (r := .some g 0 #[]) (k := 0) (xs := []) (H := []) app52 H ⟨by simp, Nat.le_refl _, by simp [maxLen], by simp, by simp, fun _ => rfl⟩ rfl rfl hl (fun j u hj => H.cellKeep (hn j u hj)) h1 (by simp only [maxLen]; omega) (by omega) rfl ?_
  intro r' wx hok H
  rw [Nat.zero_add] at hok ⊢
  rw [List.nil_append] at hok
  rw [List.append_nil] at H
  refine WL.assign rfl rfl ?_
  refine (WL.done (WX.next ?_))
  refine (WC.ret ?_)
  refine ret_one rfl rfl ?_
  exact ⟨r', rfl, hok, H⟩

theorem cloneP_any (b o m c : Nat) (cs : Array Value) (t : TypeId) (w : World) (hb : w.heap[b]? = some (.cells cs t)) (news : List Value) (hl : news.length = m * 2) (hn : ∀ j u, news[j]? = some u → cs[o + j]? = some u) (h1 : ∀ u ∈ news, u.oneCell' = true) (hm : m ≤ 1073741824) : Calls Tryd.prog 108 #[.slice (some ⟨b, o, none⟩) m c] w fun e w' => ∃ r : Row, e = .returned (r.val m) ∧ r.ok 2 m news ∧ St w [] w' (r.hp 111) :=
  cloneP_addr ⟨b, o, none⟩ m c w news hl (fun j u hj => by rw [addr_add, cell_of hb]; exact hn j u hj) h1 hm

theorem cloneE_nil (w : World) : Calls Tryd.prog 100 #[.slice none 0 0] w fun e w' => e = .returned (.slice none 0 0) ∧ w' = w := by
  refine calls_walk_n (args := [.slice none 0 0]) Tryd.func100 rfl rfl rfl ?_
  refine WC.seq ?_
  refine WC.region ?_
  refine WL.assign rfl rfl ?_
  refine (WL.done (WX.next ?_))
  refine WC.seq ?_
  refine WC.seq ?_
  refine WC.region ?_
  refine WL.move rfl rfl ?_
  refine WL.bin rfl rfl (binv_slc_eql Tryd.underlying30 _ _ _) rfl ?_
  refine (WL.done (WX.next ?_))
  refine WC.cond_true rfl (rfl) ?_
  refine WC.seq ?_
  refine WC.region ?_
  refine WL.assign rfl rfl ?_
  refine (WL.done (WX.next ?_))
  refine (WC.ret (WX.then_ret ?_))
  refine ret_one rfl rfl ?_
  exact ⟨rfl, rfl⟩

theorem cloneE_addr (a : Addr) (m c : Nat) (w : World) (news : List Value) (hl : news.length = m * 12) (hn : ∀ j u, news[j]? = some u → w.cell? (a.add j) = some u) (h1 : ∀ u ∈ news, u.oneCell' = true) (hm : m ≤ 1073741824) : Calls Tryd.prog 100 #[.slice (some a) m c] w fun e w' => ∃ r : Row, e = .returned (r.val m) ∧ r.ok 12 m news ∧ St w [] w' (r.hp 164) := by
  refine calls_walk_n (args := [.slice (some a) m c]) Tryd.func100 rfl rfl rfl ?_
  have H := St.refl w
  refine WC.seq ?_
  refine WC.region ?_
  refine WL.assign rfl rfl ?_
  refine (WL.done (WX.next ?_))
  refine WC.seq ?_
  refine WC.seq ?_
  refine WC.region ?_
  refine WL.move rfl rfl ?_
  refine WL.bin rfl rfl (binv_slc_eql Tryd.underlying30 _ _ _) rfl ?_
  refine (WL.done (WX.next ?_))
  refine WC.cond_false rfl (rfl) ?_
  refine (WC.skip (WX.next ?_))
  refine WC.seq ?_
  refine WC.region ?_
  refine WL.buildS0 H app30 rfl ?_
  intro g wx hg hge H
  refine WL.move rfl rfl ?_
  refine WL.append (r := .some g 0 #[]) (k := 0) (xs := []) (H := []) app30 H ⟨by simp, Nat.le_refl _, by simp [maxLen], by simp, by simp, fun _ => rfl⟩ rfl rfl hl (fun j u hj => H.cellKeep (hn j u hj)) h1 (by simp only [maxLen]; omega) (by omega) rfl ?_
  intro r' wx hok H
  rw [Nat.zero_add] at hok ⊢
  rw [List.nil_append] at hok
  rw [List.append_nil] at H
  refine WL.assign rfl rfl ?_
  refine (WL.done (WX.next ?_))
  refine (WC.ret ?_)
  refine ret_one rfl rfl ?_
  exact ⟨r', rfl, hok, H⟩

theorem cloneE_any (b o m c : Nat) (cs : Array Value) (t : TypeId) (w : World) (hb : w.heap[b]? = some (.cells cs t)) (news : List Value) (hl : news.length = m * 12) (hn : ∀ j u, news[j]? = some u → cs[o + j]? = some u) (h1 : ∀ u ∈ news, u.oneCell' = true) (hm : m ≤ 1073741824) : Calls Tryd.prog 100 #[.slice (some ⟨b, o, none⟩) m c] w fun e w' => ∃ r : Row, e = .returned (r.val m) ∧ r.ok 12 m news ∧ St w [] w' (r.hp 164) :=
  cloneE_addr ⟨b, o, none⟩ m c w news hl (fun j u hj => by rw [addr_add, cell_of hb]; exact hn j u hj) h1 hm

theorem cloneL_nil (w : World) : Calls Tryd.prog 109 #[.slice none 0 0] w fun e w' => e = .returned (.slice none 0 0) ∧ w' = w := by
  refine calls_walk_n (args := [.slice none 0 0]) Tryd.func109 rfl rfl rfl ?_
  refine WC.seq ?_
  refine WC.region ?_
  refine WL.assign rfl rfl ?_
  refine (WL.done (WX.next ?_))
  refine WC.seq ?_
  refine WC.seq ?_
  refine WC.region ?_
  refine WL.move rfl rfl ?_
  refine WL.bin rfl rfl (binv_slc_eql Tryd.underlying156 _ _ _) rfl ?_
  refine (WL.done (WX.next ?_))
  refine WC.cond_true rfl (rfl) ?_
  refine WC.seq ?_
  refine WC.region ?_
  refine WL.assign rfl rfl ?_
  refine (WL.done (WX.next ?_))
  refine (WC.ret (WX.then_ret ?_))
  refine ret_one rfl rfl ?_
  exact ⟨rfl, rfl⟩

theorem cloneL_addr (a : Addr) (m c : Nat) (w : World) (news : List Value) (hl : news.length = m * 11) (hn : ∀ j u, news[j]? = some u → w.cell? (a.add j) = some u) (h1 : ∀ u ∈ news, u.oneCell' = true) (hm : m ≤ 1073741824) : Calls Tryd.prog 109 #[.slice (some a) m c] w fun e w' => ∃ r : Row, e = .returned (r.val m) ∧ r.ok 11 m news ∧ St w [] w' (r.hp 158) := by
  refine calls_walk_n (args := [.slice (some a) m c]) Tryd.func109 rfl rfl rfl ?_
  have H := St.refl w
  refine WC.seq ?_
  refine WC.region ?_
  refine WL.assign rfl rfl ?_
  refine (WL.done (WX.next ?_))
  refine WC.seq ?_
  refine WC.seq ?_
  refine WC.region ?_
  refine WL.move rfl rfl ?_
  refine WL.bin rfl rfl (binv_slc_eql Tryd.underlying156 _ _ _) rfl ?_
  refine (WL.done (WX.next ?_))
  refine WC.cond_false rfl (rfl) ?_
  refine (WC.skip (WX.next ?_))
  refine WC.seq ?_
  refine WC.region ?_
  refine WL.buildS0 H app156 rfl ?_
  intro g wx hg hge H
  refine WL.move rfl rfl ?_
  refine WL.append (r := .some g 0 #[]) (k := 0) (xs := []) (H := []) app156 H ⟨by simp, Nat.le_refl _, by simp [maxLen], by simp, by simp, fun _ => rfl⟩ rfl rfl hl (fun j u hj => H.cellKeep (hn j u hj)) h1 (by simp only [maxLen]; omega) (by omega) rfl ?_
  intro r' wx hok H
  rw [Nat.zero_add] at hok ⊢
  rw [List.nil_append] at hok
  rw [List.append_nil] at H
  refine WL.assign rfl rfl ?_
  refine (WL.done (WX.next ?_))
  refine (WC.ret ?_)
  refine ret_one rfl rfl ?_
  exact ⟨r', rfl, hok, H⟩

theorem cloneL_any (b o m c : Nat) (cs : Array Value) (t : TypeId) (w : World) (hb : w.heap[b]? = some (.cells cs t)) (news : List Value) (hl : news.length = m * 11) (hn : ∀ j u, news[j]? = some u → cs[o + j]? = some u) (h1 : ∀ u ∈ news, u.oneCell' = true) (hm : m ≤ 1073741824) : Calls Tryd.prog 109 #[.slice (some ⟨b, o, none⟩) m c] w fun e w' => ∃ r : Row, e = .returned (r.val m) ∧ r.ok 11 m news ∧ St w [] w' (r.hp 158) :=
  cloneL_addr ⟨b, o, none⟩ m c w news hl (fun j u hj => by rw [addr_add, cell_of hb]; exact hn j u hj) h1 hm

end Go.Proofs.YtkncbggnaobgeaaDoor

/- Walks of functions of the program; printed by a program of this session (walk.py) out of hand-written hints. -/
namespace Go.Proofs.YtkncbggnaobgeaaDoor
open Go.RowKit
set_option linter.unusedVariables false
set_option linter.unusedSimpArgs false
set_option maxRecDepth 100000

theorem fix_len {ws : List Int} {c : Int} (h8 : ws.length = 8) : (fix ws c).1.length = 8 := by
  unfold fix
  split
  · split
    · exact h8
    · rw [flipBit]; split <;> simp [h8]
    · rfl
  · rfl
theorem putAll_len (ws : List Int) (ps : List (Int × Int)) : (putAll ws ps).length = ws.length := by
  unfold putAll
  induction ps generalizing ws with
  | nil => rfl
  | cons p ps ih => simp only [List.foldl_cons]; rw [ih]; simp
theorem putAll_succ {ws : List Int} {ps : List (Int × Int)} {j : Nat} (hj : j < ps.length) : putAll ws (ps.take (j + 1)) = (putAll ws (ps.take j)).set (ps[j]).1.toNat (ps[j]).2 := by
  unfold putAll
  rw [List.take_add_one, List.getElem?_eq_getElem hj, List.foldl_append]; rfl
theorem Row.le_max {r : Row} {sz n : Nat} {xs : List Value} (h : r.ok sz n xs) : n ≤ 9223372036854775807 := by
  cases r with
  | none => have := h.1; omega
  | nul a => have := h.1; omega
  | some g cap cur => have h1 := h.2.1; have h2 := h.2.2.1; simp only [maxLen] at h2; omega
theorem Row.is_some {r : Row} {sz n : Nat} {xs : List Value} (h : r.ok sz n xs) (hn : 0 < n) : ∃ g cap cur, r = .some g cap cur := by
  cases r with
  | none => have := h.1; omega
  | nul a => have := h.1; omega
  | some g cap cur => exact ⟨g, cap, cur, rfl⟩
theorem pShow_len {l : PL} {k : Nat} (h8 : l.ws.length = 8) : (pShow l k).1.length = 8 := by
  unfold pShow
  split
  · simp only [putAll_len, fix_len h8]
  · rfl
section
variable {P : Program} {ops : Array Oper} {Q : Exit → Act → World → Prop} {n : Nat} {ds : List Deferred} {e e' : Env} {w w' w0 : World} {rest : List Oper} {S : List Nat} {H : Hp}
variable {d : Nat} {v : Value} {ty : TypeId} {pos : String} {af : Array Edge}
theorem WL.sliceHiR {T : TypeId} {sz k m sz' : Nat} {r : Row} {xs : List Value} {x y : Operand} {kd : IntKind} {z : Int} (hT : slcB P T sz = true) (hx : ev e x = some (r.val m)) (hy : ev e y = some (.int kd z)) (hz : z = (k : Int)) (hok : r.ok sz' m xs) (hk : k ≤ m) (hdn : Nat.blt d n = true)
    (h : WL P ops Q n ds rest ((d, r.val k) :: e) w) : WL P ops Q n ds ({ dst := some d, op := .slice T x none (some y) none, type := ty, pos, after := af, guard := none } :: rest) e w := by
  cases r with
  | none => exact WL.sliceHi hT hx hy hz (by have := hok.1; omega) hdn h
  | nul a => exact WL.sliceHi hT hx hy hz (by have := hok.1; omega) hdn h
  | some g cap cur => exact WL.sliceHi hT hx hy hz (by have := hok.2.1; omega) hdn h
theorem WL.lenR {x : Operand} {T : TypeId} {r : Row} {m : Nat} (hT : isSlcB P T = true) (hx : ev e x = some (r.val m)) (hdn : Nat.blt d n = true)
    (h : WL P ops Q n ds rest ((d, .int .i64 (m : Int)) :: e) w) : WL P ops Q n ds ({ dst := some d, op := .call { callee := .builtin .len, args := #[x], argTypes := #[T] }, type := ty, pos, after := af, guard := none } :: rest) e w := by
  cases r <;> exact WL.lenSlc hT hx hdn h
theorem EX.lenR {x : Operand} {T : TypeId} {r : Row} {m : Nat} (hT : isSlcB P T = true) (hx : ev e x = some (r.val m)) : EX P n ds e (.call { callee := .builtin .len, args := #[x], argTypes := #[T] }) ty (.int .i64 (m : Int)) w := by
  cases r <;> exact EX.lenSlc hT hx
theorem Rd.pair {T t : TypeId} {fr : Nat × Nat} {b o : Nat} {cs : Array Value} {p q : Value} (hT : tyB P T true 2 = true) (h : w.heap[b]? = some (.cells cs t fr)) (hp : cs[o]? = some p) (hq : cs[o + 1]? = some q) : Rd P w T ⟨b, o, none⟩ (.agg #[p, q]) := by
  have hlt : o + 1 < cs.size := by
    rcases Nat.lt_or_ge (o + 1) cs.size with hl | hg
    · exact hl
    · rw [Array.getElem?_eq_none hg] at hq; cases hq
  have := Rd.agg (P := P) (o := o) hT h (by omega)
  have e1 : cs.extract o (o + 2) = #[p, q] := by
    apply Array.ext_getElem?
    intro i
    rw [Array.getElem?_extract]
    match i with
    | 0 => simp [hp]; omega
    | 1 => simp [hq]; omega
    | i + 2 => simp; omega
  rw [e1] at this
  exact this
end

theorem shows_any (lb o : Nat) (a : List Value) (l : PL) (r : Row) (c : List Value) (k : Nat) (w : World) (hb : w.heap[lb]? = some (.cells (lineL a l r c) 158)) (ho : o = a.length) (hok : l.ok) (hr : r.ok 2 l.ps.length (flatP l.ps)) (hs : ∀ q ∈ r.hp 111, w.heap[q.1]? = some q.2) (hk : k ≤ l.ps.length) (hL : L64 w) : Calls Tryd.prog 105 #[.pointer (some ⟨lb, o, none⟩), .int .i64 (k : Int)] w fun e w' => e = .returned (.tuple #[arr (pShow l k).1, .int .i64 (pShow l k).2]) ∧ St w [] w' [] := by
  have hml := Row.le_max hr
  refine calls_walk_n (args := [.pointer (some ⟨lb, o, none⟩), .int .i64 (k : Int)]) Tryd.func105 rfl rfl rfl ?_
  have H := St.refl w
  refine WC.seq ?_
  refine WC.region ?_
  refine WL.allocArr (ws := zeros8) H zer38 rfl rfl ?_
  intro b4 wx hb4 hge4 H
  refine WL.assign rfl rfl ?_
  refine (WL.done (WX.next ?_))
  refine WC.seqJ (Sub.cons (t := 0) rfl (Sub.cons (t := 1) rfl (Sub.cons (t := 4) rfl (Sub.nil _)))) (fun b6 : Nat => [(6, .pointer (some ⟨b6, 0, none⟩)), (8, .int .i64 (fix l.ws l.c).2.2)]) (fun b6 wx => St w [] wx [(b6, .cells (arrC (fix l.ws l.c).1) 38), (b4, .cells (arrC zeros8) 38)]) (fun N hN => ?_) (fun b6 wx H => ?_)
  · -- first
    replace H := H.drew
    refine WC.held (SX (World.drew wx) []) (by kernel_rfl) ?_
    generalize World.drew wx = wb at H ⊢
    have HB := St.refl wb
    refine WH.take 0 rfl (by kernel_rfl) (by kernel_rfl) (by kernel_rfl) (fun _ _ _ h => h) ⟨_, HB⟩ (fun w' hS => EX.move rfl) rfl ?_
    refine WH.take 1 rfl (by kernel_rfl) (by kernel_rfl) (by kernel_rfl) (fun _ _ _ h => h) ⟨_, HB⟩ (fun w' hS => EX.nilCheck rfl) rfl ?_
    refine WH.take 2 rfl (by kernel_rfl) (by kernel_rfl) (by kernel_rfl) (fun _ _ _ h => h) ⟨_, HB⟩ (fun w' hS => EX.fieldAddr fld158_0 rfl) rfl ?_
    refine WH.take 3 rfl (by kernel_rfl) (by kernel_rfl) (by kernel_rfl) (fun _ _ _ h => h) ⟨_, HB⟩ (fun w' hS => EX.fieldAddr fld40_0 rfl) rfl ?_
    refine WH.take 4 rfl (by kernel_rfl) (by kernel_rfl) (by kernel_rfl) (fun _ _ _ h => h) ⟨_, HB⟩ (fun w' hS => EX.load rfl (Rd.lineW ty38 (hS.block (H.oldBlock hb (by simp)) (by simp)) (by omega) hok.1)) rfl ?_
    refine WH.take 5 rfl (by kernel_rfl) (by kernel_rfl) (by kernel_rfl) (fun _ _ _ h => h) ⟨_, HB⟩ (fun w' hS => EX.move rfl) rfl ?_
    refine WH.take 6 rfl (by kernel_rfl) (by kernel_rfl) (by kernel_rfl) (fun _ _ _ h => h) ⟨_, HB⟩ (fun w' hS => EX.nilCheck rfl) rfl ?_
    refine WH.take 7 rfl (by kernel_rfl) (by kernel_rfl) (by kernel_rfl) (fun _ _ _ h => h) ⟨_, HB⟩ (fun w' hS => EX.fieldAddr fld158_0 rfl) rfl ?_
    refine WH.take 8 rfl (by kernel_rfl) (by kernel_rfl) (by kernel_rfl) (fun _ _ _ h => h) ⟨_, HB⟩ (fun w' hS => EX.fieldAddr fld40_1 rfl) rfl ?_
    refine WH.take 9 rfl (by kernel_rfl) (by kernel_rfl) (by kernel_rfl) (fun _ _ _ h => h) ⟨_, HB⟩ (fun w' hS => EX.load rfl (Rd.lineCo ty3 (hS.block (H.oldBlock hb (by simp)) (by simp)) (by omega) hok.1)) rfl ?_
    refine WH.hard2 10 15 rfl rfl (by kernel_rfl) ?_ ?_
    ·
      refine WL.call call172 rfl rfl ?_
      refine Calls.mono (fix_any l.ws hok.1 l.c _ ((hL.of0 H).of0 HB)) ?_
      rintro _ wx ⟨rfl, Hc⟩
      refine ⟨_, rfl, ?_⟩
      replace HB := HB.call0 Hc
      refine WL.done (WX.heldOn ⟨_, HB⟩ ?_)
      refine WH.take 11 rfl (by kernel_rfl) (by kernel_rfl) (by kernel_rfl) (fun _ _ _ h => h) ⟨_, HB⟩ (fun w' hS => EX.move rfl) rfl ?_
      refine WH.take 12 rfl (by kernel_rfl) (by kernel_rfl) (by kernel_rfl) (fun _ _ _ h => h) ⟨_, HB⟩ (fun w' hS => EX.extract rfl rfl) rfl ?_
      refine WH.take 13 rfl (by kernel_rfl) (by kernel_rfl) (by kernel_rfl) (fun _ _ _ h => h) ⟨_, HB⟩ (fun w' hS => EX.extract rfl rfl) rfl ?_
      refine WH.take 14 rfl (by kernel_rfl) (by kernel_rfl) (by kernel_rfl) (fun _ _ _ h => h) ⟨_, HB⟩ (fun w' hS => EX.extract rfl rfl) rfl ?_
      refine WH.hard 15 rfl (by kernel_rfl) ?_
      refine WL.allocArr (ws := zeros8) HB zer38 rfl rfl ?_
      intro b6 wx hb6 hge6 HB
      refine WL.done (WX.heldOn ⟨_, HB⟩ ?_)
      refine WH.hard 16 rfl (by kernel_rfl) ?_
      refine WL.storeArr (ws' := (fix l.ws l.c).1) HB ty38 0 rfl rfl rfl (by rw [arrC_size]; rfl) (fix_len hok.1) ?_
      intro wx HB
      refine WL.done (WX.heldOn ⟨_, HB⟩ ?_)
      refine WH.take 17 rfl (by kernel_rfl) (by kernel_rfl) (by kernel_rfl) (fun _ _ _ h => h) ⟨_, HB⟩ (fun w' hS => EX.assign rfl) rfl ?_
      refine WH.take 18 rfl (by kernel_rfl) (by kernel_rfl) (by kernel_rfl) (fun _ _ _ h => h) ⟨_, HB⟩ (fun w' hS => EX.assign rfl) rfl ?_
      refine WH.done (by kernel_rfl) ?_
      replace H := H.call HB
      refine WX.round ?_
      exact hN _ _ _ H (Sub.cons (t := 6) (by rfl) (Sub.cons (t := 8) (by rfl) (Sub.nil _))) (Sub.cons (t := 0) rfl (Sub.cons (t := 1) rfl (Sub.cons (t := 4) rfl (Sub.nil _))))
    ·
      refine WL.allocArr (ws := zeros8) HB zer38 rfl rfl ?_
      intro b6 wx hb6 hge6 HB
      refine WL.done (WX.heldOn ⟨_, HB⟩ ?_)
      refine WH.hard 10 rfl (by kernel_rfl) ?_
      refine WL.call call172 rfl rfl ?_
      refine Calls.mono (fix_any l.ws hok.1 l.c _ ((hL.of0 H).of0 HB)) ?_
      rintro _ wx ⟨rfl, Hc⟩
      refine ⟨_, rfl, ?_⟩
      replace HB := HB.call0 Hc
      refine WL.done (WX.heldOn ⟨_, HB⟩ ?_)
      refine WH.take 11 rfl (by kernel_rfl) (by kernel_rfl) (by kernel_rfl) (fun _ _ _ h => h) ⟨_, HB⟩ (fun w' hS => EX.move rfl) rfl ?_
      refine WH.take 12 rfl (by kernel_rfl) (by kernel_rfl) (by kernel_rfl) (fun _ _ _ h => h) ⟨_, HB⟩ (fun w' hS => EX.extract rfl rfl) rfl ?_
      refine WH.take 13 rfl (by kernel_rfl) (by kernel_rfl) (by kernel_rfl) (fun _ _ _ h => h) ⟨_, HB⟩ (fun w' hS => EX.extract rfl rfl) rfl ?_
      refine WH.take 14 rfl (by kernel_rfl) (by kernel_rfl) (by kernel_rfl) (fun _ _ _ h => h) ⟨_, HB⟩ (fun w' hS => EX.extract rfl rfl) rfl ?_
      refine WH.hard 16 rfl (by kernel_rfl) ?_
      refine WL.storeArr (ws' := (fix l.ws l.c).1) HB ty38 0 rfl rfl rfl (by rw [arrC_size]; rfl) (fix_len hok.1) ?_
      intro wx HB
      refine WL.done (WX.heldOn ⟨_, HB⟩ ?_)
      refine WH.take 17 rfl (by kernel_rfl) (by kernel_rfl) (by kernel_rfl) (fun _ _ _ h => h) ⟨_, HB⟩ (fun w' hS => EX.assign rfl) rfl ?_
      refine WH.take 18 rfl (by kernel_rfl) (by kernel_rfl) (by kernel_rfl) (fun _ _ _ h => h) ⟨_, HB⟩ (fun w' hS => EX.assign rfl) rfl ?_
      refine WH.done (by kernel_rfl) ?_
      replace H := H.call HB
      refine WX.round ?_
      exact hN _ _ _ H (Sub.cons (t := 6) (by rfl) (Sub.cons (t := 8) (by rfl) (Sub.nil _))) (Sub.cons (t := 0) rfl (Sub.cons (t := 1) rfl (Sub.cons (t := 4) rfl (Sub.nil _))))
  · -- join
    refine WC.seq ?_
    refine WC.seq ?_
    refine WC.region ?_
    refine WL.move rfl rfl ?_
    refine WL.bin rfl rfl binv_neq rfl ?_
    refine (WL.done (WX.next ?_))
    refine WC.cond_dec rfl (fun c1 => ?_) (fun c1 => ?_)
    ·
      refine WC.seq ?_
      refine WC.region ?_
      refine WL.buildA (z := arrC zeros8) arr38 zer38 rfl rfl rfl ?_
      refine WL.move rfl rfl ?_
      refine WL.storeArr (ws' := zeros8) H ty38 1 rfl rfl rfl (by rw [arrC_size]; rfl) rfl ?_
      intro wx H
      refine WL.assign rfl rfl ?_
      refine (WL.done (WX.next ?_))
      refine (WC.ret (WX.then_ret ?_))
      refine ret_two rfl ⟨_, rfl, by exact H.rdArr ty38 1 rfl rfl⟩ rfl ?_
      have e1 : pShow l k = (zeros8, (fix l.ws l.c).2.2) := by unfold pShow; rw [if_neg (by simpa using c1)]
      rw [e1]
      exact ⟨rfl, H.weaken (List.nil_sublist _)⟩
    ·
      refine (WC.skip (WX.next ?_))
      refine WC.seq ?_
      refine WC.seq ?_
      refine WC.region ?_
      refine WL.move rfl rfl ?_
      refine WL.nilCheck rfl rfl ?_
      refine WL.fieldAddr fld158_1 rfl rfl ?_
      refine WL.load rfl (Rd.lineS ty52 (H.oldBlock hb (by simp)) (by omega) hok.1) rfl ?_
      refine WL.move rfl rfl ?_
      refine WL.sliceHiR slc52 rfl rfl rfl hr hk rfl ?_
      refine WL.lenR isl52 rfl rfl ?_
      refine WL.move rfl rfl ?_
      refine (WL.done (WX.next ?_))
      refine WC.block ?_
      -- loop 1: changed [37] kept [4, 6, 35, 36]
      refine WC.loop (Sub.cons (t := 4) rfl (Sub.cons (t := 6) rfl (Sub.cons (t := 35) rfl (Sub.cons (t := 36) rfl (Sub.nil _))))) (fun j : Nat => [(37, .int .i64 (j : Int))]) (fun q j wx => q = k - j ∧ j ≤ k ∧ St w [] wx [(b6, .cells (arrC (putAll (fix l.ws l.c).1 (l.ps.take j))) 38), (b4, .cells (arrC zeros8) 38)]) (k) (0) (Sub.cons (t := 37) (by rfl) (Sub.nil _)) (⟨rfl, by omega, H⟩) ?_
      rintro k g wx hI N hN
      obtain ⟨rfl, hg, H⟩ := hI
      refine WC.seq ?_
      refine WC.region ?_
      refine WL.bin rfl rfl binv_lss rfl ?_
      refine (WL.done (WX.next ?_))
      refine WC.seq ?_
      refine WC.cond_dec rfl (fun c2 => ?_) (fun c2 => ?_)
      ·
        refine (WC.skip (WX.next ?_))
        refine WC.seq ?_
        refine WC.block ?_
        refine WC.seq ?_
        refine WC.region ?_
        have hjl : g < l.ps.length := by omega
        obtain ⟨g1, cap, cur, rfl⟩ := Row.is_some hr (by omega)
        have hp := Row.getP hr hjl
        have hix : 0 + g * 2 = 2 * g := by omega
        have hpk := hok.2.2.2.2 _ (List.getElem_mem hjl)
        refine WL.idxSlc (k := g) slc52 rfl rfl (by rfl) (by omega) rfl ?_
        refine WL.load rfl (Rd.pair ty111 (H.oldBlock (hs _ List.mem_cons_self) (by simp)) (by rw [hix]; exact hp.1) (by rw [hix]; exact hp.2)) rfl ?_
        refine WL.alloc H zer111 rfl ?_
        intro b10 wx hb10 hge10 H
        (refine WL.storeAt H ty111 0 rfl rfl rfl rfl (by simp [Value.cells, Value.oneCell']) (by first | decide | (simp only [wr_size]; decide) | simp [wr_size]) ?_)
        intro wx H
        refine (WL.done (WX.next ?_))
        refine WC.region ?_
        refine WL.fieldAddr fld111_0 rfl rfl ?_
        refine WL.load rfl (H.rd1 ty3 0 rfl rfl) rfl ?_
        refine WL.fieldAddr fld111_1 rfl rfl ?_
        refine WL.load rfl (H.rd1 ty3 0 rfl rfl) rfl ?_
        refine WL.idxArr (k := (l.ps[g]).1.toNat) arr38 rfl rfl (by omega) (by omega) rfl ?_
        refine WL.storeElt H ty3 1 rfl rfl rfl (by rw [putAll_len, fix_len hok.1]; omega) ?_
        intro wx H
        refine (WL.done (WX.block_normal (WX.next ?_)))
        refine WC.region ?_
        refine WL.bin rfl rfl (iadd (by omega) (by omega)) rfl ?_
        refine WL.move rfl rfl ?_
        refine (WL.done (WX.round ?_))
        rw [show 0 + ((l.ps[g]).1.toNat) * 1 = (l.ps[g]).1.toNat from by omega, ← putAll_succ hjl] at H
        exact hN _ (g+1) _ _ (by omega) ⟨rfl, by omega, H.weaken (List.sublist_cons_self _ _)⟩ (Sub.cons (t := 37) (by rfl) (Sub.nil _)) (Sub.cons (t := 4) rfl (Sub.cons (t := 6) rfl (Sub.cons (t := 35) rfl (Sub.cons (t := 36) rfl (Sub.nil _)))))
      ·
        refine (WC.exit (WX.then_exit (WX.then_exit (WX.block_exit (WX.next ?_)))))
        refine WC.seq ?_
        refine WC.region ?_
        refine WL.load rfl (H.rdArr ty38 0 rfl (by rw [putAll_len]; exact fix_len hok.1)) rfl ?_
        refine WL.storeArr H ty38 1 rfl rfl rfl (by rw [arrC_size]; rfl) (by rw [putAll_len]; exact fix_len hok.1) ?_
        intro wx H
        refine WL.assign rfl rfl ?_
        refine (WL.done (WX.next ?_))
        refine (WC.ret ?_)
        refine ret_two rfl ⟨_, rfl, by exact H.rdArr ty38 1 rfl (by rw [putAll_len]; exact fix_len hok.1)⟩ rfl ?_
        obtain rfl : g = k := by omega
        have e1 : pShow l g = (putAll (fix l.ws l.c).1 (l.ps.take g), 0) := by unfold pShow; rw [if_pos (by simpa using c1)]
        rw [e1]
        exact ⟨rfl, H.weaken (List.nil_sublist _)⟩

end Go.Proofs.YtkncbggnaobgeaaDoor

/- Walks of functions of the program; printed by a program of this session (walk.py) out of hand-written hints. -/
namespace Go.Proofs.YtkncbggnaobgeaaDoor
open Go.RowKit
set_option linter.unusedVariables false
set_option linter.unusedSimpArgs false
set_option maxRecDepth 100000

/-- What a line's being busy or not makes of the map. -/
def pRest (mp : List (Int × Nat)) (clk : Nat) (n : Int) (ps : List (Int × Int)) : List (Int × Nat) × Nat := if ps = [] then (mDel mp n, clk) else (mIns mp clk n, mClk mp clk n)
theorem fhp_row {p lb len lcap mb : Nat} {mp : List (Int × Nat)} {clk : Nat} {span : Int} {er : Row} {ne : Nat} {a : List Value} {l : PL} {r : Row} {c : List Value} {Z : Hp} : ∀ q ∈ r.hp 111, q ∈ fhp p lb len lcap mb mp clk span er ne a l r c Z :=
  fun q hq => List.mem_cons_of_mem _ (List.mem_cons_of_mem _ (List.mem_cons_of_mem _ (List.mem_append_left _ hq)))
theorem St.castH {w0 w : World} {S : List Nat} {H H' : Hp} (h : St w0 S w H) (e : H = H') : St w0 S w H' := e ▸ h
theorem St.put3 {w0 w : World} {S : List Nat} {M K : Hp} {x y z : Nat × Obj} (h : St w0 S w (M ++ x :: y :: z :: K)) : St w0 S w (x :: y :: z :: (M ++ K)) := by
  refine h.perm (List.perm_middle.trans (List.Perm.cons _ (List.perm_middle.trans (List.Perm.cons _ List.perm_middle))))
theorem pSettle_len {l : PL} {k : Nat} (h8 : l.ws.length = 8) : (pSettle l k).ws.length = 8 := by
  unfold pSettle
  split
  · exact h8
  · exact pShow_len h8
/-- What a load of an address gives. -/
def pLoad (R : RM) (at_ : Int) : Int × Int :=
  if at_ < 0 then (0, 40) else if pHas R (at_ / 8) then
    (match R.X[(at_ / 8).toNat]? with
    | some x => if (pShow x.1 x.1.ps.length).2 = 0 then ((pShow x.1 x.1.ps.length).1.getD (at_ % 8).toNat 0, 0) else (0, 9)
    | none => (0, 0))
  else (0, 40)
section
variable {P : Program} {ops : Array Oper} {Q : Exit → Act → World → Prop} {n : Nat} {ds : List Deferred} {e e' : Env} {w w' w0 : World} {rest : List Oper} {S : List Nat} {H : Hp}
variable {d : Nat} {v : Value} {ty : TypeId} {pos : String} {af : Array Edge}
theorem WL.sliceLoR {T : TypeId} {sz k m g cap : Nat} {cur : Array Value} {x y : Operand} {kd : IntKind} {z : Int} (hT : slcB P T sz = true) (hx : ev e x = some ((Row.some g cap cur).val m)) (hy : ev e y = some (.int kd z)) (hz : z = (k : Int)) (hk : k ≤ m) (hdn : Nat.blt d n = true)
    (h : WL P ops Q n ds rest ((d, .slice (some ⟨g, if cap = k then 0 else k * sz, none⟩) (m - k) (cap - k)) :: e) w) : WL P ops Q n ds ({ dst := some d, op := .slice T x (some y) none none, type := ty, pos, after := af, guard := none } :: rest) e w := by
  refine WL.sliceLo hT hx hy hz hk hdn ?_
  have e1 : (if cap = k then (⟨g, 0, none⟩ : Addr) else ⟨g, 0 + k * sz, none⟩) = ⟨g, if cap = k then 0 else k * sz, none⟩ := by split <;> simp
  rw [e1]
  exact h
end

theorem load_any (R : RM) (at_ : Int) (ha : at_ ≤ 9223372036854775807) (w : World) (hm : MemIn w R) (hL : L64 w) : Calls Tryd.prog 96 #[.pointer (some ⟨R.p, 0, none⟩), .int .i64 at_] w fun e w' => e = .returned (.tuple #[.int .i64 (pLoad R at_).1, .int .i64 (pLoad R at_).2]) ∧ St w [] w' [] := by
  refine calls_walk_n (args := [.pointer (some ⟨R.p, 0, none⟩), .int .i64 at_]) Tryd.func96 rfl rfl rfl ?_
  have H := hm.start
  refine WC.seq ?_
  refine WC.region ?_
  refine WL.assign rfl rfl ?_
  refine WL.assign rfl rfl ?_
  refine (WL.done (WX.next ?_))
  refine WC.seq ?_
  refine WC.seq ?_
  refine WC.region ?_
  refine WL.move rfl rfl ?_
  refine WL.bin rfl rfl binv_lss rfl ?_
  refine WL.move rfl rfl ?_
  refine WL.splitD (t := 11) rfl (fun g1 => ?_) (fun g1 => ?_)
  ·
    refine WL.no rfl rfl rfl ?_
    refine WL.no rfl rfl rfl ?_
    refine WL.no rfl rfl rfl ?_
    refine WL.no rfl rfl rfl ?_
    refine WL.no rfl rfl rfl ?_
    refine WL.pickT rfl rfl rfl ?_
    refine (WL.done (WX.next ?_))
    refine WC.cond_true rfl (rfl) ?_
    refine WC.seq ?_
    refine WC.region ?_
    refine WL.assign rfl rfl ?_
    refine WL.assign rfl rfl ?_
    refine (WL.done (WX.next ?_))
    refine (WC.ret (WX.then_ret ?_))
    refine ret_two rfl rfl rfl ?_
    have e1 : pLoad R at_ = (0, 40) := by unfold pLoad; rw [if_pos g1]
    rw [e1]
    exact ⟨rfl, H.same (L := []) hm.sat⟩
  ·
    obtain ⟨q, rfl⟩ : ∃ q : Nat, at_ = (q : Int) := ⟨at_.toNat, by omega⟩
    refine WL.yes rfl rfl ?_
    refine WL.move rfl rfl ?_
    refine WL.yes rfl rfl ?_
    refine WL.move rfl rfl ?_
    refine WL.yes rfl rfl ?_
    refine WL.bin rfl rfl (iquo (by omega) (by omega) (by omega)) rfl ?_
    refine WL.yes rfl rfl ?_
    refine WL.call call101 rfl rfl ?_
    refine Calls.mono (has_any R _ _ hm) ?_
    rintro _ wx ⟨rfl, rfl⟩
    refine ⟨_, rfl, ?_⟩
    refine WL.yes rfl rfl ?_
    refine WL.notOp rfl rfl ?_
    refine WL.pickF rfl rfl rfl ?_
    refine (WL.done (WX.next ?_))
    refine WC.cond rfl (fun c2 => ?_) (fun c2 => ?_)
    ·
      refine WC.seq ?_
      refine WC.region ?_
      refine WL.assign rfl rfl ?_
      refine WL.assign rfl rfl ?_
      refine (WL.done (WX.next ?_))
      refine (WC.ret (WX.then_ret ?_))
      refine ret_two rfl rfl rfl ?_
      have hh : pHas R ((q : Int) / 8) = false := by cases hh : pHas R ((q : Int) / 8) <;> simp [hh] at c2 ⊢
      have e1 : pLoad R (q : Int) = (0, 40) := by unfold pLoad; rw [if_neg (by omega), hh]; rfl
      rw [e1]
      exact ⟨rfl, H.same (L := []) hm.sat⟩
    ·
      have hh : pHas R ((q : Int) / 8) = true := by cases hh : pHas R ((q : Int) / 8) <;> simp [hh] at c2 ⊢
      obtain ⟨hn0, hn1⟩ := pHas_iff.1 hh
      obtain ⟨k, hk⟩ : ∃ k : Nat, k = q / 8 := ⟨_, rfl⟩
      obtain ⟨A, l, r, B, hX, hA, hal, hok, hr, hget⟩ := hm.ok.at (k := k) (by omega)
      replace H := St.focus (L := []) hX H
      refine (WC.skip (WX.next ?_))
      refine WC.seq ?_
      refine WC.region ?_
      refine WL.move rfl rfl ?_
      refine WL.nilCheck rfl rfl ?_
      refine WL.fieldAddr fld161_0 rfl rfl ?_
      refine WL.load rfl (H.rd1 ty156 0 rfl rfl) rfl ?_
      refine WL.move rfl rfl ?_
      refine WL.bin rfl rfl (iquo (by omega) (by omega) (by omega)) rfl ?_
      refine WL.idxSlc (k := k) slc156 rfl rfl (by omega) (by omega) rfl ?_
      refine WL.assign rfl rfl ?_
      refine (WL.done (WX.next ?_))
      refine WC.seq ?_
      refine WC.region ?_
      refine WL.move rfl rfl ?_
      refine WL.move rfl rfl ?_
      refine WL.nilCheck rfl rfl ?_
      refine WL.fieldAddr fld158_1 rfl rfl ?_
      refine WL.load rfl (Rd.lineS ty52 (H.blk 1 rfl) (by omega) hok.1) rfl ?_
      refine WL.lenR isl52 rfl rfl ?_
      refine WL.call call105 rfl rfl ?_
      refine Calls.mono (shows_any R.lb (0 + k * 11) (linesC A) l r _ l.ps.length _ (H.blk 1 rfl) (by omega) hok hr (fun q hq => H.sat q (fhp_row q hq)) (Nat.le_refl _) (hL.of H hm.n3)) ?_
      rintro _ wx ⟨rfl, Hc⟩
      refine ⟨_, rfl, ?_⟩
      replace H := H.call0 Hc
      refine WL.move rfl rfl ?_
      refine WL.extract rfl rfl rfl ?_
      refine WL.extract rfl rfl rfl ?_
      refine WL.allocArr (ws := zeros8) H zer38 rfl rfl ?_
      intro b7 wx hb7 hge7 H
      refine WL.storeArr (ws' := (pShow l l.ps.length).1) H ty38 0 rfl rfl rfl (by rw [arrC_size]; rfl) (pShow_len hok.1) ?_
      intro wx H
      refine WL.assign rfl rfl ?_
      refine (WL.done (WX.next ?_))
      refine WC.seq ?_
      refine WC.seq ?_
      refine WC.region ?_
      refine WL.move rfl rfl ?_
      refine WL.bin rfl rfl binv_neq rfl ?_
      refine (WL.done (WX.next ?_))
      refine WC.cond_dec rfl (fun c3 => ?_) (fun c3 => ?_)
      ·
        refine WC.seq ?_
        refine WC.region ?_
        refine WL.assign rfl rfl ?_
        refine WL.assign rfl rfl ?_
        refine (WL.done (WX.next ?_))
        refine (WC.ret (WX.then_ret ?_))
        refine ret_two rfl rfl rfl ?_
        have e1 : pLoad R (q : Int) = (0, 9) := by
          unfold pLoad
          rw [if_neg (by omega), hh]
          simp only [if_true, show ((q : Int) / 8).toNat = k from by omega, hget]
          rw [if_neg (by simpa using c3)]
        rw [e1]
        exact ⟨rfl, St.same (L := [(b7, .cells (arrC (pShow l l.ps.length).1) 38)]) (St.unfocus (L := [(b7, .cells (arrC (pShow l l.ps.length).1) 38)]) hX H) hm.sat⟩
      ·
        refine (WC.skip (WX.next ?_))
        refine WC.seq ?_
        refine WC.region ?_
        refine WL.move rfl rfl ?_
        refine WL.bin rfl rfl (irem (by omega) (by omega)) rfl ?_
        refine WL.idxArr (k := q % 8) arr38 rfl rfl (by rfl) (by omega) rfl ?_
        refine WL.load rfl (H.rdElt ty3 0 rfl (by rw [pShow_len hok.1]; omega)) rfl ?_
        refine WL.assign rfl rfl ?_
        refine WL.assign rfl rfl ?_
        refine (WL.done (WX.next ?_))
        refine (WC.ret ?_)
        refine ret_two rfl rfl rfl ?_
        have e1 : pLoad R (q : Int) = ((pShow l l.ps.length).1.getD (q % 8) 0, 0) := by
          unfold pLoad
          rw [if_neg (by omega), hh]
          simp only [if_true, show ((q : Int) / 8).toNat = k from by omega, hget, show ((q : Int) % 8).toNat = q % 8 from by omega]
          rw [if_pos (by simpa using c3)]
        rw [e1]
        exact ⟨by simp only [Nat.zero_add, Nat.mul_one], St.same (L := [(b7, .cells (arrC (pShow l l.ps.length).1) 38)]) (St.unfocus (L := [(b7, .cells (arrC (pShow l l.ps.length).1) 38)]) hX H) hm.sat⟩

theorem rest_any (p lb len lcap mb : Nat) (mp : List (Int × Nat)) (clk : Nat) (span : Int) (er : Row) (ne : Nat) (a : List Value) (l : PL) (r : Row) (c : List Value) (Z : Hp) (n : Nat) (hn : n < len) (hal : a.length = 11 * n) (h8 : l.ws.length = 8) (w : World) (H : St w ((fhp p lb len lcap mb mp clk span er ne a l r c Z).map Prod.fst) w (fhp p lb len lcap mb mp clk span er ne a l r c Z)) : Calls Tryd.prog 173 #[.pointer (some ⟨p, 0, none⟩), .int .i64 (n : Int)] w fun e w' => e = .returned (.tuple #[]) ∧ St w ((fhp p lb len lcap mb mp clk span er ne a l r c Z).map Prod.fst) w' (fhp p lb len lcap mb (pRest mp clk n l.ps).1 (pRest mp clk n l.ps).2 span er ne a l r c Z) := by
  refine calls_walk_n (args := [.pointer (some ⟨p, 0, none⟩), .int .i64 (n : Int)]) Tryd.func173 rfl rfl rfl ?_
  refine WC.seq ?_
  refine WC.region ?_
  refine WL.move rfl rfl ?_
  refine WL.nilCheck rfl rfl ?_
  refine WL.fieldAddr fld161_0 rfl rfl ?_
  refine WL.load rfl (H.rd1 ty156 0 rfl rfl) rfl ?_
  refine WL.move rfl rfl ?_
  refine WL.idxSlc (k := n) slc156 rfl rfl (by rfl) (by omega) rfl ?_
  refine WL.fieldAddr fld158_1 rfl rfl ?_
  refine WL.load rfl (Rd.lineS ty52 (H.blk 1 rfl) (by omega) h8) rfl ?_
  refine WL.lenR isl52 rfl rfl ?_
  refine WL.bin rfl rfl binv_eql rfl ?_
  refine (WL.done (WX.next ?_))
  refine WC.cond_dec rfl (fun c1 => ?_) (fun c1 => ?_)
  ·
    refine WC.region ?_
    refine WL.move rfl rfl ?_
    refine WL.nilCheck rfl rfl ?_
    refine WL.fieldAddr fld161_1 rfl rfl ?_
    refine WL.load rfl (H.rd1 ty159 0 rfl rfl) rfl ?_
    refine WL.move rfl rfl ?_
    refine WL.delete H map159 2 rfl rfl rfl ?_
    intro wx H
    refine (WL.done ?_)
    refine end_none rfl ?_
    have hp : l.ps = [] := List.eq_nil_of_length_eq_zero (by omega)
    have e1 : pRest mp clk n l.ps = (mDel mp n, clk) := by unfold pRest; rw [if_pos hp]
    rw [e1]
    exact ⟨rfl, H⟩
  ·
    refine WC.region ?_
    refine WL.move rfl rfl ?_
    refine WL.nilCheck rfl rfl ?_
    refine WL.fieldAddr fld161_1 rfl rfl ?_
    refine WL.load rfl (H.rd1 ty159 0 rfl rfl) rfl ?_
    refine WL.move rfl rfl ?_
    refine WL.mapUpdate H map159 2 rfl rfl rfl rfl ?_
    intro wx H
    refine (WL.done ?_)
    refine end_none rfl ?_
    have hp : l.ps ≠ [] := fun h => by rw [h] at c1; exact c1 rfl
    have e1 : pRest mp clk n l.ps = (mIns mp clk n, mClk mp clk n) := by unfold pRest; rw [if_neg hp]
    rw [e1]
    exact ⟨rfl, H⟩

theorem settle_any (p lb len lcap mb : Nat) (mp : List (Int × Nat)) (clk : Nat) (span : Int) (er : Row) (ne : Nat) (a : List Value) (l : PL) (r : Row) (c : List Value) (Z : Hp) (n k : Nat) (hn : n < len) (hal : a.length = 11 * n) (hok : l.ok) (hr : r.ok 2 l.ps.length (flatP l.ps)) (hk : k ≤ l.ps.length) (hps : l.ps.length ≤ 1073741824) (w : World) (hL : L64 w) (h3 : 3 ∉ (fhp p lb len lcap mb mp clk span er ne a l r c Z).map Prod.fst) (H : St w ((fhp p lb len lcap mb mp clk span er ne a l r c Z).map Prod.fst) w (fhp p lb len lcap mb mp clk span er ne a l r c Z)) : Calls Tryd.prog 107 #[.pointer (some ⟨p, 0, none⟩), .int .i64 (n : Int), .int .i64 (k : Int)] w fun e w' => ∃ r', e = .returned (.tuple #[]) ∧ r'.ok 2 (pSettle l k).ps.length (flatP (pSettle l k).ps) ∧ St w ((fhp p lb len lcap mb mp clk span er ne a l r c Z).map Prod.fst) w' (fhp p lb len lcap mb (if k = 0 then mp else (pRest mp clk n (pSettle l k).ps).1) (if k = 0 then clk else (pRest mp clk n (pSettle l k).ps).2) span er ne a (pSettle l k) r' c Z) := by
  refine calls_walk_n (args := [.pointer (some ⟨p, 0, none⟩), .int .i64 (n : Int), .int .i64 (k : Int)]) Tryd.func107 rfl rfl rfl ?_
  refine WC.seq ?_
  refine WC.region ?_
  refine WL.move rfl rfl ?_
  refine WL.nilCheck rfl rfl ?_
  refine WL.fieldAddr fld161_0 rfl rfl ?_
  refine WL.load rfl (H.rd1 ty156 0 rfl rfl) rfl ?_
  refine WL.move rfl rfl ?_
  refine WL.idxSlc (k := n) slc156 rfl rfl (by rfl) (by omega) rfl ?_
  refine WL.assign rfl rfl ?_
  refine (WL.done (WX.next ?_))
  refine WC.seq ?_
  refine WC.seq ?_
  refine WC.region ?_
  refine WL.move rfl rfl ?_
  refine WL.bin rfl rfl binv_eql rfl ?_
  refine (WL.done (WX.next ?_))
  refine WC.cond_dec rfl (fun c1 => ?_) (fun c1 => ?_)
  ·
    refine (WC.ret (WX.then_ret ?_))
    refine ret_none rfl ?_
    obtain rfl : k = 0 := by omega
    rw [show pSettle l 0 = l from rfl, if_pos rfl, if_pos rfl]
    exact ⟨r, rfl, hr, H⟩
  ·
    refine (WC.skip (WX.next ?_))
    refine WC.seq ?_
    refine WC.region ?_
    have hk1 : 0 < k := by omega
    have hml := Row.le_max hr
    obtain ⟨g, cap, cur, rfl⟩ := Row.is_some hr (by omega)
    have hn2 : ∀ j u, (flatP (l.ps.drop k))[j]? = some u → cur[(if cap = k then 0 else k * 2) + j]? = some u := by
      intro j u hj
      by_cases hck : cap = k
      · have hcap := hr.2.1
        rw [List.drop_eq_nil_of_le (by omega)] at hj
        simp [flatP] at hj
      · rw [if_neg hck]
        rw [flatP_drop, List.getElem?_drop] at hj
        rw [show k * 2 + j = 2 * k + j from by omega]
        exact Row.ok_get hr hj
    refine WL.move rfl rfl ?_
    refine WL.move rfl rfl ?_
    refine WL.move rfl rfl ?_
    refine WL.call call105 rfl rfl ?_
    refine Calls.mono (shows_any lb (0 + n * 11) a l _ _ k _ (H.blk 1 rfl) (by omega) hok hr (fun q hq => H.sat q (fhp_row q hq)) hk (hL.of H h3)) ?_
    rintro _ wx ⟨rfl, Hc⟩
    refine ⟨_, rfl, ?_⟩
    replace H := H.call0 Hc
    refine WL.move rfl rfl ?_
    refine WL.extract rfl rfl rfl ?_
    refine WL.extract rfl rfl rfl ?_
    refine WL.nilCheck rfl rfl ?_
    refine WL.fieldAddr fld158_0 rfl rfl ?_
    refine WL.fieldAddr fld40_0 rfl rfl ?_
    refine WL.storeAt H ty38 1 rfl rfl rfl (by rw [arr_cells, arrC_size]; exact pShow_len hok.1) (arrC_one _) (by rw [lineL_size hok.1]; omega) ?_
    intro wx H
    replace H := H.castH (H' := fhp p lb len lcap mb mp clk span er ne a { l with ws := (pShow l k).1 } (.some g cap cur) c Z) (by
      have e1 := wr_lineW (a := a) (r := .some g cap cur) (c := c) (o := 0 + n * 11 + 0 + 0) (ws' := (pShow l k).1) (by omega) hok.1 (pShow_len hok.1)
      unfold fhp; rw [← e1]; rfl)
    refine (WL.done (WX.next ?_))
    refine WC.seq ?_
    refine WC.region ?_
    refine WL.move rfl rfl ?_
    refine WL.move rfl rfl ?_
    refine WL.nilCheck rfl rfl ?_
    refine WL.fieldAddr fld158_0 rfl rfl ?_
    refine WL.fieldAddr fld40_0 rfl rfl ?_
    refine WL.load rfl (Rd.lineW ty38 (H.blk 1 rfl) (by omega) (pShow_len hok.1)) rfl ?_
    refine WL.call call97 rfl rfl ?_
    refine Calls.mono (encode_any _ (pShow_len hok.1) _ (hL.of H h3)) ?_
    rintro _ wx ⟨rfl, Hc⟩
    refine ⟨_, rfl, ?_⟩
    replace H := H.call0 Hc
    refine WL.nilCheck rfl rfl ?_
    refine WL.fieldAddr fld158_0 rfl rfl ?_
    refine WL.fieldAddr fld40_1 rfl rfl ?_
    refine WL.storeAt H ty3 1 rfl rfl rfl rfl (by simp [Value.cells, Value.oneCell']) (by rw [lineL_size (pShow_len hok.1)]; omega) ?_
    intro wx H
    replace H := H.castH (H' := fhp p lb len lcap mb mp clk span er ne a { l with ws := (pShow l k).1, c := enc (pShow l k).1 } (.some g cap cur) c Z) (by
      have e1 := wr_lineC (a := a) (l := { l with ws := (pShow l k).1 }) (r := .some g cap cur) (c := c) (o := 0 + n * 11 + 0 + 8) (z := enc (pShow l k).1) (by omega) (pShow_len hok.1)
      unfold fhp; rw [← e1]; rfl)
    refine (WL.done (WX.next ?_))
    refine WC.seq ?_
    refine WC.region ?_
    refine WL.move rfl rfl ?_
    refine WL.move rfl rfl ?_
    refine WL.nilCheck rfl rfl ?_
    refine WL.fieldAddr fld158_1 rfl rfl ?_
    refine WL.load rfl (Rd.lineS ty52 (H.blk 1 rfl) (by omega) (pShow_len hok.1)) rfl ?_
    refine WL.move rfl rfl ?_
    refine WL.sliceLoR slc52 rfl rfl rfl hk rfl ?_
    refine WL.call call108 rfl rfl ?_
    refine Calls.mono (cloneP_any g (if cap = k then 0 else k * 2) (l.ps.length - k) (cap - k) cur 111 _ (H.sat _ (fhp_row _ List.mem_cons_self)) (flatP (l.ps.drop k)) (by rw [flatP_length, List.length_drop]) hn2 (flatP_one _) (by omega)) ?_
    rintro _ wx ⟨r1, rfl, hr1, Hc⟩
    refine ⟨_, rfl, ?_⟩
    replace H := H.call Hc
    replace H := St.put3 H
    refine WL.nilCheck rfl rfl ?_
    refine WL.fieldAddr fld158_1 rfl rfl ?_
    refine WL.storeAt H ty52 1 rfl rfl rfl (by cases r1 <;> rfl) (by cases r1 <;> simp [Row.val, Value.cells, Value.oneCell']) (by rw [lineL_size (pShow_len hok.1)]; omega) ?_
    intro wx H
    replace H := H.weaken (H' := (fhp p lb len lcap mb mp clk span er ne a l r1 c Z).set 1 (lb, .cells (wr (lineL a { l with ws := (pShow l k).1, c := enc (pShow l k).1 } (.some g cap cur) c) (0 + n * 11 + 9) (r1.val (l.ps.length - k)).cells.toList) 158)) (List.Sublist.cons_cons _ (List.Sublist.cons_cons _ (List.Sublist.cons_cons _ (List.Sublist.append_left (List.sublist_append_right _ _) _))))
    replace H := H.castH (H' := fhp p lb len lcap mb mp clk span er ne a { ws := (pShow l k).1, c := enc (pShow l k).1, ps := l.ps.drop k, mark := l.mark } r1 c Z) (by
      have e1 := wr_lineS (a := a) (l := { l with ws := (pShow l k).1, c := enc (pShow l k).1 }) (r := .some g cap cur) (r' := r1) (ps' := l.ps.drop k) (c := c) (o := 0 + n * 11 + 9) (by omega) (pShow_len hok.1)
      have e2 : (r1.val (l.ps.length - k)).cells.toList = [r1.val (l.ps.drop k).length] := by rw [List.length_drop]; cases r1 <;> rfl
      have e3 : ∀ r'', lineL a { l with ws := (pShow l k).1, c := enc (pShow l k).1, ps := l.ps.drop k } r'' c = lineL a { ws := (pShow l k).1, c := enc (pShow l k).1, ps := l.ps.drop k, mark := l.mark } r'' c := fun _ => rfl
      rw [e2]
      unfold fhp; rw [← e3, ← e1]; rfl)
    refine (WL.done (WX.next ?_))
    refine WC.seq ?_
    refine WC.region ?_
    have hmk := hok.2.2.2.1
    refine WL.move rfl rfl ?_
    refine WL.move rfl rfl ?_
    refine WL.nilCheck rfl rfl ?_
    refine WL.fieldAddr fld158_2 rfl rfl ?_
    refine WL.load rfl (Rd.lineM ty3 (H.blk 1 rfl) (by omega) (pShow_len hok.1)) rfl ?_
    refine WL.move rfl rfl ?_
    refine WL.bin rfl rfl (isub (x := (l.mark : Int)) (by omega) (by omega)) rfl ?_
    refine WL.max2 rfl rfl rfl ?_
    refine WL.nilCheck rfl rfl ?_
    refine WL.fieldAddr fld158_2 rfl rfl ?_
    refine WL.storeAt H ty3 1 rfl rfl rfl rfl (by simp [Value.cells, Value.oneCell']) (by rw [lineL_size (pShow_len hok.1)]; omega) ?_
    intro wx H
    replace H := H.castH (H' := fhp p lb len lcap mb mp clk span er ne a (pSettle l k) r1 c Z) (by
      have e0 : pSettle l k = { ws := (pShow l k).1, c := enc (pShow l k).1, ps := l.ps.drop k, mark := l.mark - k } := by unfold pSettle; rw [if_neg (by omega)]
      have e1 := wr_lineM (a := a) (l := { ws := (pShow l k).1, c := enc (pShow l k).1, ps := l.ps.drop k, mark := l.mark }) (r := r1) (c := c) (o := 0 + n * 11 + 10) (z := l.mark - k) (by omega) (pShow_len hok.1)
      have e2 : (if (l.mark : Int) - (k : Int) > 0 then (l.mark : Int) - (k : Int) else 0) = ((l.mark - k : Nat) : Int) := by split <;> omega
      rw [e0]
      unfold fhp; rw [← e1, ← e2]; rfl)
    refine (WL.done (WX.next ?_))
    refine WC.region ?_
    refine WL.move rfl rfl ?_
    refine WL.move rfl rfl ?_
    refine WL.call call173 rfl rfl ?_
    refine Calls.mono (rest_any _ _ _ _ _ _ _ _ _ _ _ (pSettle l k) r1 _ _ n hn hal (pSettle_len hok.1) _ (St.start H.nd H.sat)) ?_
    rintro _ wx ⟨rfl, Hc⟩
    refine ⟨_, rfl, ?_⟩
    replace H := H.callM (L := []) Hc
    refine (WL.done ?_)
    refine end_none rfl ?_
    have e0 : (pSettle l k).ps = l.ps.drop k := by unfold pSettle; rw [if_neg (by omega)]
    refine ⟨r1, rfl, ?_, ?_⟩
    · rw [e0, List.length_drop]; exact hr1
    · rw [if_neg (by omega), if_neg (by omega)]; exact H

end Go.Proofs.YtkncbggnaobgeaaDoor

/- The memory: one line put anew; the map of busy lines. -/
namespace Go.Proofs.YtkncbggnaobgeaaDoor
open Go.RowKit
set_option linter.unusedVariables false
set_option linter.unusedSimpArgs false
set_option linter.unusedSectionVars false
set_option maxRecDepth 100000

theorem any_key {mp : List (Int × Nat)} {n : Int} : (mp.any fun x => n == x.1) = true ↔ n ∈ mp.map Prod.fst := by
  simp only [List.any_eq_true, List.mem_map, beq_iff_eq]
  exact ⟨fun ⟨x, h1, h2⟩ => ⟨x, h1, h2.symm⟩, fun ⟨x, h1, h2⟩ => ⟨x, h1, h2.symm⟩⟩
theorem mIns_keys {mp : List (Int × Nat)} {clk : Nat} {n x : Int} : x ∈ (mIns mp clk n).map Prod.fst ↔ x ∈ mp.map Prod.fst ∨ x = n := by
  unfold mIns
  split
  · rename_i h; exact ⟨.inl, fun hh => hh.elim id (fun e => e ▸ any_key.1 h)⟩
  · simp
theorem mIns_ok {mp : List (Int × Nat)} {clk : Nat} {n : Int} (h : MapOk mp clk) : MapOk (mIns mp clk n) (mClk mp clk n) := by
  obtain ⟨h1, h2, h3⟩ := h
  unfold mIns mClk
  split
  · exact ⟨h1, h2, h3⟩
  · rename_i hn
    refine ⟨?_, ?_, ?_⟩
    · intro x hx
      rcases List.mem_append.1 hx with hx | hx
      · have := h1 x hx; omega
      · simp only [List.mem_singleton] at hx; subst hx; exact Nat.lt_succ_self _
    · rw [List.map_append, List.nodup_append]
      refine ⟨h2, by simp, ?_⟩
      intro a ha b hb hab
      simp only [List.map_cons, List.map_nil, List.mem_singleton] at hb
      obtain ⟨x, hx, rfl⟩ := List.mem_map.1 ha
      have := h1 x hx
      omega
    · rw [List.map_append, List.nodup_append]
      refine ⟨h3, by simp, ?_⟩
      intro a ha b hb hab
      simp only [List.map_cons, List.map_nil, List.mem_singleton] at hb
      exact hn (any_key.2 (by rw [← hb, ← hab]; exact ha))
theorem eraseIdx_keys {mp : List (Int × Nat)} (h : (mp.map Prod.fst).Nodup) {i : Nat} (hi : i < mp.length) {x : Int} : x ∈ (mp.eraseIdx i).map Prod.fst ↔ x ∈ mp.map Prod.fst ∧ x ≠ (mp[i]).1 := by
  rw [ChangeMaps.map_eraseIdx]
  have hi' : i < (mp.map Prod.fst).length := by simpa using hi
  have he : (mp[i]).1 = (mp.map Prod.fst)[i] := by simp
  rw [he]
  generalize mp.map Prod.fst = l at h hi' ⊢
  rw [List.mem_eraseIdx_iff_getElem]
  constructor
  · rintro ⟨j, hj, hne, rfl⟩
    refine ⟨List.getElem_mem _, fun hh => ?_⟩
    rcases Nat.lt_trichotomy j i with hlt | heq | hgt
    · exact List.pairwise_iff_getElem.1 h j i hj hi' hlt hh
    · exact hne heq
    · exact List.pairwise_iff_getElem.1 h i j hi' hj hgt hh.symm
  · rintro ⟨hx, hne⟩
    obtain ⟨j, hj, rfl⟩ := List.mem_iff_getElem.1 hx
    exact ⟨j, hj, fun hh => hne (by subst hh; rfl), rfl⟩
theorem mDel_keys {mp : List (Int × Nat)} {n x : Int} (h : (mp.map Prod.fst).Nodup) : x ∈ (mDel mp n).map Prod.fst ↔ x ∈ mp.map Prod.fst ∧ x ≠ n := by
  unfold mDel
  split
  · rename_i i hi
    obtain ⟨hil, hki, _⟩ := List.findIdx?_eq_some_iff_getElem.1 hi
    have hke : n = (mp[i]).1 := by simpa using hki
    rw [hke]
    exact eraseIdx_keys h hil
  · rename_i hn
    refine ⟨fun hx => ⟨hx, fun e => ?_⟩, fun hx => hx.1⟩
    subst e
    obtain ⟨y, hy, rfl⟩ := List.mem_map.1 hx
    have := List.findIdx?_eq_none_iff.1 hn y hy
    simp at this
theorem mDel_sub (mp : List (Int × Nat)) (n : Int) : (mDel mp n).Sublist mp := by
  unfold mDel
  split
  · exact List.eraseIdx_sublist _ _
  · exact List.Sublist.refl _
theorem mDel_ok {mp : List (Int × Nat)} {clk : Nat} {n : Int} (h : MapOk mp clk) : MapOk (mDel mp n) clk := by
  obtain ⟨h1, h2, h3⟩ := h
  have hs := mDel_sub mp n
  exact ⟨fun x hx => h1 x (hs.subset hx), h2.sublist (hs.map _), h3.sublist (hs.map _)⟩
theorem pRest_ok {mp : List (Int × Nat)} {clk : Nat} {n : Int} {ps : List (Int × Int)} (h : MapOk mp clk) : MapOk (pRest mp clk n ps).1 (pRest mp clk n ps).2 := by
  unfold pRest; split
  · exact mDel_ok h
  · exact mIns_ok h
theorem pRest_keys {mp : List (Int × Nat)} {clk : Nat} {n x : Int} {ps : List (Int × Int)} (h : MapOk mp clk) : x ∈ (pRest mp clk n ps).1.map Prod.fst ↔ (x ≠ n ∧ x ∈ mp.map Prod.fst) ∨ (x = n ∧ ps ≠ []) := by
  unfold pRest; split
  · rename_i hp
    rw [mDel_keys h.2.2]
    constructor
    · rintro ⟨h1, h2⟩; exact .inl ⟨h2, h1⟩
    · rintro (⟨h1, h2⟩ | ⟨_, h2⟩)
      · exact ⟨h2, h1⟩
      · exact absurd hp h2
  · rename_i hp
    rw [mIns_keys]
    by_cases hx : x = n
    · simp [hx, hp]
    · simp [hx]

/-- A line put anew. -/
def RM.upd (R : RM) (A B : List (PL × Row)) (l : PL) (r : Row) (mp : List (Int × Nat)) (clk : Nat) : RM := { R with X := A ++ (l, r) :: B, mp := mp, clk := clk }
theorem St.refocus {w0 w : World} {S : List Nat} {L : Hp} {R : RM} {A B : List (PL × Row)} {l l' : PL} {r r' : Row} {mp : List (Int × Nat)} {clk : Nat} (hX : R.X = A ++ (l, r) :: B)
    (h : St w0 S w (L ++ fhp R.p R.lb R.X.length R.lcap R.mb mp clk R.span R.er R.evs.length (linesC A) l' r' (linesC B ++ R.junk) (R.er.hp 164 ++ pendHp A ++ pendHp B))) : St w0 S w (L ++ (R.upd A B l' r' mp clk).hp) := by
  have hl : R.X.length = (R.upd A B l' r' mp clk).X.length := by rw [hX]; simp [RM.upd]
  rw [hl] at h
  exact St.unfocus (R := R.upd A B l' r' mp clk) (A := A) (B := B) (l := l') (r := r') rfl h
theorem RM.ok.upd {R : RM} (h : R.ok) {A B : List (PL × Row)} {l l' : PL} {r r' : Row} {mp : List (Int × Nat)} {clk k : Nat} (hX : R.X = A ++ (l, r) :: B) (hA : A.length = k) (hl : l'.ok) (hr : r'.ok 2 l'.ps.length (flatP l'.ps))
    (hmap : MapOk mp clk) (hkeys : ∀ x : Int, x ∈ mp.map Prod.fst ↔ (x ≠ (k : Int) ∧ x ∈ R.mp.map Prod.fst) ∨ (x = (k : Int) ∧ l'.ps ≠ [])) : (R.upd A B l' r' mp clk).ok := by
  have hlen : (A ++ (l', r') :: B).length = R.X.length := by rw [hX]; simp
  refine ⟨by show 1 ≤ (A ++ (l', r') :: B).length ∧ _; rw [show (R.upd A B l' r' mp clk).X.length = R.X.length from hlen, hlen]; exact h.len, by show (A ++ (l', r') :: B).length ≤ _ ∧ _; rw [hlen]; exact h.lcap, by show R.junk.length = 11 * (R.lcap - (A ++ (l', r') :: B).length); rw [hlen]; exact h.junk, ?_, hmap, ?_, h.evs, h.er, h.span⟩
  · intro x hx
    rcases List.mem_append.1 hx with hx | hx
    · exact h.lines x (by rw [hX]; exact List.mem_append_left _ hx)
    · rcases List.mem_cons.1 hx with rfl | hx
      · exact ⟨hl, hr⟩
      · exact h.lines x (by rw [hX]; exact List.mem_append_right _ (List.mem_cons_of_mem _ hx))
  · intro n
    show n ∈ mp.map Prod.fst ↔ 0 ≤ n ∧ ∃ x, (A ++ (l', r') :: B)[n.toNat]? = some x ∧ x.1.ps ≠ []
    rw [hkeys, h.busy n]
    by_cases hn : n = (k : Int)
    · subst hn
      rw [Int.toNat_natCast, List.getElem?_append_right (by omega), hA, Nat.sub_self]
      simp
    · simp only [hn, ne_eq, not_false_eq_true, true_and, false_and, or_false]
      constructor
      · rintro ⟨h0, x, hx, hp⟩
        refine ⟨h0, x, ?_, hp⟩
        rw [← hx, hX]
        by_cases hlt : n.toNat < A.length
        · rw [List.getElem?_append_left hlt, List.getElem?_append_left hlt]
        · rw [List.getElem?_append_right (by omega), List.getElem?_append_right (by omega)]
          obtain ⟨j, hj⟩ : ∃ j, n.toNat - A.length = j + 1 := ⟨n.toNat - A.length - 1, by omega⟩
          rw [hj]; simp
      · rintro ⟨h0, x, hx, hp⟩
        refine ⟨h0, x, ?_, hp⟩
        rw [← hx, hX]
        by_cases hlt : n.toNat < A.length
        · rw [List.getElem?_append_left hlt, List.getElem?_append_left hlt]
        · rw [List.getElem?_append_right (by omega), List.getElem?_append_right (by omega)]
          obtain ⟨j, hj⟩ : ∃ j, n.toNat - A.length = j + 1 := ⟨n.toNat - A.length - 1, by omega⟩
          rw [hj]; simp
theorem St.pull4 {w0 w : World} {S : List Nat} {M K : Hp} {x y z u : Nat × Obj} (h : St w0 S w (x :: y :: z :: u :: (M ++ K))) : St w0 S w (M ++ x :: y :: z :: u :: K) :=
  h.perm (((List.perm_middle.trans (List.Perm.cons _ (List.perm_middle.trans (List.Perm.cons _ (List.perm_middle.trans (List.Perm.cons _ List.perm_middle))))))).symm)
theorem St.put4 {w0 w : World} {S : List Nat} {M K : Hp} {x y z u : Nat × Obj} (h : St w0 S w (M ++ x :: y :: z :: u :: K)) : St w0 S w (x :: y :: z :: u :: (M ++ K)) :=
  h.perm (List.perm_middle.trans (List.Perm.cons _ (List.perm_middle.trans (List.Perm.cons _ (List.perm_middle.trans (List.Perm.cons _ List.perm_middle))))))
def RM.noted (R : RM) (v : List Int) (er : Row) : RM := { R with evs := R.evs ++ [v], er := er }
theorem RM.ok.noted {R : RM} (h : R.ok) {v : List Int} {er : Row} (hv : v.length = 12) (he : er.ok 12 (R.evs.length + 1) (flatE (R.evs ++ [v]))) : (R.noted v er).ok :=
  ⟨h.len, h.lcap, h.junk, h.lines, h.map, h.busy, fun u hu => (List.mem_append.1 hu).elim (h.evs u) (fun hh => by simp only [List.mem_singleton] at hh; subst hh; exact hv), by
    show er.ok 12 (R.evs ++ [v]).length _; rw [List.length_append]; exact he, h.span⟩
end Go.Proofs.YtkncbggnaobgeaaDoor

/- Walks of functions of the program; printed by a program of this session (walk.py) out of hand-written hints. -/
namespace Go.Proofs.YtkncbggnaobgeaaDoor
open Go.RowKit
set_option linter.unusedVariables false
set_option linter.unusedSimpArgs false
set_option maxRecDepth 100000

theorem Row.val_cells (r : Row) (n : Nat) : (r.val n).cells.toList = [r.val n] := by cases r <;> rfl
theorem Row.val_size (r : Row) (n : Nat) : (r.val n).cells.size = 1 := by cases r <;> rfl
theorem Row.val_one (r : Row) (n : Nat) : ∀ u ∈ (r.val n).cells.toList, u.oneCell' = true := by
  rw [Row.val_cells]; intro u hu; simp only [List.mem_singleton] at hu; subst hu; cases r <;> rfl

theorem note_any (R : RM) (v : List Int) (hv : v.length = 12) (hsm : R.evs.length < 1073741824) (w : World) (hok : R.ok) (H : St w (R.hp.map Prod.fst) w R.hp) : Calls Tryd.prog 106 #[.pointer (some ⟨R.p, 0, none⟩), arr v] w fun e w' => ∃ er, e = .returned (.tuple #[]) ∧ (R.noted v er).ok ∧ St w (R.hp.map Prod.fst) w' (R.noted v er).hp := by
  refine calls_walk_n (args := [.pointer (some ⟨R.p, 0, none⟩), arr v]) Tryd.func106 rfl rfl rfl ?_
  refine WC.seq ?_
  refine WC.region ?_
  refine WL.boxArr H rfl rfl ?_
  intro b3 wx hb3 hge3 H
  refine (WL.done (WX.next ?_))
  replace H := H.drew
  refine WC.held (SX (World.drew wx) (R.hp.map Prod.fst)) (by kernel_rfl) ?_
  generalize World.drew wx = wb at H ⊢
  have hb3n : b3 ∉ R.hp.map Prod.fst := (List.nodup_cons.1 H.nd).1
  have HB : St wb (R.hp.map Prod.fst) wb R.hp := St.start H.tail.nd H.tail.sat
  refine WH.take 0 rfl (by kernel_rfl) (by kernel_rfl) (by kernel_rfl) (fun _ _ _ h => h) ⟨_, HB⟩ (fun w' hS => EX.move rfl) rfl ?_
  refine WH.take 1 rfl (by kernel_rfl) (by kernel_rfl) (by kernel_rfl) (fun _ _ _ h => h) ⟨_, HB⟩ (fun w' hS => EX.move rfl) rfl ?_
  refine WH.take 2 rfl (by kernel_rfl) (by kernel_rfl) (by kernel_rfl) (fun _ _ _ h => h) ⟨_, HB⟩ (fun w' hS => EX.nilCheck rfl) rfl ?_
  refine WH.take 3 rfl (by kernel_rfl) (by kernel_rfl) (by kernel_rfl) (fun _ _ _ h => h) ⟨_, HB⟩ (fun w' hS => EX.fieldAddr fld161_3 rfl) rfl ?_
  refine WH.take 5 rfl (by kernel_rfl) (by kernel_rfl) (by kernel_rfl) (fun _ _ _ h => h) ⟨_, HB⟩ (fun w' hS => EX.load rfl (hS.rdArr ty164 (H.blk 0 rfl) hb3n hv)) rfl ?_
  refine WH.hard2 4 6 rfl rfl (by kernel_rfl) ?_ ?_
  ·
    refine WL.load rfl (HB.rd1 ty30 0 rfl rfl) rfl ?_
    refine WL.done (WX.heldOn ⟨_, HB⟩ ?_)
    refine WH.hard 6 rfl (by kernel_rfl) ?_
    refine WL.buildSlice1 HB Tryd.underlying30 (sz := 12) (by simp only [Tryd.underlying164]; exact ty164) (by omega) zer164 rfl rfl (by rw [arr_cells, arrC_size]; exact hv) rfl ?_
    intro g wx hg hgg HB
    refine WL.done (WX.heldOn ⟨_, HB⟩ ?_)
    refine WH.hard 7 rfl (by kernel_rfl) ?_
    replace HB := St.pull4 (M := R.er.hp 164) (K := pendHp R.X) HB
    refine WL.append (m := 1) (news := intsC v) app30 HB hok.er rfl rfl (by simp [intsC, hv]) (fun j u hj => by rw [addr_add, cell_of (HB.sat _ (List.mem_append_right _ List.mem_cons_self)), arr_cells, arrC_ints, Nat.zero_add]; simpa using hj) (intsC_one v) (by simp only [maxLen]; omega) (by omega) rfl ?_
    intro r' wx hr' HB
    replace HB := St.put4 HB
    refine WL.done (WX.heldOn ⟨_, HB⟩ ?_)
    refine WH.take 8 rfl (by kernel_rfl) (by kernel_rfl) (by kernel_rfl) (fun _ _ _ h => h) ⟨_, HB⟩ (fun w' hS => EX.nilCheck rfl) rfl ?_
    refine WH.take 9 rfl (by kernel_rfl) (by kernel_rfl) (by kernel_rfl) (fun _ _ _ h => h) ⟨_, HB⟩ (fun w' hS => EX.fieldAddr fld161_3 rfl) rfl ?_
    refine WH.hard 10 rfl (by kernel_rfl) ?_
    refine WL.storeAt HB ty30 1 rfl rfl rfl (Row.val_size _ _) (Row.val_one _ _) (Nat.le_refl 4) ?_
    intro wx HB
    replace HB := HB.castH (H' := (g, .cells (arr v).cells 164) :: (R.noted v r').hp) (by
      rw [Row.val_cells]
      unfold RM.hp structO
      rw [show (R.noted v r').evs.length = R.evs.length + 1 from by simp [RM.noted]]
      rfl)
    refine WL.done (WX.heldOn ⟨_, HB⟩ ?_)
    refine WH.done (by kernel_rfl) ?_
    replace H := H.callM (L := [(b3, Obj.cells (arrC v) 164)]) (M := R.hp) HB
    replace H : St w (R.hp.map Prod.fst) wx (R.noted v r').hp := H.weaken (List.sublist_append_right [(b3, Obj.cells (arrC v) 164), (g, Obj.cells (arr v).cells 164)] _)
    refine end_none rfl ?_
    have e1 : flatE (R.evs ++ [v]) = flatE R.evs ++ intsC v := by rw [flatE_append]; simp [flatE]
    exact ⟨r', rfl, hok.noted hv (by rw [e1]; exact hr'), H⟩
  ·
    refine WL.buildSlice1 HB Tryd.underlying30 (sz := 12) (by simp only [Tryd.underlying164]; exact ty164) (by omega) zer164 rfl rfl (by rw [arr_cells, arrC_size]; exact hv) rfl ?_
    intro g wx hg hgg HB
    refine WL.done (WX.heldOn ⟨_, HB⟩ ?_)
    refine WH.hard 4 rfl (by kernel_rfl) ?_
    refine WL.load rfl (HB.rd1 ty30 1 rfl rfl) rfl ?_
    refine WL.done (WX.heldOn ⟨_, HB⟩ ?_)
    refine WH.hard 7 rfl (by kernel_rfl) ?_
    replace HB := St.pull4 (M := R.er.hp 164) (K := pendHp R.X) HB
    refine WL.append (m := 1) (news := intsC v) app30 HB hok.er rfl rfl (by simp [intsC, hv]) (fun j u hj => by rw [addr_add, cell_of (HB.sat _ (List.mem_append_right _ List.mem_cons_self)), arr_cells, arrC_ints, Nat.zero_add]; simpa using hj) (intsC_one v) (by simp only [maxLen]; omega) (by omega) rfl ?_
    intro r' wx hr' HB
    replace HB := St.put4 HB
    refine WL.done (WX.heldOn ⟨_, HB⟩ ?_)
    refine WH.take 8 rfl (by kernel_rfl) (by kernel_rfl) (by kernel_rfl) (fun _ _ _ h => h) ⟨_, HB⟩ (fun w' hS => EX.nilCheck rfl) rfl ?_
    refine WH.take 9 rfl (by kernel_rfl) (by kernel_rfl) (by kernel_rfl) (fun _ _ _ h => h) ⟨_, HB⟩ (fun w' hS => EX.fieldAddr fld161_3 rfl) rfl ?_
    refine WH.hard 10 rfl (by kernel_rfl) ?_
    refine WL.storeAt HB ty30 1 rfl rfl rfl (Row.val_size _ _) (Row.val_one _ _) (Nat.le_refl 4) ?_
    intro wx HB
    replace HB := HB.castH (H' := (g, .cells (arr v).cells 164) :: (R.noted v r').hp) (by
      rw [Row.val_cells]
      unfold RM.hp structO
      rw [show (R.noted v r').evs.length = R.evs.length + 1 from by simp [RM.noted]]
      rfl)
    refine WL.done (WX.heldOn ⟨_, HB⟩ ?_)
    refine WH.done (by kernel_rfl) ?_
    replace H := H.callM (L := [(b3, Obj.cells (arrC v) 164)]) (M := R.hp) HB
    replace H : St w (R.hp.map Prod.fst) wx (R.noted v r').hp := H.weaken (List.sublist_append_right [(b3, Obj.cells (arrC v) 164), (g, Obj.cells (arr v).cells 164)] _)
    refine end_none rfl ?_
    have e1 : flatE (R.evs ++ [v]) = flatE R.evs ++ intsC v := by rw [flatE_append]; simp [flatE]
    exact ⟨r', rfl, hok.noted hv (by rw [e1]; exact hr'), H⟩

end Go.Proofs.YtkncbggnaobgeaaDoor

/- Walks of functions of the program; printed by a program of this session (walk.py) out of hand-written hints. -/
namespace Go.Proofs.YtkncbggnaobgeaaDoor
open Go.RowKit
set_option linter.unusedVariables false
set_option linter.unusedSimpArgs false
set_option maxRecDepth 100000

instance : Inhabited PL := ⟨{ ws := zeros8, c := 0, ps := [], mark := 0 }⟩
def PM.has (M : PM) (n : Int) : Bool := decide (0 ≤ n) && decide (n < M.ls.length)
def PM.line (M : PM) (n : Int) : PL := M.ls.getD n.toNat default
theorem abs_has (R : RM) (n : Int) : R.abs.has n = pHas R n := by simp [PM.has, pHas, RM.abs]
theorem abs_line {R : RM} {k : Nat} {l : PL} {r : Row} (h : R.X[k]? = some (l, r)) : R.abs.line (k : Int) = l := by
  simp [PM.line, RM.abs, h]
def PM.putErr (M : PM) (at_ val : Int) : Int :=
  if at_ < 0 then 40 else if M.has (at_ / 8) then (if isWord val then (if (chk (M.line (at_ / 8)).ws (M.line (at_ / 8)).c).1 = 2 then 9 else 0) else 1) else 40
def PM.put (M : PM) (kind at_ val : Int) : PM :=
  if M.putErr at_ val = 0 then { M with ls := M.ls.set (at_ / 8).toNat { M.line (at_ / 8) with ps := (M.line (at_ / 8)).ps ++ [(at_ % 8, val)] }, evs := M.evs ++ [[kind, at_, val, M.span, 0, 0, 0, 0, 0, 0, 0, 0]] } else M
theorem abs_upd {R : RM} {A B : List (PL × Row)} {l l' : PL} {r r' : Row} {mp : List (Int × Nat)} {clk k : Nat} (hX : R.X = A ++ (l, r) :: B) (hA : A.length = k) : (R.upd A B l' r' mp clk).abs = { R.abs with ls := R.abs.ls.set k l' } := by
  subst hA
  simp [RM.abs, RM.upd, hX]
theorem abs_noted (R : RM) (v : List Int) (er : Row) : (R.noted v er).abs = { R.abs with evs := R.abs.evs ++ [v] } := rfl
theorem fhp_p {w0 w : World} {S : List Nat} {p lb len lcap mb : Nat} {mp : List (Int × Nat)} {clk : Nat} {span : Int} {er : Row} {ne : Nat} {a : List Value} {l : PL} {r : Row} {c : List Value} {Z : Hp} (H : St w0 S w (fhp p lb len lcap mb mp clk span er ne a l r c Z)) :
    p ∉ lb :: (r.hp 111).map Prod.fst := by
  have h := (List.nodup_cons.1 H.nd).1
  intro hm
  refine h ?_
  rw [List.map_cons, List.map_cons, List.map_append]
  rcases List.mem_cons.1 hm with rfl | hm
  · exact List.mem_cons_self
  · exact List.mem_cons_of_mem _ (List.mem_cons_of_mem _ (List.mem_append_left _ hm))
theorem fhp_take {w0 w : World} {S : List Nat} {p lb len lcap mb : Nat} {mp : List (Int × Nat)} {clk : Nat} {span : Int} {er : Row} {ne : Nat} {a : List Value} {l : PL} {r : Row} {c : List Value} {Z : Hp} (H : St w0 S w (fhp p lb len lcap mb mp clk span er ne a l r c Z)) :
    St w (lb :: (r.hp 111).map Prod.fst) w ((lb, .cells (lineL a l r c) 158) :: r.hp 111) := by
  have h : St w0 S w ((lb, .cells (lineL a l r c) 158) :: r.hp 111) := H.weaken (List.Sublist.cons _ (List.Sublist.cons_cons _ (List.Sublist.cons _ (List.sublist_append_left _ _))))
  exact St.start h.nd h.sat
theorem fhp_give {w0 w w' : World} {S : List Nat} {J : Hp} {p lb len lcap mb : Nat} {mp : List (Int × Nat)} {clk : Nat} {span : Int} {er : Row} {ne : Nat} {a : List Value} {l l' : PL} {r r' : Row} {c : List Value} {Z : Hp} (H : St w0 S w (fhp p lb len lcap mb mp clk span er ne a l r c Z))
    (HB : St w (lb :: (r.hp 111).map Prod.fst) w' (J ++ ((lb, .cells (lineL a l' r' c) 158) :: r'.hp 111))) : St w0 S w' (fhp p lb len lcap mb mp clk span er ne a l' r' c Z) := by
  have h1 : St w0 S w (((p, structO lb len lcap mb span er ne) :: (mb, mO mp clk) :: Z) ++ ((lb, .cells (lineL a l r c) 158) :: r.hp 111)) := H.perm (by
    unfold fhp
    rw [List.cons_append]
    refine List.Perm.cons _ ?_
    rw [List.cons_append]
    refine (List.Perm.swap _ _ _).trans (List.Perm.cons _ ?_)
    exact (List.Perm.cons _ List.perm_append_comm).trans List.perm_middle.symm)
  have h2 := h1.callM HB
  have h3 : St w0 S w' (((p, structO lb len lcap mb span er ne) :: (mb, mO mp clk) :: Z) ++ ((lb, .cells (lineL a l' r' c) 158) :: r'.hp 111)) := h2.weaken (List.Sublist.append_left (List.sublist_append_right _ _) _)
  refine h3.perm ?_
  unfold fhp
  rw [List.cons_append]
  refine List.Perm.cons _ ?_
  rw [List.cons_append]
  refine ((List.Perm.cons _ (List.perm_middle.trans (List.Perm.cons _ List.perm_append_comm))).trans (List.Perm.swap _ _ _))

theorem put_any (R : RM) (kind at_ val : Int) (ha : -9223372036854775808 ≤ at_ ∧ at_ ≤ 9223372036854775807) (hsm : R.evs.length < 1073741824) (hps : ∀ x ∈ R.X, x.1.ps.length < 1073741824) (w : World) (hm : MemIn w R) (hL : L64 w) : Calls Tryd.prog 125 #[.pointer (some ⟨R.p, 0, none⟩), .int .i64 kind, .int .i64 at_, .int .i64 val, .func (.func 106) #[.pointer (some ⟨R.p, 0, none⟩)] #[]] w fun e w' => ∃ R' : RM, e = .returned (.int .i64 (R.abs.putErr at_ val)) ∧ R'.p = R.p ∧ R'.abs = R.abs.put kind at_ val ∧ R'.ok ∧ St w (R.hp.map Prod.fst) w' R'.hp := by
  refine calls_walk_n (args := [.pointer (some ⟨R.p, 0, none⟩), .int .i64 kind, .int .i64 at_, .int .i64 val, .func (.func 106) #[.pointer (some ⟨R.p, 0, none⟩)] #[]]) Tryd.func125 rfl rfl rfl ?_
  have H := hm.start
  refine WC.seq ?_
  refine WC.region ?_
  refine WL.assign rfl rfl ?_
  refine (WL.done (WX.next ?_))
  refine WC.seq ?_
  refine WC.seq ?_
  refine WC.region ?_
  refine WL.move rfl rfl ?_
  refine WL.bin rfl rfl (iquoT (by omega) (by omega) (by omega)) rfl ?_
  refine WL.assign rfl rfl ?_
  refine (WL.done (WX.next ?_))
  refine WC.block ?_
  refine WC.seq ?_
  refine WC.region ?_
  refine WL.move rfl rfl ?_
  refine WL.bin rfl rfl binv_lss rfl ?_
  refine WL.move rfl rfl ?_
  refine WL.splitD (t := 43) rfl (fun g1 => ?_) (fun g1 => ?_)
  ·
    refine WL.no rfl rfl rfl ?_
    refine WL.no rfl rfl rfl ?_
    refine WL.no rfl rfl rfl ?_
    refine WL.no rfl rfl rfl ?_
    refine WL.pickT rfl rfl rfl ?_
    refine WL.assign rfl rfl ?_
    refine (WL.done (WX.next ?_))
    refine WC.cond_true rfl (rfl) ?_
    refine WC.seq ?_
    refine WC.region ?_
    refine WL.assign rfl rfl ?_
    refine (WL.done (WX.next ?_))
    refine (WC.ret (WX.block_ret (WX.then_ret ?_)))
    refine ret_one rfl rfl ?_
    have e1 : R.abs.putErr at_ val = 40 := by unfold PM.putErr; rw [if_pos g1]
    exact ⟨R, by rw [e1], rfl, by unfold PM.put; rw [e1, if_neg (by decide)], hm.ok, H⟩
  ·
    obtain ⟨q, rfl⟩ : ∃ q : Nat, at_ = (q : Int) := ⟨at_.toNat, by omega⟩
    have hq : (q : Int).tdiv 8 = ((q / 8 : Nat) : Int) := by rw [Int.tdiv_eq_ediv_of_nonneg (by omega)]; omega
    rw [hq]
    refine WL.yes rfl rfl ?_
    refine WL.move rfl rfl ?_
    refine WL.yes rfl rfl ?_
    refine WL.move rfl rfl ?_
    refine WL.yes rfl rfl ?_
    refine WL.call call101 rfl rfl ?_
    refine Calls.mono (has_any R _ _ hm) ?_
    rintro _ wx ⟨rfl, hwx⟩
    refine ⟨_, rfl, ?_⟩
    rw [hwx]
    refine WL.yes rfl rfl ?_
    refine WL.notOp rfl rfl ?_
    refine WL.pickF rfl rfl rfl ?_
    refine WL.assign rfl rfl ?_
    refine (WL.done (WX.next ?_))
    refine WC.cond rfl (fun c2 => ?_) (fun c2 => ?_)
    ·
      have hh : pHas R ((q / 8 : Nat) : Int) = false := by simpa only [Bool.not_eq_true'] using c2
      have hq2 : (q : Int) / 8 = ((q / 8 : Nat) : Int) := by omega
      refine WC.seq ?_
      refine WC.region ?_
      refine WL.assign rfl rfl ?_
      refine (WL.done (WX.next ?_))
      refine (WC.ret (WX.block_ret (WX.then_ret ?_)))
      refine ret_one rfl rfl ?_
      have e1 : R.abs.putErr (q : Int) val = 40 := by unfold PM.putErr; rw [if_neg g1, abs_has, hq2, hh]; rfl
      exact ⟨R, by rw [e1], rfl, by unfold PM.put; rw [e1, if_neg (by decide)], hm.ok, H⟩
    ·
      have hh : pHas R ((q / 8 : Nat) : Int) = true := by simpa only [Bool.not_eq_false'] using c2
      obtain ⟨hn0, hn1⟩ := pHas_iff.1 hh
      obtain ⟨k, hk⟩ : ∃ k : Nat, k = q / 8 := ⟨_, rfl⟩
      rw [← hk] at hn0 hn1 hh ⊢
      have hk2 : (q : Int) / 8 = (k : Int) := by omega
      obtain ⟨A, l, r, B, hX, hA, hal, hok, hr, hget⟩ := hm.ok.at (k := k) (by omega)
      have hpk : l.ps.length < 1073741824 := hps (l, r) (List.mem_of_getElem? hget)
      refine WC.seq ?_
      refine WC.region ?_
      refine WL.move rfl rfl ?_
      refine WL.call call166 rfl rfl ?_
      refine Calls.mono (word_any _ _) ?_
      rintro _ wx ⟨rfl, hwx⟩
      refine ⟨_, rfl, ?_⟩
      rw [hwx]
      refine WL.notOp rfl rfl ?_
      refine WL.assign rfl rfl ?_
      refine (WL.done (WX.next ?_))
      refine WC.cond rfl (fun c3 => ?_) (fun c3 => ?_)
      ·
        have hwd : isWord val = false := by simpa only [Bool.not_eq_true'] using c3
        refine WC.seq ?_
        refine WC.region ?_
        refine WL.assign rfl rfl ?_
        refine (WL.done (WX.next ?_))
        refine (WC.ret (WX.block_ret (WX.then_ret ?_)))
        refine ret_one rfl rfl ?_
        have e1 : R.abs.putErr (q : Int) val = 1 := by unfold PM.putErr; rw [if_neg g1, abs_has, hk2, hh, if_pos rfl, hwd]; rfl
        exact ⟨R, by rw [e1], rfl, by unfold PM.put; rw [e1, if_neg (by decide)], hm.ok, H⟩
      ·
        have hwd : isWord val = true := by simpa only [Bool.not_eq_false'] using c3
        refine WC.seq ?_
        refine WC.region ?_
        refine WL.move rfl rfl ?_
        refine WL.move rfl rfl ?_
        refine WL.call call31 rfl rfl ?_
        refine Calls.mono (state_any R _ _ hm hL) ?_
        rintro _ wx ⟨rfl, Hc⟩
        refine ⟨_, rfl, ?_⟩
        replace H := H.call0 Hc
        refine WL.bin rfl rfl binv_eql rfl ?_
        refine WL.assign rfl rfl ?_
        refine (WL.done (WX.next ?_))
        refine WC.cond_dec rfl (fun c4 => ?_) (fun c4 => ?_)
        ·
          have hst : (chk l.ws l.c).1 = 2 := by rw [hh, if_pos rfl, Int.toNat_natCast, hget] at c4; exact c4
          refine WC.seq ?_
          refine WC.region ?_
          refine WL.assign rfl rfl ?_
          refine (WL.done (WX.next ?_))
          refine (WC.ret (WX.block_ret (WX.then_ret ?_)))
          refine ret_one rfl rfl ?_
          have e1 : R.abs.putErr (q : Int) val = 9 := by unfold PM.putErr; rw [if_neg g1, abs_has, hk2, hh, if_pos rfl, hwd, if_pos rfl, abs_line hget, if_pos hst]
          exact ⟨R, by rw [e1], rfl, by unfold PM.put; rw [e1, if_neg (by decide)], hm.ok, H⟩
        ·
          have hst : ¬ (chk l.ws l.c).1 = 2 := by rw [hh, if_pos rfl, Int.toNat_natCast, hget] at c4; exact c4
          have hwr := Row.le_max hr
          refine WC.seqJ (Sub.cons (t := 0) rfl (Sub.cons (t := 1) rfl (Sub.cons (t := 2) rfl (Sub.cons (t := 3) rfl (Sub.cons (t := 4) rfl (Sub.cons (t := 11) rfl (Sub.nil _))))))) (fun _ : Row => []) (fun r1 wx => r1.ok 2 (l.ps.length + 1) (flatP l.ps ++ [.int .i64 ((q : Int) % 8), .int .i64 val]) ∧ St w (R.hp.map Prod.fst) wx (fhp R.p R.lb R.X.length R.lcap R.mb R.mp R.clk R.span R.er R.evs.length (linesC A) { l with ps := l.ps ++ [((q : Int) % 8, val)] } r1 (linesC B ++ R.junk) (R.er.hp 164 ++ pendHp A ++ pendHp B))) (fun N hN => ?_) (fun r1 wx hJ => ?_)
          · -- first
            replace H := (St.focus (L := []) hX H).drew
            refine WC.held (SX (World.drew wx) (R.lb :: (r.hp 111).map Prod.fst)) (by kernel_rfl) ?_
            generalize World.drew wx = wb at H ⊢
            have hpn := fhp_p H
            have HB := fhp_take H
            refine WH.take 0 rfl (by kernel_rfl) (by kernel_rfl) (by kernel_rfl) (fun _ _ _ h => h) ⟨_, HB⟩ (fun w' hS => EX.move rfl) rfl ?_
            refine WH.take 1 rfl (by kernel_rfl) (by kernel_rfl) (by kernel_rfl) (fun _ _ _ h => h) ⟨_, HB⟩ (fun w' hS => EX.nilCheck rfl) rfl ?_
            refine WH.take 2 rfl (by kernel_rfl) (by kernel_rfl) (by kernel_rfl) (fun _ _ _ h => h) ⟨_, HB⟩ (fun w' hS => EX.fieldAddr fld161_0 rfl) rfl ?_
            refine WH.take 3 rfl (by kernel_rfl) (by kernel_rfl) (by kernel_rfl) (fun _ _ _ h => h) ⟨_, HB⟩ (fun w' hS => EX.load rfl (hS.rd1 ty156 (H.blk 0 rfl) hpn rfl)) rfl ?_
            refine WH.take 4 rfl (by kernel_rfl) (by kernel_rfl) (by kernel_rfl) (fun _ _ _ h => h) ⟨_, HB⟩ (fun w' hS => EX.move rfl) rfl ?_
            refine WH.take 5 rfl (by kernel_rfl) (by kernel_rfl) (by kernel_rfl) (fun _ _ _ h => h) ⟨_, HB⟩ (fun w' hS => EX.move rfl) rfl ?_
            refine WH.take 6 rfl (by kernel_rfl) (by kernel_rfl) (by kernel_rfl) (fun _ _ _ h => h) ⟨_, HB⟩ (fun w' hS => EX.nilCheck rfl) rfl ?_
            refine WH.take 7 rfl (by kernel_rfl) (by kernel_rfl) (by kernel_rfl) (fun _ _ _ h => h) ⟨_, HB⟩ (fun w' hS => EX.fieldAddr fld161_0 rfl) rfl ?_
            refine WH.take 8 rfl (by kernel_rfl) (by kernel_rfl) (by kernel_rfl) (fun _ _ _ h => h) ⟨_, HB⟩ (fun w' hS => EX.load rfl (hS.rd1 ty156 (H.blk 0 rfl) hpn rfl)) rfl ?_
            refine WH.take 9 rfl (by kernel_rfl) (by kernel_rfl) (by kernel_rfl) (fun _ _ _ h => h) ⟨_, HB⟩ (fun w' hS => EX.move rfl) rfl ?_
            refine WH.take 10 rfl (by kernel_rfl) (by kernel_rfl) (by kernel_rfl) (fun _ _ _ h => h) ⟨_, HB⟩ (fun w' hS => EX.idxSlc (k := k) slc156 rfl rfl (by rfl) (by omega)) rfl ?_
            refine WH.take 11 rfl (by kernel_rfl) (by kernel_rfl) (by kernel_rfl) (fun _ _ _ h => h) ⟨_, HB⟩ (fun w' hS => EX.fieldAddr fld158_1 rfl) rfl ?_
            refine WH.take 13 rfl (by kernel_rfl) (by kernel_rfl) (by kernel_rfl) (fun _ _ _ h => h) ⟨_, HB⟩ (fun w' hS => EX.move rfl) rfl ?_
            refine WH.take 14 rfl (by kernel_rfl) (by kernel_rfl) (by kernel_rfl) (fun _ _ _ h => h) ⟨_, HB⟩ (fun w' hS => EX.bin rfl rfl (irem (by omega) (by omega))) rfl ?_
            refine WH.take 15 rfl (by kernel_rfl) (by kernel_rfl) (by kernel_rfl) (fun _ _ _ h => h) ⟨_, HB⟩ (fun w' hS => EX.move rfl) rfl ?_
            refine WH.take 16 rfl (by kernel_rfl) (by kernel_rfl) (by kernel_rfl) (fun _ _ _ h => h) ⟨_, HB⟩ (fun w' hS => EX.build pla111 zer111 rfl rfl) rfl ?_
            refine WH.hard2 12 17 rfl rfl (by kernel_rfl) ?_ ?_
            ·
              refine WL.load rfl (Rd.lineS ty52 (HB.blk 0 rfl) (by omega) hok.1) rfl ?_
              refine WL.done (WX.heldOn ⟨_, HB⟩ ?_)
              refine WH.hard 17 rfl (by kernel_rfl) ?_
              refine WL.buildSlice1 HB Tryd.underlying52 (sz := 2) (by simp only [Tryd.underlying111]; exact ty111) (by omega) zer111 rfl rfl rfl rfl ?_
              intro g wx hg hgg HB
              refine WL.done (WX.heldOn ⟨_, HB⟩ ?_)
              refine WH.hard 18 rfl (by kernel_rfl) ?_
              replace HB := St.perm (H := [_, _] ++ r.hp 111) HB List.perm_append_comm
              refine WL.append (m := 1) (news := [.int .i64 ((q : Int) % 8), .int .i64 val]) app52 HB hr rfl rfl rfl (fun j u hj => by rw [addr_add, cell_of (HB.sat _ (List.mem_append_right _ List.mem_cons_self)), Nat.zero_add]; simpa [Value.cells] using hj) (by simp [Value.oneCell']) (by simp only [maxLen]; omega) (by omega) rfl ?_
              intro r1 wx hr1 HB
              replace HB := St.perm HB List.perm_append_comm
              refine WL.done (WX.heldOn ⟨_, HB⟩ ?_)
              refine WH.take 19 rfl (by kernel_rfl) (by kernel_rfl) (by kernel_rfl) (fun _ _ _ h => h) ⟨_, HB⟩ (fun w' hS => EX.idxSlc (k := k) slc156 rfl rfl (by rfl) (by omega)) rfl ?_
              refine WH.take 20 rfl (by kernel_rfl) (by kernel_rfl) (by kernel_rfl) (fun _ _ _ h => h) ⟨_, HB⟩ (fun w' hS => EX.fieldAddr fld158_1 rfl) rfl ?_
              refine WH.hard 21 rfl (by kernel_rfl) ?_
              refine WL.storeAt HB ty52 1 rfl rfl rfl (Row.val_size _ _) (Row.val_one _ _) (by rw [lineL_size hok.1]; omega) ?_
              intro wx HB
              replace HB := HB.castH (H' := [(g, .cells #[.int .i64 ((q : Int) % 8), .int .i64 val] 111)] ++ ((R.lb, .cells (lineL (linesC A) { l with ps := l.ps ++ [((q : Int) % 8, val)] } r1 (linesC B ++ R.junk)) 158) :: r1.hp 111)) (by
                have e1 := wr_lineS (a := linesC A) (l := l) (r := r) (r' := r1) (ps' := l.ps ++ [((q : Int) % 8, val)]) (c := linesC B ++ R.junk) (o := 0 + k * 11 + 9) (by omega) hok.1
                rw [← e1, Row.val_cells, List.length_append]; rfl)
              refine WL.done (WX.heldOn ⟨_, HB⟩ ?_)
              refine WH.done (by kernel_rfl) ?_
              replace H := fhp_give (J := [(g, _)]) H HB
              refine WX.round ?_
              exact hN _ _ _ ⟨hr1, H⟩ (Sub.nil _) (Sub.cons (t := 0) rfl (Sub.cons (t := 1) rfl (Sub.cons (t := 2) rfl (Sub.cons (t := 3) rfl (Sub.cons (t := 4) rfl (Sub.cons (t := 11) rfl (Sub.nil _)))))))
            ·
              refine WL.buildSlice1 HB Tryd.underlying52 (sz := 2) (by simp only [Tryd.underlying111]; exact ty111) (by omega) zer111 rfl rfl rfl rfl ?_
              intro g wx hg hgg HB
              refine WL.done (WX.heldOn ⟨_, HB⟩ ?_)
              refine WH.hard 12 rfl (by kernel_rfl) ?_
              refine WL.load rfl (Rd.lineS ty52 (HB.blk 1 rfl) (by omega) hok.1) rfl ?_
              refine WL.done (WX.heldOn ⟨_, HB⟩ ?_)
              refine WH.hard 18 rfl (by kernel_rfl) ?_
              replace HB := St.perm (H := [_, _] ++ r.hp 111) HB List.perm_append_comm
              refine WL.append (m := 1) (news := [.int .i64 ((q : Int) % 8), .int .i64 val]) app52 HB hr rfl rfl rfl (fun j u hj => by rw [addr_add, cell_of (HB.sat _ (List.mem_append_right _ List.mem_cons_self)), Nat.zero_add]; simpa [Value.cells] using hj) (by simp [Value.oneCell']) (by simp only [maxLen]; omega) (by omega) rfl ?_
              intro r1 wx hr1 HB
              replace HB := St.perm HB List.perm_append_comm
              refine WL.done (WX.heldOn ⟨_, HB⟩ ?_)
              refine WH.take 19 rfl (by kernel_rfl) (by kernel_rfl) (by kernel_rfl) (fun _ _ _ h => h) ⟨_, HB⟩ (fun w' hS => EX.idxSlc (k := k) slc156 rfl rfl (by rfl) (by omega)) rfl ?_
              refine WH.take 20 rfl (by kernel_rfl) (by kernel_rfl) (by kernel_rfl) (fun _ _ _ h => h) ⟨_, HB⟩ (fun w' hS => EX.fieldAddr fld158_1 rfl) rfl ?_
              refine WH.hard 21 rfl (by kernel_rfl) ?_
              refine WL.storeAt HB ty52 1 rfl rfl rfl (Row.val_size _ _) (Row.val_one _ _) (by rw [lineL_size hok.1]; omega) ?_
              intro wx HB
              replace HB := HB.castH (H' := [(g, .cells #[.int .i64 ((q : Int) % 8), .int .i64 val] 111)] ++ ((R.lb, .cells (lineL (linesC A) { l with ps := l.ps ++ [((q : Int) % 8, val)] } r1 (linesC B ++ R.junk)) 158) :: r1.hp 111)) (by
                have e1 := wr_lineS (a := linesC A) (l := l) (r := r) (r' := r1) (ps' := l.ps ++ [((q : Int) % 8, val)]) (c := linesC B ++ R.junk) (o := 0 + k * 11 + 9) (by omega) hok.1
                rw [← e1, Row.val_cells, List.length_append]; rfl)
              refine WL.done (WX.heldOn ⟨_, HB⟩ ?_)
              refine WH.done (by kernel_rfl) ?_
              replace H := fhp_give (J := [(g, _)]) H HB
              refine WX.round ?_
              exact hN _ _ _ ⟨hr1, H⟩ (Sub.nil _) (Sub.cons (t := 0) rfl (Sub.cons (t := 1) rfl (Sub.cons (t := 2) rfl (Sub.cons (t := 3) rfl (Sub.cons (t := 4) rfl (Sub.cons (t := 11) rfl (Sub.nil _)))))))
          · -- join
            obtain ⟨hr1, H⟩ := hJ
            replace hr1 : r1.ok 2 (l.ps.length + 1) (flatP (l.ps ++ [((q : Int) % 8, val)])) := by rw [flatP_append]; exact hr1
            refine WC.region ?_
            refine WL.move rfl rfl ?_
            refine WL.nilCheck rfl rfl ?_
            refine WL.fieldAddr fld161_1 rfl rfl ?_
            refine WL.load rfl (H.rd1 ty159 0 rfl rfl) rfl ?_
            refine WL.move rfl rfl ?_
            refine WL.mapUpdate H map159 2 rfl rfl rfl rfl ?_
            intro wx H
            refine (WL.done (WX.block_normal (WX.next ?_)))
            refine WC.seq ?_
            refine WC.region ?_
            replace H := St.refocus (L := []) (l' := { l with ps := l.ps ++ [((q : Int) % 8, val)] }) (r' := r1) (mp := mIns R.mp R.clk k) (clk := mClk R.mp R.clk k) hX H
            have hok2 : (R.upd A B { l with ps := l.ps ++ [((q : Int) % 8, val)] } r1 (mIns R.mp R.clk k) (mClk R.mp R.clk k)).ok := by
              refine hm.ok.upd hX hA ⟨hok.1, hok.2.1, hok.2.2.1, ?_, ?_⟩ (by rw [List.length_append]; exact hr1) (mIns_ok hm.ok.map) (fun x => ?_)
              · have := hok.2.2.2.1; show l.mark ≤ (l.ps ++ _).length; rw [List.length_append]; omega
              · intro p hp
                rcases List.mem_append.1 hp with hp | hp
                · exact hok.2.2.2.2 p hp
                · simp only [List.mem_singleton] at hp; subst hp; exact ⟨by show 0 ≤ (q : Int) % 8; omega, by show (q : Int) % 8 < 8; omega, hwd⟩
              · rw [mIns_keys]
                by_cases hx : x = (k : Int)
                · simp [hx]
                · simp [hx]
            refine WL.move rfl rfl ?_
            refine WL.move rfl rfl ?_
            refine WL.move rfl rfl ?_
            refine WL.move rfl rfl ?_
            refine WL.move rfl rfl ?_
            refine WL.nilCheck rfl rfl ?_
            refine WL.fieldAddr fld161_2 rfl rfl ?_
            refine WL.load rfl (H.rd1 ty3 0 rfl rfl) rfl ?_
            refine WL.build pla164 zer164 rfl rfl rfl ?_
            refine WL.callVal (fi := [.pointer (some ⟨R.p, 0, none⟩)]) (ca := []) call106 rfl rfl rfl ?_
            refine Calls.mono (note_any (R.upd A B { l with ps := l.ps ++ [((q : Int) % 8, val)] } r1 (mIns R.mp R.clk k) (mClk R.mp R.clk k)) [kind, (q : Int), val, R.span, 0, 0, 0, 0, 0, 0, 0, 0] rfl hsm _ hok2 (St.start H.nd H.sat)) ?_
            rintro _ wx ⟨er, rfl, hok3, Hc⟩
            refine ⟨_, rfl, ?_⟩
            replace H := H.callM (L := []) Hc
            refine (WL.done (WX.next ?_))
            refine WC.seq ?_
            refine WC.region ?_
            refine WL.assign rfl rfl ?_
            refine (WL.done (WX.next ?_))
            refine (WC.ret ?_)
            refine ret_one rfl rfl ?_
            have e1 : R.abs.putErr (q : Int) val = 0 := by unfold PM.putErr; rw [if_neg g1, abs_has, hk2, hh, if_pos rfl, hwd, if_pos rfl, abs_line hget, if_neg hst]
            refine ⟨(R.upd A B { l with ps := l.ps ++ [((q : Int) % 8, val)] } r1 (mIns R.mp R.clk k) (mClk R.mp R.clk k)).noted [kind, (q : Int), val, R.span, 0, 0, 0, 0, 0, 0, 0, 0] er, by rw [e1], rfl, ?_, hok3, H⟩
            have e2 := abs_upd (l' := { l with ps := l.ps ++ [((q : Int) % 8, val)] }) (r' := r1) (mp := mIns R.mp R.clk k) (clk := mClk R.mp R.clk k) hX hA
            unfold PM.put
            rw [e1, if_pos rfl, hk2, abs_line hget, Int.toNat_natCast]
            rw [abs_noted, e2]
            rfl

end Go.Proofs.YtkncbggnaobgeaaDoor

/- Walks of functions of the program; printed by a program of this session (walk.py) out of hand-written hints. -/
namespace Go.Proofs.YtkncbggnaobgeaaDoor
open Go.RowKit
set_option linter.unusedVariables false
set_option linter.unusedSimpArgs false
set_option maxRecDepth 100000

theorem fix_words {ws : List Int} {c : Int} (h8 : ws.length = 8) (hw : isWords ws = true) : isWords (fix ws c).1 = true := by
  unfold fix
  split
  · rename_i hv
    rw [Bool.and_eq_true] at hv
    rcases chk_cases (ws := ws) hv.2 with h | h | ⟨x, y, h, hxy⟩
    · rw [h]; exact hw
    · rw [h]; rfl
    · rw [h]
      show isWords (flipBit ws c ((x : Int).toNat) ((y : Int).toNat)).1 = true
      rw [Int.toNat_natCast, Int.toNat_natCast]
      unfold flipBit
      split
      · exact hw
      · exact (flip_words h8 hw (g := x) (b := y) (by omega) (by omega)).2
  · rfl
theorem isWords_set {ws : List Int} {i : Nat} {v : Int} (hw : isWords ws = true) (hv : isWord v = true) : isWords (ws.set i v) = true := by
  unfold isWords at hw ⊢
  rw [List.all_eq_true] at hw ⊢
  intro x hx
  rcases List.mem_or_eq_of_mem_set hx with hx | rfl
  · exact hw x hx
  · exact hv
theorem putAll_words {ws : List Int} {ps : List (Int × Int)} (hw : isWords ws = true) (hp : ∀ p ∈ ps, isWord p.2 = true) : isWords (putAll ws ps) = true := by
  unfold putAll
  induction ps generalizing ws with
  | nil => exact hw
  | cons p ps ih => exact ih (isWords_set hw (hp p List.mem_cons_self)) (fun q hq => hp q (List.mem_cons_of_mem _ hq))
theorem pShow_words {l : PL} {k : Nat} (h : l.ok) : isWords (pShow l k).1 = true := by
  unfold pShow
  split
  · exact putAll_words (fix_words h.1 h.2.1) (fun p hp => (h.2.2.2.2 p (List.mem_of_mem_take hp)).2.2)
  · rfl
theorem pSettle_ok {l : PL} {k : Nat} (h : l.ok) : (pSettle l k).ok := by
  unfold pSettle
  split
  · exact h
  · refine ⟨pShow_len h.1, pShow_words h, enc_code (pShow_words h), ?_, fun p hp => h.2.2.2.2 p (List.mem_of_mem_drop hp)⟩
    have := h.2.2.2.1
    show l.mark - k ≤ (l.ps.drop k).length
    rw [List.length_drop]; omega
theorem keys_same {R : RM} (h : R.ok) {k : Nat} {l : PL} {r : Row} (hget : R.X[k]? = some (l, r)) {ps : List (Int × Int)} (hps : ps ≠ [] ↔ l.ps ≠ []) : ∀ x : Int, x ∈ R.mp.map Prod.fst ↔ (x ≠ (k : Int) ∧ x ∈ R.mp.map Prod.fst) ∨ (x = (k : Int) ∧ ps ≠ []) := by
  intro x
  by_cases hx : x = (k : Int)
  · subst hx
    rw [h.busy, hps]
    simp [hget]
  · simp [hx]
theorem n3_focus {w : World} {R : RM} (hm : MemIn w R) {A B : List (PL × Row)} {l : PL} {r : Row} (hX : R.X = A ++ (l, r) :: B) :
    3 ∉ (fhp R.p R.lb R.X.length R.lcap R.mb R.mp R.clk R.span R.er R.evs.length (linesC A) l r (linesC B ++ R.junk) (R.er.hp 164 ++ pendHp A ++ pendHp B)).map Prod.fst :=
  fun h => hm.n3 (((hp_focus hX).map Prod.fst).mem_iff.2 h)
def PM.flush (M : PM) (n : Int) : PM := if M.has n then { M with ls := M.ls.set n.toNat { M.line n with mark := (M.line n).ps.length }, evs := M.evs ++ [[3, n, 0, 0, 0, 0, 0, 0, 0, 0, 0, 0]] } else M
def PM.evictErr (M : PM) (n k : Int) : Int := if M.has n then (if k < 1 ∨ (M.line n).ps.length < k then 1 else 0) else 40
def PM.evict (M : PM) (n k : Int) : PM := if M.evictErr n k = 0 then { M with ls := M.ls.set n.toNat (pSettle (M.line n) k.toNat), evs := M.evs ++ [[5, n, k, 0, 0, 0, 0, 0, 0, 0, 0, 0]] } else M

theorem store_any (R : RM) (at_ val : Int) (ha : -9223372036854775808 ≤ at_ ∧ at_ ≤ 9223372036854775807) (hsm : R.evs.length < 1073741824) (hps : ∀ x ∈ R.X, x.1.ps.length < 1073741824) (w : World) (hm : MemIn w R) (hL : L64 w) : Calls Tryd.prog 56 #[.pointer (some ⟨R.p, 0, none⟩), .int .i64 at_, .int .i64 val] w fun e w' => ∃ R' : RM, e = .returned (.int .i64 (R.abs.putErr at_ val)) ∧ R'.p = R.p ∧ R'.abs = R.abs.put 1 at_ val ∧ R'.ok ∧ St w (R.hp.map Prod.fst) w' R'.hp := by
  refine calls_walk_n (args := [.pointer (some ⟨R.p, 0, none⟩), .int .i64 at_, .int .i64 val]) Tryd.func56 rfl rfl rfl ?_
  have H := hm.start
  refine WC.seq ?_
  refine WC.region ?_
  refine WL.assign rfl rfl ?_
  refine (WL.done (WX.next ?_))
  refine WC.seq ?_
  refine WC.region ?_
  refine WL.move rfl rfl ?_
  refine WL.move rfl rfl ?_
  refine WL.move rfl rfl ?_
  refine WL.move rfl rfl ?_
  refine WL.makeFunc (us := _) (vs := _) rfl rfl rfl ?_
  refine WL.call call125 rfl rfl ?_
  refine Calls.mono (put_any R 1 at_ val ha hsm hps _ hm hL) ?_
  rintro _ wx ⟨R1, rfl, hp1, ha1, hok1, Hc⟩
  refine ⟨_, rfl, ?_⟩
  replace H := H.callM (L := []) Hc
  refine WL.assign rfl rfl ?_
  refine (WL.done (WX.next ?_))
  refine (WC.ret ?_)
  refine ret_one rfl rfl ?_
  exact ⟨R1, rfl, hp1, ha1, hok1, H⟩

theorem publish_any (R : RM) (at_ val : Int) (ha : -9223372036854775808 ≤ at_ ∧ at_ ≤ 9223372036854775807) (hsm : R.evs.length < 1073741824) (hps : ∀ x ∈ R.X, x.1.ps.length < 1073741824) (w : World) (hm : MemIn w R) (hL : L64 w) : Calls Tryd.prog 110 #[.pointer (some ⟨R.p, 0, none⟩), .int .i64 at_, .int .i64 val] w fun e w' => ∃ R' : RM, e = .returned (.int .i64 (R.abs.putErr at_ val)) ∧ R'.p = R.p ∧ R'.abs = R.abs.put 2 at_ val ∧ R'.ok ∧ St w (R.hp.map Prod.fst) w' R'.hp := by
  refine calls_walk_n (args := [.pointer (some ⟨R.p, 0, none⟩), .int .i64 at_, .int .i64 val]) Tryd.func110 rfl rfl rfl ?_
  have H := hm.start
  refine WC.seq ?_
  refine WC.region ?_
  refine WL.assign rfl rfl ?_
  refine (WL.done (WX.next ?_))
  refine WC.seq ?_
  refine WC.region ?_
  refine WL.move rfl rfl ?_
  refine WL.move rfl rfl ?_
  refine WL.move rfl rfl ?_
  refine WL.move rfl rfl ?_
  refine WL.makeFunc (us := _) (vs := _) rfl rfl rfl ?_
  refine WL.call call125 rfl rfl ?_
  refine Calls.mono (put_any R 2 at_ val ha hsm hps _ hm hL) ?_
  rintro _ wx ⟨R1, rfl, hp1, ha1, hok1, Hc⟩
  refine ⟨_, rfl, ?_⟩
  replace H := H.callM (L := []) Hc
  refine WL.assign rfl rfl ?_
  refine (WL.done (WX.next ?_))
  refine (WC.ret ?_)
  refine ret_one rfl rfl ?_
  exact ⟨R1, rfl, hp1, ha1, hok1, H⟩

theorem flush_w (R : RM) (n : Int) (hsm : R.evs.length < 1073741824) (w : World) (hm : MemIn w R) : CallsW Tryd.prog 35 [.pointer (some ⟨R.p, 0, none⟩), .int .i64 n] w fun e w' => ∃ R' : RM, e = .returned (.int .i64 (if R.abs.has n then 0 else 40)) ∧ R'.p = R.p ∧ R'.abs = R.abs.flush n ∧ R'.ok ∧ St w (R.hp.map Prod.fst) w' R'.hp := by
  refine callsW_n (args := [.pointer (some ⟨R.p, 0, none⟩), .int .i64 n]) Tryd.func35 rfl rfl rfl ?_
  have H := hm.start
  refine WC.seq ?_
  refine WC.region ?_
  refine WL.assign rfl rfl ?_
  refine (WL.done (WX.next ?_))
  refine WC.seq ?_
  refine WC.seq ?_
  refine WC.region ?_
  refine WL.move rfl rfl ?_
  refine WL.move rfl rfl ?_
  refine WL.call call101 rfl rfl ?_
  refine Calls.mono (has_any R _ _ hm) ?_
  rintro _ wx ⟨rfl, rfl⟩
  refine ⟨_, rfl, ?_⟩
  refine WL.notOp rfl rfl ?_
  refine (WL.done (WX.next ?_))
  refine WC.cond rfl (fun c1 => ?_) (fun c1 => ?_)
  ·
    have hh : pHas R n = false := by simpa only [Bool.not_eq_true'] using c1
    refine WC.seq ?_
    refine WC.region ?_
    refine WL.assign rfl rfl ?_
    refine (WL.done (WX.next ?_))
    refine (WC.ret (WX.then_ret ?_))
    refine ret_one rfl rfl ?_
    have e1 : R.abs.has n = false := by rw [abs_has]; exact hh
    exact ⟨R, by rw [e1]; rfl, rfl, by unfold PM.flush; rw [e1]; rfl, hm.ok, H⟩
  ·
    have hh : pHas R n = true := by simpa only [Bool.not_eq_false'] using c1
    obtain ⟨hn0, hn1⟩ := pHas_iff.1 hh
    obtain ⟨k, rfl⟩ : ∃ k : Nat, n = (k : Int) := ⟨n.toNat, by omega⟩
    obtain ⟨A, l, r, B, hX, hA, hal, hok, hr, hget⟩ := hm.ok.at (k := k) (by omega)
    refine (WC.skip (WX.next ?_))
    refine WC.seq ?_
    replace H := (St.focus (L := []) hX H).drew
    refine WC.held (SX (World.drew wx) [R.lb]) (by kernel_rfl) ?_
    generalize World.drew wx = wb at H ⊢
    have HB := H.single 1 rfl
    refine WH.take 0 rfl (by kernel_rfl) (by kernel_rfl) (by kernel_rfl) (fun _ _ _ h => h) ⟨_, HB⟩ (fun w' hS => EX.move rfl) rfl ?_
    refine WH.take 1 rfl (by kernel_rfl) (by kernel_rfl) (by kernel_rfl) (fun _ _ _ h => h) ⟨_, HB⟩ (fun w' hS => EX.nilCheck rfl) rfl ?_
    refine WH.take 2 rfl (by kernel_rfl) (by kernel_rfl) (by kernel_rfl) (fun _ _ _ h => h) ⟨_, HB⟩ (fun w' hS => EX.fieldAddr fld161_0 rfl) rfl ?_
    refine WH.take 3 rfl (by kernel_rfl) (by kernel_rfl) (by kernel_rfl) (fun _ _ _ h => h) ⟨_, HB⟩ (fun w' hS => EX.load rfl (hS.rd1 ty156 (H.blk 0 rfl) (by simpa using H.ne 0 1 rfl rfl rfl) rfl)) rfl ?_
    refine WH.take 4 rfl (by kernel_rfl) (by kernel_rfl) (by kernel_rfl) (fun _ _ _ h => h) ⟨_, HB⟩ (fun w' hS => EX.move rfl) rfl ?_
    refine WH.take 5 rfl (by kernel_rfl) (by kernel_rfl) (by kernel_rfl) (fun _ _ _ h => h) ⟨_, HB⟩ (fun w' hS => EX.move rfl) rfl ?_
    refine WH.take 6 rfl (by kernel_rfl) (by kernel_rfl) (by kernel_rfl) (fun _ _ _ h => h) ⟨_, HB⟩ (fun w' hS => EX.nilCheck rfl) rfl ?_
    refine WH.take 7 rfl (by kernel_rfl) (by kernel_rfl) (by kernel_rfl) (fun _ _ _ h => h) ⟨_, HB⟩ (fun w' hS => EX.fieldAddr fld161_0 rfl) rfl ?_
    refine WH.take 8 rfl (by kernel_rfl) (by kernel_rfl) (by kernel_rfl) (fun _ _ _ h => h) ⟨_, HB⟩ (fun w' hS => EX.load rfl (hS.rd1 ty156 (H.blk 0 rfl) (by simpa using H.ne 0 1 rfl rfl rfl) rfl)) rfl ?_
    refine WH.take 9 rfl (by kernel_rfl) (by kernel_rfl) (by kernel_rfl) (fun _ _ _ h => h) ⟨_, HB⟩ (fun w' hS => EX.move rfl) rfl ?_
    refine WH.take 10 rfl (by kernel_rfl) (by kernel_rfl) (by kernel_rfl) (fun _ _ _ h => h) ⟨_, HB⟩ (fun w' hS => EX.idxSlc (k := k) slc156 rfl rfl (by rfl) (by omega)) rfl ?_
    refine WH.take 11 rfl (by kernel_rfl) (by kernel_rfl) (by kernel_rfl) (fun _ _ _ h => h) ⟨_, HB⟩ (fun w' hS => EX.fieldAddr fld158_1 rfl) rfl ?_
    refine WH.hard 12 rfl (by kernel_rfl) ?_
    refine WL.load rfl (Rd.lineS ty52 (HB.blk 0 rfl) (by omega) hok.1) rfl ?_
    refine WL.done (WX.heldOn ⟨_, HB⟩ ?_)
    refine WH.take 13 rfl (by kernel_rfl) (by kernel_rfl) (by kernel_rfl) (fun _ _ _ h => h) ⟨_, HB⟩ (fun w' hS => EX.lenR isl52 rfl) rfl ?_
    refine WH.take 14 rfl (by kernel_rfl) (by kernel_rfl) (by kernel_rfl) (fun _ _ _ h => h) ⟨_, HB⟩ (fun w' hS => EX.idxSlc (k := k) slc156 rfl rfl (by rfl) (by omega)) rfl ?_
    refine WH.take 15 rfl (by kernel_rfl) (by kernel_rfl) (by kernel_rfl) (fun _ _ _ h => h) ⟨_, HB⟩ (fun w' hS => EX.fieldAddr fld158_2 rfl) rfl ?_
    refine WH.hard 16 rfl (by kernel_rfl) ?_
    refine WL.storeAt HB ty3 0 rfl rfl rfl rfl (by simp [Value.cells, Value.oneCell']) (by rw [lineL_size hok.1]; omega) ?_
    intro wx HB
    replace HB := HB.castH (H' := [(R.lb, .cells (lineL (linesC A) { l with mark := l.ps.length } r (linesC B ++ R.junk)) 158)]) (by
      have e1 := wr_lineM (a := linesC A) (l := l) (r := r) (c := linesC B ++ R.junk) (o := 0 + k * 11 + 10) (z := l.ps.length) (by omega) hok.1
      rw [← e1]; rfl)
    refine WL.done (WX.heldOn ⟨_, HB⟩ ?_)
    refine WH.done (by kernel_rfl) ?_
    replace H := H.back (N := []) 1 rfl HB rfl
    refine WX.next ?_
    refine WC.seq ?_
    refine WC.region ?_
    replace H := St.refocus (L := []) (l' := { l with mark := l.ps.length }) (r' := r) (mp := R.mp) (clk := R.clk) hX H
    have hok2 : (R.upd A B { l with mark := l.ps.length } r R.mp R.clk).ok := hm.ok.upd hX hA ⟨hok.1, hok.2.1, hok.2.2.1, Nat.le_refl _, hok.2.2.2.2⟩ hr hm.ok.map (keys_same hm.ok hget Iff.rfl)
    refine WL.move rfl rfl ?_
    refine WL.move rfl rfl ?_
    refine WL.build pla164 zer164 rfl rfl rfl ?_
    refine WL.call call106 rfl rfl ?_
    refine Calls.mono (note_any (R.upd A B { l with mark := l.ps.length } r R.mp R.clk) [3, (k : Int), 0, 0, 0, 0, 0, 0, 0, 0, 0, 0] rfl hsm _ hok2 (St.start H.nd H.sat)) ?_
    rintro _ wx ⟨er, rfl, hok3, Hc⟩
    refine ⟨_, rfl, ?_⟩
    replace H := H.callM (L := []) Hc
    refine (WL.done (WX.next ?_))
    refine WC.seq ?_
    refine WC.region ?_
    refine WL.assign rfl rfl ?_
    refine (WL.done (WX.next ?_))
    refine (WC.ret ?_)
    refine ret_one rfl rfl ?_
    have e1 : R.abs.has (k : Int) = true := by rw [abs_has]; exact hh
    refine ⟨(R.upd A B { l with mark := l.ps.length } r R.mp R.clk).noted [3, (k : Int), 0, 0, 0, 0, 0, 0, 0, 0, 0, 0] er, by rw [e1]; rfl, rfl, ?_, hok3, H⟩
    unfold PM.flush
    rw [e1, if_pos rfl, abs_noted, abs_upd hX hA, abs_line hget, Int.toNat_natCast]

theorem flush_any (R : RM) (n : Int) (hsm : R.evs.length < 1073741824) (w : World) (hm : MemIn w R) : Calls Tryd.prog 35 #[.pointer (some ⟨R.p, 0, none⟩), .int .i64 n] w fun e w' => ∃ R' : RM, e = .returned (.int .i64 (if R.abs.has n then 0 else 40)) ∧ R'.p = R.p ∧ R'.abs = R.abs.flush n ∧ R'.ok ∧ St w (R.hp.map Prod.fst) w' R'.hp :=
  CallsW.calls (flush_w R n hsm w hm)

theorem evict_any (R : RM) (n k : Int) (hsm : R.evs.length < 1073741824) (hps : ∀ x ∈ R.X, x.1.ps.length ≤ 1073741824) (w : World) (hm : MemIn w R) (hL : L64 w) : Calls Tryd.prog 40 #[.pointer (some ⟨R.p, 0, none⟩), .int .i64 n, .int .i64 k] w fun e w' => ∃ R' : RM, e = .returned (.int .i64 (R.abs.evictErr n k)) ∧ R'.p = R.p ∧ R'.abs = R.abs.evict n k ∧ R'.ok ∧ St w (R.hp.map Prod.fst) w' R'.hp := by
  refine calls_walk_n (args := [.pointer (some ⟨R.p, 0, none⟩), .int .i64 n, .int .i64 k]) Tryd.func40 rfl rfl rfl ?_
  have H := hm.start
  refine WC.seq ?_
  refine WC.region ?_
  refine WL.assign rfl rfl ?_
  refine (WL.done (WX.next ?_))
  refine WC.seq ?_
  refine WC.seq ?_
  refine WC.region ?_
  refine WL.move rfl rfl ?_
  refine WL.move rfl rfl ?_
  refine WL.call call101 rfl rfl ?_
  refine Calls.mono (has_any R _ _ hm) ?_
  rintro _ wx ⟨rfl, rfl⟩
  refine ⟨_, rfl, ?_⟩
  refine WL.notOp rfl rfl ?_
  refine (WL.done (WX.next ?_))
  refine WC.cond rfl (fun c1 => ?_) (fun c1 => ?_)
  ·
    have hh : pHas R n = false := by simpa only [Bool.not_eq_true'] using c1
    refine WC.seq ?_
    refine WC.region ?_
    refine WL.assign rfl rfl ?_
    refine (WL.done (WX.next ?_))
    refine (WC.ret (WX.then_ret ?_))
    refine ret_one rfl rfl ?_
    have e1 : R.abs.evictErr n k = 40 := by unfold PM.evictErr; rw [abs_has, hh]; rfl
    exact ⟨R, by rw [e1], rfl, by unfold PM.evict; rw [e1, if_neg (by decide)], hm.ok, H⟩
  ·
    have hh : pHas R n = true := by simpa only [Bool.not_eq_false'] using c1
    obtain ⟨hn0, hn1⟩ := pHas_iff.1 hh
    obtain ⟨j, rfl⟩ : ∃ j : Nat, n = (j : Int) := ⟨n.toNat, by omega⟩
    obtain ⟨A, l, r, B, hX, hA, hal, hok, hr, hget⟩ := hm.ok.at (k := j) (by omega)
    replace H := St.focus (L := []) hX H
    refine (WC.skip (WX.next ?_))
    refine WC.seq ?_
    refine WC.seq ?_
    refine WC.region ?_
    refine WL.move rfl rfl ?_
    refine WL.bin rfl rfl binv_lss rfl ?_
    refine WL.move rfl rfl ?_
    refine WL.splitD (t := 13) rfl (fun g1 => ?_) (fun g1 => ?_)
    ·
      refine WL.no rfl rfl rfl ?_
      refine WL.no rfl rfl rfl ?_
      refine WL.no rfl rfl rfl ?_
      refine WL.no rfl rfl rfl ?_
      refine WL.no rfl rfl rfl ?_
      refine WL.no rfl rfl rfl ?_
      refine WL.no rfl rfl rfl ?_
      refine WL.no rfl rfl rfl ?_
      refine WL.no rfl rfl rfl ?_
      refine WL.no rfl rfl rfl ?_
      refine WL.no rfl rfl rfl ?_
      refine WL.pickT rfl rfl rfl ?_
      refine (WL.done (WX.next ?_))
      refine WC.cond_true rfl (rfl) ?_
      refine WC.seq ?_
      refine WC.region ?_
      refine WL.assign rfl rfl ?_
      refine (WL.done (WX.next ?_))
      refine (WC.ret (WX.then_ret ?_))
      refine ret_one rfl rfl ?_
      have e1 : R.abs.evictErr (j : Int) k = 1 := by unfold PM.evictErr; rw [abs_has, hh, if_pos rfl, abs_line hget, if_pos (by omega)]
      exact ⟨R, by rw [e1], rfl, by unfold PM.evict; rw [e1, if_neg (by decide)], hm.ok, St.unfocus (L := []) hX H⟩
    ·
      refine WL.yes rfl rfl ?_
      refine WL.move rfl rfl ?_
      refine WL.yes rfl rfl ?_
      refine WL.move rfl rfl ?_
      refine WL.yes rfl rfl ?_
      refine WL.nilCheck rfl rfl ?_
      refine WL.yes rfl rfl ?_
      refine WL.fieldAddr fld161_0 rfl rfl ?_
      refine WL.yes rfl rfl ?_
      refine WL.load rfl (H.rd1 ty156 0 rfl rfl) rfl ?_
      refine WL.yes rfl rfl ?_
      refine WL.move rfl rfl ?_
      refine WL.yes rfl rfl ?_
      refine WL.idxSlc (k := j) slc156 rfl rfl (by rfl) (by omega) rfl ?_
      refine WL.yes rfl rfl ?_
      refine WL.fieldAddr fld158_1 rfl rfl ?_
      refine WL.yes rfl rfl ?_
      refine WL.load rfl (Rd.lineS ty52 (H.blk 1 rfl) (by omega) hok.1) rfl ?_
      refine WL.yes rfl rfl ?_
      refine WL.lenR isl52 rfl rfl ?_
      refine WL.yes rfl rfl ?_
      refine WL.bin rfl rfl binv_gtr rfl ?_
      refine WL.pickF rfl rfl rfl ?_
      refine (WL.done (WX.next ?_))
      refine WC.cond_dec rfl (fun c3 => ?_) (fun c3 => ?_)
      ·
        refine WC.seq ?_
        refine WC.region ?_
        refine WL.assign rfl rfl ?_
        refine (WL.done (WX.next ?_))
        refine (WC.ret (WX.then_ret ?_))
        refine ret_one rfl rfl ?_
        have e1 : R.abs.evictErr (j : Int) k = 1 := by unfold PM.evictErr; rw [abs_has, hh, if_pos rfl, abs_line hget, if_pos (by omega)]
        exact ⟨R, by rw [e1], rfl, by unfold PM.evict; rw [e1, if_neg (by decide)], hm.ok, St.unfocus (L := []) hX H⟩
      ·
        refine (WC.skip (WX.next ?_))
        refine WC.seq ?_
        refine WC.region ?_
        obtain ⟨kk, rfl⟩ : ∃ kk : Nat, k = (kk : Int) := ⟨k.toNat, by omega⟩
        refine WL.move rfl rfl ?_
        refine WL.move rfl rfl ?_
        refine WL.move rfl rfl ?_
        refine WL.call call107 rfl rfl ?_
        refine Calls.mono (settle_any _ _ _ _ _ _ _ _ _ _ _ l r _ _ j kk (by omega) hal hok hr (by omega) (hps (l, r) (List.mem_of_getElem? hget)) _ hL (n3_focus hm hX) (St.start H.nd H.sat)) ?_
        rintro _ wx ⟨r', rfl, hr', Hc⟩
        refine ⟨_, rfl, ?_⟩
        replace H := H.callM (L := []) Hc
        refine (WL.done (WX.next ?_))
        refine WC.seq ?_
        refine WC.region ?_
        rw [if_neg (by omega), if_neg (by omega)] at H
        replace H := St.refocus (L := []) hX H
        have hok2 : (R.upd A B (pSettle l kk) r' (pRest R.mp R.clk j (pSettle l kk).ps).1 (pRest R.mp R.clk j (pSettle l kk).ps).2).ok := hm.ok.upd hX hA (pSettle_ok hok) hr' (pRest_ok hm.ok.map) (fun x => pRest_keys hm.ok.map)
        refine WL.move rfl rfl ?_
        refine WL.move rfl rfl ?_
        refine WL.move rfl rfl ?_
        refine WL.build pla164 zer164 rfl rfl rfl ?_
        refine WL.call call106 rfl rfl ?_
        refine Calls.mono (note_any (R.upd A B (pSettle l kk) r' (pRest R.mp R.clk j (pSettle l kk).ps).1 (pRest R.mp R.clk j (pSettle l kk).ps).2) [5, (j : Int), (kk : Int), 0, 0, 0, 0, 0, 0, 0, 0, 0] rfl hsm _ hok2 (St.start H.nd H.sat)) ?_
        rintro _ wx ⟨er, rfl, hok3, Hc⟩
        refine ⟨_, rfl, ?_⟩
        replace H := H.callM (L := []) Hc
        refine (WL.done (WX.next ?_))
        refine WC.seq ?_
        refine WC.region ?_
        refine WL.assign rfl rfl ?_
        refine (WL.done (WX.next ?_))
        refine (WC.ret ?_)
        refine ret_one rfl rfl ?_
        have e1 : R.abs.evictErr (j : Int) (kk : Int) = 0 := by unfold PM.evictErr; rw [abs_has, hh, if_pos rfl, abs_line hget, if_neg (by omega)]
        refine ⟨(R.upd A B (pSettle l kk) r' (pRest R.mp R.clk j (pSettle l kk).ps).1 (pRest R.mp R.clk j (pSettle l kk).ps).2).noted [5, (j : Int), (kk : Int), 0, 0, 0, 0, 0, 0, 0, 0, 0] er, by rw [e1], rfl, ?_, hok3, H⟩
        unfold PM.evict
        rw [e1, if_pos rfl, abs_noted, abs_upd hX hA, abs_line hget, Int.toNat_natCast, Int.toNat_natCast]

end Go.Proofs.YtkncbggnaobgeaaDoor
