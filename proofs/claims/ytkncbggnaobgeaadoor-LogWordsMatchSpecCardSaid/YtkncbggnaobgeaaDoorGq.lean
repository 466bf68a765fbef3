/- Texts of this session, laid together: Logd, Logk, Lg1, Lg2, Lg3, Card4. -/
import Derived.Test.YtkncbggnaobgeaaDoorGu
import Derived.Test.YtkncbggnaobgeaaDoorGh
import Derived.Test.YtkncbggnaobgeaaDoorGf
import Derived.Test.YtkncbggnaobgeaaDoorGl

/- What the functions of the log compute, in plain Lean. -/
namespace Go.Proofs.YtkncbggnaobgeaaDoor
set_option linter.unusedVariables false
set_option maxRecDepth 100000

/-- A layout for which the log is specified: its lines, the log's first line, its lines. -/
structure LR (ls : List Int) : Prop where
  len : ls.length = 8
  a0 : 0 ≤ ls.getD 1 0
  b2 : 2 ≤ ls.getD 2 0
  n : ls.getD 0 0 ≤ 4096
  ab : ls.getD 1 0 + ls.getD 2 0 ≤ ls.getD 0 0
def lRight (ls : List Int) : Bool := decide (0 ≤ ls.getD 1 0 ∧ 2 ≤ ls.getD 2 0 ∧ ls.getD 0 0 ≤ 4096 ∧ ls.getD 1 0 ≤ 4096 ∧ ls.getD 2 0 ≤ 4096 ∧ ls.getD 1 0 + ls.getD 2 0 ≤ ls.getD 0 0)
theorem LR.of {ls : List Int} (h8 : ls.length = 8) (h : lRight ls = true) : LR ls := by
  unfold lRight at h
  have h := of_decide_eq_true h
  exact ⟨h8, h.1, h.2.1, h.2.2.1, h.2.2.2.2.2⟩
/-- A record: its number and its entries, each a place and a value. -/
abbrev Rc := Int × List (List Int)
def eOk (ls e : List Int) : Bool := decide ((0 ≤ e.getD 0 0 ∧ e.getD 0 0 < 8 * ls.getD 0 0) ∧ (0 ≤ e.getD 1 0 ∧ e.getD 1 0 ≤ 1099511627775) ∧ (8 * ls.getD 1 0 ≤ e.getD 0 0 ∧ e.getD 0 0 < 8 * (ls.getD 1 0 + ls.getD 2 0) → e.getD 0 0 = 8 * ls.getD 1 0 + 1))
def rOk (ls : List Int) (r : Rc) : Bool := decide (1 ≤ r.1 ∧ r.1 ≤ 1073741824) && r.2.all (eOk ls)
def hdE (w : Int) : Int := if isWord w then w % 1048576 else 0
def hdC (w : Int) : Int := if isWord w then w / 1048576 else 0
/-- The words of a record but the last one. -/
def encB (r : Rc) (ep : Int) : List Int := [(r.2.length : Int) * 1048576 + ep, r.1] ++ r.2.flatten
def lenc (r : Rc) (ep : Int) : List Int := encB r ep ++ [crc (encB r ep)]
def rsize (r : Rc) : Nat := 3 + 2 * r.2.length
/-- n pairs of words, from the third one on. -/
def pairs (ws : List Int) (n : Nat) : List (List Int) := (List.range n).map fun k => [ws.getD (2 + 2 * k) 0, ws.getD (3 + 2 * k) 0]
/-- How many words the record at the beginning of some words has. -/
def decN (ws : List Int) : Nat := 3 + 2 * (hdC (ws.getD 0 0)).toNat
def decOk (ws : List Int) (ep : Int) : Bool :=
  decide (3 ≤ ws.length) && isWord (ws.getD 0 0) && decide (hdE (ws.getD 0 0) = ep) && decide (decN ws ≤ ws.length) && decide (1 ≤ ws.getD 1 0 ∧ ws.getD 1 0 ≤ 1073741824) &&
    (ws.take (decN ws)).all isWord && decide (ws.getD (decN ws - 1) 0 = crc (ws.take (decN ws - 1)))
def decR (ws : List Int) : Rc := (ws.getD 1 0, pairs ws (hdC (ws.getD 0 0)).toNat)
theorem hdE_bd (w : Int) : 0 ≤ hdE w ∧ hdE w ≤ 1048575 := by
  unfold hdE
  split <;> omega
theorem hdC_bd (w : Int) : 0 ≤ hdC w ∧ hdC w ≤ 1048575 := by
  unfold hdC
  split
  · rename_i h
    have := isWord_iff.1 h
    omega
  · omega
theorem hd_of {w : Int} (h : 0 ≤ w ∧ w ≤ 1099511627775) : hdE w = w % 1048576 ∧ hdC w = w / 1048576 := by
  unfold hdE hdC
  rw [if_pos (isWord_iff.2 h), if_pos (isWord_iff.2 h)]
  exact ⟨rfl, rfl⟩
theorem hd_no {w : Int} (h : ¬ (0 ≤ w ∧ w ≤ 1099511627775)) : hdE w = 0 ∧ hdC w = 0 := by
  unfold hdE hdC
  rw [if_neg (fun h' => h (isWord_iff.1 h')), if_neg (fun h' => h (isWord_iff.1 h'))]
  exact ⟨rfl, rfl⟩
theorem pairs_len (ws : List Int) (n : Nat) : (pairs ws n).length = n := by simp [pairs]
theorem pairs_succ (ws : List Int) (n : Nat) : pairs ws (n + 1) = pairs ws n ++ [[ws.getD (2 + 2 * n) 0, ws.getD (3 + 2 * n) 0]] := by
  simp [pairs, List.range_succ]
theorem pairs_two (ws : List Int) (n : Nat) : ∀ r ∈ pairs ws n, r.length = 2 := by
  intro r hr
  obtain ⟨k, _, rfl⟩ := List.mem_map.1 hr
  rfl
theorem flat_two : ∀ {es : List (List Int)}, (∀ e ∈ es, e.length = 2) → es.flatten.length = 2 * es.length
  | [], _ => rfl
  | e :: es, h => by
    have h1 := h e List.mem_cons_self
    have h2 := flat_two (es := es) (fun x hx => h x (List.mem_cons_of_mem _ hx))
    simp only [List.flatten_cons, List.length_append, List.length_cons]
    omega
theorem encB_len {r : Rc} {ep : Int} (h : ∀ e ∈ r.2, e.length = 2) : (encB r ep).length = 2 + 2 * r.2.length := by
  unfold encB
  rw [List.length_append, flat_two h]
  rfl
theorem lenc_len {r : Rc} {ep : Int} (h : ∀ e ∈ r.2, e.length = 2) : (lenc r ep).length = rsize r := by
  unfold lenc rsize
  rw [List.length_append, encB_len h, List.length_singleton]
  omega
theorem all_succ {α : Type} {p : α → Bool} {xs : List α} {g : Nat} (h : g < xs.length) (h1 : (xs.take g).all p = true) (h2 : p xs[g] = true) : (xs.take (g + 1)).all p = true := by
  rw [List.take_succ_eq_append_getElem h, List.all_append, h1]
  simp [h2]
theorem all_no {α : Type} {p : α → Bool} {xs : List α} {g : Nat} (h : g < xs.length) (h2 : ¬ p xs[g] = true) : xs.all p = false :=
  Bool.eq_false_iff.2 fun h3 => h2 (List.all_eq_true.1 h3 _ (List.getElem_mem h))
theorem all_end {α : Type} {p : α → Bool} {xs : List α} {m : Nat} (h : xs.length ≤ m) (h1 : (xs.take m).all p = true) : xs.all p = true := by
  rwa [List.take_of_length_le h] at h1
theorem eOk_iff {ls e : List Int} : eOk ls e = true ↔ (0 ≤ e.getD 0 0 ∧ e.getD 0 0 < 8 * ls.getD 0 0) ∧ (0 ≤ e.getD 1 0 ∧ e.getD 1 0 ≤ 1099511627775) ∧ (8 * ls.getD 1 0 ≤ e.getD 0 0 ∧ e.getD 0 0 < 8 * (ls.getD 1 0 + ls.getD 2 0) → e.getD 0 0 = 8 * ls.getD 1 0 + 1) := decide_eq_true_iff
theorem rOk_iff {ls : List Int} {r : Rc} : rOk ls r = true ↔ (1 ≤ r.1 ∧ r.1 ≤ 1073741824) ∧ r.2.all (eOk ls) = true := by
  unfold rOk
  rw [Bool.and_eq_true, decide_eq_true_iff]
theorem rOk_ent {ls : List Int} {num : Int} {es : List (List Int)} (h : es.all (eOk ls) = false) : rOk ls (num, es) = false :=
  Bool.eq_false_iff.2 fun h3 => by have := (rOk_iff.1 h3).2; rw [h] at this; cases this
theorem decOk_iff {ws : List Int} {ep : Int} : decOk ws ep = true ↔ 3 ≤ ws.length ∧ isWord (ws.getD 0 0) = true ∧ hdE (ws.getD 0 0) = ep ∧ decN ws ≤ ws.length ∧ (1 ≤ ws.getD 1 0 ∧ ws.getD 1 0 ≤ 1073741824) ∧ (ws.take (decN ws)).all isWord = true ∧ ws.getD (decN ws - 1) 0 = crc (ws.take (decN ws - 1)) := by
  unfold decOk
  simp only [Bool.and_eq_true, decide_eq_true_eq, and_assoc]
/-- What Decode returns. -/
def decV (ws : List Int) (ep : Int) : Rc × Int × Int := if decOk ws ep then (decR ws, (decN ws : Int), 0) else ((0, []), 0, 3)
theorem dec_no {ws : List Int} {ep : Int} (h : decOk ws ep = false) : decV ws ep = ((0, []), 0, 3) := by unfold decV; rw [h]; rfl
theorem dec_yes {ws : List Int} {ep : Int} (h : decOk ws ep = true) : decV ws ep = (decR ws, (decN ws : Int), 0) := by unfold decV; rw [h]; rfl
theorem decN_of {ws : List Int} {n : Nat} (h : hdC (ws.getD 0 0) = (n : Int)) : decN ws = 3 + 2 * n := by unfold decN; rw [h]; rfl
theorem decR_of {ws : List Int} {n : Nat} (h : hdC (ws.getD 0 0) = (n : Int)) : decR ws = (ws.getD 1 0, pairs ws n) := by unfold decR; rw [h]; rfl
end Go.Proofs.YtkncbggnaobgeaaDoor

/- Words, entries and records that lie in memory. -/
namespace Go.Proofs.YtkncbggnaobgeaaDoor
open Go.RowKit
set_option linter.unusedVariables false
set_option linter.unusedSimpArgs false
set_option maxRecDepth 100000

section
variable {P : Program} {w0 w w' wb : World} {S : List Nat} {H L : Hp}
theorem IntsIn.blk {A : Option Addr} {xs : List Int} (h : IntsIn w A xs) (hl : 0 < xs.length) : ∃ b o cs t fr, A = some ⟨b, o, none⟩ ∧ w.heap[b]? = some (.cells cs t fr) ∧ ∀ j, j < xs.length → cs[o + j]? = some (.int .i64 (xs.getD j 0)) := by
  rcases h with h | ⟨b, o, cs, t, fr, h1, h2, h3⟩
  · rw [h] at hl; cases hl
  · refine ⟨b, o, cs, t, fr, h1, h2, fun j hj => h3 j _ ?_⟩
    rw [List.getD, List.getElem?_eq_getElem hj]; rfl
theorem IntsIn.nth {A : Option Addr} {xs : List Int} {b o : Nat} (h : IntsIn w A xs) (hA : A = some ⟨b, o, none⟩) {T : TypeId} {k : Nat} (hT : tyB P T false k = true) {i : Nat} (hi : i < xs.length) : Rd P w T ⟨b, o + i, none⟩ (.int .i64 (xs.getD i 0)) :=
  Rd.ints hT h (by rw [List.getD, List.getElem?_eq_getElem hi]; rfl) hA
theorem IntsIn.take {A : Option Addr} {xs : List Int} (h : IntsIn w A xs) (n : Nat) : IntsIn w A (xs.take n) := by
  rcases h with h | ⟨b, o, cs, t, fr, h1, h2, h3⟩
  · exact .inl (by rw [h]; simp)
  · refine .inr ⟨b, o, cs, t, fr, h1, h2, fun j u hj => h3 j u ?_⟩
    rw [List.getElem?_take] at hj
    split at hj
    · exact hj
    · cases hj
theorem IntsIn.drop {b o cap : Nat} {xs : List Int} (h : IntsIn w (some ⟨b, o, none⟩) xs) (n : Nat) (hc : xs.length ≤ cap) (hn : n ≤ xs.length) : IntsIn w (some (if cap = n then ⟨b, o, none⟩ else ⟨b, o + n * 1, none⟩)) (xs.drop n) := by
  split
  · exact .inl (List.drop_of_length_le (by omega))
  · rcases h with h | ⟨b', o', cs, t, fr, h1, h2, h3⟩
    · exact .inl (by rw [h]; simp)
    · cases h1
      refine .inr ⟨b, o + n * 1, cs, t, fr, rfl, h2, fun j u hj => ?_⟩
      rw [Nat.mul_one, Nat.add_assoc]
      exact h3 _ u (by rw [List.getElem?_drop] at hj; exact hj)
theorem IntsIn.sx {X : List Nat} {A : Option Addr} {xs : List Int} (h : IntsIn w A xs) (hH : St w [] wb H) (hX : ∀ b ∈ X, w.heap.size ≤ b) (hS : SX wb X w') : IntsIn w' A xs := by
  rcases h with h | ⟨b, o, cs, t, fr, h1, h2, h3⟩
  · exact .inl h
  · exact .inr ⟨b, o, cs, t, fr, h1, hS.block (hH.oldBlock h2 (by simp)) (fun hb => Nat.not_lt.2 (hX b hb) (lt_of_some h2)), h3⟩
/-- Blocks that a call made itself are none of those that were there. -/
theorem St.new (h : St w0 [] w H) {X : List Nat} (hs : ∀ b ∈ X, b ∈ H.map Prod.fst) : ∀ b ∈ X, w0.heap.size ≤ b := by
  intro b hb
  obtain ⟨p, hp, rfl⟩ := List.mem_map.1 (hs b hb)
  rcases h.own p hp with h1 | h1
  · cases h1
  · exact h1
theorem IntsIn.row {r : Row} {n : Nat} {T : TypeId} {xs : List Int} (hr : r.ok 1 n (intsC xs)) (hs : ∀ q ∈ r.hp T, w.heap[q.1]? = some q.2) : ∃ A cap, r.val n = .slice A n cap ∧ IntsIn w A xs ∧ n ≤ cap := by
  have hnil : intsC xs = [] → xs = [] := fun h => by cases xs with
    | nil => rfl
    | cons x xs => cases h
  cases r with
  | none => exact ⟨none, 0, rfl, .inl (hnil hr.2), Nat.le_of_eq hr.1⟩
  | nul a => exact ⟨some a, 0, rfl, .inl (hnil hr.2), Nat.le_of_eq hr.1⟩
  | some g cap cur =>
    refine ⟨_, _, rfl, .inr ⟨g, 0, cur, T, _, rfl, hs _ List.mem_cons_self, fun j u hj => ?_⟩, hr.2.1⟩
    rw [Nat.zero_add]
    exact Row.ok_get hr (by unfold intsC; rw [List.getElem?_map, hj]; rfl)
theorem IntsIn.cells {g : Nat} {t : TypeId} {xs : List Int} (h : w.heap[g]? = some (.cells (arrC xs) t)) : IntsIn w (some ⟨g, 0, none⟩) xs :=
  .inr ⟨g, 0, _, t, _, rfl, h, fun j u hj => by rw [Nat.zero_add, arrC_get, hj]; rfl⟩
theorem intsC_append (a b : List Int) : intsC (a ++ b) = intsC a ++ intsC b := by simp [intsC]
theorem intsC_len (a : List Int) : (intsC a).length = a.length := by simp [intsC]

theorem St.notL {M : Hp} (h : St w0 S w (L ++ M)) {p : Nat × Obj} (hp : p ∈ L) : p.1 ∉ M.map Prod.fst := fun hm => by
  have hnd := h.nd
  rw [List.map_append, List.nodup_append] at hnd
  exact hnd.2.2 _ (List.mem_map.2 ⟨p, hp, rfl⟩) _ hm rfl
/-- A list of records that lies in memory. -/
def RecsIn (w : World) (A : Option Addr) (rs : List Rc) : Prop := rs = [] ∨ ∃ b o cs t fr, A = some ⟨b, o, none⟩ ∧ w.heap[b]? = some (.cells cs t fr) ∧
  ∀ j r, rs[j]? = some r → cs[o + j * 2]? = some (.int .i64 r.1) ∧ ∃ A' cap, cs[o + j * 2 + 1]? = some (.slice A' r.2.length cap) ∧ RowsIn w A' 2 r.2
theorem RecsIn.keep {A : Option Addr} {rs : List Rc} (h : RecsIn w0 A rs) (H : St w0 [] w L) : RecsIn w A rs := by
  rcases h with h | ⟨b, o, cs, t, fr, h1, h2, h3⟩
  · exact .inl h
  · refine .inr ⟨b, o, cs, t, fr, h1, H.oldBlock h2 (by simp), fun j r hj => ?_⟩
    obtain ⟨k1, A', cap, k2, k3⟩ := h3 j r hj
    exact ⟨k1, A', cap, k2, k3.keep H⟩
theorem RecsIn.at {A : Option Addr} {rs : List Rc} (h : RecsIn w A rs) {g : Nat} (hg : g < rs.length) : ∃ b o cs t fr, A = some ⟨b, o, none⟩ ∧ w.heap[b]? = some (.cells cs t fr) ∧ cs[o + g * 2]? = some (.int .i64 (rs[g]).1) ∧
    ∃ A' cap, cs[o + g * 2 + 1]? = some (.slice A' (rs[g]).2.length cap) ∧ RowsIn w A' 2 (rs[g]).2 := by
  rcases h with h | ⟨b, o, cs, t, fr, h1, h2, h3⟩
  · subst h; cases hg
  · obtain ⟨k1, k2⟩ := h3 g _ (List.getElem?_eq_getElem hg)
    exact ⟨b, o, cs, t, fr, h1, h2, k1, k2⟩
end
end Go.Proofs.YtkncbggnaobgeaaDoor

/- Walks of functions of the program; printed by a program of this session (walk.py) out of hand-written hints. -/
namespace Go.Proofs.YtkncbggnaobgeaaDoor
open Go.RowKit
set_option linter.unusedVariables false
set_option linter.unusedSimpArgs false
set_option maxRecDepth 100000

section
variable {P : Program} {w : World}
theorem Rd.fldA {T : TypeId} {k b : Nat} {ws : List Int} {t : TypeId} {fr : Nat × Nat} (o : Nat) (hT : tyB P T false k = true) (h : w.heap[b]? = some (.cells (arrC ws) t fr)) (hl : o < ws.length) : Rd P w T ⟨b, o, none⟩ (.int .i64 (ws.getD o 0)) :=
  Rd.one hT (by rw [cell_of h]; exact arrC_get_lt hl)
/-- A record as a value. -/
def recV (r : Rc) (A : Option Addr) (cap : Nat) : Array Value := #[.int .i64 r.1, .slice A r.2.length cap]
/-- The places of entries are ints. -/
def RngE (es : List (List Int)) : Prop := ∀ e ∈ es, -9223372036854775808 ≤ e.getD 0 0 ∧ e.getD 0 0 ≤ 9223372036854775807
theorem len2E {v : List Int} (h : v.length = 2) : v = [v.getD 0 0, v.getD 1 0] := by
  match v, h with
  | [a, b], _ => rfl
end

theorem lword_any (x : Int) (w : World) : Calls Tryd.prog 152 #[.int .i64 x] w fun e w' => e = .returned (.bool (isWord x)) ∧ w' = w := by
  refine calls_walk_n (args := [.int .i64 x]) Tryd.func152 rfl rfl rfl ?_
  refine WC.seq ?_
  refine WC.region ?_
  refine WL.assign rfl rfl ?_
  refine (WL.done (WX.next ?_))
  refine WC.seq ?_
  refine WC.region ?_
  refine WL.move rfl rfl ?_
  refine WL.bin rfl rfl binv_geq rfl ?_
  refine WL.move rfl rfl ?_
  first | refine WL.splitD (t := 5) rfl (fun g1 => ?_) (fun g1 => ?_) | refine WL.split (t := 5) rfl (fun g1 => ?_) (fun g1 => ?_)
  ·
    refine WL.yes rfl rfl ?_
    refine WL.move rfl rfl ?_
    refine WL.yes rfl rfl ?_
    refine WL.bin rfl rfl binv_leq rfl ?_
    refine WL.pickT rfl rfl rfl ?_
    refine WL.assign rfl rfl ?_
    refine (WL.done (WX.next ?_))
    refine (WC.ret ?_)
    refine ret_one rfl rfl ?_
    exact ⟨by congr 2; simp [isWord]; omega, rfl⟩
  ·
    refine WL.no rfl rfl rfl ?_
    refine WL.no rfl rfl rfl ?_
    refine WL.pickF rfl rfl rfl ?_
    refine WL.assign rfl rfl ?_
    refine (WL.done (WX.next ?_))
    refine (WC.ret ?_)
    refine ret_one rfl rfl ?_
    exact ⟨by congr 2; simp [isWord]; omega, rfl⟩

theorem reflword_any (x : Int) (w : World) : Calls Tryd.prog 153 #[.int .i64 x] w fun e w' => e = .returned (.bool (isWord x)) ∧ w' = w := by
  refine calls_walk_n (args := [.int .i64 x]) Tryd.func153 rfl rfl rfl ?_
  refine WC.seq ?_
  refine WC.region ?_
  refine WL.assign rfl rfl ?_
  refine (WL.done (WX.next ?_))
  refine WC.seq ?_
  refine WC.region ?_
  refine WL.move rfl rfl ?_
  refine WL.bin rfl rfl binv_geq rfl ?_
  refine WL.move rfl rfl ?_
  first | refine WL.splitD (t := 5) rfl (fun g1 => ?_) (fun g1 => ?_) | refine WL.split (t := 5) rfl (fun g1 => ?_) (fun g1 => ?_)
  ·
    refine WL.yes rfl rfl ?_
    refine WL.move rfl rfl ?_
    refine WL.yes rfl rfl ?_
    refine WL.bin rfl rfl binv_leq rfl ?_
    refine WL.pickT rfl rfl rfl ?_
    refine WL.assign rfl rfl ?_
    refine (WL.done (WX.next ?_))
    refine (WC.ret ?_)
    refine ret_one rfl rfl ?_
    exact ⟨by congr 2; simp [isWord]; omega, rfl⟩
  ·
    refine WL.no rfl rfl rfl ?_
    refine WL.no rfl rfl rfl ?_
    refine WL.pickF rfl rfl rfl ?_
    refine WL.assign rfl rfl ?_
    refine (WL.done (WX.next ?_))
    refine (WC.ret ?_)
    refine ret_one rfl rfl ?_
    exact ⟨by congr 2; simp [isWord]; omega, rfl⟩

theorem headAt_any (ls : List Int) (hR : LR ls) (w : World) : Calls Tryd.prog 155 #[arr ls] w fun e w' => e = .returned (.int .i64 (8 * ls.getD 1 0)) ∧ St w [] w' [] := by
  have hR1 := hR.a0
  have hR2 := hR.b2
  have hR3 := hR.n
  have hR4 := hR.ab
  refine calls_walk_n (args := [arr ls]) Tryd.func155 rfl rfl rfl ?_
  have H := St.refl w
  refine WC.seq ?_
  refine WC.region ?_
  refine WL.boxArr H rfl rfl ?_
  intro b1 wx hb1 hge1 H
  refine WL.assign rfl rfl ?_
  refine (WL.done (WX.next ?_))
  refine WC.seq ?_
  refine WC.region ?_
  refine WL.fieldAddr fld95_1 rfl rfl ?_
  first | refine WL.load rfl (H.rdElt (o := 0) ty3 0 rfl (by rw [hR.len]; decide)) rfl ?_ | refine WL.load rfl (H.rdElt (o := 1) ty3 0 rfl (by rw [hR.len]; decide)) rfl ?_ | refine WL.load rfl (H.rdElt (o := 2) ty3 0 rfl (by rw [hR.len]; decide)) rfl ?_ | refine WL.load rfl (H.rd1 ty3 0 rfl rfl) rfl ?_ | refine WL.load rfl (H.rdA ty3 0 rfl (by first | decide | exact Nat.le_refl _)) rfl ?_
  refine WL.bin rfl rfl (imul (by omega) (by omega)) rfl ?_
  refine WL.assign rfl rfl ?_
  refine (WL.done (WX.next ?_))
  refine (WC.ret ?_)
  refine ret_one rfl rfl ?_
  exact ⟨rfl, H.weaken (List.nil_sublist _)⟩

theorem stampAt_any (ls : List Int) (hR : LR ls) (w : World) : Calls Tryd.prog 83 #[arr ls] w fun e w' => e = .returned (.int .i64 (8 * ls.getD 1 0 + 1)) ∧ St w [] w' [] := by
  have hR1 := hR.a0
  have hR2 := hR.b2
  have hR3 := hR.n
  have hR4 := hR.ab
  refine calls_walk_n (args := [arr ls]) Tryd.func83 rfl rfl rfl ?_
  have H := St.refl w
  refine WC.seq ?_
  refine WC.region ?_
  refine WL.boxArr H rfl rfl ?_
  intro b1 wx hb1 hge1 H
  refine WL.assign rfl rfl ?_
  refine (WL.done (WX.next ?_))
  refine WC.seq ?_
  refine WC.region ?_
  refine WL.load rfl (H.rdArr ty95 0 rfl hR.len) rfl ?_
  refine WL.call call155 rfl rfl ?_
  refine Calls.mono (headAt_any ls hR _) ?_
  rintro _ wx ⟨rfl, Hc⟩
  refine ⟨_, rfl, ?_⟩
  replace H := H.call0 Hc
  refine WL.bin rfl rfl (iadd (by omega) (by omega)) rfl ?_
  refine WL.assign rfl rfl ?_
  refine (WL.done (WX.next ?_))
  refine (WC.ret ?_)
  refine ret_one rfl rfl ?_
  exact ⟨rfl, H.weaken (List.nil_sublist _)⟩

theorem refStampAt_any (ls : List Int) (hR : LR ls) (w : World) : Calls Tryd.prog 84 #[arr ls] w fun e w' => e = .returned (.int .i64 (8 * ls.getD 1 0 + 1)) ∧ St w [] w' [] := by
  have hR1 := hR.a0
  have hR2 := hR.b2
  have hR3 := hR.n
  have hR4 := hR.ab
  refine calls_walk_n (args := [arr ls]) Tryd.func84 rfl rfl rfl ?_
  have H := St.refl w
  refine WC.seq ?_
  refine WC.region ?_
  refine WL.boxArr H rfl rfl ?_
  intro b1 wx hb1 hge1 H
  refine WL.assign rfl rfl ?_
  refine (WL.done (WX.next ?_))
  refine WC.seq ?_
  refine WC.region ?_
  refine WL.fieldAddr fld95_1 rfl rfl ?_
  first | refine WL.load rfl (H.rdElt (o := 0) ty3 0 rfl (by rw [hR.len]; decide)) rfl ?_ | refine WL.load rfl (H.rdElt (o := 1) ty3 0 rfl (by rw [hR.len]; decide)) rfl ?_ | refine WL.load rfl (H.rdElt (o := 2) ty3 0 rfl (by rw [hR.len]; decide)) rfl ?_ | refine WL.load rfl (H.rd1 ty3 0 rfl rfl) rfl ?_ | refine WL.load rfl (H.rdA ty3 0 rfl (by first | decide | exact Nat.le_refl _)) rfl ?_
  refine WL.bin rfl rfl (imul (by omega) (by omega)) rfl ?_
  refine WL.bin rfl rfl (iadd (by omega) (by omega)) rfl ?_
  refine WL.assign rfl rfl ?_
  refine (WL.done (WX.next ?_))
  refine (WC.ret ?_)
  refine ret_one rfl rfl ?_
  exact ⟨rfl, H.weaken (List.nil_sublist _)⟩

theorem capacity_any (ls : List Int) (hR : LR ls) (w : World) : Calls Tryd.prog 81 #[arr ls] w fun e w' => e = .returned (.int .i64 (8 * (ls.getD 2 0 - 1))) ∧ St w [] w' [] := by
  have hR1 := hR.a0
  have hR2 := hR.b2
  have hR3 := hR.n
  have hR4 := hR.ab
  refine calls_walk_n (args := [arr ls]) Tryd.func81 rfl rfl rfl ?_
  have H := St.refl w
  refine WC.seq ?_
  refine WC.region ?_
  refine WL.boxArr H rfl rfl ?_
  intro b1 wx hb1 hge1 H
  refine WL.assign rfl rfl ?_
  refine (WL.done (WX.next ?_))
  refine WC.seq ?_
  refine WC.region ?_
  refine WL.fieldAddr fld95_2 rfl rfl ?_
  first | refine WL.load rfl (H.rdElt (o := 0) ty3 0 rfl (by rw [hR.len]; decide)) rfl ?_ | refine WL.load rfl (H.rdElt (o := 1) ty3 0 rfl (by rw [hR.len]; decide)) rfl ?_ | refine WL.load rfl (H.rdElt (o := 2) ty3 0 rfl (by rw [hR.len]; decide)) rfl ?_ | refine WL.load rfl (H.rd1 ty3 0 rfl rfl) rfl ?_ | refine WL.load rfl (H.rdA ty3 0 rfl (by first | decide | exact Nat.le_refl _)) rfl ?_
  refine WL.bin rfl rfl (isub (by omega) (by omega)) rfl ?_
  refine WL.bin rfl rfl (imul (by omega) (by omega)) rfl ?_
  refine WL.assign rfl rfl ?_
  refine (WL.done (WX.next ?_))
  refine (WC.ret ?_)
  refine ret_one rfl rfl ?_
  exact ⟨rfl, H.weaken (List.nil_sublist _)⟩

theorem refCapacity_any (ls : List Int) (hR : LR ls) (w : World) : Calls Tryd.prog 82 #[arr ls] w fun e w' => e = .returned (.int .i64 (8 * (ls.getD 2 0 - 1))) ∧ St w [] w' [] := by
  have hR1 := hR.a0
  have hR2 := hR.b2
  have hR3 := hR.n
  have hR4 := hR.ab
  refine calls_walk_n (args := [arr ls]) Tryd.func82 rfl rfl rfl ?_
  have H := St.refl w
  refine WC.seq ?_
  refine WC.region ?_
  refine WL.boxArr H rfl rfl ?_
  intro b1 wx hb1 hge1 H
  refine WL.assign rfl rfl ?_
  refine (WL.done (WX.next ?_))
  refine WC.seq ?_
  refine WC.region ?_
  refine WL.fieldAddr fld95_2 rfl rfl ?_
  first | refine WL.load rfl (H.rdElt (o := 0) ty3 0 rfl (by rw [hR.len]; decide)) rfl ?_ | refine WL.load rfl (H.rdElt (o := 1) ty3 0 rfl (by rw [hR.len]; decide)) rfl ?_ | refine WL.load rfl (H.rdElt (o := 2) ty3 0 rfl (by rw [hR.len]; decide)) rfl ?_ | refine WL.load rfl (H.rd1 ty3 0 rfl rfl) rfl ?_ | refine WL.load rfl (H.rdA ty3 0 rfl (by first | decide | exact Nat.le_refl _)) rfl ?_
  refine WL.bin rfl rfl (isub (by omega) (by omega)) rfl ?_
  refine WL.bin rfl rfl (imul (by omega) (by omega)) rfl ?_
  refine WL.assign rfl rfl ?_
  refine (WL.done (WX.next ?_))
  refine (WC.ret ?_)
  refine ret_one rfl rfl ?_
  exact ⟨rfl, H.weaken (List.nil_sublist _)⟩

theorem head_any (n : Int) (w : World) : Calls Tryd.prog 72 #[.int .i64 n] w fun e w' => e = .returned (.tuple #[.int .i64 (hdE n), .int .i64 (hdC n)]) ∧ St w [] w' [] := by
  refine calls_walk_n (args := [.int .i64 n]) Tryd.func72 rfl rfl rfl ?_
  have H := St.refl w
  refine WC.seq ?_
  refine WC.region ?_
  refine WL.assign rfl rfl ?_
  refine WL.assign rfl rfl ?_
  refine (WL.done (WX.next ?_))
  refine WC.seq ?_
  refine WC.seq ?_
  refine WC.region ?_
  refine WL.move rfl rfl ?_
  refine WL.call call152 rfl rfl ?_
  refine Calls.mono (lword_any n _) ?_
  rintro _ wx ⟨rfl, rfl⟩
  refine ⟨_, rfl, ?_⟩
  refine WL.notOp rfl rfl ?_
  refine (WL.done (WX.next ?_))
  first | refine WC.cond_dec rfl (fun c1 => ?_) (fun c1 => ?_) | refine WC.cond rfl (fun c1 => ?_) (fun c1 => ?_)
  ·
    have hn : ¬ (0 ≤ n ∧ n ≤ 1099511627775) := fun h => by have h2 := isWord_iff.2 h; simp [h2] at c1
    refine WC.seq ?_
    refine WC.region ?_
    refine WL.assign rfl rfl ?_
    refine WL.assign rfl rfl ?_
    refine (WL.done (WX.next ?_))
    refine (WC.ret (WX.then_ret ?_))
    refine ret_two rfl rfl rfl ?_
    rw [(hd_no hn).1, (hd_no hn).2]
    exact ⟨rfl, H.weaken (List.nil_sublist _)⟩
  ·
    have hn : 0 ≤ n ∧ n ≤ 1099511627775 := isWord_iff.1 (by simpa using c1)
    refine (WC.skip (WX.next ?_))
    refine WC.seq ?_
    refine WC.region ?_
    refine WL.move rfl rfl ?_
    refine WL.bin rfl rfl (iandm (k := 20) (by decide) rfl) rfl ?_
    refine WL.move rfl rfl ?_
    refine WL.bin rfl rfl (ishr (m := 20) rfl (by decide) hn.1) rfl ?_
    refine WL.assign rfl rfl ?_
    refine WL.assign rfl rfl ?_
    refine (WL.done (WX.next ?_))
    refine (WC.ret ?_)
    refine ret_two rfl rfl rfl ?_
    rw [(hd_of hn).1, (hd_of hn).2]
    exact ⟨rfl, H.weaken (List.nil_sublist _)⟩

theorem refHead_any (n : Int) (w : World) : Calls Tryd.prog 73 #[.int .i64 n] w fun e w' => e = .returned (.tuple #[.int .i64 (hdE n), .int .i64 (hdC n)]) ∧ St w [] w' [] := by
  refine calls_walk_n (args := [.int .i64 n]) Tryd.func73 rfl rfl rfl ?_
  have H := St.refl w
  refine WC.seq ?_
  refine WC.region ?_
  refine WL.assign rfl rfl ?_
  refine WL.assign rfl rfl ?_
  refine (WL.done (WX.next ?_))
  refine WC.seq ?_
  refine WC.region ?_
  refine WL.move rfl rfl ?_
  refine WL.call call153 rfl rfl ?_
  refine Calls.mono (reflword_any n _) ?_
  rintro _ wx ⟨rfl, rfl⟩
  refine ⟨_, rfl, ?_⟩
  refine WL.assign rfl rfl ?_
  refine (WL.done (WX.next ?_))
  refine WC.seq ?_
  refine WC.seq ?_
  refine WC.region ?_
  refine WL.move rfl rfl ?_
  refine WL.notOp rfl rfl ?_
  refine (WL.done (WX.next ?_))
  first | refine WC.cond_dec rfl (fun c1 => ?_) (fun c1 => ?_) | refine WC.cond rfl (fun c1 => ?_) (fun c1 => ?_)
  ·
    have hn : ¬ (0 ≤ n ∧ n ≤ 1099511627775) := fun h => by have h2 := isWord_iff.2 h; simp [h2] at c1
    refine WC.seq ?_
    refine WC.region ?_
    refine WL.assign rfl rfl ?_
    refine WL.assign rfl rfl ?_
    refine (WL.done (WX.next ?_))
    refine (WC.ret (WX.then_ret ?_))
    refine ret_two rfl rfl rfl ?_
    rw [(hd_no hn).1, (hd_no hn).2]
    exact ⟨rfl, H.weaken (List.nil_sublist _)⟩
  ·
    have hn : 0 ≤ n ∧ n ≤ 1099511627775 := isWord_iff.1 (by simpa using c1)
    refine (WC.skip (WX.next ?_))
    refine WC.seq ?_
    refine WC.region ?_
    refine WL.move rfl rfl ?_
    first | refine WL.bin rfl rfl (irem (by omega) (by omega)) rfl ?_ | refine WL.bin rfl rfl (iremT (by omega)) rfl ?_
    refine WL.move rfl rfl ?_
    first | refine WL.bin rfl rfl (iquo (by omega) (by omega) (by omega)) rfl ?_ | refine WL.bin rfl rfl (iquoT (by omega) (by omega) (by omega)) rfl ?_
    refine WL.assign rfl rfl ?_
    refine WL.assign rfl rfl ?_
    refine (WL.done (WX.next ?_))
    refine (WC.ret ?_)
    refine ret_two rfl rfl rfl ?_
    rw [(hd_of hn).1, (hd_of hn).2]
    exact ⟨rfl, H.weaken (List.nil_sublist _)⟩

theorem size_any (num : Int) (A : Option Addr) (m cap : Nat) (hm63 : m ≤ 1073741824) (w : World) : Calls Tryd.prog 78 #[.agg #[.int .i64 num, .slice A m cap]] w fun e w' => e = .returned (.int .i64 (3 + 2 * (m : Int))) ∧ St w [] w' [] := by
  refine calls_walk_n (args := [.agg #[.int .i64 num, .slice A m cap]]) Tryd.func78 rfl rfl rfl ?_
  have H := St.refl w
  refine WC.seq ?_
  refine WC.region ?_
  refine WL.box H rfl rfl ?_
  intro b1 wx hb1 hge1 H
  refine WL.assign rfl rfl ?_
  refine (WL.done (WX.next ?_))
  refine WC.seq ?_
  refine WC.region ?_
  refine WL.fieldAddr fld125_1 rfl rfl ?_
  first | refine WL.load rfl (H.rd1 ty123 0 rfl rfl) rfl ?_ | refine WL.load rfl (H.rdA ty123 0 rfl (by first | decide | exact Nat.le_refl _)) rfl ?_
  refine WL.lenSlc isl123 rfl rfl ?_
  refine WL.bin rfl rfl (imul (by omega) (by omega)) rfl ?_
  refine WL.bin rfl rfl (iadd (by omega) (by omega)) rfl ?_
  refine WL.assign rfl rfl ?_
  refine (WL.done (WX.next ?_))
  refine (WC.ret ?_)
  refine ret_one rfl rfl ?_
  exact ⟨rfl, H.weaken (List.nil_sublist _)⟩

theorem refSize_any (num : Int) (A : Option Addr) (m cap : Nat) (hm63 : m ≤ 1073741824) (w : World) : Calls Tryd.prog 79 #[.agg #[.int .i64 num, .slice A m cap]] w fun e w' => e = .returned (.int .i64 (2 * (m : Int) + 3)) ∧ St w [] w' [] := by
  refine calls_walk_n (args := [.agg #[.int .i64 num, .slice A m cap]]) Tryd.func79 rfl rfl rfl ?_
  have H := St.refl w
  refine WC.seq ?_
  refine WC.region ?_
  refine WL.box H rfl rfl ?_
  intro b1 wx hb1 hge1 H
  refine WL.assign rfl rfl ?_
  refine (WL.done (WX.next ?_))
  refine WC.seq ?_
  refine WC.region ?_
  refine WL.fieldAddr fld125_1 rfl rfl ?_
  first | refine WL.load rfl (H.rd1 ty123 0 rfl rfl) rfl ?_ | refine WL.load rfl (H.rdA ty123 0 rfl (by first | decide | exact Nat.le_refl _)) rfl ?_
  refine WL.lenSlc isl123 rfl rfl ?_
  refine WL.bin rfl rfl (imul (by omega) (by omega)) rfl ?_
  refine WL.bin rfl rfl (iadd (by omega) (by omega)) rfl ?_
  refine WL.assign rfl rfl ?_
  refine (WL.done (WX.next ?_))
  refine (WC.ret ?_)
  refine ret_one rfl rfl ?_
  exact ⟨rfl, H.weaken (List.nil_sublist _)⟩

theorem at_any (ls : List Int) (hR : LR ls) (k : Int) (hk : 0 ≤ k ∧ k ≤ 1073741824) (w : World) : Calls Tryd.prog 139 #[arr ls, .int .i64 k] w fun e w' => e = .returned (.int .i64 (8 * ls.getD 1 0 + 8 + k)) ∧ St w [] w' [] := by
  have hR1 := hR.a0
  have hR2 := hR.b2
  have hR3 := hR.n
  have hR4 := hR.ab
  refine calls_walk_n (args := [arr ls, .int .i64 k]) Tryd.func139 rfl rfl rfl ?_
  have H := St.refl w
  refine WC.seq ?_
  refine WC.region ?_
  refine WL.boxArr H rfl rfl ?_
  intro b2 wx hb2 hge2 H
  refine WL.assign rfl rfl ?_
  refine (WL.done (WX.next ?_))
  refine WC.seq ?_
  refine WC.region ?_
  refine WL.load rfl (H.rdArr ty95 0 rfl hR.len) rfl ?_
  refine WL.call call155 rfl rfl ?_
  refine Calls.mono (headAt_any ls hR _) ?_
  rintro _ wx ⟨rfl, Hc⟩
  refine ⟨_, rfl, ?_⟩
  replace H := H.call0 Hc
  refine WL.bin rfl rfl (iadd (by omega) (by omega)) rfl ?_
  refine WL.move rfl rfl ?_
  refine WL.bin rfl rfl (iadd (by omega) (by omega)) rfl ?_
  refine WL.assign rfl rfl ?_
  refine (WL.done (WX.next ?_))
  refine (WC.ret ?_)
  refine ret_one rfl rfl ?_
  exact ⟨rfl, H.weaken (List.nil_sublist _)⟩

theorem lright_any (ls : List Int) (h8 : ls.length = 8) (w : World) : Calls Tryd.prog 71 #[arr ls] w fun e w' => e = .returned (.bool (lRight ls)) ∧ St w [] w' [] := by
  refine calls_walk_n (args := [arr ls]) Tryd.func71 rfl rfl rfl ?_
  have H := St.refl w
  refine WC.seq ?_
  refine WC.region ?_
  refine WL.boxArr H rfl rfl ?_
  intro b1 wx hb1 hge1 H
  refine WL.assign rfl rfl ?_
  refine (WL.done (WX.next ?_))
  refine WC.seq ?_
  refine WC.region ?_
  refine WL.fieldAddr fld95_1 rfl rfl ?_
  first | refine WL.load rfl (H.rdElt (o := 0) ty3 0 rfl (by rw [h8]; decide)) rfl ?_ | refine WL.load rfl (H.rdElt (o := 1) ty3 0 rfl (by rw [h8]; decide)) rfl ?_ | refine WL.load rfl (H.rdElt (o := 2) ty3 0 rfl (by rw [h8]; decide)) rfl ?_ | refine WL.load rfl (H.rd1 ty3 0 rfl rfl) rfl ?_ | refine WL.load rfl (H.rdA ty3 0 rfl (by first | decide | exact Nat.le_refl _)) rfl ?_
  refine WL.bin rfl rfl binv_geq rfl ?_
  refine WL.move rfl rfl ?_
  first | refine WL.splitD (t := 6) rfl (fun g1 => ?_) (fun g1 => ?_) | refine WL.split (t := 6) rfl (fun g1 => ?_) (fun g1 => ?_)
  ·
    refine WL.yes rfl rfl ?_
    refine WL.fieldAddr fld95_2 rfl rfl ?_
    refine WL.yes rfl rfl ?_
    first | refine WL.load rfl (H.rdElt (o := 0) ty3 0 rfl (by rw [h8]; decide)) rfl ?_ | refine WL.load rfl (H.rdElt (o := 1) ty3 0 rfl (by rw [h8]; decide)) rfl ?_ | refine WL.load rfl (H.rdElt (o := 2) ty3 0 rfl (by rw [h8]; decide)) rfl ?_ | refine WL.load rfl (H.rd1 ty3 0 rfl rfl) rfl ?_ | refine WL.load rfl (H.rdA ty3 0 rfl (by first | decide | exact Nat.le_refl _)) rfl ?_
    refine WL.yes rfl rfl ?_
    refine WL.bin rfl rfl binv_geq rfl ?_
    refine WL.pickT rfl rfl rfl ?_
    refine WL.move rfl rfl ?_
    first | refine WL.splitD (t := 11) rfl (fun g2 => ?_) (fun g2 => ?_) | refine WL.split (t := 11) rfl (fun g2 => ?_) (fun g2 => ?_)
    ·
      refine WL.yes rfl rfl ?_
      refine WL.fieldAddr fld95_0 rfl rfl ?_
      refine WL.yes rfl rfl ?_
      first | refine WL.load rfl (H.rdElt (o := 0) ty3 0 rfl (by rw [h8]; decide)) rfl ?_ | refine WL.load rfl (H.rdElt (o := 1) ty3 0 rfl (by rw [h8]; decide)) rfl ?_ | refine WL.load rfl (H.rdElt (o := 2) ty3 0 rfl (by rw [h8]; decide)) rfl ?_ | refine WL.load rfl (H.rd1 ty3 0 rfl rfl) rfl ?_ | refine WL.load rfl (H.rdA ty3 0 rfl (by first | decide | exact Nat.le_refl _)) rfl ?_
      refine WL.yes rfl rfl ?_
      refine WL.bin rfl rfl binv_leq rfl ?_
      refine WL.pickT rfl rfl rfl ?_
      refine WL.move rfl rfl ?_
      first | refine WL.splitD (t := 16) rfl (fun g3 => ?_) (fun g3 => ?_) | refine WL.split (t := 16) rfl (fun g3 => ?_) (fun g3 => ?_)
      ·
        refine WL.yes rfl rfl ?_
        refine WL.fieldAddr fld95_1 rfl rfl ?_
        refine WL.yes rfl rfl ?_
        first | refine WL.load rfl (H.rdElt (o := 0) ty3 0 rfl (by rw [h8]; decide)) rfl ?_ | refine WL.load rfl (H.rdElt (o := 1) ty3 0 rfl (by rw [h8]; decide)) rfl ?_ | refine WL.load rfl (H.rdElt (o := 2) ty3 0 rfl (by rw [h8]; decide)) rfl ?_ | refine WL.load rfl (H.rd1 ty3 0 rfl rfl) rfl ?_ | refine WL.load rfl (H.rdA ty3 0 rfl (by first | decide | exact Nat.le_refl _)) rfl ?_
        refine WL.yes rfl rfl ?_
        refine WL.bin rfl rfl binv_leq rfl ?_
        refine WL.pickT rfl rfl rfl ?_
        refine WL.move rfl rfl ?_
        first | refine WL.splitD (t := 21) rfl (fun g4 => ?_) (fun g4 => ?_) | refine WL.split (t := 21) rfl (fun g4 => ?_) (fun g4 => ?_)
        ·
          refine WL.yes rfl rfl ?_
          refine WL.fieldAddr fld95_2 rfl rfl ?_
          refine WL.yes rfl rfl ?_
          first | refine WL.load rfl (H.rdElt (o := 0) ty3 0 rfl (by rw [h8]; decide)) rfl ?_ | refine WL.load rfl (H.rdElt (o := 1) ty3 0 rfl (by rw [h8]; decide)) rfl ?_ | refine WL.load rfl (H.rdElt (o := 2) ty3 0 rfl (by rw [h8]; decide)) rfl ?_ | refine WL.load rfl (H.rd1 ty3 0 rfl rfl) rfl ?_ | refine WL.load rfl (H.rdA ty3 0 rfl (by first | decide | exact Nat.le_refl _)) rfl ?_
          refine WL.yes rfl rfl ?_
          refine WL.bin rfl rfl binv_leq rfl ?_
          refine WL.pickT rfl rfl rfl ?_
          refine WL.move rfl rfl ?_
          first | refine WL.splitD (t := 26) rfl (fun g5 => ?_) (fun g5 => ?_) | refine WL.split (t := 26) rfl (fun g5 => ?_) (fun g5 => ?_)
          ·
            refine WL.yes rfl rfl ?_
            refine WL.fieldAddr fld95_1 rfl rfl ?_
            refine WL.yes rfl rfl ?_
            first | refine WL.load rfl (H.rdElt (o := 0) ty3 0 rfl (by rw [h8]; decide)) rfl ?_ | refine WL.load rfl (H.rdElt (o := 1) ty3 0 rfl (by rw [h8]; decide)) rfl ?_ | refine WL.load rfl (H.rdElt (o := 2) ty3 0 rfl (by rw [h8]; decide)) rfl ?_ | refine WL.load rfl (H.rd1 ty3 0 rfl rfl) rfl ?_ | refine WL.load rfl (H.rdA ty3 0 rfl (by first | decide | exact Nat.le_refl _)) rfl ?_
            refine WL.yes rfl rfl ?_
            refine WL.fieldAddr fld95_2 rfl rfl ?_
            refine WL.yes rfl rfl ?_
            first | refine WL.load rfl (H.rdElt (o := 0) ty3 0 rfl (by rw [h8]; decide)) rfl ?_ | refine WL.load rfl (H.rdElt (o := 1) ty3 0 rfl (by rw [h8]; decide)) rfl ?_ | refine WL.load rfl (H.rdElt (o := 2) ty3 0 rfl (by rw [h8]; decide)) rfl ?_ | refine WL.load rfl (H.rd1 ty3 0 rfl rfl) rfl ?_ | refine WL.load rfl (H.rdA ty3 0 rfl (by first | decide | exact Nat.le_refl _)) rfl ?_
            refine WL.yes rfl rfl ?_
            refine WL.bin rfl rfl (iadd (by omega) (by omega)) rfl ?_
            refine WL.yes rfl rfl ?_
            refine WL.fieldAddr fld95_0 rfl rfl ?_
            refine WL.yes rfl rfl ?_
            first | refine WL.load rfl (H.rdElt (o := 0) ty3 0 rfl (by rw [h8]; decide)) rfl ?_ | refine WL.load rfl (H.rdElt (o := 1) ty3 0 rfl (by rw [h8]; decide)) rfl ?_ | refine WL.load rfl (H.rdElt (o := 2) ty3 0 rfl (by rw [h8]; decide)) rfl ?_ | refine WL.load rfl (H.rd1 ty3 0 rfl rfl) rfl ?_ | refine WL.load rfl (H.rdA ty3 0 rfl (by first | decide | exact Nat.le_refl _)) rfl ?_
            refine WL.yes rfl rfl ?_
            refine WL.bin rfl rfl binv_leq rfl ?_
            refine WL.pickT rfl rfl rfl ?_
            refine WL.assign rfl rfl ?_
            refine (WL.done (WX.next ?_))
            refine (WC.ret ?_)
            refine ret_one rfl rfl ?_
            refine ⟨congrArg (fun b => Ending.returned (Value.bool b)) (Bool.eq_iff_iff.2 ?_), H.weaken (List.nil_sublist _)⟩
            unfold lRight
            simp only [decide_eq_true_eq, Bool.false_eq_true, true_iff, false_iff]
            omega
          ·
            refine WL.no rfl rfl rfl ?_
            refine WL.no rfl rfl rfl ?_
            refine WL.no rfl rfl rfl ?_
            refine WL.no rfl rfl rfl ?_
            refine WL.no rfl rfl rfl ?_
            refine WL.no rfl rfl rfl ?_
            refine WL.no rfl rfl rfl ?_
            refine WL.no rfl rfl rfl ?_
            refine WL.pickF rfl rfl rfl ?_
            refine WL.assign rfl rfl ?_
            refine (WL.done (WX.next ?_))
            refine (WC.ret ?_)
            refine ret_one rfl rfl ?_
            refine ⟨congrArg (fun b => Ending.returned (Value.bool b)) (Bool.eq_iff_iff.2 ?_), H.weaken (List.nil_sublist _)⟩
            unfold lRight
            simp only [decide_eq_true_eq, Bool.false_eq_true, true_iff, false_iff]
            omega
        ·
          refine WL.no rfl rfl rfl ?_
          refine WL.no rfl rfl rfl ?_
          refine WL.no rfl rfl rfl ?_
          refine WL.pickF rfl rfl rfl ?_
          refine WL.move rfl rfl ?_
          refine WL.no rfl rfl rfl ?_
          refine WL.no rfl rfl rfl ?_
          refine WL.no rfl rfl rfl ?_
          refine WL.no rfl rfl rfl ?_
          refine WL.no rfl rfl rfl ?_
          refine WL.no rfl rfl rfl ?_
          refine WL.no rfl rfl rfl ?_
          refine WL.no rfl rfl rfl ?_
          refine WL.pickF rfl rfl rfl ?_
          refine WL.assign rfl rfl ?_
          refine (WL.done (WX.next ?_))
          refine (WC.ret ?_)
          refine ret_one rfl rfl ?_
          refine ⟨congrArg (fun b => Ending.returned (Value.bool b)) (Bool.eq_iff_iff.2 ?_), H.weaken (List.nil_sublist _)⟩
          unfold lRight
          simp only [decide_eq_true_eq, Bool.false_eq_true, true_iff, false_iff]
          omega
      ·
        refine WL.no rfl rfl rfl ?_
        refine WL.no rfl rfl rfl ?_
        refine WL.no rfl rfl rfl ?_
        refine WL.pickF rfl rfl rfl ?_
        refine WL.move rfl rfl ?_
        refine WL.no rfl rfl rfl ?_
        refine WL.no rfl rfl rfl ?_
        refine WL.no rfl rfl rfl ?_
        refine WL.pickF rfl rfl rfl ?_
        refine WL.move rfl rfl ?_
        refine WL.no rfl rfl rfl ?_
        refine WL.no rfl rfl rfl ?_
        refine WL.no rfl rfl rfl ?_
        refine WL.no rfl rfl rfl ?_
        refine WL.no rfl rfl rfl ?_
        refine WL.no rfl rfl rfl ?_
        refine WL.no rfl rfl rfl ?_
        refine WL.no rfl rfl rfl ?_
        refine WL.pickF rfl rfl rfl ?_
        refine WL.assign rfl rfl ?_
        refine (WL.done (WX.next ?_))
        refine (WC.ret ?_)
        refine ret_one rfl rfl ?_
        refine ⟨congrArg (fun b => Ending.returned (Value.bool b)) (Bool.eq_iff_iff.2 ?_), H.weaken (List.nil_sublist _)⟩
        unfold lRight
        simp only [decide_eq_true_eq, Bool.false_eq_true, true_iff, false_iff]
        omega
    ·
      refine WL.no rfl rfl rfl ?_
      refine WL.no rfl rfl rfl ?_
      refine WL.no rfl rfl rfl ?_
      refine WL.pickF rfl rfl rfl ?_
      refine WL.move rfl rfl ?_
      refine WL.no rfl rfl rfl ?_
      refine WL.no rfl rfl rfl ?_
      refine WL.no rfl rfl rfl ?_
      refine WL.pickF rfl rfl rfl ?_
      refine WL.move rfl rfl ?_
      refine WL.no rfl rfl rfl ?_
      refine WL.no rfl rfl rfl ?_
      refine WL.no rfl rfl rfl ?_
      refine WL.pickF rfl rfl rfl ?_
      refine WL.move rfl rfl ?_
      refine WL.no rfl rfl rfl ?_
      refine WL.no rfl rfl rfl ?_
      refine WL.no rfl rfl rfl ?_
      refine WL.no rfl rfl rfl ?_
      refine WL.no rfl rfl rfl ?_
      refine WL.no rfl rfl rfl ?_
      refine WL.no rfl rfl rfl ?_
      refine WL.no rfl rfl rfl ?_
      refine WL.pickF rfl rfl rfl ?_
      refine WL.assign rfl rfl ?_
      refine (WL.done (WX.next ?_))
      refine (WC.ret ?_)
      refine ret_one rfl rfl ?_
      refine ⟨congrArg (fun b => Ending.returned (Value.bool b)) (Bool.eq_iff_iff.2 ?_), H.weaken (List.nil_sublist _)⟩
      unfold lRight
      simp only [decide_eq_true_eq, Bool.false_eq_true, true_iff, false_iff]
      omega
  ·
    refine WL.no rfl rfl rfl ?_
    refine WL.no rfl rfl rfl ?_
    refine WL.no rfl rfl rfl ?_
    refine WL.pickF rfl rfl rfl ?_
    refine WL.move rfl rfl ?_
    refine WL.no rfl rfl rfl ?_
    refine WL.no rfl rfl rfl ?_
    refine WL.no rfl rfl rfl ?_
    refine WL.pickF rfl rfl rfl ?_
    refine WL.move rfl rfl ?_
    refine WL.no rfl rfl rfl ?_
    refine WL.no rfl rfl rfl ?_
    refine WL.no rfl rfl rfl ?_
    refine WL.pickF rfl rfl rfl ?_
    refine WL.move rfl rfl ?_
    refine WL.no rfl rfl rfl ?_
    refine WL.no rfl rfl rfl ?_
    refine WL.no rfl rfl rfl ?_
    refine WL.pickF rfl rfl rfl ?_
    refine WL.move rfl rfl ?_
    refine WL.no rfl rfl rfl ?_
    refine WL.no rfl rfl rfl ?_
    refine WL.no rfl rfl rfl ?_
    refine WL.no rfl rfl rfl ?_
    refine WL.no rfl rfl rfl ?_
    refine WL.no rfl rfl rfl ?_
    refine WL.no rfl rfl rfl ?_
    refine WL.no rfl rfl rfl ?_
    refine WL.pickF rfl rfl rfl ?_
    refine WL.assign rfl rfl ?_
    refine (WL.done (WX.next ?_))
    refine (WC.ret ?_)
    refine ret_one rfl rfl ?_
    refine ⟨congrArg (fun b => Ending.returned (Value.bool b)) (Bool.eq_iff_iff.2 ?_), H.weaken (List.nil_sublist _)⟩
    unfold lRight
    simp only [decide_eq_true_eq, Bool.false_eq_true, true_iff, false_iff]
    omega

theorem lvalid_any (ls : List Int) (hR : LR ls) (num : Int) (es : List (List Int)) (A : Option Addr) (m cap : Nat) (hm : m = es.length) (hm63 : m ≤ 1048575) (hr : RngE es) (w : World) (hx : RowsIn w A 2 es) : Calls Tryd.prog 80 #[arr ls, .agg #[.int .i64 num, .slice A m cap]] w fun e w' => e = .returned (.bool (rOk ls (num, es))) ∧ St w [] w' [] := by
  have hR1 := hR.a0
  have hR2 := hR.b2
  have hR3 := hR.n
  have hR4 := hR.ab
  refine calls_walk_n (args := [arr ls, .agg #[.int .i64 num, .slice A m cap]]) Tryd.func80 rfl rfl rfl ?_
  have H := St.refl w
  refine WC.seq ?_
  refine WC.region ?_
  refine WL.boxArr H rfl rfl ?_
  intro b2 wx hb2 hge2 H
  refine WL.box H rfl rfl ?_
  intro b3 wx hb3 hge3 H
  refine WL.assign rfl rfl ?_
  refine (WL.done (WX.next ?_))
  refine WC.seq ?_
  refine WC.seq ?_
  refine WC.region ?_
  refine WL.fieldAddr fld125_0 rfl rfl ?_
  first | refine WL.load rfl (H.rd1 ty3 0 rfl rfl) rfl ?_ | refine WL.load rfl (H.rd1 ty3 1 rfl rfl) rfl ?_ | refine WL.load rfl (H.rdA ty3 0 rfl (by first | decide | exact Nat.le_refl _)) rfl ?_ | refine WL.load rfl (H.rdA ty3 1 rfl (by first | decide | exact Nat.le_refl _)) rfl ?_
  refine WL.bin rfl rfl binv_lss rfl ?_
  refine WL.move rfl rfl ?_
  first | refine WL.splitD (t := 12) rfl (fun g1 => ?_) (fun g1 => ?_) | refine WL.split (t := 12) rfl (fun g1 => ?_) (fun g1 => ?_)
  ·
    refine WL.no rfl rfl rfl ?_
    refine WL.no rfl rfl rfl ?_
    refine WL.no rfl rfl rfl ?_
    refine WL.pickT rfl rfl rfl ?_
    refine (WL.done (WX.next ?_))
    refine WC.cond_true rfl (rfl) ?_
    refine WC.seq ?_
    refine WC.region ?_
    refine WL.assign rfl rfl ?_
    refine (WL.done (WX.next ?_))
    refine (WC.ret (WX.then_ret ?_))
    refine ret_one rfl rfl ?_
    have hno : rOk ls (num, es) = false := Bool.eq_false_iff.2 (fun h => by have := (rOk_iff.1 h).1; simp only at this; omega)
    rw [hno]
    exact ⟨rfl, H.weaken (List.nil_sublist _)⟩
  ·
    refine WL.yes rfl rfl ?_
    refine WL.fieldAddr fld125_0 rfl rfl ?_
    refine WL.yes rfl rfl ?_
    first | refine WL.load rfl (H.rd1 ty3 0 rfl rfl) rfl ?_ | refine WL.load rfl (H.rd1 ty3 1 rfl rfl) rfl ?_ | refine WL.load rfl (H.rdA ty3 0 rfl (by first | decide | exact Nat.le_refl _)) rfl ?_ | refine WL.load rfl (H.rdA ty3 1 rfl (by first | decide | exact Nat.le_refl _)) rfl ?_
    refine WL.yes rfl rfl ?_
    refine WL.bin rfl rfl binv_gtr rfl ?_
    refine WL.pickF rfl rfl rfl ?_
    refine (WL.done (WX.next ?_))
    first | refine WC.cond_dec rfl (fun c2 => ?_) (fun c2 => ?_) | refine WC.cond rfl (fun c2 => ?_) (fun c2 => ?_)
    ·
      refine WC.seq ?_
      refine WC.region ?_
      refine WL.assign rfl rfl ?_
      refine (WL.done (WX.next ?_))
      refine (WC.ret (WX.then_ret ?_))
      refine ret_one rfl rfl ?_
      have hno : rOk ls (num, es) = false := Bool.eq_false_iff.2 (fun h => by have := (rOk_iff.1 h).1; simp only at this; omega)
      rw [hno]
      exact ⟨rfl, H.weaken (List.nil_sublist _)⟩
    ·
      refine (WC.skip (WX.next ?_))
      refine WC.seq ?_
      refine WC.seq ?_
      refine WC.region ?_
      refine WL.fieldAddr fld125_1 rfl rfl ?_
      first | refine WL.load rfl (H.rd1 ty123 0 rfl rfl) rfl ?_ | refine WL.load rfl (H.rd1 ty123 1 rfl rfl) rfl ?_ | refine WL.load rfl (H.rdA ty123 0 rfl (by first | decide | exact Nat.le_refl _)) rfl ?_ | refine WL.load rfl (H.rdA ty123 1 rfl (by first | decide | exact Nat.le_refl _)) rfl ?_
      refine WL.lenSlc isl123 rfl rfl ?_
      refine WL.move rfl rfl ?_
      refine (WL.done (WX.next ?_))
      refine WC.block ?_
      refine WC.loop (Sub.cons (t := 2) rfl (Sub.cons (t := 18) rfl (Sub.cons (t := 19) rfl (Sub.nil _)))) (fun i : Nat => [(20, .int .i64 (i : Int))]) (fun q i wx => q = m - i ∧ i ≤ m ∧ (es.take i).all (eOk ls) = true ∧ St w [] wx [(b3, .cells #[.int .i64 num, .slice A m cap] 125), (b2, .cells (arrC ls) 95)]) (m) (0) (Sub.cons (t := 20) (by first | rfl | simp) (Sub.nil _)) (⟨rfl, Nat.zero_le _, rfl, H⟩) ?_
      rintro k g wx hI N hN
      obtain ⟨rfl, hg, hall, H⟩ := hI
      refine WC.seq ?_
      refine WC.region ?_
      refine WL.bin rfl rfl binv_lss rfl ?_
      refine (WL.done (WX.next ?_))
      refine WC.seq ?_
      first | refine WC.cond_dec rfl (fun c3 => ?_) (fun c3 => ?_) | refine WC.cond rfl (fun c3 => ?_) (fun c3 => ?_)
      ·
        change (g : Int) < (m : Int) at c3
        have hlt : g < es.length := by omega
        have he2 := hx.1 _ (List.getElem_mem hlt)
        obtain ⟨b, o, rfl⟩ := hx.addr (by omega) hlt
        have hra := hr _ (List.getElem_mem hlt)
        refine (WC.skip (WX.next ?_))
        refine WC.seq ?_
        refine WC.block ?_
        refine WC.seq ?_
        refine WC.region ?_
        refine WL.idxSlc (k := g) slc123 rfl rfl (by first | rfl | omega) (by omega) rfl ?_
        refine WL.load rfl ((hx.keep H).rd ty189 (by omega) hlt rfl) rfl ?_
        refine WL.alloc H zer189 rfl ?_
        intro b6 wx hb6 hge6 H
        refine WL.storeArr (ws' := es[g]) H ty189 0 rfl rfl rfl rfl he2 ?_
        intro wx H
        refine (WL.done (WX.next ?_))
        refine WC.seq ?_
        refine WC.region ?_
        refine WL.fieldAddr fld189_0 rfl rfl ?_
        refine WL.load rfl (H.rdElt (o := 0) ty3 0 rfl (by rw [he2]; decide)) rfl ?_
        obtain ⟨ln, hln, hlb⟩ : ∃ ln : Int, BinV Tryd.prog .quo 3 (.int .i64 (es[g].getD 0 0)) (.int .i64 8) (.int .i64 ln) ∧ (0 ≤ es[g].getD 0 0 → ln = es[g].getD 0 0 / 8) := ⟨_, iquoT (x := es[g].getD 0 0) (y := 8) hra.1 hra.2 (by decide), fun h => Int.tdiv_eq_ediv_of_nonneg h⟩
        refine WL.bin rfl rfl (hln) rfl ?_
        refine WL.assign rfl rfl ?_
        refine (WL.done (WX.next ?_))
        refine WC.seq ?_
        refine WC.region ?_
        refine WL.move rfl rfl ?_
        refine WL.fieldAddr fld95_1 rfl rfl ?_
        refine WL.load rfl (H.rdElt (o := 1) ty3 2 rfl (by rw [hR.len]; decide)) rfl ?_
        refine WL.bin rfl rfl binv_geq rfl ?_
        refine WL.move rfl rfl ?_
        first | refine WL.splitD (t := 31) rfl (fun g2 => ?_) (fun g2 => ?_) | refine WL.split (t := 31) rfl (fun g2 => ?_) (fun g2 => ?_)
        ·
          refine WL.yes rfl rfl ?_
          refine WL.move rfl rfl ?_
          refine WL.yes rfl rfl ?_
          refine WL.fieldAddr fld95_1 rfl rfl ?_
          refine WL.yes rfl rfl ?_
          refine WL.load rfl (H.rdElt (o := 1) ty3 2 rfl (by rw [hR.len]; decide)) rfl ?_
          refine WL.yes rfl rfl ?_
          refine WL.fieldAddr fld95_2 rfl rfl ?_
          refine WL.yes rfl rfl ?_
          refine WL.load rfl (H.rdElt (o := 2) ty3 2 rfl (by rw [hR.len]; decide)) rfl ?_
          refine WL.yes rfl rfl ?_
          refine WL.bin rfl rfl (iadd (by omega) (by omega)) rfl ?_
          refine WL.yes rfl rfl ?_
          refine WL.bin rfl rfl binv_lss rfl ?_
          refine WL.pickT rfl rfl rfl ?_
          refine WL.assign rfl rfl ?_
          refine (WL.done (WX.next ?_))
          refine WC.seq ?_
          replace H := H.drew
          refine WC.held (SX (World.drew wx) []) (by kernel_rfl) ?_
          generalize World.drew wx = wb at H ⊢
          have HB := St.refl wb
          refine WH.take 0 rfl (by kernel_rfl) (by kernel_rfl) (by kernel_rfl) (fun _ _ _ h => h) ⟨_, HB⟩ (fun w' hS => EX.fieldAddr fld189_1 rfl) rfl ?_
          refine WH.take 1 rfl (by kernel_rfl) (by kernel_rfl) (by kernel_rfl) (fun _ _ _ h => h) ⟨_, HB⟩ (fun w' hS => EX.load rfl (Rd.fldA 1 ty3 (hS.block (H.blk 0 rfl) (by simp)) (by rw [he2]; decide))) rfl ?_
          refine WH.hard 2 rfl (by kernel_rfl) ?_
          refine WL.call call152 rfl rfl ?_
          refine Calls.mono (lword_any _ _) ?_
          rintro _ wx ⟨rfl, rfl⟩
          refine ⟨_, rfl, ?_⟩
          refine WL.done (WX.heldOn ⟨_, HB⟩ ?_)
          refine WH.take 3 rfl (by kernel_rfl) (by kernel_rfl) (by kernel_rfl) (fun _ _ _ h => h) ⟨_, HB⟩ (fun w' hS => EX.notOp rfl) rfl ?_
          refine WH.take 4 rfl (by kernel_rfl) (by kernel_rfl) (by kernel_rfl) (fun _ _ _ h => h) ⟨_, HB⟩ (fun w' hS => EX.move rfl) rfl ?_
          first | refine WH.splitD (t := 44) rfl (fun g3 => ?_) (fun g3 => ?_) | refine WH.split (t := 44) rfl (fun g3 => ?_) (fun g3 => ?_)
          ·
            have hw : ¬ (0 ≤ es[g].getD 1 0 ∧ es[g].getD 1 0 ≤ 1099511627775) := fun h => by have h2 := ‹(!isWord (es[g].getD 1 0)) = true›; rw [isWord_iff.2 h] at h2; cases h2
            refine WH.takeNo 5 rfl (by kernel_rfl) (by kernel_rfl) (by kernel_rfl) (fun _ _ _ h => h) ⟨_, HB⟩ rfl rfl rfl ?_
            refine WH.takeNo 6 rfl (by kernel_rfl) (by kernel_rfl) (by kernel_rfl) (fun _ _ _ h => h) ⟨_, HB⟩ rfl rfl rfl ?_
            refine WH.takeNo 7 rfl (by kernel_rfl) (by kernel_rfl) (by kernel_rfl) (fun _ _ _ h => h) ⟨_, HB⟩ rfl rfl rfl ?_
            refine WH.take 8 rfl (by kernel_rfl) (by kernel_rfl) (by kernel_rfl) (fun _ _ _ h => h) ⟨_, HB⟩ (fun w' hS => EX.pickT rfl rfl) rfl ?_
            refine WH.take 9 rfl (by kernel_rfl) (by kernel_rfl) (by kernel_rfl) (fun _ _ _ h => h) ⟨_, HB⟩ (fun w' hS => EX.move rfl) rfl ?_
            refine WH.takeNo 10 rfl (by kernel_rfl) (by kernel_rfl) (by kernel_rfl) (fun _ _ _ h => h) ⟨_, HB⟩ rfl rfl rfl ?_
            refine WH.takeNo 11 rfl (by kernel_rfl) (by kernel_rfl) (by kernel_rfl) (fun _ _ _ h => h) ⟨_, HB⟩ rfl rfl rfl ?_
            refine WH.takeNo 12 rfl (by kernel_rfl) (by kernel_rfl) (by kernel_rfl) (fun _ _ _ h => h) ⟨_, HB⟩ rfl rfl rfl ?_
            refine WH.takeNo 13 rfl (by kernel_rfl) (by kernel_rfl) (by kernel_rfl) (fun _ _ _ h => h) ⟨_, HB⟩ rfl rfl rfl ?_
            refine WH.take 14 rfl (by kernel_rfl) (by kernel_rfl) (by kernel_rfl) (fun _ _ _ h => h) ⟨_, HB⟩ (fun w' hS => EX.pickT rfl rfl) rfl ?_
            refine WH.take 15 rfl (by kernel_rfl) (by kernel_rfl) (by kernel_rfl) (fun _ _ _ h => h) ⟨_, HB⟩ (fun w' hS => EX.move rfl) rfl ?_
            refine WH.takeNo 16 rfl (by kernel_rfl) (by kernel_rfl) (by kernel_rfl) (fun _ _ _ h => h) ⟨_, HB⟩ rfl rfl rfl ?_
            refine WH.takeNo 17 rfl (by kernel_rfl) (by kernel_rfl) (by kernel_rfl) (fun _ _ _ h => h) ⟨_, HB⟩ rfl rfl rfl ?_
            refine WH.takeNoU 18 rfl (by kernel_rfl) (by kernel_rfl) (by kernel_rfl) (fun _ _ _ h => h) ⟨_, HB⟩ rfl rfl rfl rfl ?_
            refine WH.takeNoU 19 rfl (by kernel_rfl) (by kernel_rfl) (by kernel_rfl) (fun _ _ _ h => h) ⟨_, HB⟩ rfl rfl rfl rfl ?_
            refine WH.takeNoU 20 rfl (by kernel_rfl) (by kernel_rfl) (by kernel_rfl) (fun _ _ _ h => h) ⟨_, HB⟩ rfl rfl rfl rfl ?_
            refine WH.takeNoU 21 rfl (by kernel_rfl) (by kernel_rfl) (by kernel_rfl) (fun _ _ _ h => h) ⟨_, HB⟩ rfl rfl rfl rfl ?_
            refine WH.takeNoU 22 rfl (by kernel_rfl) (by kernel_rfl) (by kernel_rfl) (fun _ _ _ h => h) ⟨_, HB⟩ rfl rfl rfl rfl ?_
            refine WH.takeNo 23 rfl (by kernel_rfl) (by kernel_rfl) (by kernel_rfl) (fun _ _ _ h => h) ⟨_, HB⟩ rfl rfl rfl ?_
            refine WH.take 24 rfl (by kernel_rfl) (by kernel_rfl) (by kernel_rfl) (fun _ _ _ h => h) ⟨_, HB⟩ (fun w' hS => EX.pickT rfl rfl) rfl ?_
            refine WH.done (by kernel_rfl) ?_
            replace H := H.call HB
            refine WX.next ?_
            refine WC.cond_true rfl (rfl) ?_
            refine WC.seq ?_
            refine WC.region ?_
            refine WL.assign rfl rfl ?_
            refine (WL.done (WX.next ?_))
            refine (WC.ret (WX.block_ret (WX.then_ret (WX.then_ret (WX.block_ret (WX.then_ret ?_))))))
            refine ret_one rfl rfl ?_
            rw [rOk_ent (all_no hlt (fun h => by have h := eOk_iff.1 h; omega))]
            exact ⟨rfl, H.weaken (List.nil_sublist _)⟩
          ·
            have hw : 0 ≤ es[g].getD 1 0 ∧ es[g].getD 1 0 ≤ 1099511627775 := isWord_iff.1 (by simpa using ‹(!isWord (es[g].getD 1 0)) = false›)
            refine WH.takeYes 5 rfl (by kernel_rfl) (by kernel_rfl) (by kernel_rfl) (fun _ _ _ h => h) ⟨_, HB⟩ rfl rfl (fun w' hS => EX.fieldAddr fld189_0 rfl) rfl ?_
            refine WH.takeYes 6 rfl (by kernel_rfl) (by kernel_rfl) (by kernel_rfl) (fun _ _ _ h => h) ⟨_, HB⟩ rfl rfl (fun w' hS => EX.load rfl (Rd.fldA 0 ty3 (hS.block (H.blk 0 rfl) (by simp)) (by rw [he2]; decide))) rfl ?_
            refine WH.takeYes 7 rfl (by kernel_rfl) (by kernel_rfl) (by kernel_rfl) (fun _ _ _ h => h) ⟨_, HB⟩ rfl rfl (fun w' hS => EX.bin rfl rfl (binv_lss)) rfl ?_
            refine WH.take 8 rfl (by kernel_rfl) (by kernel_rfl) (by kernel_rfl) (fun _ _ _ h => h) ⟨_, HB⟩ (fun w' hS => EX.pickF rfl rfl) rfl ?_
            refine WH.take 9 rfl (by kernel_rfl) (by kernel_rfl) (by kernel_rfl) (fun _ _ _ h => h) ⟨_, HB⟩ (fun w' hS => EX.move rfl) rfl ?_
            first | refine WH.splitD (t := 49) rfl (fun g4 => ?_) (fun g4 => ?_) | refine WH.split (t := 49) rfl (fun g4 => ?_) (fun g4 => ?_)
            ·
              refine WH.takeNo 10 rfl (by kernel_rfl) (by kernel_rfl) (by kernel_rfl) (fun _ _ _ h => h) ⟨_, HB⟩ rfl rfl rfl ?_
              refine WH.takeNo 11 rfl (by kernel_rfl) (by kernel_rfl) (by kernel_rfl) (fun _ _ _ h => h) ⟨_, HB⟩ rfl rfl rfl ?_
              refine WH.takeNo 12 rfl (by kernel_rfl) (by kernel_rfl) (by kernel_rfl) (fun _ _ _ h => h) ⟨_, HB⟩ rfl rfl rfl ?_
              refine WH.takeNo 13 rfl (by kernel_rfl) (by kernel_rfl) (by kernel_rfl) (fun _ _ _ h => h) ⟨_, HB⟩ rfl rfl rfl ?_
              refine WH.take 14 rfl (by kernel_rfl) (by kernel_rfl) (by kernel_rfl) (fun _ _ _ h => h) ⟨_, HB⟩ (fun w' hS => EX.pickT rfl rfl) rfl ?_
              refine WH.take 15 rfl (by kernel_rfl) (by kernel_rfl) (by kernel_rfl) (fun _ _ _ h => h) ⟨_, HB⟩ (fun w' hS => EX.move rfl) rfl ?_
              refine WH.takeNo 16 rfl (by kernel_rfl) (by kernel_rfl) (by kernel_rfl) (fun _ _ _ h => h) ⟨_, HB⟩ rfl rfl rfl ?_
              refine WH.takeNo 17 rfl (by kernel_rfl) (by kernel_rfl) (by kernel_rfl) (fun _ _ _ h => h) ⟨_, HB⟩ rfl rfl rfl ?_
              refine WH.takeNoU 18 rfl (by kernel_rfl) (by kernel_rfl) (by kernel_rfl) (fun _ _ _ h => h) ⟨_, HB⟩ rfl rfl rfl rfl ?_
              refine WH.takeNoU 19 rfl (by kernel_rfl) (by kernel_rfl) (by kernel_rfl) (fun _ _ _ h => h) ⟨_, HB⟩ rfl rfl rfl rfl ?_
              refine WH.takeNoU 20 rfl (by kernel_rfl) (by kernel_rfl) (by kernel_rfl) (fun _ _ _ h => h) ⟨_, HB⟩ rfl rfl rfl rfl ?_
              refine WH.takeNoU 21 rfl (by kernel_rfl) (by kernel_rfl) (by kernel_rfl) (fun _ _ _ h => h) ⟨_, HB⟩ rfl rfl rfl rfl ?_
              refine WH.takeNoU 22 rfl (by kernel_rfl) (by kernel_rfl) (by kernel_rfl) (fun _ _ _ h => h) ⟨_, HB⟩ rfl rfl rfl rfl ?_
              refine WH.takeNo 23 rfl (by kernel_rfl) (by kernel_rfl) (by kernel_rfl) (fun _ _ _ h => h) ⟨_, HB⟩ rfl rfl rfl ?_
              refine WH.take 24 rfl (by kernel_rfl) (by kernel_rfl) (by kernel_rfl) (fun _ _ _ h => h) ⟨_, HB⟩ (fun w' hS => EX.pickT rfl rfl) rfl ?_
              refine WH.done (by kernel_rfl) ?_
              replace H := H.call HB
              refine WX.next ?_
              refine WC.cond_true rfl (rfl) ?_
              refine WC.seq ?_
              refine WC.region ?_
              refine WL.assign rfl rfl ?_
              refine (WL.done (WX.next ?_))
              refine (WC.ret (WX.block_ret (WX.then_ret (WX.then_ret (WX.block_ret (WX.then_ret ?_))))))
              refine ret_one rfl rfl ?_
              rw [rOk_ent (all_no hlt (fun h => by have h := eOk_iff.1 h; omega))]
              exact ⟨rfl, H.weaken (List.nil_sublist _)⟩
            ·
              refine WH.takeYes 10 rfl (by kernel_rfl) (by kernel_rfl) (by kernel_rfl) (fun _ _ _ h => h) ⟨_, HB⟩ rfl rfl (fun w' hS => EX.move rfl) rfl ?_
              refine WH.takeYes 11 rfl (by kernel_rfl) (by kernel_rfl) (by kernel_rfl) (fun _ _ _ h => h) ⟨_, HB⟩ rfl rfl (fun w' hS => EX.fieldAddr fld95_0 rfl) rfl ?_
              refine WH.takeYes 12 rfl (by kernel_rfl) (by kernel_rfl) (by kernel_rfl) (fun _ _ _ h => h) ⟨_, HB⟩ rfl rfl (fun w' hS => EX.load rfl (Rd.fldA 0 ty3 (hS.block (H.blk 2 rfl) (by simp)) (by rw [hR.len]; decide))) rfl ?_
              refine WH.takeYes 13 rfl (by kernel_rfl) (by kernel_rfl) (by kernel_rfl) (fun _ _ _ h => h) ⟨_, HB⟩ rfl rfl (fun w' hS => EX.bin rfl rfl (binv_geq)) rfl ?_
              refine WH.take 14 rfl (by kernel_rfl) (by kernel_rfl) (by kernel_rfl) (fun _ _ _ h => h) ⟨_, HB⟩ (fun w' hS => EX.pickF rfl rfl) rfl ?_
              refine WH.take 15 rfl (by kernel_rfl) (by kernel_rfl) (by kernel_rfl) (fun _ _ _ h => h) ⟨_, HB⟩ (fun w' hS => EX.move rfl) rfl ?_
              first | refine WH.splitD (t := 55) rfl (fun g5 => ?_) (fun g5 => ?_) | refine WH.split (t := 55) rfl (fun g5 => ?_) (fun g5 => ?_)
              ·
                refine WH.takeNo 16 rfl (by kernel_rfl) (by kernel_rfl) (by kernel_rfl) (fun _ _ _ h => h) ⟨_, HB⟩ rfl rfl rfl ?_
                refine WH.takeNo 17 rfl (by kernel_rfl) (by kernel_rfl) (by kernel_rfl) (fun _ _ _ h => h) ⟨_, HB⟩ rfl rfl rfl ?_
                refine WH.takeNoU 18 rfl (by kernel_rfl) (by kernel_rfl) (by kernel_rfl) (fun _ _ _ h => h) ⟨_, HB⟩ rfl rfl rfl rfl ?_
                refine WH.takeNoU 19 rfl (by kernel_rfl) (by kernel_rfl) (by kernel_rfl) (fun _ _ _ h => h) ⟨_, HB⟩ rfl rfl rfl rfl ?_
                refine WH.takeNoU 20 rfl (by kernel_rfl) (by kernel_rfl) (by kernel_rfl) (fun _ _ _ h => h) ⟨_, HB⟩ rfl rfl rfl rfl ?_
                refine WH.takeNoU 21 rfl (by kernel_rfl) (by kernel_rfl) (by kernel_rfl) (fun _ _ _ h => h) ⟨_, HB⟩ rfl rfl rfl rfl ?_
                refine WH.takeNoU 22 rfl (by kernel_rfl) (by kernel_rfl) (by kernel_rfl) (fun _ _ _ h => h) ⟨_, HB⟩ rfl rfl rfl rfl ?_
                refine WH.takeNo 23 rfl (by kernel_rfl) (by kernel_rfl) (by kernel_rfl) (fun _ _ _ h => h) ⟨_, HB⟩ rfl rfl rfl ?_
                refine WH.take 24 rfl (by kernel_rfl) (by kernel_rfl) (by kernel_rfl) (fun _ _ _ h => h) ⟨_, HB⟩ (fun w' hS => EX.pickT rfl rfl) rfl ?_
                refine WH.done (by kernel_rfl) ?_
                replace H := H.call HB
                refine WX.next ?_
                refine WC.cond_true rfl (rfl) ?_
                refine WC.seq ?_
                refine WC.region ?_
                refine WL.assign rfl rfl ?_
                refine (WL.done (WX.next ?_))
                refine (WC.ret (WX.block_ret (WX.then_ret (WX.then_ret (WX.block_ret (WX.then_ret ?_))))))
                refine ret_one rfl rfl ?_
                rw [rOk_ent (all_no hlt (fun h => by have h := eOk_iff.1 h; omega))]
                exact ⟨rfl, H.weaken (List.nil_sublist _)⟩
              ·
                refine WH.takeYes 16 rfl (by kernel_rfl) (by kernel_rfl) (by kernel_rfl) (fun _ _ _ h => h) ⟨_, HB⟩ rfl rfl (fun w' hS => EX.move rfl) rfl ?_
                refine WH.takeYes 17 rfl (by kernel_rfl) (by kernel_rfl) (by kernel_rfl) (fun _ _ _ h => h) ⟨_, HB⟩ rfl rfl (fun w' hS => EX.move rfl) rfl ?_
                first | refine WH.splitD (t := 57) rfl (fun g6 => ?_) (fun g6 => ?_) | refine WH.split (t := 57) rfl (fun g6 => ?_) (fun g6 => ?_)
                ·
                  refine WH.takeYes 18 rfl (by kernel_rfl) (by kernel_rfl) (by kernel_rfl) (fun _ _ _ h => h) ⟨_, HB⟩ rfl rfl (fun w' hS => EX.fieldAddr fld189_0 rfl) rfl ?_
                  refine WH.takeYes 19 rfl (by kernel_rfl) (by kernel_rfl) (by kernel_rfl) (fun _ _ _ h => h) ⟨_, HB⟩ rfl rfl (fun w' hS => EX.load rfl (Rd.fldA 0 ty3 (hS.block (H.blk 0 rfl) (by simp)) (by rw [he2]; decide))) rfl ?_
                  refine WH.takeYes 20 rfl (by kernel_rfl) (by kernel_rfl) (by kernel_rfl) (fun _ _ _ h => h) ⟨_, HB⟩ rfl rfl (fun w' hS => EX.load rfl (Rd.arr ty95 (hS.block (H.blk 2 rfl) (by simp)) hR.len)) rfl ?_
                  refine WH.hard 21 rfl (by kernel_rfl) ?_
                  refine WL.yes rfl rfl ?_
                  refine WL.call call83 rfl rfl ?_
                  refine Calls.mono (stampAt_any ls hR _) ?_
                  rintro _ wx ⟨rfl, Hc⟩
                  refine ⟨_, rfl, ?_⟩
                  replace HB := HB.call0 Hc
                  refine WL.done (WX.heldOn ⟨_, HB⟩ ?_)
                  refine WH.takeYes 22 rfl (by kernel_rfl) (by kernel_rfl) (by kernel_rfl) (fun _ _ _ h => h) ⟨_, HB⟩ rfl rfl (fun w' hS => EX.bin rfl rfl (binv_neq)) rfl ?_
                  refine WH.takeYes 23 rfl (by kernel_rfl) (by kernel_rfl) (by kernel_rfl) (fun _ _ _ h => h) ⟨_, HB⟩ rfl rfl (fun w' hS => EX.pickT rfl rfl) rfl ?_
                  refine WH.take 24 rfl (by kernel_rfl) (by kernel_rfl) (by kernel_rfl) (fun _ _ _ h => h) ⟨_, HB⟩ (fun w' hS => EX.pickF rfl rfl) rfl ?_
                  refine WH.done (by kernel_rfl) ?_
                  replace H := H.call HB
                  refine WX.next ?_
                  first | refine WC.cond_dec rfl (fun c7 => ?_) (fun c7 => ?_) | refine WC.cond rfl (fun c7 => ?_) (fun c7 => ?_)
                  ·
                    refine WC.seq ?_
                    refine WC.region ?_
                    refine WL.assign rfl rfl ?_
                    refine (WL.done (WX.next ?_))
                    refine (WC.ret (WX.block_ret (WX.then_ret (WX.then_ret (WX.block_ret (WX.then_ret ?_))))))
                    refine ret_one rfl rfl ?_
                    rw [rOk_ent (all_no hlt (fun h => by have h := eOk_iff.1 h; omega))]
                    exact ⟨rfl, H.weaken (List.nil_sublist _)⟩
                  ·
                    refine (WC.skip (WX.block_normal (WX.next ?_)))
                    refine WC.region ?_
                    refine WL.bin rfl rfl (iadd (by omega) (by omega)) rfl ?_
                    refine WL.move rfl rfl ?_
                    refine (WL.done (WX.round ?_))
                    exact hN _ (g + 1) _ _ (by omega) ⟨rfl, by omega, all_succ hlt hall (eOk_iff.2 (by omega)), H.weaken (List.sublist_append_right [_] _)⟩ (Sub.cons (t := 20) (by first | rfl | simp) (Sub.nil _)) (Sub.cons (t := 2) rfl (Sub.cons (t := 18) rfl (Sub.cons (t := 19) rfl (Sub.nil _))))
                ·
                  refine WH.takeNo 18 rfl (by kernel_rfl) (by kernel_rfl) (by kernel_rfl) (fun _ _ _ h => h) ⟨_, HB⟩ rfl rfl rfl ?_
                  refine WH.takeNo 19 rfl (by kernel_rfl) (by kernel_rfl) (by kernel_rfl) (fun _ _ _ h => h) ⟨_, HB⟩ rfl rfl rfl ?_
                  refine WH.takeNo 20 rfl (by kernel_rfl) (by kernel_rfl) (by kernel_rfl) (fun _ _ _ h => h) ⟨_, HB⟩ rfl rfl rfl ?_
                  refine WH.takeNo 21 rfl (by kernel_rfl) (by kernel_rfl) (by kernel_rfl) (fun _ _ _ h => h) ⟨_, HB⟩ rfl rfl rfl ?_
                  refine WH.takeNo 22 rfl (by kernel_rfl) (by kernel_rfl) (by kernel_rfl) (fun _ _ _ h => h) ⟨_, HB⟩ rfl rfl rfl ?_
                  refine WH.takeYes 23 rfl (by kernel_rfl) (by kernel_rfl) (by kernel_rfl) (fun _ _ _ h => h) ⟨_, HB⟩ rfl rfl (fun w' hS => EX.pickF rfl rfl) rfl ?_
                  refine WH.take 24 rfl (by kernel_rfl) (by kernel_rfl) (by kernel_rfl) (fun _ _ _ h => h) ⟨_, HB⟩ (fun w' hS => EX.pickF rfl rfl) rfl ?_
                  refine WH.done (by kernel_rfl) ?_
                  replace H := H.call HB
                  refine WX.next ?_
                  refine WC.cond_false rfl (rfl) ?_
                  refine (WC.skip (WX.block_normal (WX.next ?_)))
                  refine WC.region ?_
                  refine WL.bin rfl rfl (iadd (by omega) (by omega)) rfl ?_
                  refine WL.move rfl rfl ?_
                  refine (WL.done (WX.round ?_))
                  exact hN _ (g + 1) _ _ (by omega) ⟨rfl, by omega, all_succ hlt hall (eOk_iff.2 (by omega)), H.weaken (List.sublist_append_right [_] _)⟩ (Sub.cons (t := 20) (by first | rfl | simp) (Sub.nil _)) (Sub.cons (t := 2) rfl (Sub.cons (t := 18) rfl (Sub.cons (t := 19) rfl (Sub.nil _))))
        ·
          refine WL.no rfl rfl rfl ?_
          refine WL.no rfl rfl rfl ?_
          refine WL.no rfl rfl rfl ?_
          refine WL.no rfl rfl rfl ?_
          refine WL.no rfl rfl rfl ?_
          refine WL.no rfl rfl rfl ?_
          refine WL.no rfl rfl rfl ?_
          refine WL.pickF rfl rfl rfl ?_
          refine WL.assign rfl rfl ?_
          refine (WL.done (WX.next ?_))
          refine WC.seq ?_
          replace H := H.drew
          refine WC.held (SX (World.drew wx) []) (by kernel_rfl) ?_
          generalize World.drew wx = wb at H ⊢
          have HB := St.refl wb
          refine WH.take 0 rfl (by kernel_rfl) (by kernel_rfl) (by kernel_rfl) (fun _ _ _ h => h) ⟨_, HB⟩ (fun w' hS => EX.fieldAddr fld189_1 rfl) rfl ?_
          refine WH.take 1 rfl (by kernel_rfl) (by kernel_rfl) (by kernel_rfl) (fun _ _ _ h => h) ⟨_, HB⟩ (fun w' hS => EX.load rfl (Rd.fldA 1 ty3 (hS.block (H.blk 0 rfl) (by simp)) (by rw [he2]; decide))) rfl ?_
          refine WH.hard 2 rfl (by kernel_rfl) ?_
          refine WL.call call152 rfl rfl ?_
          refine Calls.mono (lword_any _ _) ?_
          rintro _ wx ⟨rfl, rfl⟩
          refine ⟨_, rfl, ?_⟩
          refine WL.done (WX.heldOn ⟨_, HB⟩ ?_)
          refine WH.take 3 rfl (by kernel_rfl) (by kernel_rfl) (by kernel_rfl) (fun _ _ _ h => h) ⟨_, HB⟩ (fun w' hS => EX.notOp rfl) rfl ?_
          refine WH.take 4 rfl (by kernel_rfl) (by kernel_rfl) (by kernel_rfl) (fun _ _ _ h => h) ⟨_, HB⟩ (fun w' hS => EX.move rfl) rfl ?_
          first | refine WH.splitD (t := 44) rfl (fun g7 => ?_) (fun g7 => ?_) | refine WH.split (t := 44) rfl (fun g7 => ?_) (fun g7 => ?_)
          ·
            have hw : ¬ (0 ≤ es[g].getD 1 0 ∧ es[g].getD 1 0 ≤ 1099511627775) := fun h => by have h2 := ‹(!isWord (es[g].getD 1 0)) = true›; rw [isWord_iff.2 h] at h2; cases h2
            refine WH.takeNo 5 rfl (by kernel_rfl) (by kernel_rfl) (by kernel_rfl) (fun _ _ _ h => h) ⟨_, HB⟩ rfl rfl rfl ?_
            refine WH.takeNo 6 rfl (by kernel_rfl) (by kernel_rfl) (by kernel_rfl) (fun _ _ _ h => h) ⟨_, HB⟩ rfl rfl rfl ?_
            refine WH.takeNo 7 rfl (by kernel_rfl) (by kernel_rfl) (by kernel_rfl) (fun _ _ _ h => h) ⟨_, HB⟩ rfl rfl rfl ?_
            refine WH.take 8 rfl (by kernel_rfl) (by kernel_rfl) (by kernel_rfl) (fun _ _ _ h => h) ⟨_, HB⟩ (fun w' hS => EX.pickT rfl rfl) rfl ?_
            refine WH.take 9 rfl (by kernel_rfl) (by kernel_rfl) (by kernel_rfl) (fun _ _ _ h => h) ⟨_, HB⟩ (fun w' hS => EX.move rfl) rfl ?_
            refine WH.takeNo 10 rfl (by kernel_rfl) (by kernel_rfl) (by kernel_rfl) (fun _ _ _ h => h) ⟨_, HB⟩ rfl rfl rfl ?_
            refine WH.takeNo 11 rfl (by kernel_rfl) (by kernel_rfl) (by kernel_rfl) (fun _ _ _ h => h) ⟨_, HB⟩ rfl rfl rfl ?_
            refine WH.takeNo 12 rfl (by kernel_rfl) (by kernel_rfl) (by kernel_rfl) (fun _ _ _ h => h) ⟨_, HB⟩ rfl rfl rfl ?_
            refine WH.takeNo 13 rfl (by kernel_rfl) (by kernel_rfl) (by kernel_rfl) (fun _ _ _ h => h) ⟨_, HB⟩ rfl rfl rfl ?_
            refine WH.take 14 rfl (by kernel_rfl) (by kernel_rfl) (by kernel_rfl) (fun _ _ _ h => h) ⟨_, HB⟩ (fun w' hS => EX.pickT rfl rfl) rfl ?_
            refine WH.take 15 rfl (by kernel_rfl) (by kernel_rfl) (by kernel_rfl) (fun _ _ _ h => h) ⟨_, HB⟩ (fun w' hS => EX.move rfl) rfl ?_
            refine WH.takeNo 16 rfl (by kernel_rfl) (by kernel_rfl) (by kernel_rfl) (fun _ _ _ h => h) ⟨_, HB⟩ rfl rfl rfl ?_
            refine WH.takeNo 17 rfl (by kernel_rfl) (by kernel_rfl) (by kernel_rfl) (fun _ _ _ h => h) ⟨_, HB⟩ rfl rfl rfl ?_
            refine WH.takeNoU 18 rfl (by kernel_rfl) (by kernel_rfl) (by kernel_rfl) (fun _ _ _ h => h) ⟨_, HB⟩ rfl rfl rfl rfl ?_
            refine WH.takeNoU 19 rfl (by kernel_rfl) (by kernel_rfl) (by kernel_rfl) (fun _ _ _ h => h) ⟨_, HB⟩ rfl rfl rfl rfl ?_
            refine WH.takeNoU 20 rfl (by kernel_rfl) (by kernel_rfl) (by kernel_rfl) (fun _ _ _ h => h) ⟨_, HB⟩ rfl rfl rfl rfl ?_
            refine WH.takeNoU 21 rfl (by kernel_rfl) (by kernel_rfl) (by kernel_rfl) (fun _ _ _ h => h) ⟨_, HB⟩ rfl rfl rfl rfl ?_
            refine WH.takeNoU 22 rfl (by kernel_rfl) (by kernel_rfl) (by kernel_rfl) (fun _ _ _ h => h) ⟨_, HB⟩ rfl rfl rfl rfl ?_
            refine WH.takeNo 23 rfl (by kernel_rfl) (by kernel_rfl) (by kernel_rfl) (fun _ _ _ h => h) ⟨_, HB⟩ rfl rfl rfl ?_
            refine WH.take 24 rfl (by kernel_rfl) (by kernel_rfl) (by kernel_rfl) (fun _ _ _ h => h) ⟨_, HB⟩ (fun w' hS => EX.pickT rfl rfl) rfl ?_
            refine WH.done (by kernel_rfl) ?_
            replace H := H.call HB
            refine WX.next ?_
            refine WC.cond_true rfl (rfl) ?_
            refine WC.seq ?_
            refine WC.region ?_
            refine WL.assign rfl rfl ?_
            refine (WL.done (WX.next ?_))
            refine (WC.ret (WX.block_ret (WX.then_ret (WX.then_ret (WX.block_ret (WX.then_ret ?_))))))
            refine ret_one rfl rfl ?_
            rw [rOk_ent (all_no hlt (fun h => by have h := eOk_iff.1 h; omega))]
            exact ⟨rfl, H.weaken (List.nil_sublist _)⟩
          ·
            have hw : 0 ≤ es[g].getD 1 0 ∧ es[g].getD 1 0 ≤ 1099511627775 := isWord_iff.1 (by simpa using ‹(!isWord (es[g].getD 1 0)) = false›)
            refine WH.takeYes 5 rfl (by kernel_rfl) (by kernel_rfl) (by kernel_rfl) (fun _ _ _ h => h) ⟨_, HB⟩ rfl rfl (fun w' hS => EX.fieldAddr fld189_0 rfl) rfl ?_
            refine WH.takeYes 6 rfl (by kernel_rfl) (by kernel_rfl) (by kernel_rfl) (fun _ _ _ h => h) ⟨_, HB⟩ rfl rfl (fun w' hS => EX.load rfl (Rd.fldA 0 ty3 (hS.block (H.blk 0 rfl) (by simp)) (by rw [he2]; decide))) rfl ?_
            refine WH.takeYes 7 rfl (by kernel_rfl) (by kernel_rfl) (by kernel_rfl) (fun _ _ _ h => h) ⟨_, HB⟩ rfl rfl (fun w' hS => EX.bin rfl rfl (binv_lss)) rfl ?_
            refine WH.take 8 rfl (by kernel_rfl) (by kernel_rfl) (by kernel_rfl) (fun _ _ _ h => h) ⟨_, HB⟩ (fun w' hS => EX.pickF rfl rfl) rfl ?_
            refine WH.take 9 rfl (by kernel_rfl) (by kernel_rfl) (by kernel_rfl) (fun _ _ _ h => h) ⟨_, HB⟩ (fun w' hS => EX.move rfl) rfl ?_
            first | refine WH.splitD (t := 49) rfl (fun g8 => ?_) (fun g8 => ?_) | refine WH.split (t := 49) rfl (fun g8 => ?_) (fun g8 => ?_)
            ·
              refine WH.takeNo 10 rfl (by kernel_rfl) (by kernel_rfl) (by kernel_rfl) (fun _ _ _ h => h) ⟨_, HB⟩ rfl rfl rfl ?_
              refine WH.takeNo 11 rfl (by kernel_rfl) (by kernel_rfl) (by kernel_rfl) (fun _ _ _ h => h) ⟨_, HB⟩ rfl rfl rfl ?_
              refine WH.takeNo 12 rfl (by kernel_rfl) (by kernel_rfl) (by kernel_rfl) (fun _ _ _ h => h) ⟨_, HB⟩ rfl rfl rfl ?_
              refine WH.takeNo 13 rfl (by kernel_rfl) (by kernel_rfl) (by kernel_rfl) (fun _ _ _ h => h) ⟨_, HB⟩ rfl rfl rfl ?_
              refine WH.take 14 rfl (by kernel_rfl) (by kernel_rfl) (by kernel_rfl) (fun _ _ _ h => h) ⟨_, HB⟩ (fun w' hS => EX.pickT rfl rfl) rfl ?_
              refine WH.take 15 rfl (by kernel_rfl) (by kernel_rfl) (by kernel_rfl) (fun _ _ _ h => h) ⟨_, HB⟩ (fun w' hS => EX.move rfl) rfl ?_
              refine WH.takeNo 16 rfl (by kernel_rfl) (by kernel_rfl) (by kernel_rfl) (fun _ _ _ h => h) ⟨_, HB⟩ rfl rfl rfl ?_
              refine WH.takeNo 17 rfl (by kernel_rfl) (by kernel_rfl) (by kernel_rfl) (fun _ _ _ h => h) ⟨_, HB⟩ rfl rfl rfl ?_
              refine WH.takeNoU 18 rfl (by kernel_rfl) (by kernel_rfl) (by kernel_rfl) (fun _ _ _ h => h) ⟨_, HB⟩ rfl rfl rfl rfl ?_
              refine WH.takeNoU 19 rfl (by kernel_rfl) (by kernel_rfl) (by kernel_rfl) (fun _ _ _ h => h) ⟨_, HB⟩ rfl rfl rfl rfl ?_
              refine WH.takeNoU 20 rfl (by kernel_rfl) (by kernel_rfl) (by kernel_rfl) (fun _ _ _ h => h) ⟨_, HB⟩ rfl rfl rfl rfl ?_
              refine WH.takeNoU 21 rfl (by kernel_rfl) (by kernel_rfl) (by kernel_rfl) (fun _ _ _ h => h) ⟨_, HB⟩ rfl rfl rfl rfl ?_
              refine WH.takeNoU 22 rfl (by kernel_rfl) (by kernel_rfl) (by kernel_rfl) (fun _ _ _ h => h) ⟨_, HB⟩ rfl rfl rfl rfl ?_
              refine WH.takeNo 23 rfl (by kernel_rfl) (by kernel_rfl) (by kernel_rfl) (fun _ _ _ h => h) ⟨_, HB⟩ rfl rfl rfl ?_
              refine WH.take 24 rfl (by kernel_rfl) (by kernel_rfl) (by kernel_rfl) (fun _ _ _ h => h) ⟨_, HB⟩ (fun w' hS => EX.pickT rfl rfl) rfl ?_
              refine WH.done (by kernel_rfl) ?_
              replace H := H.call HB
              refine WX.next ?_
              refine WC.cond_true rfl (rfl) ?_
              refine WC.seq ?_
              refine WC.region ?_
              refine WL.assign rfl rfl ?_
              refine (WL.done (WX.next ?_))
              refine (WC.ret (WX.block_ret (WX.then_ret (WX.then_ret (WX.block_ret (WX.then_ret ?_))))))
              refine ret_one rfl rfl ?_
              rw [rOk_ent (all_no hlt (fun h => by have h := eOk_iff.1 h; omega))]
              exact ⟨rfl, H.weaken (List.nil_sublist _)⟩
            ·
              refine WH.takeYes 10 rfl (by kernel_rfl) (by kernel_rfl) (by kernel_rfl) (fun _ _ _ h => h) ⟨_, HB⟩ rfl rfl (fun w' hS => EX.move rfl) rfl ?_
              refine WH.takeYes 11 rfl (by kernel_rfl) (by kernel_rfl) (by kernel_rfl) (fun _ _ _ h => h) ⟨_, HB⟩ rfl rfl (fun w' hS => EX.fieldAddr fld95_0 rfl) rfl ?_
              refine WH.takeYes 12 rfl (by kernel_rfl) (by kernel_rfl) (by kernel_rfl) (fun _ _ _ h => h) ⟨_, HB⟩ rfl rfl (fun w' hS => EX.load rfl (Rd.fldA 0 ty3 (hS.block (H.blk 2 rfl) (by simp)) (by rw [hR.len]; decide))) rfl ?_
              refine WH.takeYes 13 rfl (by kernel_rfl) (by kernel_rfl) (by kernel_rfl) (fun _ _ _ h => h) ⟨_, HB⟩ rfl rfl (fun w' hS => EX.bin rfl rfl (binv_geq)) rfl ?_
              refine WH.take 14 rfl (by kernel_rfl) (by kernel_rfl) (by kernel_rfl) (fun _ _ _ h => h) ⟨_, HB⟩ (fun w' hS => EX.pickF rfl rfl) rfl ?_
              refine WH.take 15 rfl (by kernel_rfl) (by kernel_rfl) (by kernel_rfl) (fun _ _ _ h => h) ⟨_, HB⟩ (fun w' hS => EX.move rfl) rfl ?_
              first | refine WH.splitD (t := 55) rfl (fun g9 => ?_) (fun g9 => ?_) | refine WH.split (t := 55) rfl (fun g9 => ?_) (fun g9 => ?_)
              ·
                refine WH.takeNo 16 rfl (by kernel_rfl) (by kernel_rfl) (by kernel_rfl) (fun _ _ _ h => h) ⟨_, HB⟩ rfl rfl rfl ?_
                refine WH.takeNo 17 rfl (by kernel_rfl) (by kernel_rfl) (by kernel_rfl) (fun _ _ _ h => h) ⟨_, HB⟩ rfl rfl rfl ?_
                refine WH.takeNoU 18 rfl (by kernel_rfl) (by kernel_rfl) (by kernel_rfl) (fun _ _ _ h => h) ⟨_, HB⟩ rfl rfl rfl rfl ?_
                refine WH.takeNoU 19 rfl (by kernel_rfl) (by kernel_rfl) (by kernel_rfl) (fun _ _ _ h => h) ⟨_, HB⟩ rfl rfl rfl rfl ?_
                refine WH.takeNoU 20 rfl (by kernel_rfl) (by kernel_rfl) (by kernel_rfl) (fun _ _ _ h => h) ⟨_, HB⟩ rfl rfl rfl rfl ?_
                refine WH.takeNoU 21 rfl (by kernel_rfl) (by kernel_rfl) (by kernel_rfl) (fun _ _ _ h => h) ⟨_, HB⟩ rfl rfl rfl rfl ?_
                refine WH.takeNoU 22 rfl (by kernel_rfl) (by kernel_rfl) (by kernel_rfl) (fun _ _ _ h => h) ⟨_, HB⟩ rfl rfl rfl rfl ?_
                refine WH.takeNo 23 rfl (by kernel_rfl) (by kernel_rfl) (by kernel_rfl) (fun _ _ _ h => h) ⟨_, HB⟩ rfl rfl rfl ?_
                refine WH.take 24 rfl (by kernel_rfl) (by kernel_rfl) (by kernel_rfl) (fun _ _ _ h => h) ⟨_, HB⟩ (fun w' hS => EX.pickT rfl rfl) rfl ?_
                refine WH.done (by kernel_rfl) ?_
                replace H := H.call HB
                refine WX.next ?_
                refine WC.cond_true rfl (rfl) ?_
                refine WC.seq ?_
                refine WC.region ?_
                refine WL.assign rfl rfl ?_
                refine (WL.done (WX.next ?_))
                refine (WC.ret (WX.block_ret (WX.then_ret (WX.then_ret (WX.block_ret (WX.then_ret ?_))))))
                refine ret_one rfl rfl ?_
                rw [rOk_ent (all_no hlt (fun h => by have h := eOk_iff.1 h; omega))]
                exact ⟨rfl, H.weaken (List.nil_sublist _)⟩
              ·
                refine WH.takeYes 16 rfl (by kernel_rfl) (by kernel_rfl) (by kernel_rfl) (fun _ _ _ h => h) ⟨_, HB⟩ rfl rfl (fun w' hS => EX.move rfl) rfl ?_
                refine WH.takeYes 17 rfl (by kernel_rfl) (by kernel_rfl) (by kernel_rfl) (fun _ _ _ h => h) ⟨_, HB⟩ rfl rfl (fun w' hS => EX.move rfl) rfl ?_
                refine WH.takeNo 18 rfl (by kernel_rfl) (by kernel_rfl) (by kernel_rfl) (fun _ _ _ h => h) ⟨_, HB⟩ rfl rfl rfl ?_
                refine WH.takeNo 19 rfl (by kernel_rfl) (by kernel_rfl) (by kernel_rfl) (fun _ _ _ h => h) ⟨_, HB⟩ rfl rfl rfl ?_
                refine WH.takeNo 20 rfl (by kernel_rfl) (by kernel_rfl) (by kernel_rfl) (fun _ _ _ h => h) ⟨_, HB⟩ rfl rfl rfl ?_
                refine WH.takeNo 21 rfl (by kernel_rfl) (by kernel_rfl) (by kernel_rfl) (fun _ _ _ h => h) ⟨_, HB⟩ rfl rfl rfl ?_
                refine WH.takeNo 22 rfl (by kernel_rfl) (by kernel_rfl) (by kernel_rfl) (fun _ _ _ h => h) ⟨_, HB⟩ rfl rfl rfl ?_
                refine WH.takeYes 23 rfl (by kernel_rfl) (by kernel_rfl) (by kernel_rfl) (fun _ _ _ h => h) ⟨_, HB⟩ rfl rfl (fun w' hS => EX.pickF rfl rfl) rfl ?_
                refine WH.take 24 rfl (by kernel_rfl) (by kernel_rfl) (by kernel_rfl) (fun _ _ _ h => h) ⟨_, HB⟩ (fun w' hS => EX.pickF rfl rfl) rfl ?_
                refine WH.done (by kernel_rfl) ?_
                replace H := H.call HB
                refine WX.next ?_
                refine WC.cond_false rfl (rfl) ?_
                refine (WC.skip (WX.block_normal (WX.next ?_)))
                refine WC.region ?_
                refine WL.bin rfl rfl (iadd (by omega) (by omega)) rfl ?_
                refine WL.move rfl rfl ?_
                refine (WL.done (WX.round ?_))
                exact hN _ (g + 1) _ _ (by omega) ⟨rfl, by omega, all_succ hlt hall (eOk_iff.2 (by omega)), H.weaken (List.sublist_append_right [_] _)⟩ (Sub.cons (t := 20) (by first | rfl | simp) (Sub.nil _)) (Sub.cons (t := 2) rfl (Sub.cons (t := 18) rfl (Sub.cons (t := 19) rfl (Sub.nil _))))
      ·
        change ¬ (g : Int) < (m : Int) at c3
        obtain rfl : g = m := by omega
        refine (WC.exit (WX.then_exit (WX.then_exit (WX.block_exit (WX.next ?_)))))
        refine WC.seq ?_
        refine WC.region ?_
        refine WL.assign rfl rfl ?_
        refine (WL.done (WX.next ?_))
        refine (WC.ret ?_)
        refine ret_one rfl rfl ?_
        have hyes : rOk ls (num, es) = true := rOk_iff.2 ⟨⟨by show 1 ≤ num; omega, by show num ≤ 1073741824; omega⟩, (show es.all (eOk ls) = true from all_end (by omega) hall)⟩
        rw [hyes]
        exact ⟨rfl, H.weaken (List.nil_sublist _)⟩

theorem refValid_any (ls : List Int) (hR : LR ls) (num : Int) (es : List (List Int)) (A : Option Addr) (m cap : Nat) (hm : m = es.length) (hm63 : m ≤ 1048575) (w : World) (hx : RowsIn w A 2 es) : Calls Tryd.prog 76 #[arr ls, .agg #[.int .i64 num, .slice A m cap]] w fun e w' => e = .returned (.bool (rOk ls (num, es))) ∧ St w [] w' [] := by
  have hR1 := hR.a0
  have hR2 := hR.b2
  have hR3 := hR.n
  have hR4 := hR.ab
  refine calls_walk_n (args := [arr ls, .agg #[.int .i64 num, .slice A m cap]]) Tryd.func76 rfl rfl rfl ?_
  have H := St.refl w
  refine WC.seq ?_
  refine WC.region ?_
  refine WL.boxArr H rfl rfl ?_
  intro b2 wx hb2 hge2 H
  refine WL.box H rfl rfl ?_
  intro b3 wx hb3 hge3 H
  refine WL.assign rfl rfl ?_
  refine (WL.done (WX.next ?_))
  refine WC.seq ?_
  refine WC.seq ?_
  refine WC.region ?_
  refine WL.assign rfl rfl ?_
  refine (WL.done (WX.next ?_))
  refine WC.block ?_
  refine WC.loop (Sub.cons (t := 2) rfl (Sub.cons (t := 3) rfl (Sub.nil _))) (fun i : Nat => [(5, .int .i64 (i : Int))]) (fun q i wx => q = m - i ∧ i ≤ m ∧ (es.take i).all (eOk ls) = true ∧ St w [] wx [(b3, .cells #[.int .i64 num, .slice A m cap] 125), (b2, .cells (arrC ls) 95)]) (m) (0) (Sub.cons (t := 5) (by first | rfl | simp) (Sub.nil _)) (⟨rfl, Nat.zero_le _, rfl, H⟩) ?_
  rintro k g wx hI N hN
  obtain ⟨rfl, hg, hall, H⟩ := hI
  refine WC.seq ?_
  refine WC.seq ?_
  refine WC.region ?_
  refine WL.move rfl rfl ?_
  refine WL.fieldAddr fld125_1 rfl rfl ?_
  first | refine WL.load rfl (H.rd1 ty123 0 rfl rfl) rfl ?_ | refine WL.load rfl (H.rd1 ty123 1 rfl rfl) rfl ?_ | refine WL.load rfl (H.rdA ty123 0 rfl (by first | decide | exact Nat.le_refl _)) rfl ?_ | refine WL.load rfl (H.rdA ty123 1 rfl (by first | decide | exact Nat.le_refl _)) rfl ?_
  refine WL.lenSlc isl123 rfl rfl ?_
  refine WL.bin rfl rfl binv_lss rfl ?_
  refine (WL.done (WX.next ?_))
  first | refine WC.cond_dec rfl (fun c1 => ?_) (fun c1 => ?_) | refine WC.cond rfl (fun c1 => ?_) (fun c1 => ?_)
  ·
    change (g : Int) < (m : Int) at c1
    have hlt : g < es.length := by omega
    have he2 := hx.1 _ (List.getElem_mem hlt)
    obtain ⟨b, o, rfl⟩ := hx.addr (by omega) hlt
    refine (WC.skip (WX.next ?_))
    refine WC.seq ?_
    refine WC.block ?_
    refine WC.seq ?_
    refine WC.region ?_
    refine WL.fieldAddr fld125_1 rfl rfl ?_
    first | refine WL.load rfl (H.rd1 ty123 0 rfl rfl) rfl ?_ | refine WL.load rfl (H.rd1 ty123 1 rfl rfl) rfl ?_ | refine WL.load rfl (H.rdA ty123 0 rfl (by first | decide | exact Nat.le_refl _)) rfl ?_ | refine WL.load rfl (H.rdA ty123 1 rfl (by first | decide | exact Nat.le_refl _)) rfl ?_
    refine WL.move rfl rfl ?_
    refine WL.idxSlc (k := g) slc123 rfl rfl (by first | rfl | omega) (by omega) rfl ?_
    refine WL.load rfl ((hx.keep H).rd ty189 (by omega) hlt rfl) rfl ?_
    refine WL.alloc H zer189 rfl ?_
    intro b6 wx hb6 hge6 H
    refine WL.storeArr (ws' := es[g]) H ty189 0 rfl rfl rfl rfl he2 ?_
    intro wx H
    refine (WL.done (WX.next ?_))
    refine WC.seq ?_
    refine WC.seq ?_
    refine WC.region ?_
    refine WL.fieldAddr fld189_0 rfl rfl ?_
    refine WL.load rfl (H.rdElt (o := 0) ty3 0 rfl (by rw [he2]; decide)) rfl ?_
    refine WL.bin rfl rfl binv_lss rfl ?_
    refine WL.move rfl rfl ?_
    first | refine WL.splitD (t := 22) rfl (fun g1 => ?_) (fun g1 => ?_) | refine WL.split (t := 22) rfl (fun g1 => ?_) (fun g1 => ?_)
    ·
      refine WL.no rfl rfl rfl ?_
      refine WL.no rfl rfl rfl ?_
      refine WL.no rfl rfl rfl ?_
      refine WL.no rfl rfl rfl ?_
      refine WL.no rfl rfl rfl ?_
      refine WL.no rfl rfl rfl ?_
      refine WL.pickT rfl rfl rfl ?_
      refine WL.move rfl rfl ?_
      refine WL.no rfl rfl rfl ?_
      refine WL.no rfl rfl rfl ?_
      refine WL.no rfl rfl rfl ?_
      refine WL.no rfl rfl rfl ?_
      refine WL.pickT rfl rfl rfl ?_
      refine (WL.done (WX.next ?_))
      refine WC.cond_true rfl (rfl) ?_
      refine WC.seq ?_
      refine WC.region ?_
      refine WL.assign rfl rfl ?_
      refine (WL.done (WX.next ?_))
      refine (WC.ret (WX.then_ret (WX.block_ret (WX.then_ret (WX.then_ret (WX.block_ret (WX.then_ret ?_)))))))
      refine ret_one rfl rfl ?_
      rw [rOk_ent (all_no hlt (fun h => by have h := eOk_iff.1 h; omega))]
      exact ⟨rfl, H.weaken (List.nil_sublist _)⟩
    ·
      refine WL.yes rfl rfl ?_
      refine WL.fieldAddr fld189_0 rfl rfl ?_
      refine WL.yes rfl rfl ?_
      refine WL.load rfl (H.rdElt (o := 0) ty3 0 rfl (by rw [he2]; decide)) rfl ?_
      refine WL.yes rfl rfl ?_
      refine WL.fieldAddr fld95_0 rfl rfl ?_
      refine WL.yes rfl rfl ?_
      refine WL.load rfl (H.rdElt (o := 0) ty3 2 rfl (by rw [hR.len]; decide)) rfl ?_
      refine WL.yes rfl rfl ?_
      refine WL.bin rfl rfl (imul (by omega) (by omega)) rfl ?_
      refine WL.yes rfl rfl ?_
      refine WL.bin rfl rfl binv_geq rfl ?_
      refine WL.pickF rfl rfl rfl ?_
      refine WL.move rfl rfl ?_
      first | refine WL.splitD (t := 30) rfl (fun g2 => ?_) (fun g2 => ?_) | refine WL.split (t := 30) rfl (fun g2 => ?_) (fun g2 => ?_)
      ·
        refine WL.no rfl rfl rfl ?_
        refine WL.no rfl rfl rfl ?_
        refine WL.no rfl rfl rfl ?_
        refine WL.no rfl rfl rfl ?_
        refine WL.pickT rfl rfl rfl ?_
        refine (WL.done (WX.next ?_))
        refine WC.cond_true rfl (rfl) ?_
        refine WC.seq ?_
        refine WC.region ?_
        refine WL.assign rfl rfl ?_
        refine (WL.done (WX.next ?_))
        refine (WC.ret (WX.then_ret (WX.block_ret (WX.then_ret (WX.then_ret (WX.block_ret (WX.then_ret ?_)))))))
        refine ret_one rfl rfl ?_
        rw [rOk_ent (all_no hlt (fun h => by have h := eOk_iff.1 h; omega))]
        exact ⟨rfl, H.weaken (List.nil_sublist _)⟩
      ·
        refine WL.yes rfl rfl ?_
        refine WL.fieldAddr fld189_1 rfl rfl ?_
        refine WL.yes rfl rfl ?_
        refine WL.load rfl (H.rdElt (o := 1) ty3 0 rfl (by rw [he2]; decide)) rfl ?_
        refine WL.yes rfl rfl ?_
        refine WL.call call153 rfl rfl ?_
        refine Calls.mono (reflword_any _ _) ?_
        rintro _ wx ⟨rfl, rfl⟩
        refine ⟨_, rfl, ?_⟩
        refine WL.yes rfl rfl ?_
        refine WL.notOp rfl rfl ?_
        refine WL.pickF rfl rfl rfl ?_
        refine (WL.done (WX.next ?_))
        first | refine WC.cond_dec rfl (fun c4 => ?_) (fun c4 => ?_) | refine WC.cond rfl (fun c4 => ?_) (fun c4 => ?_)
        ·
          first | omega | (have hw : ¬ (0 ≤ es[g].getD 1 0 ∧ es[g].getD 1 0 ≤ 1099511627775) := fun h => by have h2 := ‹(!isWord (es[g].getD 1 0)) = true›; rw [isWord_iff.2 h] at h2; cases h2)
          refine WC.seq ?_
          refine WC.region ?_
          refine WL.assign rfl rfl ?_
          refine (WL.done (WX.next ?_))
          refine (WC.ret (WX.then_ret (WX.block_ret (WX.then_ret (WX.then_ret (WX.block_ret (WX.then_ret ?_)))))))
          refine ret_one rfl rfl ?_
          rw [rOk_ent (all_no hlt (fun h => by have h := eOk_iff.1 h; omega))]
          exact ⟨rfl, H.weaken (List.nil_sublist _)⟩
        ·
          have hw : 0 ≤ es[g].getD 1 0 ∧ es[g].getD 1 0 ≤ 1099511627775 := isWord_iff.1 (by simpa using ‹(!isWord (es[g].getD 1 0)) = false›)
          refine (WC.skip (WX.next ?_))
          refine WC.seq ?_
          replace H := H.drew
          refine WC.held (SX (World.drew wx) []) (by kernel_rfl) ?_
          generalize World.drew wx = wb at H ⊢
          have HB := St.refl wb
          refine WH.take 0 rfl (by kernel_rfl) (by kernel_rfl) (by kernel_rfl) (fun _ _ _ h => h) ⟨_, HB⟩ (fun w' hS => EX.fieldAddr fld189_0 rfl) rfl ?_
          refine WH.take 1 rfl (by kernel_rfl) (by kernel_rfl) (by kernel_rfl) (fun _ _ _ h => h) ⟨_, HB⟩ (fun w' hS => EX.load rfl (Rd.fldA 0 ty3 (hS.block (H.blk 0 rfl) (by simp)) (by rw [he2]; decide))) rfl ?_
          refine WH.take 2 rfl (by kernel_rfl) (by kernel_rfl) (by kernel_rfl) (fun _ _ _ h => h) ⟨_, HB⟩ (fun w' hS => EX.fieldAddr fld95_1 rfl) rfl ?_
          refine WH.take 3 rfl (by kernel_rfl) (by kernel_rfl) (by kernel_rfl) (fun _ _ _ h => h) ⟨_, HB⟩ (fun w' hS => EX.load rfl (Rd.fldA 1 ty3 (hS.block (H.blk 2 rfl) (by simp)) (by rw [hR.len]; decide))) rfl ?_
          refine WH.take 4 rfl (by kernel_rfl) (by kernel_rfl) (by kernel_rfl) (fun _ _ _ h => h) ⟨_, HB⟩ (fun w' hS => EX.bin rfl rfl (imul (by omega) (by omega))) rfl ?_
          refine WH.take 5 rfl (by kernel_rfl) (by kernel_rfl) (by kernel_rfl) (fun _ _ _ h => h) ⟨_, HB⟩ (fun w' hS => EX.bin rfl rfl (binv_geq)) rfl ?_
          refine WH.take 6 rfl (by kernel_rfl) (by kernel_rfl) (by kernel_rfl) (fun _ _ _ h => h) ⟨_, HB⟩ (fun w' hS => EX.move rfl) rfl ?_
          first | refine WH.splitD (t := 42) rfl (fun g3 => ?_) (fun g3 => ?_) | refine WH.split (t := 42) rfl (fun g3 => ?_) (fun g3 => ?_)
          ·
            refine WH.takeYes 7 rfl (by kernel_rfl) (by kernel_rfl) (by kernel_rfl) (fun _ _ _ h => h) ⟨_, HB⟩ rfl rfl (fun w' hS => EX.fieldAddr fld189_0 rfl) rfl ?_
            refine WH.takeYes 8 rfl (by kernel_rfl) (by kernel_rfl) (by kernel_rfl) (fun _ _ _ h => h) ⟨_, HB⟩ rfl rfl (fun w' hS => EX.load rfl (Rd.fldA 0 ty3 (hS.block (H.blk 0 rfl) (by simp)) (by rw [he2]; decide))) rfl ?_
            refine WH.takeYes 9 rfl (by kernel_rfl) (by kernel_rfl) (by kernel_rfl) (fun _ _ _ h => h) ⟨_, HB⟩ rfl rfl (fun w' hS => EX.fieldAddr fld95_1 rfl) rfl ?_
            refine WH.takeYes 10 rfl (by kernel_rfl) (by kernel_rfl) (by kernel_rfl) (fun _ _ _ h => h) ⟨_, HB⟩ rfl rfl (fun w' hS => EX.load rfl (Rd.fldA 1 ty3 (hS.block (H.blk 2 rfl) (by simp)) (by rw [hR.len]; decide))) rfl ?_
            refine WH.takeYes 11 rfl (by kernel_rfl) (by kernel_rfl) (by kernel_rfl) (fun _ _ _ h => h) ⟨_, HB⟩ rfl rfl (fun w' hS => EX.fieldAddr fld95_2 rfl) rfl ?_
            refine WH.takeYes 12 rfl (by kernel_rfl) (by kernel_rfl) (by kernel_rfl) (fun _ _ _ h => h) ⟨_, HB⟩ rfl rfl (fun w' hS => EX.load rfl (Rd.fldA 2 ty3 (hS.block (H.blk 2 rfl) (by simp)) (by rw [hR.len]; decide))) rfl ?_
            refine WH.takeYes 13 rfl (by kernel_rfl) (by kernel_rfl) (by kernel_rfl) (fun _ _ _ h => h) ⟨_, HB⟩ rfl rfl (fun w' hS => EX.bin rfl rfl (iadd (by omega) (by omega))) rfl ?_
            refine WH.takeYes 14 rfl (by kernel_rfl) (by kernel_rfl) (by kernel_rfl) (fun _ _ _ h => h) ⟨_, HB⟩ rfl rfl (fun w' hS => EX.bin rfl rfl (imul (by omega) (by omega))) rfl ?_
            refine WH.takeYes 15 rfl (by kernel_rfl) (by kernel_rfl) (by kernel_rfl) (fun _ _ _ h => h) ⟨_, HB⟩ rfl rfl (fun w' hS => EX.bin rfl rfl (binv_lss)) rfl ?_
            refine WH.take 16 rfl (by kernel_rfl) (by kernel_rfl) (by kernel_rfl) (fun _ _ _ h => h) ⟨_, HB⟩ (fun w' hS => EX.pickT rfl rfl) rfl ?_
            refine WH.take 17 rfl (by kernel_rfl) (by kernel_rfl) (by kernel_rfl) (fun _ _ _ h => h) ⟨_, HB⟩ (fun w' hS => EX.move rfl) rfl ?_
            first | refine WH.splitD (t := 53) rfl (fun g4 => ?_) (fun g4 => ?_) | refine WH.split (t := 53) rfl (fun g4 => ?_) (fun g4 => ?_)
            ·
              refine WH.takeYes 18 rfl (by kernel_rfl) (by kernel_rfl) (by kernel_rfl) (fun _ _ _ h => h) ⟨_, HB⟩ rfl rfl (fun w' hS => EX.fieldAddr fld189_0 rfl) rfl ?_
              refine WH.takeYes 19 rfl (by kernel_rfl) (by kernel_rfl) (by kernel_rfl) (fun _ _ _ h => h) ⟨_, HB⟩ rfl rfl (fun w' hS => EX.load rfl (Rd.fldA 0 ty3 (hS.block (H.blk 0 rfl) (by simp)) (by rw [he2]; decide))) rfl ?_
              refine WH.takeYes 20 rfl (by kernel_rfl) (by kernel_rfl) (by kernel_rfl) (fun _ _ _ h => h) ⟨_, HB⟩ rfl rfl (fun w' hS => EX.load rfl (Rd.arr ty95 (hS.block (H.blk 2 rfl) (by simp)) hR.len)) rfl ?_
              refine WH.hard 21 rfl (by kernel_rfl) ?_
              refine WL.yes rfl rfl ?_
              refine WL.call call84 rfl rfl ?_
              refine Calls.mono (refStampAt_any ls hR _) ?_
              rintro _ wx ⟨rfl, Hc⟩
              refine ⟨_, rfl, ?_⟩
              replace HB := HB.call0 Hc
              refine WL.done (WX.heldOn ⟨_, HB⟩ ?_)
              refine WH.takeYes 22 rfl (by kernel_rfl) (by kernel_rfl) (by kernel_rfl) (fun _ _ _ h => h) ⟨_, HB⟩ rfl rfl (fun w' hS => EX.bin rfl rfl (binv_neq)) rfl ?_
              refine WH.take 23 rfl (by kernel_rfl) (by kernel_rfl) (by kernel_rfl) (fun _ _ _ h => h) ⟨_, HB⟩ (fun w' hS => EX.pickT rfl rfl) rfl ?_
              refine WH.done (by kernel_rfl) ?_
              replace H := H.call HB
              refine WX.next ?_
              first | refine WC.cond_dec rfl (fun c5 => ?_) (fun c5 => ?_) | refine WC.cond rfl (fun c5 => ?_) (fun c5 => ?_)
              ·
                refine WC.seq ?_
                refine WC.region ?_
                refine WL.assign rfl rfl ?_
                refine (WL.done (WX.next ?_))
                refine (WC.ret (WX.block_ret (WX.then_ret (WX.then_ret (WX.block_ret (WX.then_ret ?_))))))
                refine ret_one rfl rfl ?_
                rw [rOk_ent (all_no hlt (fun h => by have h := eOk_iff.1 h; omega))]
                exact ⟨rfl, H.weaken (List.nil_sublist _)⟩
              ·
                refine (WC.skip (WX.block_normal (WX.next ?_)))
                refine WC.region ?_
                refine WL.move rfl rfl ?_
                refine WL.bin rfl rfl (iadd (by omega) (by omega)) rfl ?_
                refine WL.assign rfl rfl ?_
                refine (WL.done (WX.round ?_))
                exact hN _ (g + 1) _ _ (by omega) ⟨rfl, by omega, all_succ hlt hall (eOk_iff.2 (by omega)), H.weaken (List.sublist_append_right [_] _)⟩ (Sub.cons (t := 5) (by first | rfl | simp) (Sub.nil _)) (Sub.cons (t := 2) rfl (Sub.cons (t := 3) rfl (Sub.nil _)))
            ·
              refine WH.takeNo 18 rfl (by kernel_rfl) (by kernel_rfl) (by kernel_rfl) (fun _ _ _ h => h) ⟨_, HB⟩ rfl rfl rfl ?_
              refine WH.takeNo 19 rfl (by kernel_rfl) (by kernel_rfl) (by kernel_rfl) (fun _ _ _ h => h) ⟨_, HB⟩ rfl rfl rfl ?_
              refine WH.takeNo 20 rfl (by kernel_rfl) (by kernel_rfl) (by kernel_rfl) (fun _ _ _ h => h) ⟨_, HB⟩ rfl rfl rfl ?_
              refine WH.takeNo 21 rfl (by kernel_rfl) (by kernel_rfl) (by kernel_rfl) (fun _ _ _ h => h) ⟨_, HB⟩ rfl rfl rfl ?_
              refine WH.takeNo 22 rfl (by kernel_rfl) (by kernel_rfl) (by kernel_rfl) (fun _ _ _ h => h) ⟨_, HB⟩ rfl rfl rfl ?_
              refine WH.take 23 rfl (by kernel_rfl) (by kernel_rfl) (by kernel_rfl) (fun _ _ _ h => h) ⟨_, HB⟩ (fun w' hS => EX.pickF rfl rfl) rfl ?_
              refine WH.done (by kernel_rfl) ?_
              replace H := H.call HB
              refine WX.next ?_
              refine WC.cond_false rfl (rfl) ?_
              refine (WC.skip (WX.block_normal (WX.next ?_)))
              refine WC.region ?_
              refine WL.move rfl rfl ?_
              refine WL.bin rfl rfl (iadd (by omega) (by omega)) rfl ?_
              refine WL.assign rfl rfl ?_
              refine (WL.done (WX.round ?_))
              exact hN _ (g + 1) _ _ (by omega) ⟨rfl, by omega, all_succ hlt hall (eOk_iff.2 (by omega)), H.weaken (List.sublist_append_right [_] _)⟩ (Sub.cons (t := 5) (by first | rfl | simp) (Sub.nil _)) (Sub.cons (t := 2) rfl (Sub.cons (t := 3) rfl (Sub.nil _)))
          ·
            refine WH.takeNo 7 rfl (by kernel_rfl) (by kernel_rfl) (by kernel_rfl) (fun _ _ _ h => h) ⟨_, HB⟩ rfl rfl rfl ?_
            refine WH.takeNo 8 rfl (by kernel_rfl) (by kernel_rfl) (by kernel_rfl) (fun _ _ _ h => h) ⟨_, HB⟩ rfl rfl rfl ?_
            refine WH.takeNo 9 rfl (by kernel_rfl) (by kernel_rfl) (by kernel_rfl) (fun _ _ _ h => h) ⟨_, HB⟩ rfl rfl rfl ?_
            refine WH.takeNo 10 rfl (by kernel_rfl) (by kernel_rfl) (by kernel_rfl) (fun _ _ _ h => h) ⟨_, HB⟩ rfl rfl rfl ?_
            refine WH.takeNo 11 rfl (by kernel_rfl) (by kernel_rfl) (by kernel_rfl) (fun _ _ _ h => h) ⟨_, HB⟩ rfl rfl rfl ?_
            refine WH.takeNo 12 rfl (by kernel_rfl) (by kernel_rfl) (by kernel_rfl) (fun _ _ _ h => h) ⟨_, HB⟩ rfl rfl rfl ?_
            refine WH.takeNo 13 rfl (by kernel_rfl) (by kernel_rfl) (by kernel_rfl) (fun _ _ _ h => h) ⟨_, HB⟩ rfl rfl rfl ?_
            refine WH.takeNo 14 rfl (by kernel_rfl) (by kernel_rfl) (by kernel_rfl) (fun _ _ _ h => h) ⟨_, HB⟩ rfl rfl rfl ?_
            refine WH.takeNo 15 rfl (by kernel_rfl) (by kernel_rfl) (by kernel_rfl) (fun _ _ _ h => h) ⟨_, HB⟩ rfl rfl rfl ?_
            refine WH.take 16 rfl (by kernel_rfl) (by kernel_rfl) (by kernel_rfl) (fun _ _ _ h => h) ⟨_, HB⟩ (fun w' hS => EX.pickF rfl rfl) rfl ?_
            refine WH.take 17 rfl (by kernel_rfl) (by kernel_rfl) (by kernel_rfl) (fun _ _ _ h => h) ⟨_, HB⟩ (fun w' hS => EX.move rfl) rfl ?_
            refine WH.takeNo 18 rfl (by kernel_rfl) (by kernel_rfl) (by kernel_rfl) (fun _ _ _ h => h) ⟨_, HB⟩ rfl rfl rfl ?_
            refine WH.takeNo 19 rfl (by kernel_rfl) (by kernel_rfl) (by kernel_rfl) (fun _ _ _ h => h) ⟨_, HB⟩ rfl rfl rfl ?_
            refine WH.takeNo 20 rfl (by kernel_rfl) (by kernel_rfl) (by kernel_rfl) (fun _ _ _ h => h) ⟨_, HB⟩ rfl rfl rfl ?_
            refine WH.takeNo 21 rfl (by kernel_rfl) (by kernel_rfl) (by kernel_rfl) (fun _ _ _ h => h) ⟨_, HB⟩ rfl rfl rfl ?_
            refine WH.takeNo 22 rfl (by kernel_rfl) (by kernel_rfl) (by kernel_rfl) (fun _ _ _ h => h) ⟨_, HB⟩ rfl rfl rfl ?_
            refine WH.take 23 rfl (by kernel_rfl) (by kernel_rfl) (by kernel_rfl) (fun _ _ _ h => h) ⟨_, HB⟩ (fun w' hS => EX.pickF rfl rfl) rfl ?_
            refine WH.done (by kernel_rfl) ?_
            replace H := H.call HB
            refine WX.next ?_
            refine WC.cond_false rfl (rfl) ?_
            refine (WC.skip (WX.block_normal (WX.next ?_)))
            refine WC.region ?_
            refine WL.move rfl rfl ?_
            refine WL.bin rfl rfl (iadd (by omega) (by omega)) rfl ?_
            refine WL.assign rfl rfl ?_
            refine (WL.done (WX.round ?_))
            exact hN _ (g + 1) _ _ (by omega) ⟨rfl, by omega, all_succ hlt hall (eOk_iff.2 (by omega)), H.weaken (List.sublist_append_right [_] _)⟩ (Sub.cons (t := 5) (by first | rfl | simp) (Sub.nil _)) (Sub.cons (t := 2) rfl (Sub.cons (t := 3) rfl (Sub.nil _)))
  ·
    change ¬ (g : Int) < (m : Int) at c1
    obtain rfl : g = m := by omega
    have hall := all_end (by omega) hall
    refine (WC.exit (WX.then_exit (WX.then_exit (WX.block_exit (WX.next ?_)))))
    refine WC.seq ?_
    refine WC.region ?_
    refine WL.fieldAddr fld125_0 rfl rfl ?_
    first | refine WL.load rfl (H.rd1 ty3 0 rfl rfl) rfl ?_ | refine WL.load rfl (H.rd1 ty3 1 rfl rfl) rfl ?_ | refine WL.load rfl (H.rdA ty3 0 rfl (by first | decide | exact Nat.le_refl _)) rfl ?_ | refine WL.load rfl (H.rdA ty3 1 rfl (by first | decide | exact Nat.le_refl _)) rfl ?_
    refine WL.bin rfl rfl binv_geq rfl ?_
    refine WL.move rfl rfl ?_
    first | refine WL.splitD (t := 63) rfl (fun g5 => ?_) (fun g5 => ?_) | refine WL.split (t := 63) rfl (fun g5 => ?_) (fun g5 => ?_)
    ·
      refine WL.yes rfl rfl ?_
      refine WL.fieldAddr fld125_0 rfl rfl ?_
      refine WL.yes rfl rfl ?_
      first | refine WL.load rfl (H.rd1 ty3 0 rfl rfl) rfl ?_ | refine WL.load rfl (H.rd1 ty3 1 rfl rfl) rfl ?_ | refine WL.load rfl (H.rdA ty3 0 rfl (by first | decide | exact Nat.le_refl _)) rfl ?_ | refine WL.load rfl (H.rdA ty3 1 rfl (by first | decide | exact Nat.le_refl _)) rfl ?_
      refine WL.yes rfl rfl ?_
      refine WL.bin rfl rfl binv_leq rfl ?_
      refine WL.pickT rfl rfl rfl ?_
      refine WL.assign rfl rfl ?_
      refine (WL.done (WX.next ?_))
      refine (WC.ret ?_)
      refine ret_one rfl rfl ?_
      refine ⟨congrArg (fun b => Ending.returned (Value.bool b)) (Bool.eq_iff_iff.2 ?_), H.weaken (List.nil_sublist _)⟩
      rw [rOk_iff]
      simp only [hall, and_true, decide_eq_true_eq, Bool.false_eq_true, false_iff]
      omega
    ·
      refine WL.no rfl rfl rfl ?_
      refine WL.no rfl rfl rfl ?_
      refine WL.no rfl rfl rfl ?_
      refine WL.pickF rfl rfl rfl ?_
      refine WL.assign rfl rfl ?_
      refine (WL.done (WX.next ?_))
      refine (WC.ret ?_)
      refine ret_one rfl rfl ?_
      refine ⟨congrArg (fun b => Ending.returned (Value.bool b)) (Bool.eq_iff_iff.2 ?_), H.weaken (List.nil_sublist _)⟩
      rw [rOk_iff]
      simp only [hall, and_true, decide_eq_true_eq, Bool.false_eq_true, false_iff]
      omega

end Go.Proofs.YtkncbggnaobgeaaDoor

/- Walks of functions of the program; printed by a program of this session (walk.py) out of hand-written hints. -/
namespace Go.Proofs.YtkncbggnaobgeaaDoor
open Go.RowKit
set_option linter.unusedVariables false
set_option linter.unusedSimpArgs false
set_option maxRecDepth 100000

theorem SX.st0L {w w' : World} (h : SX w [] w') : St w [] w' [] := by
  obtain ⟨H, h⟩ := h
  exact h.weaken (List.nil_sublist _)
theorem flds189 : FldsI Tryd.prog 2 (Tryd.prog.fieldsOf 189).toList [(0, 1), (1, 1)] := by
  unfold Program.fieldsOf
  rw [Tryd.underlying189]
  exact .int (by decide) (by kernel_rfl) (by decide) (.int (by decide) (by kernel_rfl) (by decide) .nil)
theorem split2 {xs ys : List Int} (hx : xs.length = 2) (hy : ys.length = 2) : ([(0, 1), (1, 1)].all fun s => (xs.drop s.1).take s.2 == (ys.drop s.1).take s.2) = (xs == ys) := by
  match xs, hx with
  | [a, b], _ =>
    match ys, hy with
    | [a', b'], _ => rw [Bool.eq_iff_iff]; simp [and_assoc]
theorem or_add {a e : Int} (ha : 0 ≤ a) (he : 0 ≤ e ∧ e < 1048576) : (((a * 2 ^ 20).toNat ||| e.toNat : Nat) : Int) = a * 1048576 + e := by
  have h : (a * 2 ^ 20).toNat ||| e.toNat = (a * 2 ^ 20).toNat + e.toNat := by
    have h1 : (a * 2 ^ 20).toNat = 2 ^ 20 * a.toNat := by
      rw [Int.toNat_mul ha (by decide), Nat.mul_comm]; rfl
    rw [h1, Nat.two_pow_add_eq_or_of_lt (i := 20) (by omega)]
  rw [h]
  omega
theorem bor {P : Program} {t : TypeId} {a e : Int} (ha : 0 ≤ a ∧ a ≤ 1048575) (he : 0 ≤ e ∧ e < 1048576) : BinV P .or t (.int .i64 (a * 2 ^ 20)) (.int .i64 e) (.int .i64 (a * 1048576 + e)) := by
  rw [← or_add ha.1 he]
  exact ior (by omega) (by omega) (by omega) (by omega)
/-- The words of a record's beginning: how many entries there are stands in the first one. -/
def encP (n : Nat) (num ep : Int) (es : List (List Int)) (i : Nat) : List Int := [(n : Int) * 1048576 + ep, num] ++ (es.take i).flatten
theorem encP_all {n : Nat} {num ep : Int} {es : List (List Int)} (h : n = es.length) : encP n num ep es n = encB (num, es) ep := by
  subst h; unfold encP encB; rw [List.take_length]
theorem encP_succ {n : Nat} {num ep : Int} {es : List (List Int)} {i : Nat} (h : i < es.length) : encP n num ep es (i + 1) = encP n num ep es i ++ es[i] := by
  unfold encP
  rw [List.take_succ_eq_append_getElem h, List.flatten_append, ← List.append_assoc]
  simp

theorem app43L : AppT Tryd.prog 43 3 1 8 := appT_of (by kernel_rfl)
theorem eqI189 : EqI5 Tryd.prog 189 2 := eqI_struct (by unfold Program.fieldsOf; rw [Tryd.underlying189]) rfl (by kernel_rfl) flds189 (fun xs ys hx hy => split2 hx hy)
theorem take_getD_succ {xs ys : List Int} {g : Nat} (h1 : g < xs.length) (h2 : g < ys.length) (h : xs.take g = ys.take g) (he : xs.getD g 0 = ys.getD g 0) : xs.take (g + 1) = ys.take (g + 1) := by
  refine take_eq_succ h1 h2 h ?_
  rw [List.getD, List.getElem?_eq_getElem h1, List.getD, List.getElem?_eq_getElem h2] at he
  exact he

theorem sameInts_any (A A2 : Option Addr) (m m2 cap cap2 : Nat) (xs ys : List Int) (hm : m = xs.length) (hm2 : m2 = ys.length) (w : World) (hx : IntsIn w A xs) (hy : IntsIn w A2 ys) (hm63 : m ≤ 9223372036854775806) : Calls Tryd.prog 85 #[.slice A m cap, .slice A2 m2 cap2] w fun e w' => e = .returned (.bool (decide (xs = ys))) ∧ St w [] w' [] := by
  refine calls_walk_n (args := [.slice A m cap, .slice A2 m2 cap2]) Tryd.func85 rfl rfl rfl ?_
  have H := St.refl w
  refine WC.seq ?_
  refine WC.region ?_
  refine WL.assign rfl rfl ?_
  refine (WL.done (WX.next ?_))
  refine WC.seq ?_
  refine WC.seq ?_
  refine WC.region ?_
  refine WL.move rfl rfl ?_
  refine WL.lenSlc isl43 rfl rfl ?_
  refine WL.move rfl rfl ?_
  refine WL.lenSlc isl43 rfl rfl ?_
  refine WL.bin rfl rfl binv_neq rfl ?_
  refine (WL.done (WX.next ?_))
  first | refine WC.cond_dec rfl (fun c1 => ?_) (fun c1 => ?_) | refine WC.cond rfl (fun c1 => ?_) (fun c1 => ?_)
  ·
    refine WC.seq ?_
    refine WC.region ?_
    refine WL.assign rfl rfl ?_
    refine (WL.done (WX.next ?_))
    refine (WC.ret (WX.then_ret ?_))
    refine ret_one rfl rfl ?_
    have hne : ¬ xs = ys := fun h => by rw [h] at hm; omega
    rw [decide_eq_false hne]
    exact ⟨rfl, H⟩
  ·
    have hmm : xs.length = ys.length := by omega
    refine (WC.skip (WX.next ?_))
    refine WC.seq ?_
    refine WC.seq ?_
    refine WC.region ?_
    refine WL.assign rfl rfl ?_
    refine (WL.done (WX.next ?_))
    refine WC.block ?_
    refine WC.loop (Sub.cons (t := 0) rfl (Sub.cons (t := 1) rfl (Sub.nil _))) (fun i : Nat => [(5, .int .i64 (i : Int))]) (fun q i wx => q = m - i ∧ i ≤ m ∧ xs.take i = ys.take i ∧ St w [] wx []) (m) (0) (Sub.cons (t := 5) (by first | rfl | simp) (Sub.nil _)) (⟨rfl, by omega, rfl, H⟩) ?_
    rintro k g wx hI N hN
    obtain ⟨rfl, hg, hall, H⟩ := hI
    refine WC.seq ?_
    refine WC.seq ?_
    refine WC.region ?_
    refine WL.move rfl rfl ?_
    refine WL.move rfl rfl ?_
    refine WL.lenSlc isl43 rfl rfl ?_
    refine WL.bin rfl rfl binv_lss rfl ?_
    refine (WL.done (WX.next ?_))
    first | refine WC.cond_dec rfl (fun c2 => ?_) (fun c2 => ?_) | refine WC.cond rfl (fun c2 => ?_) (fun c2 => ?_)
    ·
      refine (WC.skip (WX.next ?_))
      refine WC.seq ?_
      refine WC.block ?_
      refine WC.seq ?_
      have hlt : g < xs.length := by omega
      have hlt2 : g < ys.length := by omega
      obtain ⟨b, o, cs, t, fr, rfl, hb, hcs⟩ := hx.blk (by omega)
      obtain ⟨b2, o2, cs2, t2, fr2, rfl, hb2, hcs2⟩ := hy.blk (by omega)
      replace H := H.drew
      refine WC.held (SX (World.drew wx) []) (by kernel_rfl) ?_
      generalize World.drew wx = wb at H ⊢
      have HB := St.refl wb
      refine WH.take 0 rfl (by kernel_rfl) (by kernel_rfl) (by kernel_rfl) (fun _ _ _ h => h) ⟨_, HB⟩ (fun w' hS => EX.move rfl) rfl ?_
      refine WH.take 1 rfl (by kernel_rfl) (by kernel_rfl) (by kernel_rfl) (fun _ _ _ h => h) ⟨_, HB⟩ (fun w' hS => EX.move rfl) rfl ?_
      refine WH.take 2 rfl (by kernel_rfl) (by kernel_rfl) (by kernel_rfl) (fun _ _ _ h => h) ⟨_, HB⟩ (fun w' hS => EX.idxSlc (k := g) slc43 rfl rfl (by first | rfl | omega) (by omega)) rfl ?_
      refine WH.take 3 rfl (by kernel_rfl) (by kernel_rfl) (by kernel_rfl) (fun _ _ _ h => h) ⟨_, HB⟩ (fun w' hS => EX.load rfl (Rd.one ty3 (by rw [cell_of (hS.block (H.oldBlock hb (by simp)) (by simp)), Nat.mul_one]; exact hcs g hlt))) rfl ?_
      refine WH.take 4 rfl (by kernel_rfl) (by kernel_rfl) (by kernel_rfl) (fun _ _ _ h => h) ⟨_, HB⟩ (fun w' hS => EX.move rfl) rfl ?_
      refine WH.take 5 rfl (by kernel_rfl) (by kernel_rfl) (by kernel_rfl) (fun _ _ _ h => h) ⟨_, HB⟩ (fun w' hS => EX.move rfl) rfl ?_
      refine WH.take 6 rfl (by kernel_rfl) (by kernel_rfl) (by kernel_rfl) (fun _ _ _ h => h) ⟨_, HB⟩ (fun w' hS => EX.idxSlc (k := g) slc43 rfl rfl (by first | rfl | omega) (by omega)) rfl ?_
      refine WH.take 7 rfl (by kernel_rfl) (by kernel_rfl) (by kernel_rfl) (fun _ _ _ h => h) ⟨_, HB⟩ (fun w' hS => EX.load rfl (Rd.one ty3 (by rw [cell_of (hS.block (H.oldBlock hb2 (by simp)) (by simp)), Nat.mul_one]; exact hcs2 g hlt2))) rfl ?_
      refine WH.take 8 rfl (by kernel_rfl) (by kernel_rfl) (by kernel_rfl) (fun _ _ _ h => h) ⟨_, HB⟩ (fun w' hS => EX.bin rfl rfl (binv_neq)) rfl ?_
      refine WH.done (by kernel_rfl) ?_
      replace H := H.call HB
      refine WX.next ?_
      first | refine WC.cond_dec rfl (fun c3 => ?_) (fun c3 => ?_) | refine WC.cond rfl (fun c3 => ?_) (fun c3 => ?_)
      ·
        refine WC.seq ?_
        refine WC.region ?_
        refine WL.assign rfl rfl ?_
        refine (WL.done (WX.next ?_))
        refine (WC.ret (WX.block_ret (WX.then_ret (WX.then_ret (WX.block_ret (WX.then_ret ?_))))))
        refine ret_one rfl rfl ?_
        have hne : ¬ xs = ys := fun h => by subst h; omega
        rw [decide_eq_false hne]
        exact ⟨rfl, H⟩
      ·
        refine (WC.skip (WX.block_normal (WX.next ?_)))
        refine WC.region ?_
        refine WL.move rfl rfl ?_
        refine WL.bin rfl rfl (iadd (by omega) (by omega)) rfl ?_
        refine WL.assign rfl rfl ?_
        refine (WL.done (WX.round ?_))
        exact hN _ (g+1) _ _ (by omega) ⟨rfl, by omega, take_getD_succ hlt hlt2 hall (by omega), H⟩ (Sub.cons (t := 5) (by first | rfl | simp) (Sub.nil _)) (Sub.cons (t := 0) rfl (Sub.cons (t := 1) rfl (Sub.nil _)))
    ·
      refine (WC.exit (WX.then_exit (WX.then_exit (WX.block_exit (WX.next ?_)))))
      refine WC.seq ?_
      refine WC.region ?_
      refine WL.assign rfl rfl ?_
      refine (WL.done (WX.next ?_))
      refine (WC.ret ?_)
      refine ret_one rfl rfl ?_
      have heq : xs = ys := by rw [List.take_of_length_le (by omega), List.take_of_length_le (by omega)] at hall; exact hall
      rw [decide_eq_true heq]
      exact ⟨rfl, H⟩

theorem sameEntries_any (A A2 : Option Addr) (m m2 cap cap2 : Nat) (xs ys : List (List Int)) (hm : m = xs.length) (hm2 : m2 = ys.length) (w : World) (hx : RowsIn w A 2 xs) (hy : RowsIn w A2 2 ys) (hm63 : m ≤ 9223372036854775807) : Calls Tryd.prog 154 #[.slice A m cap, .slice A2 m2 cap2] w fun e w' => e = .returned (.bool (decide (xs = ys))) ∧ St w [] w' [] := by
  refine calls_walk_n (args := [.slice A m cap, .slice A2 m2 cap2]) Tryd.func154 rfl rfl rfl ?_
  have H := St.refl w
  refine WC.seq ?_
  refine WC.region ?_
  refine WL.assign rfl rfl ?_
  refine (WL.done (WX.next ?_))
  refine WC.seq ?_
  refine WC.seq ?_
  refine WC.region ?_
  refine WL.move rfl rfl ?_
  refine WL.lenSlc isl123 rfl rfl ?_
  refine WL.move rfl rfl ?_
  refine WL.lenSlc isl123 rfl rfl ?_
  refine WL.bin rfl rfl binv_neq rfl ?_
  refine (WL.done (WX.next ?_))
  first | refine WC.cond_dec rfl (fun c1 => ?_) (fun c1 => ?_) | refine WC.cond rfl (fun c1 => ?_) (fun c1 => ?_)
  ·
    refine WC.seq ?_
    refine WC.region ?_
    refine WL.assign rfl rfl ?_
    refine (WL.done (WX.next ?_))
    refine (WC.ret (WX.then_ret ?_))
    refine ret_one rfl rfl ?_
    have hne : ¬ xs = ys := fun h => by rw [h] at hm; omega
    rw [decide_eq_false hne]
    exact ⟨rfl, H⟩
  ·
    have hmm : xs.length = ys.length := by omega
    refine (WC.skip (WX.next ?_))
    refine WC.seq ?_
    refine WC.seq ?_
    refine WC.region ?_
    refine WL.assign rfl rfl ?_
    refine (WL.done (WX.next ?_))
    refine WC.block ?_
    refine WC.loop (Sub.cons (t := 0) rfl (Sub.cons (t := 1) rfl (Sub.nil _))) (fun i : Nat => [(5, .int .i64 (i : Int))]) (fun q i wx => q = m - i ∧ i ≤ m ∧ xs.take i = ys.take i ∧ St w [] wx []) (m) (0) (Sub.cons (t := 5) (by first | rfl | simp) (Sub.nil _)) (⟨rfl, by omega, rfl, H⟩) ?_
    rintro k g wx hI N hN
    obtain ⟨rfl, hg, hall, H⟩ := hI
    refine WC.seq ?_
    refine WC.seq ?_
    refine WC.region ?_
    refine WL.move rfl rfl ?_
    refine WL.move rfl rfl ?_
    refine WL.lenSlc isl123 rfl rfl ?_
    refine WL.bin rfl rfl binv_lss rfl ?_
    refine (WL.done (WX.next ?_))
    first | refine WC.cond_dec rfl (fun c2 => ?_) (fun c2 => ?_) | refine WC.cond rfl (fun c2 => ?_) (fun c2 => ?_)
    ·
      refine (WC.skip (WX.next ?_))
      refine WC.seq ?_
      refine WC.block ?_
      refine WC.seq ?_
      have hlt : g < xs.length := by omega
      have hlt2 : g < ys.length := by omega
      have hx8 := hx.1 _ (List.getElem_mem hlt)
      have hy8 := hy.1 _ (List.getElem_mem hlt2)
      obtain ⟨b, o, rfl⟩ := hx.addr (by omega) hlt
      obtain ⟨b2, o2, rfl⟩ := hy.addr (by omega) hlt2
      replace H := H.drew
      refine WC.held (SX (World.drew wx) []) (by kernel_rfl) ?_
      generalize World.drew wx = wb at H ⊢
      have HB := St.refl wb
      refine WH.take 0 rfl (by kernel_rfl) (by kernel_rfl) (by kernel_rfl) (fun _ _ _ h => h) ⟨_, HB⟩ (fun w' hS => EX.move rfl) rfl ?_
      refine WH.take 1 rfl (by kernel_rfl) (by kernel_rfl) (by kernel_rfl) (fun _ _ _ h => h) ⟨_, HB⟩ (fun w' hS => EX.move rfl) rfl ?_
      refine WH.take 2 rfl (by kernel_rfl) (by kernel_rfl) (by kernel_rfl) (fun _ _ _ h => h) ⟨_, HB⟩ (fun w' hS => EX.idxSlc (k := g) slc123 rfl rfl (by first | rfl | omega) (by omega)) rfl ?_
      refine WH.take 3 rfl (by kernel_rfl) (by kernel_rfl) (by kernel_rfl) (fun _ _ _ h => h) ⟨_, HB⟩ (fun w' hS => EX.load rfl (((hx.keep H).keep (SX.st0L hS)).rd ty189 (by omega) hlt rfl)) rfl ?_
      refine WH.take 4 rfl (by kernel_rfl) (by kernel_rfl) (by kernel_rfl) (fun _ _ _ h => h) ⟨_, HB⟩ (fun w' hS => EX.move rfl) rfl ?_
      refine WH.take 5 rfl (by kernel_rfl) (by kernel_rfl) (by kernel_rfl) (fun _ _ _ h => h) ⟨_, HB⟩ (fun w' hS => EX.move rfl) rfl ?_
      refine WH.take 6 rfl (by kernel_rfl) (by kernel_rfl) (by kernel_rfl) (fun _ _ _ h => h) ⟨_, HB⟩ (fun w' hS => EX.idxSlc (k := g) slc123 rfl rfl (by first | rfl | omega) (by omega)) rfl ?_
      refine WH.take 7 rfl (by kernel_rfl) (by kernel_rfl) (by kernel_rfl) (fun _ _ _ h => h) ⟨_, HB⟩ (fun w' hS => EX.load rfl (((hy.keep H).keep (SX.st0L hS)).rd ty189 (by omega) hlt2 rfl)) rfl ?_
      refine WH.take 8 rfl (by kernel_rfl) (by kernel_rfl) (by kernel_rfl) (fun _ _ _ h => h) ⟨_, HB⟩ (fun w' hS => EX.bin rfl rfl (binv_agg_neq eqI189 (by kernel_rfl) hx8 hy8)) rfl ?_
      refine WH.done (by kernel_rfl) ?_
      replace H := H.call HB
      refine WX.next ?_
      first | refine WC.cond_dec rfl (fun c3 => ?_) (fun c3 => ?_) | refine WC.cond rfl (fun c3 => ?_) (fun c3 => ?_)
      ·
        refine WC.seq ?_
        refine WC.region ?_
        refine WL.assign rfl rfl ?_
        refine (WL.done (WX.next ?_))
        refine (WC.ret (WX.block_ret (WX.then_ret (WX.then_ret (WX.block_ret (WX.then_ret ?_))))))
        refine ret_one rfl rfl ?_
        have hne : ¬ xs = ys := fun h => by subst h; simp at c3
        rw [decide_eq_false hne]
        exact ⟨rfl, H⟩
      ·
        refine (WC.skip (WX.block_normal (WX.next ?_)))
        refine WC.region ?_
        refine WL.move rfl rfl ?_
        refine WL.bin rfl rfl (iadd (by omega) (by omega)) rfl ?_
        refine WL.assign rfl rfl ?_
        refine (WL.done (WX.round ?_))
        have heq : xs[g] = ys[g] := by simpa using c3
        exact hN _ (g+1) _ _ (by omega) ⟨rfl, by omega, take_eq_succ hlt hlt2 hall heq, H⟩ (Sub.cons (t := 5) (by first | rfl | simp) (Sub.nil _)) (Sub.cons (t := 0) rfl (Sub.cons (t := 1) rfl (Sub.nil _)))
    ·
      refine (WC.exit (WX.then_exit (WX.then_exit (WX.block_exit (WX.next ?_)))))
      refine WC.seq ?_
      refine WC.region ?_
      refine WL.assign rfl rfl ?_
      refine (WL.done (WX.next ?_))
      refine (WC.ret ?_)
      refine ret_one rfl rfl ?_
      have heq : xs = ys := by rw [List.take_of_length_le (by omega), List.take_of_length_le (by omega)] at hall; exact hall
      rw [decide_eq_true heq]
      exact ⟨rfl, H⟩

theorem sameRecs_any (A A2 : Option Addr) (m m2 cap cap2 : Nat) (xs ys : List Rc) (hm : m = xs.length) (hm2 : m2 = ys.length) (w : World) (hx : RecsIn w A xs) (hy : RecsIn w A2 ys) (hm63 : m ≤ 9223372036854775806) (hx63 : ∀ r ∈ xs, r.2.length ≤ 9223372036854775806) : Calls Tryd.prog 77 #[.slice A m cap, .slice A2 m2 cap2] w fun e w' => e = .returned (.bool (decide (xs = ys))) ∧ St w [] w' [] := by
  refine calls_walk_n (args := [.slice A m cap, .slice A2 m2 cap2]) Tryd.func77 rfl rfl rfl ?_
  have H := St.refl w
  refine WC.seq ?_
  refine WC.region ?_
  refine WL.assign rfl rfl ?_
  refine (WL.done (WX.next ?_))
  refine WC.seq ?_
  refine WC.seq ?_
  refine WC.region ?_
  refine WL.move rfl rfl ?_
  refine WL.lenSlc isl98 rfl rfl ?_
  refine WL.move rfl rfl ?_
  refine WL.lenSlc isl98 rfl rfl ?_
  refine WL.bin rfl rfl binv_neq rfl ?_
  refine (WL.done (WX.next ?_))
  first | refine WC.cond_dec rfl (fun c1 => ?_) (fun c1 => ?_) | refine WC.cond rfl (fun c1 => ?_) (fun c1 => ?_)
  ·
    refine WC.seq ?_
    refine WC.region ?_
    refine WL.assign rfl rfl ?_
    refine (WL.done (WX.next ?_))
    refine (WC.ret (WX.then_ret ?_))
    refine ret_one rfl rfl ?_
    have hne : ¬ xs = ys := fun h => by rw [h] at hm; omega
    rw [decide_eq_false hne]
    exact ⟨rfl, H⟩
  ·
    have hmm : xs.length = ys.length := by omega
    refine (WC.skip (WX.next ?_))
    refine WC.seq ?_
    refine WC.seq ?_
    refine WC.region ?_
    refine WL.assign rfl rfl ?_
    refine (WL.done (WX.next ?_))
    refine WC.block ?_
    refine WC.loop (Sub.cons (t := 0) rfl (Sub.cons (t := 1) rfl (Sub.nil _))) (fun i : Nat => [(5, .int .i64 (i : Int))]) (fun q i wx => q = m - i ∧ i ≤ m ∧ xs.take i = ys.take i ∧ St w [] wx []) (m) (0) (Sub.cons (t := 5) (by first | rfl | simp) (Sub.nil _)) (⟨rfl, by omega, rfl, H⟩) ?_
    rintro k g wx hI N hN
    obtain ⟨rfl, hg, hall, H⟩ := hI
    refine WC.seq ?_
    refine WC.seq ?_
    refine WC.region ?_
    refine WL.move rfl rfl ?_
    refine WL.move rfl rfl ?_
    refine WL.lenSlc isl98 rfl rfl ?_
    refine WL.bin rfl rfl binv_lss rfl ?_
    refine (WL.done (WX.next ?_))
    first | refine WC.cond_dec rfl (fun c2 => ?_) (fun c2 => ?_) | refine WC.cond rfl (fun c2 => ?_) (fun c2 => ?_)
    ·
      refine (WC.skip (WX.next ?_))
      refine WC.seq ?_
      refine WC.block ?_
      refine WC.seq ?_
      have hlt : g < xs.length := by omega
      have hlt2 : g < ys.length := by omega
      obtain ⟨b, o, cs, t, fr, rfl, hb, hc1, A', c', hc2, hr1⟩ := hx.at hlt
      obtain ⟨b2, o2, cs2, t2, fr2, rfl, hb2, hd1, A2', c2', hd2, hr2⟩ := hy.at hlt2
      replace H := H.drew
      refine WC.held (SX (World.drew wx) []) (by kernel_rfl) ?_
      generalize World.drew wx = wb at H ⊢
      have HB := St.refl wb
      refine WH.take 0 rfl (by kernel_rfl) (by kernel_rfl) (by kernel_rfl) (fun _ _ _ h => h) ⟨_, HB⟩ (fun w' hS => EX.move rfl) rfl ?_
      refine WH.take 1 rfl (by kernel_rfl) (by kernel_rfl) (by kernel_rfl) (fun _ _ _ h => h) ⟨_, HB⟩ (fun w' hS => EX.move rfl) rfl ?_
      refine WH.take 2 rfl (by kernel_rfl) (by kernel_rfl) (by kernel_rfl) (fun _ _ _ h => h) ⟨_, HB⟩ (fun w' hS => EX.idxSlc (k := g) slc98 rfl rfl (by first | rfl | omega) (by omega)) rfl ?_
      refine WH.take 3 rfl (by kernel_rfl) (by kernel_rfl) (by kernel_rfl) (fun _ _ _ h => h) ⟨_, HB⟩ (fun w' hS => EX.fieldAddr fld125_1 rfl) rfl ?_
      refine WH.take 4 rfl (by kernel_rfl) (by kernel_rfl) (by kernel_rfl) (fun _ _ _ h => h) ⟨_, HB⟩ (fun w' hS => EX.load rfl (Rd.one ty123 (by rw [cell_of (hS.block (H.oldBlock hb (by simp)) (by simp))]; exact hc2))) rfl ?_
      refine WH.take 5 rfl (by kernel_rfl) (by kernel_rfl) (by kernel_rfl) (fun _ _ _ h => h) ⟨_, HB⟩ (fun w' hS => EX.move rfl) rfl ?_
      refine WH.take 6 rfl (by kernel_rfl) (by kernel_rfl) (by kernel_rfl) (fun _ _ _ h => h) ⟨_, HB⟩ (fun w' hS => EX.move rfl) rfl ?_
      refine WH.take 7 rfl (by kernel_rfl) (by kernel_rfl) (by kernel_rfl) (fun _ _ _ h => h) ⟨_, HB⟩ (fun w' hS => EX.idxSlc (k := g) slc98 rfl rfl (by first | rfl | omega) (by omega)) rfl ?_
      refine WH.take 8 rfl (by kernel_rfl) (by kernel_rfl) (by kernel_rfl) (fun _ _ _ h => h) ⟨_, HB⟩ (fun w' hS => EX.fieldAddr fld125_1 rfl) rfl ?_
      refine WH.take 9 rfl (by kernel_rfl) (by kernel_rfl) (by kernel_rfl) (fun _ _ _ h => h) ⟨_, HB⟩ (fun w' hS => EX.load rfl (Rd.one ty123 (by rw [cell_of (hS.block (H.oldBlock hb2 (by simp)) (by simp))]; exact hd2))) rfl ?_
      refine WH.hard 10 rfl (by kernel_rfl) ?_
      refine WL.call call154 rfl rfl ?_
      refine Calls.mono (sameEntries_any A' A2' _ _ _ _ _ _ rfl rfl _ ((hr1.keep H).keep HB) ((hr2.keep H).keep HB) (Nat.le_succ_of_le (hx63 _ (List.getElem_mem hlt)))) ?_
      rintro _ wx ⟨rfl, Hc⟩
      refine ⟨_, rfl, ?_⟩
      replace HB := HB.call0 Hc
      refine WL.done (WX.heldOn ⟨_, HB⟩ ?_)
      refine WH.take 11 rfl (by kernel_rfl) (by kernel_rfl) (by kernel_rfl) (fun _ _ _ h => h) ⟨_, HB⟩ (fun w' hS => EX.assign rfl) rfl ?_
      refine WH.done (by kernel_rfl) ?_
      replace H := H.call HB
      refine WX.next ?_
      refine WC.seq ?_
      replace H := H.drew
      refine WC.held (SX (World.drew wx) []) (by kernel_rfl) ?_
      generalize World.drew wx = wb at H ⊢
      have HB := St.refl wb
      refine WH.take 0 rfl (by kernel_rfl) (by kernel_rfl) (by kernel_rfl) (fun _ _ _ h => h) ⟨_, HB⟩ (fun w' hS => EX.move rfl) rfl ?_
      refine WH.take 1 rfl (by kernel_rfl) (by kernel_rfl) (by kernel_rfl) (fun _ _ _ h => h) ⟨_, HB⟩ (fun w' hS => EX.move rfl) rfl ?_
      refine WH.take 2 rfl (by kernel_rfl) (by kernel_rfl) (by kernel_rfl) (fun _ _ _ h => h) ⟨_, HB⟩ (fun w' hS => EX.idxSlc (k := g) slc98 rfl rfl (by first | rfl | omega) (by omega)) rfl ?_
      refine WH.take 3 rfl (by kernel_rfl) (by kernel_rfl) (by kernel_rfl) (fun _ _ _ h => h) ⟨_, HB⟩ (fun w' hS => EX.fieldAddr fld125_0 rfl) rfl ?_
      refine WH.take 4 rfl (by kernel_rfl) (by kernel_rfl) (by kernel_rfl) (fun _ _ _ h => h) ⟨_, HB⟩ (fun w' hS => EX.load rfl (Rd.one ty3 (by rw [cell_of (hS.block (H.oldBlock hb (by simp)) (by simp))]; exact hc1))) rfl ?_
      refine WH.take 5 rfl (by kernel_rfl) (by kernel_rfl) (by kernel_rfl) (fun _ _ _ h => h) ⟨_, HB⟩ (fun w' hS => EX.move rfl) rfl ?_
      refine WH.take 6 rfl (by kernel_rfl) (by kernel_rfl) (by kernel_rfl) (fun _ _ _ h => h) ⟨_, HB⟩ (fun w' hS => EX.move rfl) rfl ?_
      refine WH.take 7 rfl (by kernel_rfl) (by kernel_rfl) (by kernel_rfl) (fun _ _ _ h => h) ⟨_, HB⟩ (fun w' hS => EX.idxSlc (k := g) slc98 rfl rfl (by first | rfl | omega) (by omega)) rfl ?_
      refine WH.take 8 rfl (by kernel_rfl) (by kernel_rfl) (by kernel_rfl) (fun _ _ _ h => h) ⟨_, HB⟩ (fun w' hS => EX.fieldAddr fld125_0 rfl) rfl ?_
      refine WH.take 9 rfl (by kernel_rfl) (by kernel_rfl) (by kernel_rfl) (fun _ _ _ h => h) ⟨_, HB⟩ (fun w' hS => EX.load rfl (Rd.one ty3 (by rw [cell_of (hS.block (H.oldBlock hb2 (by simp)) (by simp))]; exact hd1))) rfl ?_
      refine WH.take 10 rfl (by kernel_rfl) (by kernel_rfl) (by kernel_rfl) (fun _ _ _ h => h) ⟨_, HB⟩ (fun w' hS => EX.bin rfl rfl (binv_neq)) rfl ?_
      refine WH.take 11 rfl (by kernel_rfl) (by kernel_rfl) (by kernel_rfl) (fun _ _ _ h => h) ⟨_, HB⟩ (fun w' hS => EX.move rfl) rfl ?_
      first | refine WH.splitD (t := 40) rfl (fun g1 => ?_) (fun g1 => ?_) | refine WH.split (t := 40) rfl (fun g1 => ?_) (fun g1 => ?_)
      ·
        refine WH.takeNo 12 rfl (by kernel_rfl) (by kernel_rfl) (by kernel_rfl) (fun _ _ _ h => h) ⟨_, HB⟩ rfl rfl rfl ?_
        refine WH.takeNo 13 rfl (by kernel_rfl) (by kernel_rfl) (by kernel_rfl) (fun _ _ _ h => h) ⟨_, HB⟩ rfl rfl rfl ?_
        refine WH.take 14 rfl (by kernel_rfl) (by kernel_rfl) (by kernel_rfl) (fun _ _ _ h => h) ⟨_, HB⟩ (fun w' hS => EX.pickT rfl rfl) rfl ?_
        refine WH.done (by kernel_rfl) ?_
        replace H := H.call HB
        refine WX.next ?_
        refine WC.cond_true rfl (rfl) ?_
        refine WC.seq ?_
        refine WC.region ?_
        refine WL.assign rfl rfl ?_
        refine (WL.done (WX.next ?_))
        refine (WC.ret (WX.block_ret (WX.then_ret (WX.then_ret (WX.block_ret (WX.then_ret ?_))))))
        refine ret_one rfl rfl ?_
        have hne : ¬ xs = ys := fun h => by subst h; omega
        rw [decide_eq_false hne]
        exact ⟨rfl, H⟩
      ·
        refine WH.takeYes 12 rfl (by kernel_rfl) (by kernel_rfl) (by kernel_rfl) (fun _ _ _ h => h) ⟨_, HB⟩ rfl rfl (fun w' hS => EX.move rfl) rfl ?_
        refine WH.takeYes 13 rfl (by kernel_rfl) (by kernel_rfl) (by kernel_rfl) (fun _ _ _ h => h) ⟨_, HB⟩ rfl rfl (fun w' hS => EX.notOp rfl) rfl ?_
        refine WH.take 14 rfl (by kernel_rfl) (by kernel_rfl) (by kernel_rfl) (fun _ _ _ h => h) ⟨_, HB⟩ (fun w' hS => EX.pickF rfl rfl) rfl ?_
        refine WH.done (by kernel_rfl) ?_
        replace H := H.call HB
        refine WX.next ?_
        first | refine WC.cond_dec rfl (fun c4 => ?_) (fun c4 => ?_) | refine WC.cond rfl (fun c4 => ?_) (fun c4 => ?_)
        ·
          refine WC.seq ?_
          refine WC.region ?_
          refine WL.assign rfl rfl ?_
          refine (WL.done (WX.next ?_))
          refine (WC.ret (WX.block_ret (WX.then_ret (WX.then_ret (WX.block_ret (WX.then_ret ?_))))))
          refine ret_one rfl rfl ?_
          have hne : ¬ xs = ys := fun h => by subst h; simp at c4
          rw [decide_eq_false hne]
          exact ⟨rfl, H⟩
        ·
          refine (WC.skip (WX.block_normal (WX.next ?_)))
          refine WC.region ?_
          refine WL.move rfl rfl ?_
          refine WL.bin rfl rfl (iadd (by omega) (by omega)) rfl ?_
          refine WL.assign rfl rfl ?_
          refine (WL.done (WX.round ?_))
          have h2e : (xs[g]).2 = (ys[g]).2 := by simpa using c4
          exact hN _ (g+1) _ _ (by omega) ⟨rfl, by omega, take_eq_succ hlt hlt2 hall (Prod.ext (by omega) h2e), H⟩ (Sub.cons (t := 5) (by first | rfl | simp) (Sub.nil _)) (Sub.cons (t := 0) rfl (Sub.cons (t := 1) rfl (Sub.nil _)))
    ·
      refine (WC.exit (WX.then_exit (WX.then_exit (WX.block_exit (WX.next ?_)))))
      refine WC.seq ?_
      refine WC.region ?_
      refine WL.assign rfl rfl ?_
      refine (WL.done (WX.next ?_))
      refine (WC.ret ?_)
      refine ret_one rfl rfl ?_
      have heq : xs = ys := by rw [List.take_of_length_le (by omega), List.take_of_length_le (by omega)] at hall; exact hall
      rw [decide_eq_true heq]
      exact ⟨rfl, H⟩

theorem short_any (A : Option Addr) (m cap : Nat) (xs : List Rc) (hm : m = xs.length) (w : World) (hx : RecsIn w A xs) (hm63 : m ≤ 9223372036854775806) : Calls Tryd.prog 136 #[.slice A m cap] w fun e w' => e = .returned (.bool (decide (m ≤ 6) && xs.all fun r => decide (r.2.length ≤ 12))) ∧ St w [] w' [] := by
  refine calls_walk_n (args := [.slice A m cap]) Tryd.func136 rfl rfl rfl ?_
  have H := St.refl w
  refine WC.seq ?_
  refine WC.region ?_
  refine WL.assign rfl rfl ?_
  refine (WL.done (WX.next ?_))
  refine WC.seq ?_
  refine WC.seq ?_
  refine WC.region ?_
  refine WL.assign rfl rfl ?_
  refine (WL.done (WX.next ?_))
  refine WC.block ?_
  refine WC.loop (Sub.cons (t := 0) rfl (Sub.nil _)) (fun i : Nat => [(3, .int .i64 (i : Int))]) (fun q i wx => q = m - i ∧ i ≤ m ∧ ((xs.take i).all fun r => decide (r.2.length ≤ 12)) = true ∧ St w [] wx []) (m) (0) (Sub.cons (t := 3) (by first | rfl | simp) (Sub.nil _)) (⟨rfl, by omega, rfl, H⟩) ?_
  rintro k g wx hI N hN
  obtain ⟨rfl, hg, hall, H⟩ := hI
  refine WC.seq ?_
  refine WC.seq ?_
  refine WC.region ?_
  refine WL.move rfl rfl ?_
  refine WL.move rfl rfl ?_
  refine WL.lenSlc isl98 rfl rfl ?_
  refine WL.bin rfl rfl binv_lss rfl ?_
  refine (WL.done (WX.next ?_))
  first | refine WC.cond_dec rfl (fun c1 => ?_) (fun c1 => ?_) | refine WC.cond rfl (fun c1 => ?_) (fun c1 => ?_)
  ·
    change (g : Int) < (m : Int) at c1
    have hlt : g < xs.length := by omega
    obtain ⟨b, o, cs, t, fr, rfl, hb, hc1, A', c', hc2, hr1⟩ := hx.at hlt
    refine (WC.skip (WX.next ?_))
    refine WC.seq ?_
    refine WC.block ?_
    refine WC.seq ?_
    refine WC.region ?_
    refine WL.move rfl rfl ?_
    refine WL.move rfl rfl ?_
    refine WL.idxSlc (k := g) slc98 rfl rfl (by first | rfl | omega) (by omega) rfl ?_
    refine WL.fieldAddr fld125_1 rfl rfl ?_
    refine WL.load rfl (Rd.one ty123 (by rw [cell_of (H.oldBlock hb (by simp))]; exact hc2)) rfl ?_
    refine WL.lenSlc isl123 rfl rfl ?_
    refine WL.bin rfl rfl binv_gtr rfl ?_
    refine (WL.done (WX.next ?_))
    first | refine WC.cond_dec rfl (fun c2 => ?_) (fun c2 => ?_) | refine WC.cond rfl (fun c2 => ?_) (fun c2 => ?_)
    ·
      refine WC.seq ?_
      refine WC.region ?_
      refine WL.assign rfl rfl ?_
      refine (WL.done (WX.next ?_))
      refine (WC.ret (WX.block_ret (WX.then_ret (WX.then_ret (WX.block_ret (WX.then_ret ?_))))))
      refine ret_one rfl rfl ?_
      rw [all_no hlt (fun h => by have h := of_decide_eq_true h; omega), Bool.and_false]
      exact ⟨rfl, H⟩
    ·
      refine (WC.skip (WX.block_normal (WX.next ?_)))
      refine WC.region ?_
      refine WL.move rfl rfl ?_
      refine WL.bin rfl rfl (iadd (by omega) (by omega)) rfl ?_
      refine WL.assign rfl rfl ?_
      refine (WL.done (WX.round ?_))
      exact hN _ (g+1) _ _ (by omega) ⟨rfl, by omega, all_succ hlt hall (decide_eq_true (by omega)), H⟩ (Sub.cons (t := 3) (by first | rfl | simp) (Sub.nil _)) (Sub.cons (t := 0) rfl (Sub.nil _))
  ·
    change ¬ (g : Int) < (m : Int) at c1
    obtain rfl : g = m := by omega
    have hall := all_end (by omega) hall
    refine (WC.exit (WX.then_exit (WX.then_exit (WX.block_exit (WX.next ?_)))))
    refine WC.seq ?_
    refine WC.region ?_
    refine WL.move rfl rfl ?_
    refine WL.lenSlc isl98 rfl rfl ?_
    refine WL.bin rfl rfl binv_leq rfl ?_
    refine WL.assign rfl rfl ?_
    refine (WL.done (WX.next ?_))
    refine (WC.ret ?_)
    refine ret_one rfl rfl ?_
    rw [hall, Bool.and_true]
    refine ⟨congrArg (fun b => Ending.returned (Value.bool b)) (Bool.eq_iff_iff.2 ?_), H⟩
    simp only [decide_eq_true_eq]
    omega

theorem encode_log_any (num : Int) (es : List (List Int)) (A : Option Addr) (m cap : Nat) (hm : m = es.length) (hm63 : m ≤ 1048575) (ep : Int) (hep : 0 ≤ ep ∧ ep < 1048576) (w : World) (hG : GN w) (hx : RowsIn w A 2 es) : Calls Tryd.prog 86 #[.agg #[.int .i64 num, .slice A m cap], .int .i64 ep] w fun e w' => ∃ r : Row, e = .returned (r.val (3 + 2 * m)) ∧ r.ok 1 (3 + 2 * m) (intsC (lenc (num, es) ep)) ∧ St w [] w' (r.hp 3) := by
  refine calls_walk_n (args := [.agg #[.int .i64 num, .slice A m cap], .int .i64 ep]) Tryd.func86 rfl rfl rfl ?_
  have H := St.refl w
  refine WC.seq ?_
  refine WC.region ?_
  refine WL.box H rfl rfl ?_
  intro b2 wx hb2 hge2 H
  refine WL.assign rfl rfl ?_
  refine (WL.done (WX.next ?_))
  refine WC.seq ?_
  refine WC.region ?_
  refine WL.fieldAddr fld125_1 rfl rfl ?_
  first | refine WL.load rfl (H.rd1 ty123 0 rfl rfl) rfl ?_ | refine WL.load rfl (H.rdA ty123 0 rfl (by first | decide | exact Nat.le_refl _)) rfl ?_
  refine WL.lenSlc isl123 rfl rfl ?_
  refine WL.bin rfl rfl (ishl (m := 20) rfl (by decide) (by omega) (by omega)) rfl ?_
  refine WL.move rfl rfl ?_
  refine WL.bin rfl rfl (bor (by omega) hep) rfl ?_
  refine WL.fieldAddr fld125_0 rfl rfl ?_
  first | refine WL.load rfl (H.rd1 ty3 0 rfl rfl) rfl ?_ | refine WL.load rfl (H.rdA ty3 0 rfl (by first | decide | exact Nat.le_refl _)) rfl ?_
  refine WL.buildSliceN (cells := arrC (encP m num ep es 0)) H Tryd.underlying43 ty3 zer3 rfl (by omega) rfl (by kernel_rfl) ?_
  intro gg wx hg hgg H
  replace H : St w [] _ ((Row.some gg 2 (arrC (encP m num ep es 0))).hp 3 ++ [(b2, .cells #[.int .i64 num, .slice A m cap] 125)]) := H
  refine WL.assign rfl rfl ?_
  refine (WL.done (WX.next ?_))
  refine WC.seq ?_
  refine WC.seq ?_
  refine WC.region ?_
  refine WL.fieldAddr fld125_1 rfl rfl ?_
  refine WL.load rfl (H.rd1 ty123 1 rfl rfl) rfl ?_
  refine WL.lenSlc isl123 rfl rfl ?_
  refine WL.move rfl rfl ?_
  refine (WL.done (WX.next ?_))
  refine WC.block ?_
  refine WC.loop (Sub.cons (t := 18) rfl (Sub.cons (t := 19) rfl (Sub.nil _))) (fun z : Row × Nat => [(5, z.1.val (2 + 2 * z.2)), (20, .int .i64 (z.2 : Int))]) (fun q z wx => q = m - z.2 ∧ z.2 ≤ m ∧ z.1.ok 1 (2 + 2 * z.2) (intsC (encP m num ep es z.2)) ∧ St w [] wx (z.1.hp 3 ++ [(b2, .cells #[.int .i64 num, .slice A m cap] 125)])) (m) ((Row.some gg 2 (arrC (encP m num ep es 0)), 0)) (Sub.cons (t := 5) (by first | rfl | simp) (Sub.cons (t := 20) (by first | rfl | simp) (Sub.nil _))) (⟨rfl, Nat.zero_le _, ⟨by simp [encP, intsC], Nat.le_refl _, by decide, by simp [encP, arrC], by simp [encP, arrC, intsC], by omega⟩, H⟩) ?_
  rintro q z wx hJ N hN
  clear H
  obtain ⟨r, i⟩ := z
  obtain ⟨rfl, hi, hr, H⟩ := hJ
  change i ≤ m at hi
  change r.ok 1 (2 + 2 * i) (intsC (encP m num ep es i)) at hr
  change St w [] wx (r.hp 3 ++ _) at H
  refine WC.seq ?_
  refine WC.region ?_
  refine WL.bin rfl rfl binv_lss rfl ?_
  refine (WL.done (WX.next ?_))
  refine WC.seq ?_
  first | refine WC.cond_dec rfl (fun c1 => ?_) (fun c1 => ?_) | refine WC.cond rfl (fun c1 => ?_) (fun c1 => ?_)
  ·
    change (i : Int) < (m : Int) at c1
    have hlt : i < es.length := by omega
    have he2 := hx.1 _ (List.getElem_mem hlt)
    have hel := len2E he2
    obtain ⟨b, o, rfl⟩ := hx.addr (by omega) hlt
    refine (WC.skip (WX.next ?_))
    refine WC.seq ?_
    refine WC.block ?_
    refine WC.seq ?_
    refine WC.region ?_
    refine WL.idxSlc (k := i) slc123 rfl rfl (by first | rfl | omega) (by omega) rfl ?_
    refine WL.load rfl ((hx.keep H).rd ty189 (by omega) hlt rfl) rfl ?_
    refine WL.alloc H zer189 rfl ?_
    intro b7 wx hb7 hge7 H
    refine WL.storeArr (ws' := es[i]) H ty189 0 rfl rfl rfl rfl he2 ?_
    intro wx H
    refine (WL.done (WX.next ?_))
    refine WC.region ?_
    refine WL.move rfl rfl ?_
    refine WL.fieldAddr fld189_0 rfl rfl ?_
    refine WL.load rfl (H.rdElt (o := 0) ty3 0 rfl (by rw [he2]; decide)) rfl ?_
    refine WL.fieldAddr fld189_1 rfl rfl ?_
    refine WL.load rfl (H.rdElt (o := 1) ty3 0 rfl (by rw [he2]; decide)) rfl ?_
    refine WL.buildSliceN (cells := arrC [es[i].getD 0 0, es[i].getD 1 0]) H Tryd.underlying43 ty3 zer3 rfl (by omega) rfl (by kernel_rfl) ?_
    intro g2 wx hg hgg H
    rw [← hel] at H
    replace H := (H.perm (List.perm_append_comm (l₁ := [(g2, _), (b7, _)]) (l₂ := r.hp 3 ++ [_]))).perm (List.Perm.of_eq (List.append_assoc _ _ _))
    refine WL.append (m := 2) (k := 2 + 2 * i) (news := intsC es[i]) app43L H hr rfl rfl (by rw [intsC_len]; first | exact he2 | rfl) (fun j u hj => by rw [addr_add, cell_of (H.sat (g2, .cells (arrC es[i]) 3) (by simp)), Nat.zero_add, arrC_ints, List.getElem?_toArray]; exact hj) (intsC_one _) (by simp only [maxLen]; omega) (by omega) rfl ?_
    intro r1 wx hr1 H
    replace hr1 : r1.ok 1 (2 + 2 * (i + 1)) (intsC (encP m num ep es (i + 1))) := by rw [encP_succ hlt, intsC_append]; exact hr1
    refine WL.assign rfl rfl ?_
    refine (WL.done (WX.block_normal (WX.next ?_)))
    refine WC.region ?_
    refine WL.bin rfl rfl (iadd (by omega) (by omega)) rfl ?_
    refine WL.move rfl rfl ?_
    refine (WL.done (WX.round ?_))
    exact hN _ (r1, i + 1) _ _ (by show m - (i + 1) < m - i; omega) ⟨rfl, by show i + 1 ≤ m; omega, hr1, H.weaken ((List.Sublist.refl _).append (List.sublist_append_left _ _))⟩ (Sub.cons (t := 5) (by first | rfl | simp) (Sub.cons (t := 20) (by first | rfl | simp) (Sub.nil _))) (Sub.cons (t := 18) rfl (Sub.cons (t := 19) rfl (Sub.nil _)))
  ·
    change ¬ (i : Int) < (m : Int) at c1
    obtain rfl : i = m := by omega
    rw [encP_all hm] at hr
    refine (WC.exit (WX.then_exit (WX.then_exit (WX.block_exit (WX.next ?_)))))
    refine WC.seq ?_
    refine WC.region ?_
    have hbl : (encB (num, es) ep).length = 2 + 2 * i := by rw [encB_len hx.1, ← hm]
    obtain ⟨A2, cap2, hval, hx2, hc2⟩ := IntsIn.row (T := 3) hr (fun q hq => H.sat q (by simp [hq]))
    refine WL.move rfl rfl ?_
    refine WL.move rfl rfl ?_
    refine WL.call call149 rfl rfl ?_
    refine Calls.mono ((by rw [hval]; exact hashWords_any A2 (2 + 2 * i) cap2 (encB (num, es) ep) hbl.symm (by omega) _ (hG.of0 H) hx2)) ?_
    rintro _ wx ⟨rfl, Hc⟩
    refine ⟨_, rfl, ?_⟩
    replace H := H.call0 Hc
    refine WL.buildSliceN (cells := arrC [crc (encB (num, es) ep)]) H Tryd.underlying43 ty3 zer3 rfl (by omega) rfl (by kernel_rfl) ?_
    intro g2 wx hg hgg H
    replace H := (H.perm (List.perm_append_comm (l₁ := [(g2, _)]) (l₂ := r.hp 3 ++ [_]))).perm (List.Perm.of_eq (List.append_assoc _ _ _))
    refine WL.append (m := 1) (k := 2 + 2 * i) (news := intsC [crc (encB (num, es) ep)]) app43L H hr rfl rfl (by rw [intsC_len]; first | exact he2 | rfl) (fun j u hj => by rw [addr_add, cell_of (H.sat (g2, .cells (arrC [crc (encB (num, es) ep)]) 3) (by simp)), Nat.zero_add, arrC_ints, List.getElem?_toArray]; exact hj) (intsC_one _) (by simp only [maxLen]; omega) (by omega) rfl ?_
    intro r1 wx hr1 H
    replace hr1 : r1.ok 1 (3 + 2 * i) (intsC (lenc (num, es) ep)) := by rw [(show lenc (num, es) ep = encB (num, es) ep ++ [crc (encB (num, es) ep)] from rfl), (show 3 + 2 * i = 2 + 2 * i + 1 by omega), intsC_append]; exact hr1
    refine WL.assign rfl rfl ?_
    refine (WL.done (WX.next ?_))
    refine (WC.ret ?_)
    refine ret_one rfl rfl ?_
    exact ⟨r1, by rw [show 3 + 2 * i = 2 + 2 * i + 1 by omega], hr1, H.weaken (List.sublist_append_left _ _)⟩

end Go.Proofs.YtkncbggnaobgeaaDoor

/- Walks of functions of the program; printed by a program of this session (walk.py) out of hand-written hints. -/
namespace Go.Proofs.YtkncbggnaobgeaaDoor
open Go.RowKit
set_option linter.unusedVariables false
set_option linter.unusedSimpArgs false
set_option maxRecDepth 100000

theorem app123 : AppT Tryd.prog 123 189 2 16 := appT_of (by kernel_rfl)

theorem rowv_cells (r : Row) (n : Nat) : (r.val n).cells = #[r.val n] := by cases r <;> rfl
theorem rowv_one (r : Row) (n : Nat) : ∀ u ∈ (r.val n).cells.toList, u.oneCell' = true := by
  rw [rowv_cells]
  intro u hu
  rw [List.mem_singleton.1 hu]
  cases r <;> rfl
theorem recv_one (x : Int) (r : Row) (n : Nat) : ∀ u ∈ (Value.agg #[.int .i64 x, r.val n]).cells.toList, u.oneCell' = true := by
  intro u hu
  have hu : u ∈ [Value.int .i64 x, r.val n] := hu
  rcases List.mem_cons.1 hu with rfl | hu
  · rfl
  · rw [List.mem_singleton.1 hu]; cases r <;> rfl
theorem getD_of {xs : List Int} {i : Nat} (h : i < xs.length) : xs[i] = xs.getD i 0 := by rw [List.getD, List.getElem?_eq_getElem h]; rfl
theorem getD_mem {xs : List Int} {i : Nat} (h : i < xs.length) : xs.getD i 0 ∈ xs := by rw [← getD_of h]; exact List.getElem_mem h
theorem getD_take {xs : List Int} {i k : Nat} (h : i < k) : (xs.take k).getD i 0 = xs.getD i 0 := by
  rw [List.getD, List.getD, List.getElem?_take, if_pos h]

theorem refEncode_log_any (num : Int) (es : List (List Int)) (A : Option Addr) (m cap : Nat) (hm : m = es.length) (hm63 : m ≤ 1048575) (ep : Int) (hep : 0 ≤ ep ∧ ep < 1048576) (hms : m ≤ 500000) (w : World) (hx : RowsIn w A 2 es) : Calls Tryd.prog 87 #[.agg #[.int .i64 num, .slice A m cap], .int .i64 ep] w fun e w' => ∃ r : Row, e = .returned (r.val (3 + 2 * m)) ∧ r.ok 1 (3 + 2 * m) (intsC (lenc (num, es) ep)) ∧ St w [] w' (r.hp 3) := by
  refine calls_walk_n (args := [.agg #[.int .i64 num, .slice A m cap], .int .i64 ep]) Tryd.func87 rfl rfl rfl ?_
  have H := St.refl w
  refine WC.seq ?_
  refine WC.region ?_
  refine WL.box H rfl rfl ?_
  intro b2 wx hb2 hge2 H
  refine WL.assign rfl rfl ?_
  refine (WL.done (WX.next ?_))
  refine WC.seq ?_
  refine WC.region ?_
  refine WL.fieldAddr fld125_1 rfl rfl ?_
  first | refine WL.load rfl (H.rd1 ty123 0 rfl rfl) rfl ?_ | refine WL.load rfl (H.rdA ty123 0 rfl (by first | decide | exact Nat.le_refl _)) rfl ?_
  refine WL.lenSlc isl123 rfl rfl ?_
  refine WL.bin rfl rfl (imul (by omega) (by omega)) rfl ?_
  refine WL.move rfl rfl ?_
  refine WL.bin rfl rfl (iadd (by omega) (by omega)) rfl ?_
  refine WL.fieldAddr fld125_0 rfl rfl ?_
  first | refine WL.load rfl (H.rd1 ty3 0 rfl rfl) rfl ?_ | refine WL.load rfl (H.rdA ty3 0 rfl (by first | decide | exact Nat.le_refl _)) rfl ?_
  refine WL.buildSliceN (cells := arrC (encP m num ep es 0)) H Tryd.underlying43 ty3 zer3 rfl (by omega) rfl (by kernel_rfl) ?_
  intro gg wx hg hgg H
  replace H : St w [] _ ([(b2, .cells #[.int .i64 num, .slice A m cap] 125)] ++ (Row.some gg 2 (arrC (encP m num ep es 0))).hp 3) := H.perm (List.Perm.swap _ _ _)
  refine WL.assign rfl rfl ?_
  refine (WL.done (WX.next ?_))
  refine WC.seq ?_
  refine WC.seq ?_
  refine WC.region ?_
  refine WL.assign rfl rfl ?_
  refine (WL.done (WX.next ?_))
  refine WC.block ?_
  refine WC.loop (Sub.cons (t := 2) rfl (Sub.nil _)) (fun z : Row × Nat => [(5, z.1.val (2 + 2 * z.2)), (6, .int .i64 (z.2 : Int))]) (fun q z wx => q = m - z.2 ∧ z.2 ≤ m ∧ z.1.ok 1 (2 + 2 * z.2) (intsC (encP m num ep es z.2)) ∧ St w [] wx ([(b2, .cells #[.int .i64 num, .slice A m cap] 125)] ++ z.1.hp 3)) (m) ((Row.some gg 2 (arrC (encP m num ep es 0)), 0)) (Sub.cons (t := 5) (by first | rfl | simp) (Sub.cons (t := 6) (by first | rfl | simp) (Sub.nil _))) (⟨rfl, Nat.zero_le _, ⟨by simp [encP, intsC], Nat.le_refl _, by decide, by simp [encP, arrC], by simp [encP, arrC, intsC], by omega⟩, H⟩) ?_
  rintro q z wx hJ N hN
  clear H
  obtain ⟨r, i⟩ := z
  obtain ⟨rfl, hi, hr, H⟩ := hJ
  change i ≤ m at hi
  change r.ok 1 (2 + 2 * i) (intsC (encP m num ep es i)) at hr
  change St w [] wx ([_] ++ r.hp 3) at H
  refine WC.seq ?_
  refine WC.seq ?_
  refine WC.region ?_
  refine WL.move rfl rfl ?_
  refine WL.fieldAddr fld125_1 rfl rfl ?_
  refine WL.load rfl (H.rd1 ty123 0 rfl rfl) rfl ?_
  refine WL.lenSlc isl123 rfl rfl ?_
  refine WL.bin rfl rfl binv_lss rfl ?_
  refine (WL.done (WX.next ?_))
  first | refine WC.cond_dec rfl (fun c1 => ?_) (fun c1 => ?_) | refine WC.cond rfl (fun c1 => ?_) (fun c1 => ?_)
  ·
    change (i : Int) < (m : Int) at c1
    have hlt : i < es.length := by omega
    have hel := len2E (hx.1 _ (List.getElem_mem hlt))
    have he2 := hx.1 _ (List.getElem_mem hlt)
    obtain ⟨b, o, cs, t, fr, rfl, hb, hcs⟩ := hx.at (by omega) hlt
    have hbX := H.new (X := (r.hp 3).map Prod.fst) (fun k hk => by rw [List.map_append]; exact List.mem_append_right _ hk)
    replace hbX : b ∉ (r.hp 3).map Prod.fst := fun h => Nat.not_lt.2 (hbX b h) (lt_of_some hb)
    have hb2X := H.notL (p := (b2, Obj.cells #[.int .i64 num, .slice (some ⟨b, o, none⟩) m cap] 125)) (by simp)
    replace H := H.drew
    refine (WC.skip (WX.next ?_))
    refine WC.seq ?_
    refine WC.block ?_
    
    refine WC.held (SX (World.drew wx) ((r.hp 3).map Prod.fst)) (by kernel_rfl) ?_
    generalize World.drew wx = wb at H ⊢
    have HB : St wb ((r.hp 3).map Prod.fst) wb (r.hp 3) := St.start (H.weaken (List.sublist_append_right _ _)).nd (H.weaken (List.sublist_append_right _ _)).sat
    refine WH.take 0 rfl (by kernel_rfl) (by kernel_rfl) (by kernel_rfl) (fun _ _ _ h => h) ⟨_, HB⟩ (fun w' hS => EX.move rfl) rfl ?_
    refine WH.take 1 rfl (by kernel_rfl) (by kernel_rfl) (by kernel_rfl) (fun _ _ _ h => h) ⟨_, HB⟩ (fun w' hS => EX.fieldAddr fld125_1 rfl) rfl ?_
    refine WH.take 2 rfl (by kernel_rfl) (by kernel_rfl) (by kernel_rfl) (fun _ _ _ h => h) ⟨_, HB⟩ (fun w' hS => EX.load rfl (Rd.one ty123 (by rw [cell_of (hS.block (H.sat (b2, Obj.cells #[.int .i64 num, .slice (some ⟨b, o, none⟩) m cap] 125) (by simp)) hb2X)]; rfl))) rfl ?_
    refine WH.take 3 rfl (by kernel_rfl) (by kernel_rfl) (by kernel_rfl) (fun _ _ _ h => h) ⟨_, HB⟩ (fun w' hS => EX.move rfl) rfl ?_
    refine WH.take 4 rfl (by kernel_rfl) (by kernel_rfl) (by kernel_rfl) (fun _ _ _ h => h) ⟨_, HB⟩ (fun w' hS => EX.idxSlc (k := i) slc123 rfl rfl (by first | rfl | omega) (by omega)) rfl ?_
    refine WH.take 5 rfl (by kernel_rfl) (by kernel_rfl) (by kernel_rfl) (fun _ _ _ h => h) ⟨_, HB⟩ (fun w' hS => EX.fieldAddr fld189_0 rfl) rfl ?_
    refine WH.take 6 rfl (by kernel_rfl) (by kernel_rfl) (by kernel_rfl) (fun _ _ _ h => h) ⟨_, HB⟩ (fun w' hS => EX.load rfl (Rd.one ty3 (by rw [cell_of (hS.block (H.oldBlock hb (by simp)) hbX)]; exact hcs 0 (by omega)))) rfl ?_
    refine WH.take 7 rfl (by kernel_rfl) (by kernel_rfl) (by kernel_rfl) (fun _ _ _ h => h) ⟨_, HB⟩ (fun w' hS => EX.fieldAddr fld125_1 rfl) rfl ?_
    refine WH.take 8 rfl (by kernel_rfl) (by kernel_rfl) (by kernel_rfl) (fun _ _ _ h => h) ⟨_, HB⟩ (fun w' hS => EX.load rfl (Rd.one ty123 (by rw [cell_of (hS.block (H.sat (b2, Obj.cells #[.int .i64 num, .slice (some ⟨b, o, none⟩) m cap] 125) (by simp)) hb2X)]; rfl))) rfl ?_
    refine WH.take 9 rfl (by kernel_rfl) (by kernel_rfl) (by kernel_rfl) (fun _ _ _ h => h) ⟨_, HB⟩ (fun w' hS => EX.move rfl) rfl ?_
    refine WH.take 10 rfl (by kernel_rfl) (by kernel_rfl) (by kernel_rfl) (fun _ _ _ h => h) ⟨_, HB⟩ (fun w' hS => EX.idxSlc (k := i) slc123 rfl rfl (by first | rfl | omega) (by omega)) rfl ?_
    refine WH.take 11 rfl (by kernel_rfl) (by kernel_rfl) (by kernel_rfl) (fun _ _ _ h => h) ⟨_, HB⟩ (fun w' hS => EX.fieldAddr fld189_1 rfl) rfl ?_
    refine WH.take 12 rfl (by kernel_rfl) (by kernel_rfl) (by kernel_rfl) (fun _ _ _ h => h) ⟨_, HB⟩ (fun w' hS => EX.load rfl (Rd.one ty3 (by rw [cell_of (hS.block (H.oldBlock hb (by simp)) hbX)]; exact hcs 1 (by omega)))) rfl ?_
    refine WH.hard 13 rfl (by kernel_rfl) ?_
    refine WL.buildSliceN (cells := arrC [es[i].getD 0 0, es[i].getD 1 0]) HB Tryd.underlying43 ty3 zer3 rfl (by omega) rfl (by kernel_rfl) ?_
    intro g2 wx hg hgg HB
    rw [← hel] at HB
    replace HB := HB.perm (List.perm_append_comm (l₁ := [(g2, _)]) (l₂ := r.hp 3))
    refine WL.done (WX.heldOn ⟨_, HB⟩ ?_)
    refine WH.hard 14 rfl (by kernel_rfl) ?_
    refine WL.append (m := 2) (k := 2 + 2 * i) (news := intsC es[i]) app43L HB hr rfl rfl (by rw [intsC_len]; first | exact he2 | rfl) (fun j u hj => by rw [addr_add, cell_of (HB.sat (g2, .cells (arrC es[i]) 3) (by simp)), Nat.zero_add, arrC_ints, List.getElem?_toArray]; exact hj) (intsC_one _) (by simp only [maxLen]; omega) (by omega) rfl ?_
    intro r1 wx hr1 HB
    replace hr1 : r1.ok 1 (2 + 2 * (i + 1)) (intsC (encP m num ep es (i + 1))) := by rw [encP_succ hlt, intsC_append]; exact hr1
    refine WL.done (WX.heldOn ⟨_, HB⟩ ?_)
    refine WH.take 15 rfl (by kernel_rfl) (by kernel_rfl) (by kernel_rfl) (fun _ _ _ h => h) ⟨_, HB⟩ (fun w' hS => EX.assign rfl) rfl ?_
    refine WH.done (by kernel_rfl) ?_
    replace H := H.callM (L := [_]) (HB.weaken (List.sublist_append_left _ _))
    refine (WX.block_normal (WX.next ?_))
    refine WC.region ?_
    refine WL.move rfl rfl ?_
    refine WL.bin rfl rfl (iadd (by omega) (by omega)) rfl ?_
    refine WL.assign rfl rfl ?_
    refine (WL.done (WX.round ?_))
    exact hN _ (r1, i + 1) _ _ (by show m - (i + 1) < m - i; omega) ⟨rfl, by show i + 1 ≤ m; omega, hr1, H⟩ (Sub.cons (t := 5) (by first | rfl | simp) (Sub.cons (t := 6) (by first | rfl | simp) (Sub.nil _))) (Sub.cons (t := 2) rfl (Sub.nil _))
  ·
    change ¬ (i : Int) < (m : Int) at c1
    obtain rfl : i = m := by omega
    rw [encP_all hm] at hr
    refine (WC.exit (WX.then_exit (WX.then_exit (WX.block_exit (WX.next ?_)))))
    refine WC.seq ?_
    refine WC.region ?_
    have hbl : (encB (num, es) ep).length = 2 + 2 * i := by rw [encB_len hx.1, ← hm]
    obtain ⟨A2, cap2, hval, hx2, hc2⟩ := IntsIn.row (T := 3) hr (fun q hq => H.sat q (by simp [hq]))
    refine WL.move rfl rfl ?_
    refine WL.call call151 rfl rfl ?_
    refine Calls.mono ((by rw [hval]; exact refWords_any A2 (2 + 2 * i) cap2 (encB (num, es) ep) hbl.symm (by omega) _ hx2)) ?_
    rintro _ wx ⟨rfl, Hc⟩
    refine ⟨_, rfl, ?_⟩
    replace H := H.call0 Hc
    refine WL.assign rfl rfl ?_
    refine (WL.done (WX.next ?_))
    refine WC.seq ?_
    refine WC.region ?_
    refine WL.move rfl rfl ?_
    refine WL.move rfl rfl ?_
    refine WL.buildSliceN (cells := arrC [crc (encB (num, es) ep)]) H Tryd.underlying43 ty3 zer3 rfl (by omega) rfl (by kernel_rfl) ?_
    intro g2 wx hg hgg H
    replace H := H.perm (List.perm_append_comm (l₁ := [(g2, _), _]) (l₂ := r.hp 3))
    refine WL.append (m := 1) (k := 2 + 2 * i) (news := intsC [crc (encB (num, es) ep)]) app43L H hr rfl rfl (by rw [intsC_len]; first | exact he2 | rfl) (fun j u hj => by rw [addr_add, cell_of (H.sat (g2, .cells (arrC [crc (encB (num, es) ep)]) 3) (by simp)), Nat.zero_add, arrC_ints, List.getElem?_toArray]; exact hj) (intsC_one _) (by simp only [maxLen]; omega) (by omega) rfl ?_
    intro r1 wx hr1 H
    replace hr1 : r1.ok 1 (3 + 2 * i) (intsC (lenc (num, es) ep)) := by rw [(show lenc (num, es) ep = encB (num, es) ep ++ [crc (encB (num, es) ep)] from rfl), (show 3 + 2 * i = 2 + 2 * i + 1 by omega), intsC_append]; exact hr1
    refine WL.assign rfl rfl ?_
    refine (WL.done (WX.next ?_))
    refine (WC.ret ?_)
    refine ret_one rfl rfl ?_
    exact ⟨r1, by rw [show 3 + 2 * i = 2 + 2 * i + 1 by omega], hr1, H.weaken (List.sublist_append_left _ _)⟩

theorem decode_log_any (A : Option Addr) (m cap : Nat) (ws : List Int) (hm : m = ws.length) (hcap : m ≤ cap) (hm63 : m ≤ 1048576) (ep : Int) (w : World) (hG : GN w) (hx : IntsIn w A ws) : Calls Tryd.prog 74 #[.slice A m cap, .int .i64 ep] w fun e w' => ∃ r : Row, e = .returned (.tuple #[.agg #[.int .i64 (decV ws ep).1.1, r.val (decV ws ep).1.2.length], .int .i64 (decV ws ep).2.1, .int .i64 (decV ws ep).2.2]) ∧ r.ok 2 (decV ws ep).1.2.length (intsC (decV ws ep).1.2.flatten) ∧ St w [] w' (r.hp 189) := by
  have hC := hdC_bd (ws.getD 0 0)
  obtain ⟨n, hn⟩ : ∃ n : Nat, hdC (ws.getD 0 0) = (n : Int) := ⟨_, (Int.toNat_of_nonneg hC.1).symm⟩
  refine calls_walk_n (args := [.slice A m cap, .int .i64 ep]) Tryd.func74 rfl rfl rfl ?_
  have H := St.refl w
  refine WC.seq ?_
  refine WC.region ?_
  refine WL.alloc H zer125 rfl ?_
  intro b4 wx hb4 hge4 H
  refine WL.assign rfl rfl ?_
  refine WL.assign rfl rfl ?_
  refine (WL.done (WX.next ?_))
  refine WC.seq ?_
  refine WC.seq ?_
  refine WC.region ?_
  refine WL.move rfl rfl ?_
  refine WL.lenSlc isl43 rfl rfl ?_
  refine WL.bin rfl rfl binv_lss rfl ?_
  refine WL.move rfl rfl ?_
  first | refine WL.splitD (t := 17) rfl (fun g1 => ?_) (fun g1 => ?_) | refine WL.split (t := 17) rfl (fun g1 => ?_) (fun g1 => ?_)
  ·
    refine WL.no rfl rfl rfl ?_
    refine WL.no rfl rfl rfl ?_
    refine WL.no rfl rfl rfl ?_
    refine WL.no rfl rfl rfl ?_
    refine WL.no rfl rfl rfl ?_
    refine WL.pickT rfl rfl rfl ?_
    refine (WL.done (WX.next ?_))
    refine WC.cond_true rfl (rfl) ?_
    refine WC.seq ?_
    refine WC.region ?_
    refine WL.build (cells := #[.int .i64 0, .slice none 0 0]) pla125 zer125 rfl rfl (by kernel_rfl) ?_
    refine WL.storeTo (cs' := #[.int .i64 0, .slice none 0 0]) H ty125 0 rfl rfl rfl (by first | rfl | decide) (by first | exact arrC_one _ | simp [Value.cells, Value.oneCell']) (by first | exact Nat.le_of_ble_eq_true rfl | decide | (simp only [wr_size]; decide) | simp [wr_size]) (by kernel_rfl) ?_
    intro wx H
    refine WL.assign rfl rfl ?_
    refine WL.assign rfl rfl ?_
    refine (WL.done (WX.next ?_))
    refine (WC.ret (WX.then_ret ?_))
    refine ret_three rfl ⟨_, rfl, by first | exact H.rdAll ty125 0 rfl rfl | exact H.rd1 ty125 0 rfl rfl | exact H.rdA ty125 0 rfl (by first | decide | exact Nat.le_refl _)⟩ rfl rfl ?_
    have hno : decOk ws ep = false := Bool.eq_false_iff.2 (fun h => by
      obtain ⟨h1, h2, h3, h4, h5, h6, h7⟩ := decOk_iff.1 h
      first | omega | (have h9 := ‹(!isWord (ws.getD 0 0)) = true›; rw [h2] at h9; cases h9) | (rw [hdn] at h6; have h9 := ‹(!isWord (ws.getD g 0)) = true›; have h8 := List.all_eq_true.1 h6 (ws.getD g 0) (by rw [← getD_take (show g < 3 + 2 * n by omega)]; exact getD_mem (by rw [List.length_take]; omega)); rw [h8] at h9; cases h9) | (rw [hdn, show 3 + 2 * n - 1 = 2 + 2 * n by omega] at h7; omega))
    rw [dec_no hno]
    exact ⟨Row.none, rfl, ⟨rfl, rfl⟩, H.weaken (List.nil_sublist _)⟩
  ·
    obtain ⟨b, o, cs, t, fr, rfl, hb, hcs⟩ := hx.blk (by omega)
    refine WL.yes rfl rfl ?_
    refine WL.move rfl rfl ?_
    refine WL.yes rfl rfl ?_
    refine WL.idxSlc (k := 0) slc43 rfl rfl (by first | rfl | omega) (by omega) rfl ?_
    refine WL.yes rfl rfl ?_
    refine WL.load rfl (Rd.one ty3 (by rw [cell_of (H.oldBlock hb (by simp)), Nat.mul_one]; exact hcs 0 (by omega))) rfl ?_
    refine WL.yes rfl rfl ?_
    refine WL.call call152 rfl rfl ?_
    refine Calls.mono (lword_any _ _) ?_
    rintro _ wx ⟨rfl, rfl⟩
    refine ⟨_, rfl, ?_⟩
    refine WL.yes rfl rfl ?_
    refine WL.notOp rfl rfl ?_
    refine WL.pickF rfl rfl rfl ?_
    refine (WL.done (WX.next ?_))
    first | refine WC.cond_dec rfl (fun c2 => ?_) (fun c2 => ?_) | refine WC.cond rfl (fun c2 => ?_) (fun c2 => ?_)
    ·
      refine WC.seq ?_
      refine WC.region ?_
      refine WL.build (cells := #[.int .i64 0, .slice none 0 0]) pla125 zer125 rfl rfl (by kernel_rfl) ?_
      refine WL.storeTo (cs' := #[.int .i64 0, .slice none 0 0]) H ty125 0 rfl rfl rfl (by first | rfl | decide) (by first | exact arrC_one _ | simp [Value.cells, Value.oneCell']) (by first | exact Nat.le_of_ble_eq_true rfl | decide | (simp only [wr_size]; decide) | simp [wr_size]) (by kernel_rfl) ?_
      intro wx H
      refine WL.assign rfl rfl ?_
      refine WL.assign rfl rfl ?_
      refine (WL.done (WX.next ?_))
      refine (WC.ret (WX.then_ret ?_))
      refine ret_three rfl ⟨_, rfl, by first | exact H.rdAll ty125 0 rfl rfl | exact H.rd1 ty125 0 rfl rfl | exact H.rdA ty125 0 rfl (by first | decide | exact Nat.le_refl _)⟩ rfl rfl ?_
      have hno : decOk ws ep = false := Bool.eq_false_iff.2 (fun h => by
        obtain ⟨h1, h2, h3, h4, h5, h6, h7⟩ := decOk_iff.1 h
        first | omega | (have h9 := ‹(!isWord (ws.getD 0 0)) = true›; rw [h2] at h9; cases h9) | (rw [hdn] at h6; have h9 := ‹(!isWord (ws.getD g 0)) = true›; have h8 := List.all_eq_true.1 h6 (ws.getD g 0) (by rw [← getD_take (show g < 3 + 2 * n by omega)]; exact getD_mem (by rw [List.length_take]; omega)); rw [h8] at h9; cases h9) | (rw [hdn, show 3 + 2 * n - 1 = 2 + 2 * n by omega] at h7; omega))
      rw [dec_no hno]
      exact ⟨Row.none, rfl, ⟨rfl, rfl⟩, H.weaken (List.nil_sublist _)⟩
    ·
      refine (WC.skip (WX.next ?_))
      refine WC.seq ?_
      refine WC.region ?_
      refine WL.move rfl rfl ?_
      refine WL.idxSlc (k := 0) slc43 rfl rfl (by first | rfl | omega) (by omega) rfl ?_
      refine WL.load rfl (Rd.one ty3 (by rw [cell_of (H.oldBlock hb (by simp)), Nat.mul_one]; exact hcs 0 (by omega))) rfl ?_
      refine WL.call call72 rfl rfl ?_
      refine Calls.mono (head_any _ _) ?_
      rintro _ wx ⟨rfl, Hc⟩
      refine ⟨_, rfl, ?_⟩
      replace H := H.call0 Hc
      rw [hn]
      refine WL.move rfl rfl ?_
      refine WL.extract rfl rfl rfl ?_
      refine WL.extract rfl rfl rfl ?_
      refine WL.assign rfl rfl ?_
      refine WL.assign rfl rfl ?_
      refine (WL.done (WX.next ?_))
      refine WC.seq ?_
      refine WC.region ?_
      have hdn := decN_of hn
      have hdr := decR_of hn
      refine WL.move rfl rfl ?_
      refine WL.bin rfl rfl (imul (by omega) (by omega)) rfl ?_
      refine WL.bin rfl rfl (iadd (by omega) (by omega)) rfl ?_
      refine WL.assign rfl rfl ?_
      refine (WL.done (WX.next ?_))
      refine WC.seq ?_
      refine WC.seq ?_
      refine WC.region ?_
      refine WL.move rfl rfl ?_
      refine WL.move rfl rfl ?_
      refine WL.bin rfl rfl binv_neq rfl ?_
      refine WL.move rfl rfl ?_
      first | refine WL.splitD (t := 38) rfl (fun g2 => ?_) (fun g2 => ?_) | refine WL.split (t := 38) rfl (fun g2 => ?_) (fun g2 => ?_)
      ·
        refine WL.no rfl rfl rfl ?_
        refine WL.no rfl rfl rfl ?_
        refine WL.no rfl rfl rfl ?_
        refine WL.no rfl rfl rfl ?_
        refine WL.pickT rfl rfl rfl ?_
        refine WL.move rfl rfl ?_
        refine WL.no rfl rfl rfl ?_
        refine WL.no rfl rfl rfl ?_
        refine WL.no rfl rfl rfl ?_
        refine WL.no rfl rfl rfl ?_
        refine WL.pickT rfl rfl rfl ?_
        refine WL.move rfl rfl ?_
        refine WL.no rfl rfl rfl ?_
        refine WL.no rfl rfl rfl ?_
        refine WL.no rfl rfl rfl ?_
        refine WL.no rfl rfl rfl ?_
        refine WL.pickT rfl rfl rfl ?_
        refine (WL.done (WX.next ?_))
        refine WC.cond_true rfl (rfl) ?_
        refine WC.seq ?_
        refine WC.region ?_
        refine WL.build (cells := #[.int .i64 0, .slice none 0 0]) pla125 zer125 rfl rfl (by kernel_rfl) ?_
        refine WL.storeTo (cs' := #[.int .i64 0, .slice none 0 0]) H ty125 0 rfl rfl rfl (by first | rfl | decide) (by first | exact arrC_one _ | simp [Value.cells, Value.oneCell']) (by first | exact Nat.le_of_ble_eq_true rfl | decide | (simp only [wr_size]; decide) | simp [wr_size]) (by kernel_rfl) ?_
        intro wx H
        refine WL.assign rfl rfl ?_
        refine WL.assign rfl rfl ?_
        refine (WL.done (WX.next ?_))
        refine (WC.ret (WX.then_ret ?_))
        refine ret_three rfl ⟨_, rfl, by first | exact H.rdAll ty125 0 rfl rfl | exact H.rd1 ty125 0 rfl rfl | exact H.rdA ty125 0 rfl (by first | decide | exact Nat.le_refl _)⟩ rfl rfl ?_
        have hno : decOk ws ep = false := Bool.eq_false_iff.2 (fun h => by
          obtain ⟨h1, h2, h3, h4, h5, h6, h7⟩ := decOk_iff.1 h
          first | omega | (have h9 := ‹(!isWord (ws.getD 0 0)) = true›; rw [h2] at h9; cases h9) | (rw [hdn] at h6; have h9 := ‹(!isWord (ws.getD g 0)) = true›; have h8 := List.all_eq_true.1 h6 (ws.getD g 0) (by rw [← getD_take (show g < 3 + 2 * n by omega)]; exact getD_mem (by rw [List.length_take]; omega)); rw [h8] at h9; cases h9) | (rw [hdn, show 3 + 2 * n - 1 = 2 + 2 * n by omega] at h7; omega))
        rw [dec_no hno]
        exact ⟨Row.none, rfl, ⟨rfl, rfl⟩, H.weaken (List.nil_sublist _)⟩
      ·
        refine WL.yes rfl rfl ?_
        refine WL.move rfl rfl ?_
        refine WL.yes rfl rfl ?_
        refine WL.lenSlc isl43 rfl rfl ?_
        refine WL.yes rfl rfl ?_
        refine WL.move rfl rfl ?_
        refine WL.yes rfl rfl ?_
        refine WL.bin rfl rfl binv_lss rfl ?_
        refine WL.pickF rfl rfl rfl ?_
        refine WL.move rfl rfl ?_
        first | refine WL.splitD (t := 44) rfl (fun g3 => ?_) (fun g3 => ?_) | refine WL.split (t := 44) rfl (fun g3 => ?_) (fun g3 => ?_)
        ·
          refine WL.no rfl rfl rfl ?_
          refine WL.no rfl rfl rfl ?_
          refine WL.no rfl rfl rfl ?_
          refine WL.no rfl rfl rfl ?_
          refine WL.pickT rfl rfl rfl ?_
          refine WL.move rfl rfl ?_
          refine WL.no rfl rfl rfl ?_
          refine WL.no rfl rfl rfl ?_
          refine WL.no rfl rfl rfl ?_
          refine WL.no rfl rfl rfl ?_
          refine WL.pickT rfl rfl rfl ?_
          refine (WL.done (WX.next ?_))
          refine WC.cond_true rfl (rfl) ?_
          refine WC.seq ?_
          refine WC.region ?_
          refine WL.build (cells := #[.int .i64 0, .slice none 0 0]) pla125 zer125 rfl rfl (by kernel_rfl) ?_
          refine WL.storeTo (cs' := #[.int .i64 0, .slice none 0 0]) H ty125 0 rfl rfl rfl (by first | rfl | decide) (by first | exact arrC_one _ | simp [Value.cells, Value.oneCell']) (by first | exact Nat.le_of_ble_eq_true rfl | decide | (simp only [wr_size]; decide) | simp [wr_size]) (by kernel_rfl) ?_
          intro wx H
          refine WL.assign rfl rfl ?_
          refine WL.assign rfl rfl ?_
          refine (WL.done (WX.next ?_))
          refine (WC.ret (WX.then_ret ?_))
          refine ret_three rfl ⟨_, rfl, by first | exact H.rdAll ty125 0 rfl rfl | exact H.rd1 ty125 0 rfl rfl | exact H.rdA ty125 0 rfl (by first | decide | exact Nat.le_refl _)⟩ rfl rfl ?_
          have hno : decOk ws ep = false := Bool.eq_false_iff.2 (fun h => by
            obtain ⟨h1, h2, h3, h4, h5, h6, h7⟩ := decOk_iff.1 h
            first | omega | (have h9 := ‹(!isWord (ws.getD 0 0)) = true›; rw [h2] at h9; cases h9) | (rw [hdn] at h6; have h9 := ‹(!isWord (ws.getD g 0)) = true›; have h8 := List.all_eq_true.1 h6 (ws.getD g 0) (by rw [← getD_take (show g < 3 + 2 * n by omega)]; exact getD_mem (by rw [List.length_take]; omega)); rw [h8] at h9; cases h9) | (rw [hdn, show 3 + 2 * n - 1 = 2 + 2 * n by omega] at h7; omega))
          rw [dec_no hno]
          exact ⟨Row.none, rfl, ⟨rfl, rfl⟩, H.weaken (List.nil_sublist _)⟩
        ·
          refine WL.yes rfl rfl ?_
          refine WL.move rfl rfl ?_
          refine WL.yes rfl rfl ?_
          refine WL.idxSlc (k := 1) slc43 rfl rfl (by first | rfl | omega) (by omega) rfl ?_
          refine WL.yes rfl rfl ?_
          refine WL.load rfl (Rd.one ty3 (by rw [cell_of (H.oldBlock hb (by simp)), Nat.mul_one]; exact hcs 1 (by omega))) rfl ?_
          refine WL.yes rfl rfl ?_
          refine WL.bin rfl rfl binv_lss rfl ?_
          refine WL.pickF rfl rfl rfl ?_
          refine WL.move rfl rfl ?_
          first | refine WL.splitD (t := 50) rfl (fun g4 => ?_) (fun g4 => ?_) | refine WL.split (t := 50) rfl (fun g4 => ?_) (fun g4 => ?_)
          ·
            refine WL.no rfl rfl rfl ?_
            refine WL.no rfl rfl rfl ?_
            refine WL.no rfl rfl rfl ?_
            refine WL.no rfl rfl rfl ?_
            refine WL.pickT rfl rfl rfl ?_
            refine (WL.done (WX.next ?_))
            refine WC.cond_true rfl (rfl) ?_
            refine WC.seq ?_
            refine WC.region ?_
            refine WL.build (cells := #[.int .i64 0, .slice none 0 0]) pla125 zer125 rfl rfl (by kernel_rfl) ?_
            refine WL.storeTo (cs' := #[.int .i64 0, .slice none 0 0]) H ty125 0 rfl rfl rfl (by first | rfl | decide) (by first | exact arrC_one _ | simp [Value.cells, Value.oneCell']) (by first | exact Nat.le_of_ble_eq_true rfl | decide | (simp only [wr_size]; decide) | simp [wr_size]) (by kernel_rfl) ?_
            intro wx H
            refine WL.assign rfl rfl ?_
            refine WL.assign rfl rfl ?_
            refine (WL.done (WX.next ?_))
            refine (WC.ret (WX.then_ret ?_))
            refine ret_three rfl ⟨_, rfl, by first | exact H.rdAll ty125 0 rfl rfl | exact H.rd1 ty125 0 rfl rfl | exact H.rdA ty125 0 rfl (by first | decide | exact Nat.le_refl _)⟩ rfl rfl ?_
            have hno : decOk ws ep = false := Bool.eq_false_iff.2 (fun h => by
              obtain ⟨h1, h2, h3, h4, h5, h6, h7⟩ := decOk_iff.1 h
              first | omega | (have h9 := ‹(!isWord (ws.getD 0 0)) = true›; rw [h2] at h9; cases h9) | (rw [hdn] at h6; have h9 := ‹(!isWord (ws.getD g 0)) = true›; have h8 := List.all_eq_true.1 h6 (ws.getD g 0) (by rw [← getD_take (show g < 3 + 2 * n by omega)]; exact getD_mem (by rw [List.length_take]; omega)); rw [h8] at h9; cases h9) | (rw [hdn, show 3 + 2 * n - 1 = 2 + 2 * n by omega] at h7; omega))
            rw [dec_no hno]
            exact ⟨Row.none, rfl, ⟨rfl, rfl⟩, H.weaken (List.nil_sublist _)⟩
          ·
            refine WL.yes rfl rfl ?_
            refine WL.move rfl rfl ?_
            refine WL.yes rfl rfl ?_
            refine WL.idxSlc (k := 1) slc43 rfl rfl (by first | rfl | omega) (by omega) rfl ?_
            refine WL.yes rfl rfl ?_
            refine WL.load rfl (Rd.one ty3 (by rw [cell_of (H.oldBlock hb (by simp)), Nat.mul_one]; exact hcs 1 (by omega))) rfl ?_
            refine WL.yes rfl rfl ?_
            refine WL.bin rfl rfl binv_gtr rfl ?_
            refine WL.pickF rfl rfl rfl ?_
            refine (WL.done (WX.next ?_))
            first | refine WC.cond_dec rfl (fun c6 => ?_) (fun c6 => ?_) | refine WC.cond rfl (fun c6 => ?_) (fun c6 => ?_)
            ·
              refine WC.seq ?_
              refine WC.region ?_
              refine WL.build (cells := #[.int .i64 0, .slice none 0 0]) pla125 zer125 rfl rfl (by kernel_rfl) ?_
              refine WL.storeTo (cs' := #[.int .i64 0, .slice none 0 0]) H ty125 0 rfl rfl rfl (by first | rfl | decide) (by first | exact arrC_one _ | simp [Value.cells, Value.oneCell']) (by first | exact Nat.le_of_ble_eq_true rfl | decide | (simp only [wr_size]; decide) | simp [wr_size]) (by kernel_rfl) ?_
              intro wx H
              refine WL.assign rfl rfl ?_
              refine WL.assign rfl rfl ?_
              refine (WL.done (WX.next ?_))
              refine (WC.ret (WX.then_ret ?_))
              refine ret_three rfl ⟨_, rfl, by first | exact H.rdAll ty125 0 rfl rfl | exact H.rd1 ty125 0 rfl rfl | exact H.rdA ty125 0 rfl (by first | decide | exact Nat.le_refl _)⟩ rfl rfl ?_
              have hno : decOk ws ep = false := Bool.eq_false_iff.2 (fun h => by
                obtain ⟨h1, h2, h3, h4, h5, h6, h7⟩ := decOk_iff.1 h
                first | omega | (have h9 := ‹(!isWord (ws.getD 0 0)) = true›; rw [h2] at h9; cases h9) | (rw [hdn] at h6; have h9 := ‹(!isWord (ws.getD g 0)) = true›; have h8 := List.all_eq_true.1 h6 (ws.getD g 0) (by rw [← getD_take (show g < 3 + 2 * n by omega)]; exact getD_mem (by rw [List.length_take]; omega)); rw [h8] at h9; cases h9) | (rw [hdn, show 3 + 2 * n - 1 = 2 + 2 * n by omega] at h7; omega))
              rw [dec_no hno]
              exact ⟨Row.none, rfl, ⟨rfl, rfl⟩, H.weaken (List.nil_sublist _)⟩
            ·
              refine (WC.skip (WX.next ?_))
              refine WC.seq ?_
              refine WC.seq ?_
              refine WC.region ?_
              refine WL.move rfl rfl ?_
              refine WL.move rfl rfl ?_
              refine WL.sliceHi (k := 3 + 2 * n) slc43 rfl rfl (by omega) (by omega) rfl ?_
              refine WL.lenSlc isl43 rfl rfl ?_
              refine WL.move rfl rfl ?_
              refine (WL.done (WX.next ?_))
              refine WC.block ?_
              refine WC.loop (Sub.cons (t := 0) rfl (Sub.cons (t := 4) rfl (Sub.cons (t := 9) rfl (Sub.cons (t := 59) rfl (Sub.cons (t := 60) rfl (Sub.nil _)))))) (fun i : Nat => [(61, .int .i64 (i : Int))]) (fun q i wx => q = 3 + 2 * n - i ∧ i ≤ 3 + 2 * n ∧ ((ws.take (3 + 2 * n)).take i).all isWord = true ∧ St w [] wx [(b4, .cells #[.int .i64 0, .slice none 0 0] 125)]) (3 + 2 * n) (0) (Sub.cons (t := 61) (by first | rfl | simp) (Sub.nil _)) (⟨rfl, Nat.zero_le _, rfl, H⟩) ?_
              rintro k g wx hI N hN
              obtain ⟨rfl, hg, hall, H⟩ := hI
              refine WC.seq ?_
              refine WC.region ?_
              refine WL.bin rfl rfl binv_lss rfl ?_
              refine (WL.done (WX.next ?_))
              refine WC.seq ?_
              first | refine WC.cond_dec rfl (fun c7 => ?_) (fun c7 => ?_) | refine WC.cond rfl (fun c7 => ?_) (fun c7 => ?_)
              ·
                replace hg2 : g < 3 + 2 * n := by omega
                refine (WC.skip (WX.next ?_))
                refine WC.seq ?_
                refine WC.block ?_
                refine WC.seq ?_
                refine WC.region ?_
                refine WL.idxSlc (k := g) slc43 rfl rfl (by first | rfl | omega) (by omega) rfl ?_
                refine WL.load rfl (Rd.one ty3 (by rw [cell_of (H.oldBlock hb (by simp)), Nat.mul_one]; exact hcs g (by omega))) rfl ?_
                refine WL.assign rfl rfl ?_
                refine (WL.done (WX.next ?_))
                refine WC.seq ?_
                refine WC.region ?_
                refine WL.move rfl rfl ?_
                refine WL.call call152 rfl rfl ?_
                refine Calls.mono (lword_any _ _) ?_
                rintro _ wx ⟨rfl, rfl⟩
                refine ⟨_, rfl, ?_⟩
                refine WL.notOp rfl rfl ?_
                refine (WL.done (WX.next ?_))
                first | refine WC.cond_dec rfl (fun c8 => ?_) (fun c8 => ?_) | refine WC.cond rfl (fun c8 => ?_) (fun c8 => ?_)
                ·
                  refine WC.seq ?_
                  refine WC.region ?_
                  refine WL.build (cells := #[.int .i64 0, .slice none 0 0]) pla125 zer125 rfl rfl (by kernel_rfl) ?_
                  refine WL.storeTo (cs' := #[.int .i64 0, .slice none 0 0]) H ty125 0 rfl rfl rfl (by first | rfl | decide) (by first | exact arrC_one _ | simp [Value.cells, Value.oneCell']) (by first | exact Nat.le_of_ble_eq_true rfl | decide | (simp only [wr_size]; decide) | simp [wr_size]) (by kernel_rfl) ?_
                  intro wx H
                  refine WL.assign rfl rfl ?_
                  refine WL.assign rfl rfl ?_
                  refine (WL.done (WX.next ?_))
                  refine (WC.ret (WX.block_ret (WX.then_ret (WX.then_ret (WX.block_ret (WX.then_ret ?_))))))
                  refine ret_three rfl ⟨_, rfl, by first | exact H.rdAll ty125 0 rfl rfl | exact H.rd1 ty125 0 rfl rfl | exact H.rdA ty125 0 rfl (by first | decide | exact Nat.le_refl _)⟩ rfl rfl ?_
                  have hno : decOk ws ep = false := Bool.eq_false_iff.2 (fun h => by
                    obtain ⟨h1, h2, h3, h4, h5, h6, h7⟩ := decOk_iff.1 h
                    first | omega | (have h9 := ‹(!isWord (ws.getD 0 0)) = true›; rw [h2] at h9; cases h9) | (rw [hdn] at h6; have h9 := ‹(!isWord (ws.getD g 0)) = true›; have h8 := List.all_eq_true.1 h6 (ws.getD g 0) (by rw [← getD_take (show g < 3 + 2 * n by omega)]; exact getD_mem (by rw [List.length_take]; omega)); rw [h8] at h9; cases h9) | (rw [hdn, show 3 + 2 * n - 1 = 2 + 2 * n by omega] at h7; omega))
                  rw [dec_no hno]
                  exact ⟨Row.none, rfl, ⟨rfl, rfl⟩, H.weaken (List.nil_sublist _)⟩
                ·
                  refine (WC.skip (WX.block_normal (WX.next ?_)))
                  refine WC.region ?_
                  refine WL.bin rfl rfl (iadd (by omega) (by omega)) rfl ?_
                  refine WL.move rfl rfl ?_
                  refine (WL.done (WX.round ?_))
                  exact hN _ (g + 1) _ _ (by omega) ⟨rfl, by omega, all_succ (by rw [List.length_take]; omega) hall (by rw [List.getElem_take, getD_of (by omega)]; simpa using ‹(!isWord (ws.getD g 0)) = false›), H⟩ (Sub.cons (t := 61) (by first | rfl | simp) (Sub.nil _)) (Sub.cons (t := 0) rfl (Sub.cons (t := 4) rfl (Sub.cons (t := 9) rfl (Sub.cons (t := 59) rfl (Sub.cons (t := 60) rfl (Sub.nil _))))))
              ·
                obtain rfl : g = 3 + 2 * n := by omega
                refine (WC.exit (WX.then_exit (WX.then_exit (WX.block_exit (WX.next ?_)))))
                refine WC.seq ?_
                refine WC.seq ?_
                replace H := H.drew
                refine WC.held (SX (World.drew wx) []) (by kernel_rfl) ?_
                generalize World.drew wx = wb at H ⊢
                have HB := St.refl wb
                refine WH.take 0 rfl (by kernel_rfl) (by kernel_rfl) (by kernel_rfl) (fun _ _ _ h => h) ⟨_, HB⟩ (fun w' hS => EX.move rfl) rfl ?_
                refine WH.take 1 rfl (by kernel_rfl) (by kernel_rfl) (by kernel_rfl) (fun _ _ _ h => h) ⟨_, HB⟩ (fun w' hS => EX.move rfl) rfl ?_
                refine WH.take 2 rfl (by kernel_rfl) (by kernel_rfl) (by kernel_rfl) (fun _ _ _ h => h) ⟨_, HB⟩ (fun w' hS => EX.bin rfl rfl (isub (by omega) (by omega))) rfl ?_
                refine WH.take 3 rfl (by kernel_rfl) (by kernel_rfl) (by kernel_rfl) (fun _ _ _ h => h) ⟨_, HB⟩ (fun w' hS => EX.idxSlc (k := 2 + 2 * n) slc43 rfl rfl (by first | rfl | omega) (by omega)) rfl ?_
                refine WH.take 4 rfl (by kernel_rfl) (by kernel_rfl) (by kernel_rfl) (fun _ _ _ h => h) ⟨_, HB⟩ (fun w' hS => EX.load rfl (Rd.one ty3 (by rw [cell_of (hS.block (H.oldBlock hb (by simp)) (by simp)), Nat.mul_one]; exact hcs (2 + 2 * n) (by omega)))) rfl ?_
                refine WH.take 5 rfl (by kernel_rfl) (by kernel_rfl) (by kernel_rfl) (fun _ _ _ h => h) ⟨_, HB⟩ (fun w' hS => EX.move rfl) rfl ?_
                refine WH.take 6 rfl (by kernel_rfl) (by kernel_rfl) (by kernel_rfl) (fun _ _ _ h => h) ⟨_, HB⟩ (fun w' hS => EX.move rfl) rfl ?_
                refine WH.take 7 rfl (by kernel_rfl) (by kernel_rfl) (by kernel_rfl) (fun _ _ _ h => h) ⟨_, HB⟩ (fun w' hS => EX.bin rfl rfl (isub (by omega) (by omega))) rfl ?_
                refine WH.hard 8 rfl (by kernel_rfl) ?_
                refine WL.sliceHi (k := 2 + 2 * n) slc43 rfl rfl (by omega) (by omega) rfl ?_
                refine WL.done (WX.heldOn ⟨_, HB⟩ ?_)
                refine WH.hard 9 rfl (by kernel_rfl) ?_
                refine WL.call call149 rfl rfl ?_
                refine Calls.mono (hashWords_any _ (2 + 2 * n) cap (ws.take (2 + 2 * n)) (by rw [List.length_take]; omega) (by omega) _ ((hG.of0 H).of0 HB) (((hx.take _).keep H).keep HB)) ?_
                rintro _ wx ⟨rfl, Hc⟩
                refine ⟨_, rfl, ?_⟩
                replace HB := HB.call0 Hc
                refine WL.done (WX.heldOn ⟨_, HB⟩ ?_)
                refine WH.take 10 rfl (by kernel_rfl) (by kernel_rfl) (by kernel_rfl) (fun _ _ _ h => h) ⟨_, HB⟩ (fun w' hS => EX.bin rfl rfl (binv_neq)) rfl ?_
                refine WH.done (by kernel_rfl) ?_
                replace H := H.call HB
                refine WX.next ?_
                first | refine WC.cond_dec rfl (fun c9 => ?_) (fun c9 => ?_) | refine WC.cond rfl (fun c9 => ?_) (fun c9 => ?_)
                ·
                  refine WC.seq ?_
                  refine WC.region ?_
                  refine WL.build (cells := #[.int .i64 0, .slice none 0 0]) pla125 zer125 rfl rfl (by kernel_rfl) ?_
                  refine WL.storeTo (cs' := #[.int .i64 0, .slice none 0 0]) H ty125 0 rfl rfl rfl (by first | rfl | decide) (by first | exact arrC_one _ | simp [Value.cells, Value.oneCell']) (by first | exact Nat.le_of_ble_eq_true rfl | decide | (simp only [wr_size]; decide) | simp [wr_size]) (by kernel_rfl) ?_
                  intro wx H
                  refine WL.assign rfl rfl ?_
                  refine WL.assign rfl rfl ?_
                  refine (WL.done (WX.next ?_))
                  refine (WC.ret (WX.then_ret ?_))
                  refine ret_three rfl ⟨_, rfl, by first | exact H.rdAll ty125 0 rfl rfl | exact H.rd1 ty125 0 rfl rfl | exact H.rdA ty125 0 rfl (by first | decide | exact Nat.le_refl _)⟩ rfl rfl ?_
                  have hno : decOk ws ep = false := Bool.eq_false_iff.2 (fun h => by
                    obtain ⟨h1, h2, h3, h4, h5, h6, h7⟩ := decOk_iff.1 h
                    first | omega | (have h9 := ‹(!isWord (ws.getD 0 0)) = true›; rw [h2] at h9; cases h9) | (rw [hdn] at h6; have h9 := ‹(!isWord (ws.getD g 0)) = true›; have h8 := List.all_eq_true.1 h6 (ws.getD g 0) (by rw [← getD_take (show g < 3 + 2 * n by omega)]; exact getD_mem (by rw [List.length_take]; omega)); rw [h8] at h9; cases h9) | (rw [hdn, show 3 + 2 * n - 1 = 2 + 2 * n by omega] at h7; omega))
                  rw [dec_no hno]
                  exact ⟨Row.none, rfl, ⟨rfl, rfl⟩, H.weaken (List.nil_sublist _)⟩
                ·
                  refine (WC.skip (WX.next ?_))
                  refine WC.seq ?_
                  refine WC.region ?_
                  refine WL.move rfl rfl ?_
                  refine WL.idxSlc (k := 1) slc43 rfl rfl (by first | rfl | omega) (by omega) rfl ?_
                  refine WL.load rfl (Rd.one ty3 (by rw [cell_of (H.oldBlock hb (by simp)), Nat.mul_one]; exact hcs 1 (by omega))) rfl ?_
                  refine WL.build (cells := #[.int .i64 (ws.getD 1 0), .slice none 0 0]) pla125 zer125 rfl rfl (by kernel_rfl) ?_
                  refine WL.alloc H zer125 rfl ?_
                  intro b12 wx hb12 hge12 H
                  refine WL.storeTo (cs' := #[.int .i64 (ws.getD 1 0), .slice none 0 0]) H ty125 0 rfl rfl rfl (by first | rfl | decide) (by first | exact arrC_one _ | simp [Value.cells, Value.oneCell']) (by first | exact Nat.le_of_ble_eq_true rfl | decide | (simp only [wr_size]; decide) | simp [wr_size]) (by kernel_rfl) ?_
                  intro wx H
                  refine (WL.done (WX.next ?_))
                  refine WC.seq ?_
                  refine WC.seq ?_
                  refine WC.region ?_
                  refine WL.assign rfl rfl ?_
                  refine (WL.done (WX.next ?_))
                  refine WC.block ?_
                  replace H : St w [] _ [(b12, .cells #[.int .i64 (ws.getD 1 0), .slice none 0 0] 125), (b4, .cells #[.int .i64 0, .slice none 0 0] 125)] := H
                  replace H := H.perm (List.Perm.swap _ _ _)
                  refine WC.loop (Sub.cons (t := 0) rfl (Sub.cons (t := 4) rfl (Sub.cons (t := 9) rfl (Sub.cons (t := 12) rfl (Sub.nil _))))) (fun z : Row × Nat => [(13, .int .i64 (2 + 2 * (z.2 : Int)))]) (fun q z wx => q = n - z.2 ∧ z.2 ≤ n ∧ z.1.ok 2 z.2 (intsC (pairs ws z.2).flatten) ∧ St w [] wx ([(b4, .cells #[.int .i64 0, .slice none 0 0] 125)] ++ ((b12, .cells #[.int .i64 (ws.getD 1 0), z.1.val z.2] 125) :: z.1.hp 189))) (n) ((Row.none, 0)) (Sub.cons (t := 13) (by first | rfl | simp) (Sub.nil _)) (⟨rfl, Nat.zero_le _, ⟨rfl, rfl⟩, H⟩) ?_
                  rintro q z wx hJ N2 hN2
                  clear H
                  obtain ⟨r, i⟩ := z
                  obtain ⟨rfl, hi, hr, H⟩ := hJ
                  change i ≤ n at hi
                  change r.ok 2 i (intsC (pairs ws i).flatten) at hr
                  change St w [] wx ([_] ++ (_ :: r.hp 189)) at H
                  refine WC.seq ?_
                  refine WC.seq ?_
                  refine WC.region ?_
                  refine WL.move rfl rfl ?_
                  refine WL.move rfl rfl ?_
                  refine WL.bin rfl rfl (isub (by omega) (by omega)) rfl ?_
                  refine WL.bin rfl rfl binv_lss rfl ?_
                  refine (WL.done (WX.next ?_))
                  first | refine WC.cond_dec rfl (fun c10 => ?_) (fun c10 => ?_) | refine WC.cond rfl (fun c10 => ?_) (fun c10 => ?_)
                  ·
                    replace hi2 : i < n := by omega
                    have hbN := H.new (X := b12 :: (r.hp 189).map Prod.fst) (fun k hk => by rw [List.map_append]; exact List.mem_append_right _ hk)
                    have hbX : b ∉ b12 :: (r.hp 189).map Prod.fst := fun h => Nat.not_lt.2 (hbN b h) (lt_of_some hb)
                    replace H := H.drew
                    refine (WC.skip (WX.next ?_))
                    refine WC.seq ?_
                    refine WC.block ?_
                    
                    refine WC.held (SX (World.drew wx) (b12 :: (r.hp 189).map Prod.fst)) (by kernel_rfl) ?_
                    generalize World.drew wx = wb at H ⊢
                    have HB : St wb (b12 :: (r.hp 189).map Prod.fst) wb ((b12, .cells #[.int .i64 (ws.getD 1 0), r.val i] 125) :: r.hp 189) := St.start (H.weaken (List.sublist_append_right [_] _)).nd (H.weaken (List.sublist_append_right [_] _)).sat
                    refine WH.take 0 rfl (by kernel_rfl) (by kernel_rfl) (by kernel_rfl) (fun _ _ _ h => h) ⟨_, HB⟩ (fun w' hS => EX.fieldAddr fld125_1 rfl) rfl ?_
                    refine WH.take 2 rfl (by kernel_rfl) (by kernel_rfl) (by kernel_rfl) (fun _ _ _ h => h) ⟨_, HB⟩ (fun w' hS => EX.move rfl) rfl ?_
                    refine WH.take 3 rfl (by kernel_rfl) (by kernel_rfl) (by kernel_rfl) (fun _ _ _ h => h) ⟨_, HB⟩ (fun w' hS => EX.move rfl) rfl ?_
                    refine WH.take 4 rfl (by kernel_rfl) (by kernel_rfl) (by kernel_rfl) (fun _ _ _ h => h) ⟨_, HB⟩ (fun w' hS => EX.idxSlc (k := 2 + 2 * i) slc43 rfl rfl (by first | rfl | omega) (by omega)) rfl ?_
                    refine WH.take 5 rfl (by kernel_rfl) (by kernel_rfl) (by kernel_rfl) (fun _ _ _ h => h) ⟨_, HB⟩ (fun w' hS => EX.load rfl (Rd.one ty3 (by rw [cell_of (hS.block (H.oldBlock hb (by simp)) hbX), Nat.mul_one]; exact hcs (2 + 2 * i) (by omega)))) rfl ?_
                    refine WH.take 6 rfl (by kernel_rfl) (by kernel_rfl) (by kernel_rfl) (fun _ _ _ h => h) ⟨_, HB⟩ (fun w' hS => EX.move rfl) rfl ?_
                    refine WH.take 7 rfl (by kernel_rfl) (by kernel_rfl) (by kernel_rfl) (fun _ _ _ h => h) ⟨_, HB⟩ (fun w' hS => EX.move rfl) rfl ?_
                    refine WH.take 8 rfl (by kernel_rfl) (by kernel_rfl) (by kernel_rfl) (fun _ _ _ h => h) ⟨_, HB⟩ (fun w' hS => EX.bin rfl rfl (iadd (by omega) (by omega))) rfl ?_
                    refine WH.take 9 rfl (by kernel_rfl) (by kernel_rfl) (by kernel_rfl) (fun _ _ _ h => h) ⟨_, HB⟩ (fun w' hS => EX.idxSlc (k := 3 + 2 * i) slc43 rfl rfl (by first | rfl | omega) (by omega)) rfl ?_
                    refine WH.take 10 rfl (by kernel_rfl) (by kernel_rfl) (by kernel_rfl) (fun _ _ _ h => h) ⟨_, HB⟩ (fun w' hS => EX.load rfl (Rd.one ty3 (by rw [cell_of (hS.block (H.oldBlock hb (by simp)) hbX), Nat.mul_one]; exact hcs (3 + 2 * i) (by omega)))) rfl ?_
                    refine WH.take 11 rfl (by kernel_rfl) (by kernel_rfl) (by kernel_rfl) (fun _ _ _ h => h) ⟨_, HB⟩ (fun w' hS => EX.build (cells := arrC [ws.getD (2 + 2 * i) 0, ws.getD (3 + 2 * i) 0]) pla189 zer189 rfl (by kernel_rfl)) rfl ?_
                    refine WH.hard2 1 12 rfl rfl (by kernel_rfl) ?_ ?_
                    ·
                      refine WL.load rfl (Rd.one ty123 (by rw [cell_of (HB.sat (b12, .cells #[.int .i64 (ws.getD 1 0), r.val i] 125) (by simp))]; rfl)) rfl ?_
                      refine WL.done (WX.heldOn ⟨_, HB⟩ ?_)
                      refine WH.hard 12 rfl (by kernel_rfl) ?_
                      refine WL.buildSlice1 HB Tryd.underlying123 (sz := 2) (by simp only [Tryd.underlying189]; exact ty189) (by omega) zer189 rfl rfl rfl rfl ?_
                      intro g2 wx hg2 hgg2 HB
                      replace HB := HB.perm (List.perm_append_comm (l₁ := [(g2, _), (b12, _)]) (l₂ := r.hp 189))
                      refine WL.done (WX.heldOn ⟨_, HB⟩ ?_)
                      refine WH.hard 13 rfl (by kernel_rfl) ?_
                      refine WL.append (m := 1) (k := i) (news := intsC [ws.getD (2 + 2 * i) 0, ws.getD (3 + 2 * i) 0]) app123 HB hr rfl rfl rfl (fun j u hj => by rw [addr_add, cell_of (HB.sat _ (List.mem_append_right _ List.mem_cons_self)), Nat.zero_add]; simpa [intsC, Value.cells, arrC] using hj) (intsC_one _) (by simp only [maxLen]; omega) (by omega) rfl ?_
                      intro r1 wx hr1 HB
                      replace hr1 : r1.ok 2 (i + 1) (intsC (pairs ws (i + 1)).flatten) := by rw [pairs_succ, List.flatten_append, intsC_append]; exact hr1
                      replace HB := HB.perm (List.perm_append_comm (l₁ := r1.hp 189) (l₂ := [(g2, _), (b12, _)]))
                      replace HB : St wb _ wx ((b12, _) :: r1.hp 189) := HB.weaken (List.sublist_cons_self _ _)
                      refine WL.done (WX.heldOn ⟨_, HB⟩ ?_)
                      refine WH.take 14 rfl (by kernel_rfl) (by kernel_rfl) (by kernel_rfl) (fun _ _ _ h => h) ⟨_, HB⟩ (fun w' hS => EX.fieldAddr fld125_1 rfl) rfl ?_
                      refine WH.hard 15 rfl (by kernel_rfl) ?_
                      refine WL.storeTo (cs' := #[.int .i64 (ws.getD 1 0), r1.val (i + 1)]) HB ty123 0 rfl rfl rfl (by rw [rowv_cells]; rfl) (rowv_one _ _) (Nat.le_of_ble_eq_true rfl) (by rw [rowv_cells]; rfl) ?_
                      intro wx HB
                      refine WL.done (WX.heldOn ⟨_, HB⟩ ?_)
                      refine WH.done (by kernel_rfl) ?_
                      replace H := H.callM (L := [_]) HB
                      refine (WX.block_normal (WX.next ?_))
                      refine WC.region ?_
                      refine WL.move rfl rfl ?_
                      refine WL.bin rfl rfl (iadd (by omega) (by omega)) rfl ?_
                      refine WL.assign rfl rfl ?_
                      refine (WL.done (WX.round ?_))
                      exact hN2 _ (r1, i + 1) _ _ (by show n - (i + 1) < n - i; omega) ⟨rfl, by show i + 1 ≤ n; omega, hr1, H⟩ (Sub.cons (t := 13) (by first | rfl | simp) (Sub.nil _)) (Sub.cons (t := 0) rfl (Sub.cons (t := 4) rfl (Sub.cons (t := 9) rfl (Sub.cons (t := 12) rfl (Sub.nil _)))))
                    ·
                      refine WL.buildSlice1 HB Tryd.underlying123 (sz := 2) (by simp only [Tryd.underlying189]; exact ty189) (by omega) zer189 rfl rfl rfl rfl ?_
                      intro g2 wx hg2 hgg2 HB
                      replace HB := HB.perm (List.perm_append_comm (l₁ := [(g2, _), (b12, _)]) (l₂ := r.hp 189))
                      refine WL.done (WX.heldOn ⟨_, HB⟩ ?_)
                      refine WH.hard 1 rfl (by kernel_rfl) ?_
                      refine WL.load rfl (Rd.one ty123 (by rw [cell_of (HB.sat (b12, .cells #[.int .i64 (ws.getD 1 0), r.val i] 125) (by simp))]; rfl)) rfl ?_
                      refine WL.done (WX.heldOn ⟨_, HB⟩ ?_)
                      refine WH.hard 13 rfl (by kernel_rfl) ?_
                      refine WL.append (m := 1) (k := i) (news := intsC [ws.getD (2 + 2 * i) 0, ws.getD (3 + 2 * i) 0]) app123 HB hr rfl rfl rfl (fun j u hj => by rw [addr_add, cell_of (HB.sat _ (List.mem_append_right _ List.mem_cons_self)), Nat.zero_add]; simpa [intsC, Value.cells, arrC] using hj) (intsC_one _) (by simp only [maxLen]; omega) (by omega) rfl ?_
                      intro r1 wx hr1 HB
                      replace hr1 : r1.ok 2 (i + 1) (intsC (pairs ws (i + 1)).flatten) := by rw [pairs_succ, List.flatten_append, intsC_append]; exact hr1
                      replace HB := HB.perm (List.perm_append_comm (l₁ := r1.hp 189) (l₂ := [(g2, _), (b12, _)]))
                      replace HB : St wb _ wx ((b12, _) :: r1.hp 189) := HB.weaken (List.sublist_cons_self _ _)
                      refine WL.done (WX.heldOn ⟨_, HB⟩ ?_)
                      refine WH.take 14 rfl (by kernel_rfl) (by kernel_rfl) (by kernel_rfl) (fun _ _ _ h => h) ⟨_, HB⟩ (fun w' hS => EX.fieldAddr fld125_1 rfl) rfl ?_
                      refine WH.hard 15 rfl (by kernel_rfl) ?_
                      refine WL.storeTo (cs' := #[.int .i64 (ws.getD 1 0), r1.val (i + 1)]) HB ty123 0 rfl rfl rfl (by rw [rowv_cells]; rfl) (rowv_one _ _) (Nat.le_of_ble_eq_true rfl) (by rw [rowv_cells]; rfl) ?_
                      intro wx HB
                      refine WL.done (WX.heldOn ⟨_, HB⟩ ?_)
                      refine WH.done (by kernel_rfl) ?_
                      replace H := H.callM (L := [_]) HB
                      refine (WX.block_normal (WX.next ?_))
                      refine WC.region ?_
                      refine WL.move rfl rfl ?_
                      refine WL.bin rfl rfl (iadd (by omega) (by omega)) rfl ?_
                      refine WL.assign rfl rfl ?_
                      refine (WL.done (WX.round ?_))
                      exact hN2 _ (r1, i + 1) _ _ (by show n - (i + 1) < n - i; omega) ⟨rfl, by show i + 1 ≤ n; omega, hr1, H⟩ (Sub.cons (t := 13) (by first | rfl | simp) (Sub.nil _)) (Sub.cons (t := 0) rfl (Sub.cons (t := 4) rfl (Sub.cons (t := 9) rfl (Sub.cons (t := 12) rfl (Sub.nil _)))))
                  ·
                    obtain rfl : i = n := by omega
                    refine (WC.exit (WX.then_exit (WX.then_exit (WX.block_exit (WX.next ?_)))))
                    refine WC.seq ?_
                    refine WC.region ?_
                    first | refine WL.load rfl (H.rdAll ty125 0 rfl rfl) rfl ?_ | refine WL.load rfl (H.rdAll ty125 1 rfl rfl) rfl ?_ | refine WL.load rfl (H.rd1 ty125 0 rfl rfl) rfl ?_ | refine WL.load rfl (H.rd1 ty125 1 rfl rfl) rfl ?_ | refine WL.load rfl (H.rdA ty125 0 rfl (by first | decide | exact Nat.le_refl _)) rfl ?_ | refine WL.load rfl (H.rdA ty125 1 rfl (by first | decide | exact Nat.le_refl _)) rfl ?_
                    refine WL.move rfl rfl ?_
                    refine WL.storeTo (cs' := #[.int .i64 (ws.getD 1 0), r.val i]) H ty125 0 rfl rfl rfl rfl (recv_one _ _ _) (Nat.le_of_ble_eq_true rfl) rfl ?_
                    intro wx H
                    refine WL.assign rfl rfl ?_
                    refine WL.assign rfl rfl ?_
                    refine (WL.done (WX.next ?_))
                    refine (WC.ret ?_)
                    refine ret_three rfl ⟨_, rfl, by first | exact H.rdAll ty125 0 rfl rfl | exact H.rdAll ty125 1 rfl rfl | exact H.rd1 ty125 0 rfl rfl | exact H.rd1 ty125 1 rfl rfl | exact H.rdA ty125 0 rfl (by first | decide | exact Nat.le_refl _) | exact H.rdA ty125 1 rfl (by first | decide | exact Nat.le_refl _)⟩ rfl rfl ?_
                    have hyes : decOk ws ep = true := decOk_iff.2 ⟨by omega, by simpa using ‹(!isWord (ws.getD 0 0)) = false›, by omega, by omega, by omega, by rw [hdn]; rwa [List.take_of_length_le (by rw [List.length_take]; omega)] at hall, by rw [hdn, show 3 + 2 * i - 1 = 2 + 2 * i by omega]; omega⟩
                    rw [dec_yes hyes, hdr]
                    refine ⟨r, by rw [pairs_len, hdn]; exact congrArg (fun v : Int => Ending.returned (.tuple #[.agg #[.int .i64 (ws.getD 1 0), r.val i], .int .i64 v, .int .i64 0])) (show 3 + 2 * (i : Int) = ((3 + 2 * i : Nat) : Int) by omega), by rw [pairs_len]; exact hr, H.weaken (List.sublist_append_right [_, _] _)⟩

theorem refDecode_log_any (A : Option Addr) (m cap : Nat) (ws : List Int) (hm : m = ws.length) (hcap : m ≤ cap) (hm63 : m ≤ 1048576) (ep : Int) (w : World) (hx : IntsIn w A ws) : Calls Tryd.prog 75 #[.slice A m cap, .int .i64 ep] w fun e w' => ∃ r : Row, e = .returned (.tuple #[.agg #[.int .i64 (decV ws ep).1.1, r.val (decV ws ep).1.2.length], .int .i64 (decV ws ep).2.1, .int .i64 (decV ws ep).2.2]) ∧ r.ok 2 (decV ws ep).1.2.length (intsC (decV ws ep).1.2.flatten) ∧ St w [] w' (r.hp 189) := by
  have hC := hdC_bd (ws.getD 0 0)
  obtain ⟨n, hn⟩ : ∃ n : Nat, hdC (ws.getD 0 0) = (n : Int) := ⟨_, (Int.toNat_of_nonneg hC.1).symm⟩
  refine calls_walk_n (args := [.slice A m cap, .int .i64 ep]) Tryd.func75 rfl rfl rfl ?_
  have H := St.refl w
  refine WC.seq ?_
  refine WC.region ?_
  refine WL.alloc H zer125 rfl ?_
  intro b4 wx hb4 hge4 H
  refine WL.assign rfl rfl ?_
  refine WL.assign rfl rfl ?_
  refine (WL.done (WX.next ?_))
  refine WC.seq ?_
  refine WC.seq ?_
  refine WC.region ?_
  refine WL.move rfl rfl ?_
  refine WL.lenSlc isl43 rfl rfl ?_
  refine WL.bin rfl rfl binv_lss rfl ?_
  refine WL.move rfl rfl ?_
  first | refine WL.splitD (t := 17) rfl (fun g1 => ?_) (fun g1 => ?_) | refine WL.split (t := 17) rfl (fun g1 => ?_) (fun g1 => ?_)
  ·
    refine WL.no rfl rfl rfl ?_
    refine WL.no rfl rfl rfl ?_
    refine WL.no rfl rfl rfl ?_
    refine WL.no rfl rfl rfl ?_
    refine WL.no rfl rfl rfl ?_
    refine WL.pickT rfl rfl rfl ?_
    refine (WL.done (WX.next ?_))
    refine WC.cond_true rfl (rfl) ?_
    refine WC.seq ?_
    refine WC.region ?_
    refine WL.build (cells := #[.int .i64 0, .slice none 0 0]) pla125 zer125 rfl rfl (by kernel_rfl) ?_
    refine WL.storeTo (cs' := #[.int .i64 0, .slice none 0 0]) H ty125 0 rfl rfl rfl (by first | rfl | decide) (by first | exact arrC_one _ | simp [Value.cells, Value.oneCell']) (by first | exact Nat.le_of_ble_eq_true rfl | decide | (simp only [wr_size]; decide) | simp [wr_size]) (by kernel_rfl) ?_
    intro wx H
    refine WL.assign rfl rfl ?_
    refine WL.assign rfl rfl ?_
    refine (WL.done (WX.next ?_))
    refine (WC.ret (WX.then_ret ?_))
    refine ret_three rfl ⟨_, rfl, by first | exact H.rdAll ty125 0 rfl rfl | exact H.rd1 ty125 0 rfl rfl | exact H.rdA ty125 0 rfl (by first | decide | exact Nat.le_refl _)⟩ rfl rfl ?_
    have hno : decOk ws ep = false := Bool.eq_false_iff.2 (fun h => by
      obtain ⟨h1, h2, h3, h4, h5, h6, h7⟩ := decOk_iff.1 h
      first | omega | (have h9 := ‹(!isWord (ws.getD 0 0)) = true›; rw [h2] at h9; cases h9) | (rw [hdn] at h6; have h9 := ‹(!isWord (ws.getD g 0)) = true›; have h8 := List.all_eq_true.1 h6 (ws.getD g 0) (by rw [← getD_take (show g < 3 + 2 * n by omega)]; exact getD_mem (by rw [List.length_take]; omega)); rw [h8] at h9; cases h9) | (rw [hdn, show 3 + 2 * n - 1 = 2 + 2 * n by omega] at h7; omega))
    rw [dec_no hno]
    exact ⟨Row.none, rfl, ⟨rfl, rfl⟩, H.weaken (List.nil_sublist _)⟩
  ·
    obtain ⟨b, o, cs, t, fr, rfl, hb, hcs⟩ := hx.blk (by omega)
    refine WL.yes rfl rfl ?_
    refine WL.move rfl rfl ?_
    refine WL.yes rfl rfl ?_
    refine WL.idxSlc (k := 0) slc43 rfl rfl (by first | rfl | omega) (by omega) rfl ?_
    refine WL.yes rfl rfl ?_
    refine WL.load rfl (Rd.one ty3 (by rw [cell_of (H.oldBlock hb (by simp)), Nat.mul_one]; exact hcs 0 (by omega))) rfl ?_
    refine WL.yes rfl rfl ?_
    refine WL.call call153 rfl rfl ?_
    refine Calls.mono (reflword_any _ _) ?_
    rintro _ wx ⟨rfl, rfl⟩
    refine ⟨_, rfl, ?_⟩
    refine WL.yes rfl rfl ?_
    refine WL.notOp rfl rfl ?_
    refine WL.pickF rfl rfl rfl ?_
    refine (WL.done (WX.next ?_))
    first | refine WC.cond_dec rfl (fun c2 => ?_) (fun c2 => ?_) | refine WC.cond rfl (fun c2 => ?_) (fun c2 => ?_)
    ·
      refine WC.seq ?_
      refine WC.region ?_
      refine WL.build (cells := #[.int .i64 0, .slice none 0 0]) pla125 zer125 rfl rfl (by kernel_rfl) ?_
      refine WL.storeTo (cs' := #[.int .i64 0, .slice none 0 0]) H ty125 0 rfl rfl rfl (by first | rfl | decide) (by first | exact arrC_one _ | simp [Value.cells, Value.oneCell']) (by first | exact Nat.le_of_ble_eq_true rfl | decide | (simp only [wr_size]; decide) | simp [wr_size]) (by kernel_rfl) ?_
      intro wx H
      refine WL.assign rfl rfl ?_
      refine WL.assign rfl rfl ?_
      refine (WL.done (WX.next ?_))
      refine (WC.ret (WX.then_ret ?_))
      refine ret_three rfl ⟨_, rfl, by first | exact H.rdAll ty125 0 rfl rfl | exact H.rd1 ty125 0 rfl rfl | exact H.rdA ty125 0 rfl (by first | decide | exact Nat.le_refl _)⟩ rfl rfl ?_
      have hno : decOk ws ep = false := Bool.eq_false_iff.2 (fun h => by
        obtain ⟨h1, h2, h3, h4, h5, h6, h7⟩ := decOk_iff.1 h
        first | omega | (have h9 := ‹(!isWord (ws.getD 0 0)) = true›; rw [h2] at h9; cases h9) | (rw [hdn] at h6; have h9 := ‹(!isWord (ws.getD g 0)) = true›; have h8 := List.all_eq_true.1 h6 (ws.getD g 0) (by rw [← getD_take (show g < 3 + 2 * n by omega)]; exact getD_mem (by rw [List.length_take]; omega)); rw [h8] at h9; cases h9) | (rw [hdn, show 3 + 2 * n - 1 = 2 + 2 * n by omega] at h7; omega))
      rw [dec_no hno]
      exact ⟨Row.none, rfl, ⟨rfl, rfl⟩, H.weaken (List.nil_sublist _)⟩
    ·
      refine (WC.skip (WX.next ?_))
      refine WC.seq ?_
      refine WC.region ?_
      refine WL.move rfl rfl ?_
      refine WL.idxSlc (k := 0) slc43 rfl rfl (by first | rfl | omega) (by omega) rfl ?_
      refine WL.load rfl (Rd.one ty3 (by rw [cell_of (H.oldBlock hb (by simp)), Nat.mul_one]; exact hcs 0 (by omega))) rfl ?_
      refine WL.call call73 rfl rfl ?_
      refine Calls.mono (refHead_any _ _) ?_
      rintro _ wx ⟨rfl, Hc⟩
      refine ⟨_, rfl, ?_⟩
      replace H := H.call0 Hc
      rw [hn]
      refine WL.move rfl rfl ?_
      refine WL.extract rfl rfl rfl ?_
      refine WL.extract rfl rfl rfl ?_
      refine WL.assign rfl rfl ?_
      refine WL.assign rfl rfl ?_
      refine (WL.done (WX.next ?_))
      refine WC.seq ?_
      refine WC.region ?_
      have hdn := decN_of hn
      have hdr := decR_of hn
      refine WL.move rfl rfl ?_
      refine WL.bin rfl rfl (imul (by omega) (by omega)) rfl ?_
      refine WL.bin rfl rfl (iadd (by omega) (by omega)) rfl ?_
      refine WL.assign rfl rfl ?_
      refine (WL.done (WX.next ?_))
      refine WC.seq ?_
      refine WC.seq ?_
      refine WC.region ?_
      refine WL.move rfl rfl ?_
      refine WL.lenSlc isl43 rfl rfl ?_
      refine WL.move rfl rfl ?_
      refine WL.bin rfl rfl binv_lss rfl ?_
      refine WL.move rfl rfl ?_
      first | refine WL.splitD (t := 39) rfl (fun g2 => ?_) (fun g2 => ?_) | refine WL.split (t := 39) rfl (fun g2 => ?_) (fun g2 => ?_)
      ·
        refine WL.no rfl rfl rfl ?_
        refine WL.no rfl rfl rfl ?_
        refine WL.no rfl rfl rfl ?_
        refine WL.pickT rfl rfl rfl ?_
        refine WL.move rfl rfl ?_
        refine WL.no rfl rfl rfl ?_
        refine WL.no rfl rfl rfl ?_
        refine WL.no rfl rfl rfl ?_
        refine WL.no rfl rfl rfl ?_
        refine WL.pickT rfl rfl rfl ?_
        refine WL.move rfl rfl ?_
        refine WL.no rfl rfl rfl ?_
        refine WL.no rfl rfl rfl ?_
        refine WL.no rfl rfl rfl ?_
        refine WL.no rfl rfl rfl ?_
        refine WL.pickT rfl rfl rfl ?_
        refine (WL.done (WX.next ?_))
        refine WC.cond_true rfl (rfl) ?_
        refine WC.seq ?_
        refine WC.region ?_
        refine WL.build (cells := #[.int .i64 0, .slice none 0 0]) pla125 zer125 rfl rfl (by kernel_rfl) ?_
        refine WL.storeTo (cs' := #[.int .i64 0, .slice none 0 0]) H ty125 0 rfl rfl rfl (by first | rfl | decide) (by first | exact arrC_one _ | simp [Value.cells, Value.oneCell']) (by first | exact Nat.le_of_ble_eq_true rfl | decide | (simp only [wr_size]; decide) | simp [wr_size]) (by kernel_rfl) ?_
        intro wx H
        refine WL.assign rfl rfl ?_
        refine WL.assign rfl rfl ?_
        refine (WL.done (WX.next ?_))
        refine (WC.ret (WX.then_ret ?_))
        refine ret_three rfl ⟨_, rfl, by first | exact H.rdAll ty125 0 rfl rfl | exact H.rd1 ty125 0 rfl rfl | exact H.rdA ty125 0 rfl (by first | decide | exact Nat.le_refl _)⟩ rfl rfl ?_
        have hno : decOk ws ep = false := Bool.eq_false_iff.2 (fun h => by
          obtain ⟨h1, h2, h3, h4, h5, h6, h7⟩ := decOk_iff.1 h
          first | omega | (have h9 := ‹(!isWord (ws.getD 0 0)) = true›; rw [h2] at h9; cases h9) | (rw [hdn] at h6; have h9 := ‹(!isWord (ws.getD g 0)) = true›; have h8 := List.all_eq_true.1 h6 (ws.getD g 0) (by rw [← getD_take (show g < 3 + 2 * n by omega)]; exact getD_mem (by rw [List.length_take]; omega)); rw [h8] at h9; cases h9) | (rw [hdn, show 3 + 2 * n - 1 = 2 + 2 * n by omega] at h7; omega))
        rw [dec_no hno]
        exact ⟨Row.none, rfl, ⟨rfl, rfl⟩, H.weaken (List.nil_sublist _)⟩
      ·
        refine WL.yes rfl rfl ?_
        refine WL.move rfl rfl ?_
        refine WL.yes rfl rfl ?_
        refine WL.move rfl rfl ?_
        refine WL.yes rfl rfl ?_
        refine WL.bin rfl rfl binv_neq rfl ?_
        refine WL.pickF rfl rfl rfl ?_
        refine WL.move rfl rfl ?_
        first | refine WL.splitD (t := 44) rfl (fun g3 => ?_) (fun g3 => ?_) | refine WL.split (t := 44) rfl (fun g3 => ?_) (fun g3 => ?_)
        ·
          refine WL.no rfl rfl rfl ?_
          refine WL.no rfl rfl rfl ?_
          refine WL.no rfl rfl rfl ?_
          refine WL.no rfl rfl rfl ?_
          refine WL.pickT rfl rfl rfl ?_
          refine WL.move rfl rfl ?_
          refine WL.no rfl rfl rfl ?_
          refine WL.no rfl rfl rfl ?_
          refine WL.no rfl rfl rfl ?_
          refine WL.no rfl rfl rfl ?_
          refine WL.pickT rfl rfl rfl ?_
          refine (WL.done (WX.next ?_))
          refine WC.cond_true rfl (rfl) ?_
          refine WC.seq ?_
          refine WC.region ?_
          refine WL.build (cells := #[.int .i64 0, .slice none 0 0]) pla125 zer125 rfl rfl (by kernel_rfl) ?_
          refine WL.storeTo (cs' := #[.int .i64 0, .slice none 0 0]) H ty125 0 rfl rfl rfl (by first | rfl | decide) (by first | exact arrC_one _ | simp [Value.cells, Value.oneCell']) (by first | exact Nat.le_of_ble_eq_true rfl | decide | (simp only [wr_size]; decide) | simp [wr_size]) (by kernel_rfl) ?_
          intro wx H
          refine WL.assign rfl rfl ?_
          refine WL.assign rfl rfl ?_
          refine (WL.done (WX.next ?_))
          refine (WC.ret (WX.then_ret ?_))
          refine ret_three rfl ⟨_, rfl, by first | exact H.rdAll ty125 0 rfl rfl | exact H.rd1 ty125 0 rfl rfl | exact H.rdA ty125 0 rfl (by first | decide | exact Nat.le_refl _)⟩ rfl rfl ?_
          have hno : decOk ws ep = false := Bool.eq_false_iff.2 (fun h => by
            obtain ⟨h1, h2, h3, h4, h5, h6, h7⟩ := decOk_iff.1 h
            first | omega | (have h9 := ‹(!isWord (ws.getD 0 0)) = true›; rw [h2] at h9; cases h9) | (rw [hdn] at h6; have h9 := ‹(!isWord (ws.getD g 0)) = true›; have h8 := List.all_eq_true.1 h6 (ws.getD g 0) (by rw [← getD_take (show g < 3 + 2 * n by omega)]; exact getD_mem (by rw [List.length_take]; omega)); rw [h8] at h9; cases h9) | (rw [hdn, show 3 + 2 * n - 1 = 2 + 2 * n by omega] at h7; omega))
          rw [dec_no hno]
          exact ⟨Row.none, rfl, ⟨rfl, rfl⟩, H.weaken (List.nil_sublist _)⟩
        ·
          refine WL.yes rfl rfl ?_
          refine WL.move rfl rfl ?_
          refine WL.yes rfl rfl ?_
          refine WL.idxSlc (k := 1) slc43 rfl rfl (by first | rfl | omega) (by omega) rfl ?_
          refine WL.yes rfl rfl ?_
          refine WL.load rfl (Rd.one ty3 (by rw [cell_of (H.oldBlock hb (by simp)), Nat.mul_one]; exact hcs 1 (by omega))) rfl ?_
          refine WL.yes rfl rfl ?_
          refine WL.bin rfl rfl binv_lss rfl ?_
          refine WL.pickF rfl rfl rfl ?_
          refine WL.move rfl rfl ?_
          first | refine WL.splitD (t := 50) rfl (fun g4 => ?_) (fun g4 => ?_) | refine WL.split (t := 50) rfl (fun g4 => ?_) (fun g4 => ?_)
          ·
            refine WL.no rfl rfl rfl ?_
            refine WL.no rfl rfl rfl ?_
            refine WL.no rfl rfl rfl ?_
            refine WL.no rfl rfl rfl ?_
            refine WL.pickT rfl rfl rfl ?_
            refine (WL.done (WX.next ?_))
            refine WC.cond_true rfl (rfl) ?_
            refine WC.seq ?_
            refine WC.region ?_
            refine WL.build (cells := #[.int .i64 0, .slice none 0 0]) pla125 zer125 rfl rfl (by kernel_rfl) ?_
            refine WL.storeTo (cs' := #[.int .i64 0, .slice none 0 0]) H ty125 0 rfl rfl rfl (by first | rfl | decide) (by first | exact arrC_one _ | simp [Value.cells, Value.oneCell']) (by first | exact Nat.le_of_ble_eq_true rfl | decide | (simp only [wr_size]; decide) | simp [wr_size]) (by kernel_rfl) ?_
            intro wx H
            refine WL.assign rfl rfl ?_
            refine WL.assign rfl rfl ?_
            refine (WL.done (WX.next ?_))
            refine (WC.ret (WX.then_ret ?_))
            refine ret_three rfl ⟨_, rfl, by first | exact H.rdAll ty125 0 rfl rfl | exact H.rd1 ty125 0 rfl rfl | exact H.rdA ty125 0 rfl (by first | decide | exact Nat.le_refl _)⟩ rfl rfl ?_
            have hno : decOk ws ep = false := Bool.eq_false_iff.2 (fun h => by
              obtain ⟨h1, h2, h3, h4, h5, h6, h7⟩ := decOk_iff.1 h
              first | omega | (have h9 := ‹(!isWord (ws.getD 0 0)) = true›; rw [h2] at h9; cases h9) | (rw [hdn] at h6; have h9 := ‹(!isWord (ws.getD g 0)) = true›; have h8 := List.all_eq_true.1 h6 (ws.getD g 0) (by rw [← getD_take (show g < 3 + 2 * n by omega)]; exact getD_mem (by rw [List.length_take]; omega)); rw [h8] at h9; cases h9) | (rw [hdn, show 3 + 2 * n - 1 = 2 + 2 * n by omega] at h7; omega))
            rw [dec_no hno]
            exact ⟨Row.none, rfl, ⟨rfl, rfl⟩, H.weaken (List.nil_sublist _)⟩
          ·
            refine WL.yes rfl rfl ?_
            refine WL.move rfl rfl ?_
            refine WL.yes rfl rfl ?_
            refine WL.idxSlc (k := 1) slc43 rfl rfl (by first | rfl | omega) (by omega) rfl ?_
            refine WL.yes rfl rfl ?_
            refine WL.load rfl (Rd.one ty3 (by rw [cell_of (H.oldBlock hb (by simp)), Nat.mul_one]; exact hcs 1 (by omega))) rfl ?_
            refine WL.yes rfl rfl ?_
            refine WL.bin rfl rfl binv_gtr rfl ?_
            refine WL.pickF rfl rfl rfl ?_
            refine (WL.done (WX.next ?_))
            first | refine WC.cond_dec rfl (fun c6 => ?_) (fun c6 => ?_) | refine WC.cond rfl (fun c6 => ?_) (fun c6 => ?_)
            ·
              refine WC.seq ?_
              refine WC.region ?_
              refine WL.build (cells := #[.int .i64 0, .slice none 0 0]) pla125 zer125 rfl rfl (by kernel_rfl) ?_
              refine WL.storeTo (cs' := #[.int .i64 0, .slice none 0 0]) H ty125 0 rfl rfl rfl (by first | rfl | decide) (by first | exact arrC_one _ | simp [Value.cells, Value.oneCell']) (by first | exact Nat.le_of_ble_eq_true rfl | decide | (simp only [wr_size]; decide) | simp [wr_size]) (by kernel_rfl) ?_
              intro wx H
              refine WL.assign rfl rfl ?_
              refine WL.assign rfl rfl ?_
              refine (WL.done (WX.next ?_))
              refine (WC.ret (WX.then_ret ?_))
              refine ret_three rfl ⟨_, rfl, by first | exact H.rdAll ty125 0 rfl rfl | exact H.rd1 ty125 0 rfl rfl | exact H.rdA ty125 0 rfl (by first | decide | exact Nat.le_refl _)⟩ rfl rfl ?_
              have hno : decOk ws ep = false := Bool.eq_false_iff.2 (fun h => by
                obtain ⟨h1, h2, h3, h4, h5, h6, h7⟩ := decOk_iff.1 h
                first | omega | (have h9 := ‹(!isWord (ws.getD 0 0)) = true›; rw [h2] at h9; cases h9) | (rw [hdn] at h6; have h9 := ‹(!isWord (ws.getD g 0)) = true›; have h8 := List.all_eq_true.1 h6 (ws.getD g 0) (by rw [← getD_take (show g < 3 + 2 * n by omega)]; exact getD_mem (by rw [List.length_take]; omega)); rw [h8] at h9; cases h9) | (rw [hdn, show 3 + 2 * n - 1 = 2 + 2 * n by omega] at h7; omega))
              rw [dec_no hno]
              exact ⟨Row.none, rfl, ⟨rfl, rfl⟩, H.weaken (List.nil_sublist _)⟩
            ·
              refine (WC.skip (WX.next ?_))
              refine WC.seq ?_
              refine WC.seq ?_
              refine WC.region ?_
              refine WL.assign rfl rfl ?_
              refine (WL.done (WX.next ?_))
              refine WC.block ?_
              refine WC.loop (Sub.cons (t := 0) rfl (Sub.cons (t := 4) rfl (Sub.cons (t := 8) rfl (Sub.cons (t := 9) rfl (Sub.nil _))))) (fun i : Nat => [(10, .int .i64 (i : Int))]) (fun q i wx => q = 3 + 2 * n - i ∧ i ≤ 3 + 2 * n ∧ ((ws.take (3 + 2 * n)).take i).all isWord = true ∧ St w [] wx [(b4, .cells #[.int .i64 0, .slice none 0 0] 125)]) (3 + 2 * n) (0) (Sub.cons (t := 10) (by first | rfl | simp) (Sub.nil _)) (⟨rfl, Nat.zero_le _, rfl, H⟩) ?_
              rintro k g wx hI N hN
              obtain ⟨rfl, hg, hall, H⟩ := hI
              refine WC.seq ?_
              refine WC.seq ?_
              refine WC.region ?_
              refine WL.move rfl rfl ?_
              refine WL.move rfl rfl ?_
              refine WL.bin rfl rfl binv_lss rfl ?_
              refine (WL.done (WX.next ?_))
              first | refine WC.cond_dec rfl (fun c7 => ?_) (fun c7 => ?_) | refine WC.cond rfl (fun c7 => ?_) (fun c7 => ?_)
              ·
                replace hg2 : g < 3 + 2 * n := by omega
                refine (WC.skip (WX.next ?_))
                refine WC.seq ?_
                refine WC.block ?_
                refine WC.seq ?_
                refine WC.region ?_
                refine WL.move rfl rfl ?_
                refine WL.move rfl rfl ?_
                refine WL.idxSlc (k := g) slc43 rfl rfl (by first | rfl | omega) (by omega) rfl ?_
                refine WL.load rfl (Rd.one ty3 (by rw [cell_of (H.oldBlock hb (by simp)), Nat.mul_one]; exact hcs g (by omega))) rfl ?_
                refine WL.call call153 rfl rfl ?_
                refine Calls.mono (reflword_any _ _) ?_
                rintro _ wx ⟨rfl, rfl⟩
                refine ⟨_, rfl, ?_⟩
                refine WL.assign rfl rfl ?_
                refine (WL.done (WX.next ?_))
                refine WC.seq ?_
                refine WC.region ?_
                refine WL.move rfl rfl ?_
                refine WL.notOp rfl rfl ?_
                refine (WL.done (WX.next ?_))
                first | refine WC.cond_dec rfl (fun c8 => ?_) (fun c8 => ?_) | refine WC.cond rfl (fun c8 => ?_) (fun c8 => ?_)
                ·
                  refine WC.seq ?_
                  refine WC.region ?_
                  refine WL.build (cells := #[.int .i64 0, .slice none 0 0]) pla125 zer125 rfl rfl (by kernel_rfl) ?_
                  refine WL.storeTo (cs' := #[.int .i64 0, .slice none 0 0]) H ty125 0 rfl rfl rfl (by first | rfl | decide) (by first | exact arrC_one _ | simp [Value.cells, Value.oneCell']) (by first | exact Nat.le_of_ble_eq_true rfl | decide | (simp only [wr_size]; decide) | simp [wr_size]) (by kernel_rfl) ?_
                  intro wx H
                  refine WL.assign rfl rfl ?_
                  refine WL.assign rfl rfl ?_
                  refine (WL.done (WX.next ?_))
                  refine (WC.ret (WX.block_ret (WX.then_ret (WX.then_ret (WX.block_ret (WX.then_ret ?_))))))
                  refine ret_three rfl ⟨_, rfl, by first | exact H.rdAll ty125 0 rfl rfl | exact H.rd1 ty125 0 rfl rfl | exact H.rdA ty125 0 rfl (by first | decide | exact Nat.le_refl _)⟩ rfl rfl ?_
                  have hno : decOk ws ep = false := Bool.eq_false_iff.2 (fun h => by
                    obtain ⟨h1, h2, h3, h4, h5, h6, h7⟩ := decOk_iff.1 h
                    first | omega | (have h9 := ‹(!isWord (ws.getD 0 0)) = true›; rw [h2] at h9; cases h9) | (rw [hdn] at h6; have h9 := ‹(!isWord (ws.getD g 0)) = true›; have h8 := List.all_eq_true.1 h6 (ws.getD g 0) (by rw [← getD_take (show g < 3 + 2 * n by omega)]; exact getD_mem (by rw [List.length_take]; omega)); rw [h8] at h9; cases h9) | (rw [hdn, show 3 + 2 * n - 1 = 2 + 2 * n by omega] at h7; omega))
                  rw [dec_no hno]
                  exact ⟨Row.none, rfl, ⟨rfl, rfl⟩, H.weaken (List.nil_sublist _)⟩
                ·
                  refine (WC.skip (WX.block_normal (WX.next ?_)))
                  refine WC.region ?_
                  refine WL.move rfl rfl ?_
                  refine WL.bin rfl rfl (iadd (by omega) (by omega)) rfl ?_
                  refine WL.assign rfl rfl ?_
                  refine (WL.done (WX.round ?_))
                  exact hN _ (g + 1) _ _ (by omega) ⟨rfl, by omega, all_succ (by rw [List.length_take]; omega) hall (by rw [List.getElem_take, getD_of (by omega)]; simpa using ‹(!isWord (ws.getD g 0)) = false›), H⟩ (Sub.cons (t := 10) (by first | rfl | simp) (Sub.nil _)) (Sub.cons (t := 0) rfl (Sub.cons (t := 4) rfl (Sub.cons (t := 8) rfl (Sub.cons (t := 9) rfl (Sub.nil _)))))
              ·
                obtain rfl : g = 3 + 2 * n := by omega
                refine (WC.exit (WX.then_exit (WX.then_exit (WX.block_exit (WX.next ?_)))))
                refine WC.seq ?_
                refine WC.seq ?_
                replace H := H.drew
                refine WC.held (SX (World.drew wx) []) (by kernel_rfl) ?_
                generalize World.drew wx = wb at H ⊢
                have HB := St.refl wb
                refine WH.take 0 rfl (by kernel_rfl) (by kernel_rfl) (by kernel_rfl) (fun _ _ _ h => h) ⟨_, HB⟩ (fun w' hS => EX.move rfl) rfl ?_
                refine WH.take 1 rfl (by kernel_rfl) (by kernel_rfl) (by kernel_rfl) (fun _ _ _ h => h) ⟨_, HB⟩ (fun w' hS => EX.move rfl) rfl ?_
                refine WH.take 2 rfl (by kernel_rfl) (by kernel_rfl) (by kernel_rfl) (fun _ _ _ h => h) ⟨_, HB⟩ (fun w' hS => EX.bin rfl rfl (isub (by omega) (by omega))) rfl ?_
                refine WH.take 3 rfl (by kernel_rfl) (by kernel_rfl) (by kernel_rfl) (fun _ _ _ h => h) ⟨_, HB⟩ (fun w' hS => EX.idxSlc (k := 2 + 2 * n) slc43 rfl rfl (by first | rfl | omega) (by omega)) rfl ?_
                refine WH.take 4 rfl (by kernel_rfl) (by kernel_rfl) (by kernel_rfl) (fun _ _ _ h => h) ⟨_, HB⟩ (fun w' hS => EX.load rfl (Rd.one ty3 (by rw [cell_of (hS.block (H.oldBlock hb (by simp)) (by simp)), Nat.mul_one]; exact hcs (2 + 2 * n) (by omega)))) rfl ?_
                refine WH.take 5 rfl (by kernel_rfl) (by kernel_rfl) (by kernel_rfl) (fun _ _ _ h => h) ⟨_, HB⟩ (fun w' hS => EX.move rfl) rfl ?_
                refine WH.take 6 rfl (by kernel_rfl) (by kernel_rfl) (by kernel_rfl) (fun _ _ _ h => h) ⟨_, HB⟩ (fun w' hS => EX.move rfl) rfl ?_
                refine WH.take 7 rfl (by kernel_rfl) (by kernel_rfl) (by kernel_rfl) (fun _ _ _ h => h) ⟨_, HB⟩ (fun w' hS => EX.bin rfl rfl (isub (by omega) (by omega))) rfl ?_
                refine WH.hard 8 rfl (by kernel_rfl) ?_
                refine WL.sliceHi (k := 2 + 2 * n) slc43 rfl rfl (by omega) (by omega) rfl ?_
                refine WL.done (WX.heldOn ⟨_, HB⟩ ?_)
                refine WH.hard 9 rfl (by kernel_rfl) ?_
                refine WL.call call151 rfl rfl ?_
                refine Calls.mono (refWords_any _ (2 + 2 * n) cap (ws.take (2 + 2 * n)) (by rw [List.length_take]; omega) (by omega) _ (((hx.take _).keep H).keep HB)) ?_
                rintro _ wx ⟨rfl, Hc⟩
                refine ⟨_, rfl, ?_⟩
                replace HB := HB.call0 Hc
                refine WL.done (WX.heldOn ⟨_, HB⟩ ?_)
                refine WH.take 10 rfl (by kernel_rfl) (by kernel_rfl) (by kernel_rfl) (fun _ _ _ h => h) ⟨_, HB⟩ (fun w' hS => EX.bin rfl rfl (binv_neq)) rfl ?_
                refine WH.done (by kernel_rfl) ?_
                replace H := H.call HB
                refine WX.next ?_
                first | refine WC.cond_dec rfl (fun c9 => ?_) (fun c9 => ?_) | refine WC.cond rfl (fun c9 => ?_) (fun c9 => ?_)
                ·
                  refine WC.seq ?_
                  refine WC.region ?_
                  refine WL.build (cells := #[.int .i64 0, .slice none 0 0]) pla125 zer125 rfl rfl (by kernel_rfl) ?_
                  refine WL.storeTo (cs' := #[.int .i64 0, .slice none 0 0]) H ty125 0 rfl rfl rfl (by first | rfl | decide) (by first | exact arrC_one _ | simp [Value.cells, Value.oneCell']) (by first | exact Nat.le_of_ble_eq_true rfl | decide | (simp only [wr_size]; decide) | simp [wr_size]) (by kernel_rfl) ?_
                  intro wx H
                  refine WL.assign rfl rfl ?_
                  refine WL.assign rfl rfl ?_
                  refine (WL.done (WX.next ?_))
                  refine (WC.ret (WX.then_ret ?_))
                  refine ret_three rfl ⟨_, rfl, by first | exact H.rdAll ty125 0 rfl rfl | exact H.rd1 ty125 0 rfl rfl | exact H.rdA ty125 0 rfl (by first | decide | exact Nat.le_refl _)⟩ rfl rfl ?_
                  have hno : decOk ws ep = false := Bool.eq_false_iff.2 (fun h => by
                    obtain ⟨h1, h2, h3, h4, h5, h6, h7⟩ := decOk_iff.1 h
                    first | omega | (have h9 := ‹(!isWord (ws.getD 0 0)) = true›; rw [h2] at h9; cases h9) | (rw [hdn] at h6; have h9 := ‹(!isWord (ws.getD g 0)) = true›; have h8 := List.all_eq_true.1 h6 (ws.getD g 0) (by rw [← getD_take (show g < 3 + 2 * n by omega)]; exact getD_mem (by rw [List.length_take]; omega)); rw [h8] at h9; cases h9) | (rw [hdn, show 3 + 2 * n - 1 = 2 + 2 * n by omega] at h7; omega))
                  rw [dec_no hno]
                  exact ⟨Row.none, rfl, ⟨rfl, rfl⟩, H.weaken (List.nil_sublist _)⟩
                ·
                  refine (WC.skip (WX.next ?_))
                  refine WC.seq ?_
                  refine WC.region ?_
                  refine WL.move rfl rfl ?_
                  refine WL.idxSlc (k := 1) slc43 rfl rfl (by first | rfl | omega) (by omega) rfl ?_
                  refine WL.load rfl (Rd.one ty3 (by rw [cell_of (H.oldBlock hb (by simp)), Nat.mul_one]; exact hcs 1 (by omega))) rfl ?_
                  refine WL.build (cells := #[.int .i64 (ws.getD 1 0), .slice none 0 0]) pla125 zer125 rfl rfl (by kernel_rfl) ?_
                  refine WL.alloc H zer125 rfl ?_
                  intro b12 wx hb12 hge12 H
                  refine WL.storeTo (cs' := #[.int .i64 (ws.getD 1 0), .slice none 0 0]) H ty125 0 rfl rfl rfl (by first | rfl | decide) (by first | exact arrC_one _ | simp [Value.cells, Value.oneCell']) (by first | exact Nat.le_of_ble_eq_true rfl | decide | (simp only [wr_size]; decide) | simp [wr_size]) (by kernel_rfl) ?_
                  intro wx H
                  refine (WL.done (WX.next ?_))
                  refine WC.seq ?_
                  refine WC.seq ?_
                  refine WC.region ?_
                  refine WL.assign rfl rfl ?_
                  refine (WL.done (WX.next ?_))
                  refine WC.block ?_
                  replace H : St w [] _ [(b12, .cells #[.int .i64 (ws.getD 1 0), .slice none 0 0] 125), (b4, .cells #[.int .i64 0, .slice none 0 0] 125)] := H
                  replace H := H.perm (List.Perm.swap _ _ _)
                  refine WC.loop (Sub.cons (t := 0) rfl (Sub.cons (t := 4) rfl (Sub.cons (t := 8) rfl (Sub.cons (t := 9) rfl (Sub.cons (t := 12) rfl (Sub.nil _)))))) (fun z : Row × Nat => [(13, .int .i64 (z.2 : Int))]) (fun q z wx => q = n - z.2 ∧ z.2 ≤ n ∧ z.1.ok 2 z.2 (intsC (pairs ws z.2).flatten) ∧ St w [] wx ([(b4, .cells #[.int .i64 0, .slice none 0 0] 125)] ++ ((b12, .cells #[.int .i64 (ws.getD 1 0), z.1.val z.2] 125) :: z.1.hp 189))) (n) ((Row.none, 0)) (Sub.cons (t := 13) (by first | rfl | simp) (Sub.nil _)) (⟨rfl, Nat.zero_le _, ⟨rfl, rfl⟩, H⟩) ?_
                  rintro q z wx hJ N2 hN2
                  clear H
                  obtain ⟨r, i⟩ := z
                  obtain ⟨rfl, hi, hr, H⟩ := hJ
                  change i ≤ n at hi
                  change r.ok 2 i (intsC (pairs ws i).flatten) at hr
                  change St w [] wx ([_] ++ (_ :: r.hp 189)) at H
                  refine WC.seq ?_
                  refine WC.seq ?_
                  refine WC.region ?_
                  refine WL.move rfl rfl ?_
                  refine WL.move rfl rfl ?_
                  refine WL.bin rfl rfl binv_lss rfl ?_
                  refine (WL.done (WX.next ?_))
                  first | refine WC.cond_dec rfl (fun c10 => ?_) (fun c10 => ?_) | refine WC.cond rfl (fun c10 => ?_) (fun c10 => ?_)
                  ·
                    replace hi2 : i < n := by omega
                    have hbN := H.new (X := b12 :: (r.hp 189).map Prod.fst) (fun k hk => by rw [List.map_append]; exact List.mem_append_right _ hk)
                    have hbX : b ∉ b12 :: (r.hp 189).map Prod.fst := fun h => Nat.not_lt.2 (hbN b h) (lt_of_some hb)
                    replace H := H.drew
                    refine (WC.skip (WX.next ?_))
                    refine WC.seq ?_
                    refine WC.block ?_
                    
                    refine WC.held (SX (World.drew wx) (b12 :: (r.hp 189).map Prod.fst)) (by kernel_rfl) ?_
                    generalize World.drew wx = wb at H ⊢
                    have HB : St wb (b12 :: (r.hp 189).map Prod.fst) wb ((b12, .cells #[.int .i64 (ws.getD 1 0), r.val i] 125) :: r.hp 189) := St.start (H.weaken (List.sublist_append_right [_] _)).nd (H.weaken (List.sublist_append_right [_] _)).sat
                    refine WH.take 0 rfl (by kernel_rfl) (by kernel_rfl) (by kernel_rfl) (fun _ _ _ h => h) ⟨_, HB⟩ (fun w' hS => EX.fieldAddr fld125_1 rfl) rfl ?_
                    refine WH.take 2 rfl (by kernel_rfl) (by kernel_rfl) (by kernel_rfl) (fun _ _ _ h => h) ⟨_, HB⟩ (fun w' hS => EX.move rfl) rfl ?_
                    refine WH.take 3 rfl (by kernel_rfl) (by kernel_rfl) (by kernel_rfl) (fun _ _ _ h => h) ⟨_, HB⟩ (fun w' hS => EX.move rfl) rfl ?_
                    refine WH.take 4 rfl (by kernel_rfl) (by kernel_rfl) (by kernel_rfl) (fun _ _ _ h => h) ⟨_, HB⟩ (fun w' hS => EX.bin rfl rfl (imul (by omega) (by omega))) rfl ?_
                    refine WH.take 5 rfl (by kernel_rfl) (by kernel_rfl) (by kernel_rfl) (fun _ _ _ h => h) ⟨_, HB⟩ (fun w' hS => EX.bin rfl rfl (iadd (by omega) (by omega))) rfl ?_
                    refine WH.take 6 rfl (by kernel_rfl) (by kernel_rfl) (by kernel_rfl) (fun _ _ _ h => h) ⟨_, HB⟩ (fun w' hS => EX.idxSlc (k := 2 + 2 * i) slc43 rfl rfl (by first | rfl | omega) (by omega)) rfl ?_
                    refine WH.take 7 rfl (by kernel_rfl) (by kernel_rfl) (by kernel_rfl) (fun _ _ _ h => h) ⟨_, HB⟩ (fun w' hS => EX.load rfl (Rd.one ty3 (by rw [cell_of (hS.block (H.oldBlock hb (by simp)) hbX), Nat.mul_one]; exact hcs (2 + 2 * i) (by omega)))) rfl ?_
                    refine WH.take 8 rfl (by kernel_rfl) (by kernel_rfl) (by kernel_rfl) (fun _ _ _ h => h) ⟨_, HB⟩ (fun w' hS => EX.move rfl) rfl ?_
                    refine WH.take 9 rfl (by kernel_rfl) (by kernel_rfl) (by kernel_rfl) (fun _ _ _ h => h) ⟨_, HB⟩ (fun w' hS => EX.move rfl) rfl ?_
                    refine WH.take 10 rfl (by kernel_rfl) (by kernel_rfl) (by kernel_rfl) (fun _ _ _ h => h) ⟨_, HB⟩ (fun w' hS => EX.bin rfl rfl (imul (by omega) (by omega))) rfl ?_
                    refine WH.take 11 rfl (by kernel_rfl) (by kernel_rfl) (by kernel_rfl) (fun _ _ _ h => h) ⟨_, HB⟩ (fun w' hS => EX.bin rfl rfl (iadd (by omega) (by omega))) rfl ?_
                    refine WH.take 12 rfl (by kernel_rfl) (by kernel_rfl) (by kernel_rfl) (fun _ _ _ h => h) ⟨_, HB⟩ (fun w' hS => EX.idxSlc (k := 3 + 2 * i) slc43 rfl rfl (by first | rfl | omega) (by omega)) rfl ?_
                    refine WH.take 13 rfl (by kernel_rfl) (by kernel_rfl) (by kernel_rfl) (fun _ _ _ h => h) ⟨_, HB⟩ (fun w' hS => EX.load rfl (Rd.one ty3 (by rw [cell_of (hS.block (H.oldBlock hb (by simp)) hbX), Nat.mul_one]; exact hcs (3 + 2 * i) (by omega)))) rfl ?_
                    refine WH.take 14 rfl (by kernel_rfl) (by kernel_rfl) (by kernel_rfl) (fun _ _ _ h => h) ⟨_, HB⟩ (fun w' hS => EX.build (cells := arrC [ws.getD (2 + 2 * i) 0, ws.getD (3 + 2 * i) 0]) pla189 zer189 rfl (by kernel_rfl)) rfl ?_
                    refine WH.hard2 1 15 rfl rfl (by kernel_rfl) ?_ ?_
                    ·
                      refine WL.load rfl (Rd.one ty123 (by rw [cell_of (HB.sat (b12, .cells #[.int .i64 (ws.getD 1 0), r.val i] 125) (by simp))]; rfl)) rfl ?_
                      refine WL.done (WX.heldOn ⟨_, HB⟩ ?_)
                      refine WH.hard 15 rfl (by kernel_rfl) ?_
                      refine WL.buildSlice1 HB Tryd.underlying123 (sz := 2) (by simp only [Tryd.underlying189]; exact ty189) (by omega) zer189 rfl rfl rfl rfl ?_
                      intro g2 wx hg2 hgg2 HB
                      replace HB := HB.perm (List.perm_append_comm (l₁ := [(g2, _), (b12, _)]) (l₂ := r.hp 189))
                      refine WL.done (WX.heldOn ⟨_, HB⟩ ?_)
                      refine WH.hard 16 rfl (by kernel_rfl) ?_
                      refine WL.append (m := 1) (k := i) (news := intsC [ws.getD (2 + 2 * i) 0, ws.getD (3 + 2 * i) 0]) app123 HB hr rfl rfl rfl (fun j u hj => by rw [addr_add, cell_of (HB.sat _ (List.mem_append_right _ List.mem_cons_self)), Nat.zero_add]; simpa [intsC, Value.cells, arrC] using hj) (intsC_one _) (by simp only [maxLen]; omega) (by omega) rfl ?_
                      intro r1 wx hr1 HB
                      replace hr1 : r1.ok 2 (i + 1) (intsC (pairs ws (i + 1)).flatten) := by rw [pairs_succ, List.flatten_append, intsC_append]; exact hr1
                      replace HB := HB.perm (List.perm_append_comm (l₁ := r1.hp 189) (l₂ := [(g2, _), (b12, _)]))
                      replace HB : St wb _ wx ((b12, _) :: r1.hp 189) := HB.weaken (List.sublist_cons_self _ _)
                      refine WL.done (WX.heldOn ⟨_, HB⟩ ?_)
                      refine WH.take 17 rfl (by kernel_rfl) (by kernel_rfl) (by kernel_rfl) (fun _ _ _ h => h) ⟨_, HB⟩ (fun w' hS => EX.fieldAddr fld125_1 rfl) rfl ?_
                      refine WH.hard 18 rfl (by kernel_rfl) ?_
                      refine WL.storeTo (cs' := #[.int .i64 (ws.getD 1 0), r1.val (i + 1)]) HB ty123 0 rfl rfl rfl (by rw [rowv_cells]; rfl) (rowv_one _ _) (Nat.le_of_ble_eq_true rfl) (by rw [rowv_cells]; rfl) ?_
                      intro wx HB
                      refine WL.done (WX.heldOn ⟨_, HB⟩ ?_)
                      refine WH.done (by kernel_rfl) ?_
                      replace H := H.callM (L := [_]) HB
                      refine (WX.block_normal (WX.next ?_))
                      refine WC.region ?_
                      refine WL.move rfl rfl ?_
                      refine WL.bin rfl rfl (iadd (by omega) (by omega)) rfl ?_
                      refine WL.assign rfl rfl ?_
                      refine (WL.done (WX.round ?_))
                      exact hN2 _ (r1, i + 1) _ _ (by show n - (i + 1) < n - i; omega) ⟨rfl, by show i + 1 ≤ n; omega, hr1, H⟩ (Sub.cons (t := 13) (by first | rfl | simp) (Sub.nil _)) (Sub.cons (t := 0) rfl (Sub.cons (t := 4) rfl (Sub.cons (t := 8) rfl (Sub.cons (t := 9) rfl (Sub.cons (t := 12) rfl (Sub.nil _))))))
                    ·
                      refine WL.buildSlice1 HB Tryd.underlying123 (sz := 2) (by simp only [Tryd.underlying189]; exact ty189) (by omega) zer189 rfl rfl rfl rfl ?_
                      intro g2 wx hg2 hgg2 HB
                      replace HB := HB.perm (List.perm_append_comm (l₁ := [(g2, _), (b12, _)]) (l₂ := r.hp 189))
                      refine WL.done (WX.heldOn ⟨_, HB⟩ ?_)
                      refine WH.hard 1 rfl (by kernel_rfl) ?_
                      refine WL.load rfl (Rd.one ty123 (by rw [cell_of (HB.sat (b12, .cells #[.int .i64 (ws.getD 1 0), r.val i] 125) (by simp))]; rfl)) rfl ?_
                      refine WL.done (WX.heldOn ⟨_, HB⟩ ?_)
                      refine WH.hard 16 rfl (by kernel_rfl) ?_
                      refine WL.append (m := 1) (k := i) (news := intsC [ws.getD (2 + 2 * i) 0, ws.getD (3 + 2 * i) 0]) app123 HB hr rfl rfl rfl (fun j u hj => by rw [addr_add, cell_of (HB.sat _ (List.mem_append_right _ List.mem_cons_self)), Nat.zero_add]; simpa [intsC, Value.cells, arrC] using hj) (intsC_one _) (by simp only [maxLen]; omega) (by omega) rfl ?_
                      intro r1 wx hr1 HB
                      replace hr1 : r1.ok 2 (i + 1) (intsC (pairs ws (i + 1)).flatten) := by rw [pairs_succ, List.flatten_append, intsC_append]; exact hr1
                      replace HB := HB.perm (List.perm_append_comm (l₁ := r1.hp 189) (l₂ := [(g2, _), (b12, _)]))
                      replace HB : St wb _ wx ((b12, _) :: r1.hp 189) := HB.weaken (List.sublist_cons_self _ _)
                      refine WL.done (WX.heldOn ⟨_, HB⟩ ?_)
                      refine WH.take 17 rfl (by kernel_rfl) (by kernel_rfl) (by kernel_rfl) (fun _ _ _ h => h) ⟨_, HB⟩ (fun w' hS => EX.fieldAddr fld125_1 rfl) rfl ?_
                      refine WH.hard 18 rfl (by kernel_rfl) ?_
                      refine WL.storeTo (cs' := #[.int .i64 (ws.getD 1 0), r1.val (i + 1)]) HB ty123 0 rfl rfl rfl (by rw [rowv_cells]; rfl) (rowv_one _ _) (Nat.le_of_ble_eq_true rfl) (by rw [rowv_cells]; rfl) ?_
                      intro wx HB
                      refine WL.done (WX.heldOn ⟨_, HB⟩ ?_)
                      refine WH.done (by kernel_rfl) ?_
                      replace H := H.callM (L := [_]) HB
                      refine (WX.block_normal (WX.next ?_))
                      refine WC.region ?_
                      refine WL.move rfl rfl ?_
                      refine WL.bin rfl rfl (iadd (by omega) (by omega)) rfl ?_
                      refine WL.assign rfl rfl ?_
                      refine (WL.done (WX.round ?_))
                      exact hN2 _ (r1, i + 1) _ _ (by show n - (i + 1) < n - i; omega) ⟨rfl, by show i + 1 ≤ n; omega, hr1, H⟩ (Sub.cons (t := 13) (by first | rfl | simp) (Sub.nil _)) (Sub.cons (t := 0) rfl (Sub.cons (t := 4) rfl (Sub.cons (t := 8) rfl (Sub.cons (t := 9) rfl (Sub.cons (t := 12) rfl (Sub.nil _))))))
                  ·
                    obtain rfl : i = n := by omega
                    refine (WC.exit (WX.then_exit (WX.then_exit (WX.block_exit (WX.next ?_)))))
                    refine WC.seq ?_
                    refine WC.region ?_
                    first | refine WL.load rfl (H.rdAll ty125 0 rfl rfl) rfl ?_ | refine WL.load rfl (H.rdAll ty125 1 rfl rfl) rfl ?_ | refine WL.load rfl (H.rd1 ty125 0 rfl rfl) rfl ?_ | refine WL.load rfl (H.rd1 ty125 1 rfl rfl) rfl ?_ | refine WL.load rfl (H.rdA ty125 0 rfl (by first | decide | exact Nat.le_refl _)) rfl ?_ | refine WL.load rfl (H.rdA ty125 1 rfl (by first | decide | exact Nat.le_refl _)) rfl ?_
                    refine WL.move rfl rfl ?_
                    refine WL.storeTo (cs' := #[.int .i64 (ws.getD 1 0), r.val i]) H ty125 0 rfl rfl rfl rfl (recv_one _ _ _) (Nat.le_of_ble_eq_true rfl) rfl ?_
                    intro wx H
                    refine WL.assign rfl rfl ?_
                    refine WL.assign rfl rfl ?_
                    refine (WL.done (WX.next ?_))
                    refine (WC.ret ?_)
                    refine ret_three rfl ⟨_, rfl, by first | exact H.rdAll ty125 0 rfl rfl | exact H.rdAll ty125 1 rfl rfl | exact H.rd1 ty125 0 rfl rfl | exact H.rd1 ty125 1 rfl rfl | exact H.rdA ty125 0 rfl (by first | decide | exact Nat.le_refl _) | exact H.rdA ty125 1 rfl (by first | decide | exact Nat.le_refl _)⟩ rfl rfl ?_
                    have hyes : decOk ws ep = true := decOk_iff.2 ⟨by omega, by simpa using ‹(!isWord (ws.getD 0 0)) = false›, by omega, by omega, by omega, by rw [hdn]; rwa [List.take_of_length_le (by rw [List.length_take]; omega)] at hall, by rw [hdn, show 3 + 2 * i - 1 = 2 + 2 * i by omega]; omega⟩
                    rw [dec_yes hyes, hdr]
                    refine ⟨r, by rw [pairs_len, hdn]; exact congrArg (fun v : Int => Ending.returned (.tuple #[.agg #[.int .i64 (ws.getD 1 0), r.val i], .int .i64 v, .int .i64 0])) (show 2 * (i : Int) + 3 = ((3 + 2 * i : Nat) : Int) by omega), by rw [pairs_len]; exact hr, H.weaken (List.sublist_append_right [_, _] _)⟩

end Go.Proofs.YtkncbggnaobgeaaDoor

/- Records and words among a law's arguments. -/
namespace Go.Proofs.YtkncbggnaobgeaaDoor
open Go.ChangeShapes Go.WideShapes Go.ChangeAt Go.WideMaps Go.WideElems Go.RowKit
set_option linter.unusedVariables false
set_option linter.unusedSimpArgs false
set_option linter.unusedSectionVars false
set_option maxRecDepth 100000

section
variable {H : Type} {enc : TypeId × Value → H} {w : World} {base b0 : Nat} {spare : Nat → Bool} {held : Bool} {rr : Reach}
theorem wordsC_open {v : Value} {d : DataW H} {ps : List MemPlace} (hval : Value.okWide Tryd.prog w rr b0 43 v) (h : DataW.Trod enc Tryd.prog w base spare held 43 v d ps) :
    ∃ A cap xs, v = .slice A (List.length xs) cap ∧ xs.length ≤ cap ∧ xs.length ≤ 9223372036854775807 ∧ IntsIn w A xs := by
  obtain ⟨A, len, cap, Y, rfl, hlc, hm, hY, hcl⟩ := open_slc Tryd.underlying43 (s := 1) (by kernel_rfl) (by omega) hval h
  obtain ⟨rows, hlen, hr, hYr⟩ := rows_of (f := 1) (by kernel_rfl) hY
  have hin := rows_in (by omega) hlen (fun r hr' => (hr r hr').1) hYr hcl
  have hfl : rows.flatten.length = len := by
    have := (flatten_get (s := 1) (by omega) rows (fun r hr' => (hr r hr').1)).1
    rw [this, hlen, Nat.mul_one]
  exact ⟨A, cap, rows.flatten, by rw [hfl], by omega, by omega, hin⟩
theorem ents_openC {fuel : Nat} {vs : List Value} {x : DataW H × List MemPlace} (h : DataW.trod enc Tryd.prog w base spare held fuel 123 vs = some x) :
    ∃ A cap es, vs = [.slice A (List.length es) cap] ∧ es.length ≤ 9223372036854775807 ∧ RowsIn w A 2 es ∧ RngE es := by
  obtain ⟨A, len, cap, Y, rfl, _, hm, hY, hc⟩ := open_slcC Tryd.underlying123 (s := 2) (by kernel_rfl) (by omega) h
  obtain ⟨rows, hlen, hr, hYr⟩ := rows_of (f := 2) (by kernel_rfl) hY
  have hin := rows_in (by omega) hlen (fun r hr' => (hr r hr').1) hYr hc
  refine ⟨A, cap, rows, by rw [hlen], by omega, ⟨fun r hr' => (hr r hr').1, hin⟩, fun e he => ?_⟩
  obtain ⟨h2, hz⟩ := hr e he
  match e, h2 with
  | [a, b], _ => exact hz a (by simp)
theorem rec_openC {fuel : Nat} {cs : List Value} {x : DataW H × List MemPlace} (h : DataW.trod enc Tryd.prog w base spare held fuel 125 cs = some x) :
    ∃ num A cap es, cs = [.int .i64 num, .slice A (List.length es) cap] ∧ es.length ≤ 9223372036854775807 ∧ RowsIn w A 2 es ∧ RngE es := by
  obtain ⟨xs, n, _, _, hlen, hxs, hf⟩ := DataW.trod_struct Tryd.underlying125 h
  have hxs2 : xs.length = 2 := hxs
  have c125 : Tryd.prog.cellsOf 125 = 2 := by kernel_rfl
  have c3 : Tryd.prog.cellsOf 3 = 1 := by kernel_rfl
  have c123 : Tryd.prog.cellsOf 123 = 1 := by kernel_rfl
  rw [c125] at hlen
  obtain ⟨v0, v1, rfl⟩ : ∃ v0 v1, cs = [v0, v1] := by
    match cs, hlen with
    | [v0, v1], _ => exact ⟨v0, v1, rfl⟩
  have f0 : DataW.trod enc Tryd.prog w base spare held n 3 (([v0, v1].drop 0).take (Tryd.prog.cellsOf 3)) = xs[0]? := hf 0 _ rfl
  have f1 : DataW.trod enc Tryd.prog w base spare held n 123 (([v0, v1].drop 1).take (Tryd.prog.cellsOf 123)) = xs[1]? := hf 1 _ rfl
  rw [c3] at f0
  rw [c123] at f1
  simp only [List.drop_zero, List.take_succ_cons, List.take_zero, List.drop_succ_cons] at f0 f1
  rw [List.getElem?_eq_getElem (by omega)] at f0 f1
  obtain ⟨z0, e0, _, w0⟩ := DataW.trod_int Tryd.underlying3 f0
  obtain ⟨A, cap, es, e1, l1, h1, r1⟩ := ents_openC f1
  cases e0; cases e1
  exact ⟨z0, A, cap, es, rfl, l1, h1, r1⟩
theorem rec_open {v : Value} {d : DataW H} {ps : List MemPlace} (hval : Value.okWide Tryd.prog w rr b0 125 v) (h : DataW.Trod enc Tryd.prog w base spare held 125 v d ps) :
    ∃ num A cap es, v = .agg #[.int .i64 num, .slice A (List.length es) cap] ∧ es.length ≤ 9223372036854775807 ∧ RowsIn w A 2 es ∧ RngE es := by
  obtain ⟨cs, rfl, _⟩ := okWide_struct Tryd.underlying125 hval
  obtain ⟨fuel, hf⟩ := h
  obtain ⟨num, A, cap, es, h1, h2⟩ := rec_openC hf
  refine ⟨num, A, cap, es, ?_, h2⟩
  have h1' : cs.toList = [.int .i64 num, .slice A (List.length es) cap] := h1
  have : cs = cs.toList.toArray := rfl
  rw [this, h1']
end
end Go.Proofs.YtkncbggnaobgeaaDoor
