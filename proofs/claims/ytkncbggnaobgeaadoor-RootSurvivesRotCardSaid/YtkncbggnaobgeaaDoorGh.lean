/- Texts of this session, laid together: Api3, RowsIn, Same, Law4, Law5, Law6, Api4, Pl2, Pl3, Card1. -/
import Derived.Test.YtkncbggnaobgeaaDoorGf
import Derived.Test.YtkncbggnaobgeaaDoorGg

/- Scripts: how the calls of a script lie in memory; cuts made out of numbers; what else the laws of layer 4 hold. -/
namespace Go.Proofs.YtkncbggnaobgeaaDoor
open Go.RowKit
set_option linter.unusedVariables false
set_option linter.unusedSimpArgs false
set_option maxRecDepth 100000

/-- A call's cells. -/
def opC (x : POp) (A : Option Addr) (cap : Nat) : List Value := intsC [x.kind, x.a, x.b] ++ (intsC x.ws ++ [.slice A x.cuts.length cap])
structure POp.ok (x : POp) : Prop where
  w8 : x.ws.length = 8
  a : -9223372036854775808 ≤ x.a ∧ x.a ≤ 9223372036854775807
  n : x.cuts.length ≤ 9223372036854775807
theorem opC_length {x : POp} {A : Option Addr} {cap : Nat} (h : x.ws.length = 8) : (opC x A cap).length = 12 := by simp [opC, intsC, h]
section
variable {w0 w : World} {L : Hp} {R : RM} {p k : Nat} {M : PM}
theorem CutsIn.keep {A : Option Addr} {cuts : List (Int × Int)} {bad : List Nat} (h : CutsIn w0 A cuts bad) (H : St w0 [] w (L ++ R.hp)) : CutsIn w A cuts (R.hp.map Prod.fst) := by
  rcases h with h | ⟨b, o, cs, t, fr, h1, h2, h3, h4⟩
  · exact .inl h
  · refine .inr ⟨b, o, cs, t, fr, h1, H.oldBlock h2 (by simp), fun hm => ?_, h4⟩
    obtain ⟨q, hq, he⟩ := List.mem_map.1 hm
    have hlt := lt_of_some h2
    rcases H.own q (List.mem_append_right _ hq) with hh | hh
    · simp at hh
    · omega
/-- A call of a script with where its cuts lie. -/
structure OpV where
  x : POp
  A : Option Addr
  cap : Nat
def OpV.cells (v : OpV) : List Value := opC v.x v.A v.cap
structure OpV.ok (w : World) (v : OpV) : Prop where
  x : v.x.ok
  cuts : CutsIn w v.A v.x.cuts []
/-- Scripts that were handed over. -/
def OpsIn (w : World) (A : Option Addr) (xs : List OpV) : Prop := xs = [] ∨ ∃ b o cs t fr, A = some ⟨b, o, none⟩ ∧ w.heap[b]? = some (.cells cs t fr) ∧ ∀ i (hi : i < xs.length) j, j < 12 → cs[o + i * 12 + j]? = (xs[i]).cells[j]?
theorem Rd.cellsAt {P : Program} {T t : TypeId} {fr : Nat × Nat} {b o n : Nat} {cs : Array Value} {ys : List Value} (hT : tyB P T true n = true) (h : w.heap[b]? = some (.cells cs t fr)) (hl : ys.length = n) (hn0 : 0 < n) (hn : ∀ j, j < n → cs[o + j]? = ys[j]?) : Rd P w T ⟨b, o, none⟩ (.agg ys.toArray) := by
  have hk : o + n ≤ cs.size := by
    have h1 := hn (n - 1) (by omega)
    rw [List.getElem?_eq_getElem (by omega)] at h1
    rcases Nat.lt_or_ge (o + (n - 1)) cs.size with hl2 | hg
    · omega
    · rw [Array.getElem?_eq_none hg] at h1; cases h1
  have := Rd.agg (P := P) (o := o) hT h hk
  have e1 : cs.extract o (o + n) = ys.toArray := by
    apply Array.ext_getElem?
    intro i
    rw [Array.getElem?_extract]
    by_cases hi : i < n
    · rw [if_pos (by omega), hn i hi]; simp
    · rw [if_neg (by omega)]; simp; omega
  rw [e1] at this
  exact this
theorem Rd.ints {P : Program} {T : TypeId} {A : Option Addr} {xs : List Int} {i : Nat} {kk : Nat} (hT : tyB P T false kk = true) (h : IntsIn w A xs) {x : Int} (hi : xs[i]? = some x) {b o : Nat} (hA : A = some ⟨b, o, none⟩) : Rd P w T ⟨b, o + i, none⟩ (.int .i64 x) := by
  rcases h with h | ⟨b', o', cs, t, fr, h1, h2, h3⟩
  · rw [h] at hi; cases hi
  · rw [hA] at h1
    cases h1
    exact Rd.one hT (by rw [cell_of h2]; exact h3 i x hi)

/-- Cuts made out of numbers: of the first n lines. -/
def PM.cutsTo (M : PM) (keep : List Int) (n : Nat) : List (Int × Int) :=
  (List.range n).filterMap fun i : Nat => if 0 < (M.line i).ps.length ∧ i < keep.length then some ((i : Int), keep.getD i 0 % (((M.line i).ps.length : Int) + 1)) else none
def PM.cutsOf (M : PM) (keep : List Int) : List (Int × Int) := M.cutsTo keep M.ls.length
theorem cutsTo_succ (M : PM) (keep : List Int) (n : Nat) : M.cutsTo keep (n + 1) = M.cutsTo keep n ++ (if 0 < (M.line n).ps.length ∧ n < keep.length then [((n : Int), keep.getD n 0 % (((M.line n).ps.length : Int) + 1))] else []) := by
  unfold PM.cutsTo
  rw [List.range_succ, List.filterMap_append]
  congr 1
  by_cases h : 0 < (M.line n).ps.length ∧ n < keep.length
  · rw [if_pos h, List.filterMap_cons, if_pos h, List.filterMap_nil]
  · rw [if_neg h, List.filterMap_cons, if_neg h, List.filterMap_nil]
theorem cutsTo_mem {M : PM} {keep : List Int} {n : Nat} {c : Int × Int} (h : c ∈ M.cutsTo keep n) : ∃ i : Nat, i < n ∧ c.1 = i ∧ 0 < (M.line i).ps.length ∧ 0 ≤ c.2 ∧ c.2 ≤ (M.line i).ps.length := by
  unfold PM.cutsTo at h
  obtain ⟨i, hi, he⟩ := List.mem_filterMap.1 h
  split at he
  · rename_i hc
    cases he
    refine ⟨i, List.mem_range.1 hi, rfl, hc.1, Int.emod_nonneg _ (by omega), ?_⟩
    have := Int.emod_lt_of_pos (keep.getD i 0) (show (0 : Int) < ((M.line i).ps.length : Int) + 1 by omega)
    show keep.getD i 0 % _ ≤ _
    omega
  · cases he
theorem cutsTo_asc (M : PM) (keep : List Int) : ∀ n, (M.cutsTo keep n).Pairwise fun a b => a.1 < b.1
  | 0 => by simp [PM.cutsTo]
  | n + 1 => by
    rw [cutsTo_succ, List.pairwise_append]
    refine ⟨cutsTo_asc M keep n, by split <;> simp, ?_⟩
    intro a ha b hb
    obtain ⟨i, hi, he, _⟩ := cutsTo_mem ha
    split at hb
    · simp only [List.mem_singleton] at hb
      subst hb
      rw [he]
      exact Int.ofNat_lt.2 hi
    · cases hb
theorem cutsOf_ok (M : PM) (keep : List Int) : M.cutsOk (M.cutsOf keep) = true := by
  unfold PM.cutsOk
  rw [List.all_eq_true]
  intro j hj
  have hjl := List.mem_range.1 hj
  have hm : (M.cutsOf keep)[j] ∈ M.cutsOf keep := List.getElem_mem hjl
  obtain ⟨i, hi, h1, h2, h3, h4⟩ := cutsTo_mem hm
  refine (cutOk_iff hjl).2 ⟨?_, ?_, h3, ?_⟩
  · rw [h1]; exact has_of hi
  · rcases Nat.eq_zero_or_pos j with h0 | hp
    · exact .inl h0
    · right
      rw [getD_at (show j - 1 < _ by omega)]
      exact List.pairwise_iff_getElem.1 (cutsTo_asc M keep M.ls.length) (j - 1) j (by unfold PM.cutsOf at hjl; omega) hjl (by omega)
  · rw [h1]; exact h4
theorem cutsOf_len (M : PM) (keep : List Int) : (M.cutsOf keep).length ≤ M.ls.length := by
  have := List.length_filterMap_le (fun i : Nat => if 0 < (M.line i).ps.length ∧ i < keep.length then some ((i : Int), keep.getD i 0 % (((M.line i).ps.length : Int) + 1)) else none) (List.range M.ls.length)
  rw [List.length_range] at this
  exact this
/-- Cuts in a row of the caller's own. -/
theorem CutsIn.row {r : Row} {cuts : List (Int × Int)} {L2 : Hp} (H : St w0 [] w ((r.hp 109 ++ L2) ++ R.hp)) (hr : r.ok 2 cuts.length (flatP cuts)) : ∃ A cap, r.val cuts.length = .slice A cuts.length cap ∧ CutsIn w A cuts (R.hp.map Prod.fst) := by
  cases r with
  | none => exact ⟨none, 0, rfl, .inl (List.eq_nil_of_length_eq_zero hr.1)⟩
  | nul a => exact ⟨some a, 0, rfl, .inl (List.eq_nil_of_length_eq_zero hr.1)⟩
  | some g cap cur =>
    refine ⟨some ⟨g, 0, none⟩, cap, rfl, .inr ⟨g, 0, cur, 109, _, rfl, H.sat (g, .cells cur 109) (List.mem_append_left _ (List.mem_append_left _ List.mem_cons_self)), fun hm => ?_, fun j hj => ?_⟩⟩
    · have hnd := H.nd
      rw [List.map_append, List.nodup_append] at hnd
      exact hnd.2.2 g (List.mem_map.2 ⟨_, List.mem_append_left _ List.mem_cons_self, rfl⟩) g hm rfl
    · have := Row.getP hr hj
      rw [Nat.zero_add, Nat.mul_comm]
      exact this
theorem a_crash_row {r : Row} {cuts : List (Int × Int)} {L2 : Hp} (hr : r.ok 2 cuts.length (flatP cuts)) (hl : cuts.length ≤ 9223372036854775807) (hk : k ≤ 1073741824) (hI : Is R p M k) (H : St w0 [] w ((r.hp 109 ++ L2) ++ R.hp)) (hL : L64 w0) :
    Calls Tryd.prog 37 #[ptr p, r.val cuts.length] w fun e w' => ∃ R', e = .returned (.int .i64 (if M.cutsOk cuts then 0 else 1)) ∧ Is R' p (M.crash cuts) k ∧ St w0 [] w' ((r.hp 109 ++ L2) ++ R'.hp) := by
  obtain ⟨A, cap, he, hc⟩ := CutsIn.row H hr
  rw [he]
  exact a_crash A cuts.length cap cuts rfl hl hk hI H hL hc
end

/-- What a script leads to. -/
def PM.begun (n : Int) (xs : List POp) : PM := (PM.fresh (1 + n % 8).toNat).run (xs.take 80)
theorem iandm {P : Program} {t : TypeId} {x y : Int} {k : Nat} (hk : k < 63) (hy : y = ((2 ^ k - 1 : Nat) : Int)) : BinV P .and t (.int .i64 x) (.int .i64 y) (.int .i64 (x % 2 ^ k)) := by
  subst hy
  refine binv_and ?_
  have h2 : 2 ^ k < 2 ^ 63 := Nat.pow_lt_pow_right (by omega) hk
  have hpos : 0 < 2 ^ k := Nat.two_pow_pos k
  have e1 : (BitVec.ofInt 64 ((2 ^ k - 1 : Nat) : Int)).toNat = 2 ^ k - 1 := ofInt_toNat (by omega) (by omega)
  have e2 : ((BitVec.ofInt 64 x &&& BitVec.ofInt 64 ((2 ^ k - 1 : Nat) : Int)).toNat : Int) = x % 2 ^ k := by
    rw [BitVec.toNat_and, e1, Nat.and_two_pow_sub_one_eq_mod, BitVec.toNat_ofInt]
    have e3 : (((x % ((2 ^ 64 : Nat) : Int)).toNat % 2 ^ k : Nat) : Int) = (x % ((2 ^ 64 : Nat) : Int)) % ((2 ^ k : Nat) : Int) := by
      rw [Int.natCast_emod, Int.toNat_of_nonneg (Int.emod_nonneg _ (by decide))]
    rw [e3]
    have hd : ((2 ^ k : Nat) : Int) ∣ ((2 ^ 64 : Nat) : Int) := Int.natCast_dvd_natCast.2 (Nat.pow_dvd_pow 2 (by omega))
    rw [Int.emod_emod_of_dvd _ hd]
    congr 1
  show IntKind.i64.wrap _ = _
  rw [show (IntKind.i64.bits) = 64 from rfl, e2]
  have h3 : (0 : Int) ≤ x % 2 ^ k := Int.emod_nonneg _ (by exact_mod_cast Nat.ne_of_gt hpos)
  have h4 : x % 2 ^ k < 2 ^ k := Int.emod_lt_of_pos _ (by norm_cast)
  have h5 : ((2 : Int) ^ k) < 2 ^ 63 := by norm_cast
  exact wrap_i64 (by omega) (by omega)
end Go.Proofs.YtkncbggnaobgeaaDoor

/- Rows of integers that lie one behind the other: what is handed over, and what a call hands back. -/
namespace Go.Proofs.YtkncbggnaobgeaaDoor
open Go.RowKit
set_option linter.unusedVariables false
set_option linter.unusedSimpArgs false
set_option maxRecDepth 100000

def RowsIn (w : World) (A : Option Addr) (s : Nat) (xs : List (List Int)) : Prop := (∀ r ∈ xs, r.length = s) ∧ IntsIn w A xs.flatten
section
variable {w0 w : World} {L : Hp} {R : RM} {p k : Nat} {M : PM}
theorem RowsIn.keep {A : Option Addr} {s : Nat} {xs : List (List Int)} (h : RowsIn w0 A s xs) (H : St w0 [] w L) : RowsIn w A s xs := ⟨h.1, h.2.keep H⟩
theorem RowsIn.at {A : Option Addr} {s : Nat} {xs : List (List Int)} (h : RowsIn w A s xs) (hs : 0 < s) {g : Nat} (hg : g < xs.length) :
    ∃ b o cs t fr, A = some ⟨b, o, none⟩ ∧ w.heap[b]? = some (.cells cs t fr) ∧ ∀ j, j < s → cs[o + g * s + j]? = some (.int .i64 ((xs[g]).getD j 0)) := by
  obtain ⟨f1, f2⟩ := flatten_get hs xs h.1
  have hgl := h.1 _ (List.getElem_mem hg)
  have hmul : g * s + s ≤ xs.length * s := by
    have := Nat.mul_le_mul_right s (show g + 1 ≤ xs.length from hg)
    rw [Nat.add_mul, Nat.one_mul] at this; exact this
  rcases h.2 with h0 | ⟨b, o, cs, t, fr, h1, h2, h3⟩
  · rw [h0] at f1
    simp only [List.length_nil] at f1
    omega
  · refine ⟨b, o, cs, t, fr, h1, h2, fun j hj => ?_⟩
    have hx := f2 (g * s + j) (by omega)
    have e1 : (g * s + j) / s = g := by rw [Nat.mul_comm, Nat.mul_add_div hs, Nat.div_eq_of_lt hj, Nat.add_zero]
    have e2 : (g * s + j) % s = j := by rw [Nat.mul_comm, Nat.mul_add_mod, Nat.mod_eq_of_lt hj]
    rw [e1, e2, List.getElem?_eq_getElem hg] at hx
    simp only [Option.getD_some] at hx
    rw [List.getElem?_eq_getElem (l := xs[g]) (show j < (xs[g]).length by rw [hgl]; exact hj)] at hx
    have := h3 _ _ hx
    rw [← Nat.add_assoc] at this
    rw [this]
    simp [List.getD, List.getElem?_eq_getElem (show j < (xs[g]).length by rw [hgl]; exact hj)]
theorem RowsIn.rd {A : Option Addr} {s : Nat} {xs : List (List Int)} {T : TypeId} {P : Program} (hT : tyB P T true s = true) (h : RowsIn w A s xs) (hs : 0 < s) {g : Nat} (hg : g < xs.length) {b o : Nat} (hA : A = some ⟨b, o, none⟩) : Rd P w T ⟨b, o + g * s, none⟩ (YtkncbggnaobgeaaDoor.arr (xs[g])) := by
  obtain ⟨b', o', cs, t, fr, h1, h2, h3⟩ := h.at hs hg
  rw [hA] at h1
  cases h1
  exact Rd.sub (v := xs[g]) hT h2 (h.1 _ (List.getElem_mem hg)) hs h3
theorem RowsIn.addr {A : Option Addr} {s : Nat} {xs : List (List Int)} (h : RowsIn w A s xs) (hs : 0 < s) {g : Nat} (hg : g < xs.length) : ∃ b o, A = some ⟨b, o, none⟩ := by
  obtain ⟨b', o', cs, t, fr, h1, h2, h3⟩ := h.at hs hg
  exact ⟨b', o', h1⟩
theorem RowsIn.block {g s : Nat} {t : TypeId} {xs : List (List Int)} (h8 : ∀ r ∈ xs, r.length = s) (h : w.heap[g]? = some (.cells (arrC xs.flatten) t)) : RowsIn w (some ⟨g, 0, none⟩) s xs :=
  ⟨h8, .inr ⟨g, 0, _, t, _, rfl, h, fun j u hj => by rw [Nat.zero_add, arrC_get, hj]; rfl⟩⟩
theorem flatP_ints (ps : List (Int × Int)) : flatP ps = intsC (ps.map fun p => [p.1, p.2]).flatten := by
  unfold flatP intsC
  induction ps with
  | nil => rfl
  | cons p ps ih => rw [List.flatMap_cons, ih]; simp
theorem flatE_ints (es : List (List Int)) : flatE es = intsC es.flatten := by
  unfold flatE intsC
  induction es with
  | nil => rfl
  | cons p ps ih =>
    rw [List.flatMap_cons, ih]; simp [intsC]
/-- A row that was handed back. -/
theorem RowsIn.row {r : Row} {s n : Nat} {T : TypeId} {xs : List (List Int)} (h8 : ∀ v ∈ xs, v.length = s) (hn : n = xs.length) (hr : r.ok s n (intsC xs.flatten)) (hs : ∀ q ∈ r.hp T, w.heap[q.1]? = some q.2) : ∃ A cap, r.val n = .slice A n cap ∧ RowsIn w A s xs := by
  cases r with
  | none =>
    refine ⟨none, 0, rfl, h8, .inl ?_⟩
    have := hr.2
    unfold intsC at this
    exact List.map_eq_nil_iff.1 this
  | nul a =>
    refine ⟨some a, 0, rfl, h8, .inl ?_⟩
    have := hr.2
    unfold intsC at this
    exact List.map_eq_nil_iff.1 this
  | some g cap cur =>
    refine ⟨some ⟨g, 0, none⟩, cap, rfl, h8, .inr ⟨g, 0, cur, T, _, rfl, hs _ List.mem_cons_self, fun j u hj => ?_⟩⟩
    rw [Nat.zero_add]
    exact Row.ok_get hr (by unfold intsC; rw [List.getElem?_map, hj]; rfl)
theorem seenC_rows (ls : List PL) : seenC ls = (ls.map shown).flatten := by
  unfold seenC shown
  rw [List.flatMap_def]
theorem RowsIn.seen {g : Nat} {t : TypeId} {ls : List PL} (h8 : ∀ r ∈ ls.map shown, r.length = 8) (h : w.heap[g]? = some (.cells (arrC (seenC ls)) t)) : RowsIn w (some ⟨g, 0, none⟩) 8 (ls.map shown) := RowsIn.block h8 (by rw [← seenC_rows]; exact h)
theorem Is.shown8 (hI : Is R p M k) : ∀ r ∈ M.ls.map shown, r.length = 8 := by
  intro x hx
  obtain ⟨l, hl, rfl⟩ := List.mem_map.1 hx
  exact pShow_len (hI.lok l hl).1
end
end Go.Proofs.YtkncbggnaobgeaaDoor

/- Walks of functions of the program; printed by a program of this session (walk.py) out of hand-written hints. -/
namespace Go.Proofs.YtkncbggnaobgeaaDoor
open Go.RowKit
set_option linter.unusedVariables false
set_option linter.unusedSimpArgs false
set_option maxRecDepth 100000

theorem SX.st0 {w w' : World} (h : SX w [] w') : St w [] w' [] := by
  obtain ⟨H, h⟩ := h
  exact h.weaken (List.nil_sublist _)

theorem sameSeen_any (A A2 : Option Addr) (m m2 cap cap2 : Nat) (xs ys : List (List Int)) (hm : m = xs.length) (hm2 : m2 = ys.length) (w : World) (hx : RowsIn w A 8 xs) (hy : RowsIn w A2 8 ys) (hm63 : m ≤ 9223372036854775807) : Calls Tryd.prog 42 #[.slice A m cap, .slice A2 m2 cap2] w fun e w' => e = .returned (.bool (decide (xs = ys))) ∧ St w [] w' [] := by
  refine calls_walk_n (args := [.slice A m cap, .slice A2 m2 cap2]) Tryd.func42 rfl rfl rfl ?_
  have H := St.refl w
  refine WC.seq ?_
  refine WC.region ?_
  refine WL.assign rfl rfl ?_
  refine (WL.done (WX.next ?_))
  refine WC.seq ?_
  refine WC.seq ?_
  refine WC.region ?_
  refine WL.move rfl rfl ?_
  refine WL.lenSlc isl45 rfl rfl ?_
  refine WL.move rfl rfl ?_
  refine WL.lenSlc isl45 rfl rfl ?_
  refine WL.bin rfl rfl binv_neq rfl ?_
  refine (WL.done (WX.next ?_))
  refine WC.cond_dec rfl (fun c1 => ?_) (fun c1 => ?_)
  ·
    refine WC.seq ?_
    refine WC.region ?_
    refine WL.assign rfl rfl ?_
    refine (WL.done (WX.next ?_))
    refine (WC.ret (WX.then_ret ?_))
    refine ret_one rfl rfl ?_
    have hne : ¬ xs = ys := fun h => by rw [h] at hm; omega
    rw [decide_eq_false hne]
    exact ⟨rfl, H⟩
  ·
    have hmm : xs.length = ys.length := by omega
    refine (WC.skip (WX.next ?_))
    refine WC.seq ?_
    refine WC.seq ?_
    refine WC.region ?_
    refine WL.assign rfl rfl ?_
    refine (WL.done (WX.next ?_))
    refine WC.block ?_
    -- loop 1: changed [5] kept [0, 1]
    refine WC.loop (Sub.cons (t := 0) rfl (Sub.cons (t := 1) rfl (Sub.nil _))) (fun i : Nat => [(5, .int .i64 (i : Int))]) (fun q i wx => q = m - i ∧ i ≤ m ∧ xs.take i = ys.take i ∧ St w [] wx []) (m) (0) (Sub.cons (t := 5) (by rfl) (Sub.nil _)) (⟨rfl, by omega, rfl, H⟩) ?_
    rintro k g wx hI N hN
    obtain ⟨rfl, hg, hall, H⟩ := hI
    refine WC.seq ?_
    refine WC.seq ?_
    refine WC.region ?_
    refine WL.move rfl rfl ?_
    refine WL.move rfl rfl ?_
    refine WL.lenSlc isl45 rfl rfl ?_
    refine WL.bin rfl rfl binv_lss rfl ?_
    refine (WL.done (WX.next ?_))
    refine WC.cond_dec rfl (fun c2 => ?_) (fun c2 => ?_)
    ·
      refine (WC.skip (WX.next ?_))
      refine WC.seq ?_
      refine WC.block ?_
      refine WC.seq ?_
      have hlt : g < xs.length := by omega
      have hlt2 : g < ys.length := by omega
      have hx8 := hx.1 _ (List.getElem_mem hlt)
      have hy8 := hy.1 _ (List.getElem_mem hlt2)
      obtain ⟨b, o, rfl⟩ := hx.addr (by omega) hlt
      obtain ⟨b2, o2, rfl⟩ := hy.addr (by omega) hlt2
      replace H := H.drew
      refine WC.held (SX (World.drew wx) []) (by kernel_rfl) ?_
      generalize World.drew wx = wb at H ⊢
      have HB := St.refl wb
      refine WH.take 0 rfl (by kernel_rfl) (by kernel_rfl) (by kernel_rfl) (fun _ _ _ h => h) ⟨_, HB⟩ (fun w' hS => EX.move rfl) rfl ?_
      refine WH.take 1 rfl (by kernel_rfl) (by kernel_rfl) (by kernel_rfl) (fun _ _ _ h => h) ⟨_, HB⟩ (fun w' hS => EX.move rfl) rfl ?_
      refine WH.take 2 rfl (by kernel_rfl) (by kernel_rfl) (by kernel_rfl) (fun _ _ _ h => h) ⟨_, HB⟩ (fun w' hS => EX.idxSlc (k := g) slc45 rfl rfl (by rfl) (by omega)) rfl ?_
      refine WH.take 3 rfl (by kernel_rfl) (by kernel_rfl) (by kernel_rfl) (fun _ _ _ h => h) ⟨_, HB⟩ (fun w' hS => EX.load rfl (((hx.keep H).keep (SX.st0 hS)).rd ty38 (by omega) hlt rfl)) rfl ?_
      refine WH.take 4 rfl (by kernel_rfl) (by kernel_rfl) (by kernel_rfl) (fun _ _ _ h => h) ⟨_, HB⟩ (fun w' hS => EX.move rfl) rfl ?_
      refine WH.take 5 rfl (by kernel_rfl) (by kernel_rfl) (by kernel_rfl) (fun _ _ _ h => h) ⟨_, HB⟩ (fun w' hS => EX.move rfl) rfl ?_
      refine WH.take 6 rfl (by kernel_rfl) (by kernel_rfl) (by kernel_rfl) (fun _ _ _ h => h) ⟨_, HB⟩ (fun w' hS => EX.idxSlc (k := g) slc45 rfl rfl (by rfl) (by omega)) rfl ?_
      refine WH.take 7 rfl (by kernel_rfl) (by kernel_rfl) (by kernel_rfl) (fun _ _ _ h => h) ⟨_, HB⟩ (fun w' hS => EX.load rfl (((hy.keep H).keep (SX.st0 hS)).rd ty38 (by omega) hlt2 rfl)) rfl ?_
      refine WH.take 8 rfl (by kernel_rfl) (by kernel_rfl) (by kernel_rfl) (fun _ _ _ h => h) ⟨_, HB⟩ (fun w' hS => EX.bin rfl rfl (binv_agg_neq eqI38.up (by kernel_rfl) hx8 hy8)) rfl ?_
      refine WH.done (by kernel_rfl) ?_
      replace H := H.call HB
      refine WX.next ?_
      refine WC.cond rfl (fun c3 => ?_) (fun c3 => ?_)
      ·
        refine WC.seq ?_
        refine WC.region ?_
        refine WL.assign rfl rfl ?_
        refine (WL.done (WX.next ?_))
        refine (WC.ret (WX.block_ret (WX.then_ret (WX.then_ret (WX.block_ret (WX.then_ret ?_))))))
        refine ret_one rfl rfl ?_
        have hne : ¬ xs = ys := fun h => by subst h; simp at c3
        rw [decide_eq_false hne]
        exact ⟨rfl, H⟩
      ·
        refine (WC.skip (WX.block_normal (WX.next ?_)))
        refine WC.region ?_
        refine WL.move rfl rfl ?_
        refine WL.bin rfl rfl (iadd (by omega) (by omega)) rfl ?_
        refine WL.assign rfl rfl ?_
        refine (WL.done (WX.round ?_))
        have heq : xs[g] = ys[g] := by simpa using c3
        exact hN _ (g+1) _ _ (by omega) ⟨rfl, by omega, take_eq_succ hlt hlt2 hall heq, H⟩ (Sub.cons (t := 5) (by rfl) (Sub.nil _)) (Sub.cons (t := 0) rfl (Sub.cons (t := 1) rfl (Sub.nil _)))
    ·
      refine (WC.exit (WX.then_exit (WX.then_exit (WX.block_exit (WX.next ?_)))))
      refine WC.seq ?_
      refine WC.region ?_
      refine WL.assign rfl rfl ?_
      refine (WL.done (WX.next ?_))
      refine (WC.ret ?_)
      refine ret_one rfl rfl ?_
      have heq : xs = ys := by rw [List.take_of_length_le (by omega), List.take_of_length_le (by omega)] at hall; exact hall
      rw [decide_eq_true heq]
      exact ⟨rfl, H⟩

theorem sameStores_any (A A2 : Option Addr) (m m2 cap cap2 : Nat) (xs ys : List (List Int)) (hm : m = xs.length) (hm2 : m2 = ys.length) (w : World) (hx : RowsIn w A 2 xs) (hy : RowsIn w A2 2 ys) (hm63 : m ≤ 9223372036854775807) : Calls Tryd.prog 45 #[.slice A m cap, .slice A2 m2 cap2] w fun e w' => e = .returned (.bool (decide (xs = ys))) ∧ St w [] w' [] := by
  refine calls_walk_n (args := [.slice A m cap, .slice A2 m2 cap2]) Tryd.func45 rfl rfl rfl ?_
  have H := St.refl w
  refine WC.seq ?_
  refine WC.region ?_
  refine WL.assign rfl rfl ?_
  refine (WL.done (WX.next ?_))
  refine WC.seq ?_
  refine WC.seq ?_
  refine WC.region ?_
  refine WL.move rfl rfl ?_
  refine WL.lenSlc isl52 rfl rfl ?_
  refine WL.move rfl rfl ?_
  refine WL.lenSlc isl52 rfl rfl ?_
  refine WL.bin rfl rfl binv_neq rfl ?_
  refine (WL.done (WX.next ?_))
  refine WC.cond_dec rfl (fun c1 => ?_) (fun c1 => ?_)
  ·
    refine WC.seq ?_
    refine WC.region ?_
    refine WL.assign rfl rfl ?_
    refine (WL.done (WX.next ?_))
    refine (WC.ret (WX.then_ret ?_))
    refine ret_one rfl rfl ?_
    have hne : ¬ xs = ys := fun h => by rw [h] at hm; omega
    rw [decide_eq_false hne]
    exact ⟨rfl, H⟩
  ·
    have hmm : xs.length = ys.length := by omega
    refine (WC.skip (WX.next ?_))
    refine WC.seq ?_
    refine WC.seq ?_
    refine WC.region ?_
    refine WL.assign rfl rfl ?_
    refine (WL.done (WX.next ?_))
    refine WC.block ?_
    -- loop 1: changed [5] kept [0, 1]
    refine WC.loop (Sub.cons (t := 0) rfl (Sub.cons (t := 1) rfl (Sub.nil _))) (fun i : Nat => [(5, .int .i64 (i : Int))]) (fun q i wx => q = m - i ∧ i ≤ m ∧ xs.take i = ys.take i ∧ St w [] wx []) (m) (0) (Sub.cons (t := 5) (by rfl) (Sub.nil _)) (⟨rfl, by omega, rfl, H⟩) ?_
    rintro k g wx hI N hN
    obtain ⟨rfl, hg, hall, H⟩ := hI
    refine WC.seq ?_
    refine WC.seq ?_
    refine WC.region ?_
    refine WL.move rfl rfl ?_
    refine WL.move rfl rfl ?_
    refine WL.lenSlc isl52 rfl rfl ?_
    refine WL.bin rfl rfl binv_lss rfl ?_
    refine (WL.done (WX.next ?_))
    refine WC.cond_dec rfl (fun c2 => ?_) (fun c2 => ?_)
    ·
      refine (WC.skip (WX.next ?_))
      refine WC.seq ?_
      refine WC.block ?_
      refine WC.seq ?_
      have hlt : g < xs.length := by omega
      have hlt2 : g < ys.length := by omega
      have hx8 := hx.1 _ (List.getElem_mem hlt)
      have hy8 := hy.1 _ (List.getElem_mem hlt2)
      obtain ⟨b, o, rfl⟩ := hx.addr (by omega) hlt
      obtain ⟨b2, o2, rfl⟩ := hy.addr (by omega) hlt2
      replace H := H.drew
      refine WC.held (SX (World.drew wx) []) (by kernel_rfl) ?_
      generalize World.drew wx = wb at H ⊢
      have HB := St.refl wb
      refine WH.take 0 rfl (by kernel_rfl) (by kernel_rfl) (by kernel_rfl) (fun _ _ _ h => h) ⟨_, HB⟩ (fun w' hS => EX.move rfl) rfl ?_
      refine WH.take 1 rfl (by kernel_rfl) (by kernel_rfl) (by kernel_rfl) (fun _ _ _ h => h) ⟨_, HB⟩ (fun w' hS => EX.move rfl) rfl ?_
      refine WH.take 2 rfl (by kernel_rfl) (by kernel_rfl) (by kernel_rfl) (fun _ _ _ h => h) ⟨_, HB⟩ (fun w' hS => EX.idxSlc (k := g) slc52 rfl rfl (by rfl) (by omega)) rfl ?_
      refine WH.take 3 rfl (by kernel_rfl) (by kernel_rfl) (by kernel_rfl) (fun _ _ _ h => h) ⟨_, HB⟩ (fun w' hS => EX.load rfl (((hx.keep H).keep (SX.st0 hS)).rd ty111 (by omega) hlt rfl)) rfl ?_
      refine WH.take 4 rfl (by kernel_rfl) (by kernel_rfl) (by kernel_rfl) (fun _ _ _ h => h) ⟨_, HB⟩ (fun w' hS => EX.move rfl) rfl ?_
      refine WH.take 5 rfl (by kernel_rfl) (by kernel_rfl) (by kernel_rfl) (fun _ _ _ h => h) ⟨_, HB⟩ (fun w' hS => EX.move rfl) rfl ?_
      refine WH.take 6 rfl (by kernel_rfl) (by kernel_rfl) (by kernel_rfl) (fun _ _ _ h => h) ⟨_, HB⟩ (fun w' hS => EX.idxSlc (k := g) slc52 rfl rfl (by rfl) (by omega)) rfl ?_
      refine WH.take 7 rfl (by kernel_rfl) (by kernel_rfl) (by kernel_rfl) (fun _ _ _ h => h) ⟨_, HB⟩ (fun w' hS => EX.load rfl (((hy.keep H).keep (SX.st0 hS)).rd ty111 (by omega) hlt2 rfl)) rfl ?_
      refine WH.take 8 rfl (by kernel_rfl) (by kernel_rfl) (by kernel_rfl) (fun _ _ _ h => h) ⟨_, HB⟩ (fun w' hS => EX.bin rfl rfl (binv_agg_neq eqI111 (by kernel_rfl) hx8 hy8)) rfl ?_
      refine WH.done (by kernel_rfl) ?_
      replace H := H.call HB
      refine WX.next ?_
      refine WC.cond rfl (fun c3 => ?_) (fun c3 => ?_)
      ·
        refine WC.seq ?_
        refine WC.region ?_
        refine WL.assign rfl rfl ?_
        refine (WL.done (WX.next ?_))
        refine (WC.ret (WX.block_ret (WX.then_ret (WX.then_ret (WX.block_ret (WX.then_ret ?_))))))
        refine ret_one rfl rfl ?_
        have hne : ¬ xs = ys := fun h => by subst h; simp at c3
        rw [decide_eq_false hne]
        exact ⟨rfl, H⟩
      ·
        refine (WC.skip (WX.block_normal (WX.next ?_)))
        refine WC.region ?_
        refine WL.move rfl rfl ?_
        refine WL.bin rfl rfl (iadd (by omega) (by omega)) rfl ?_
        refine WL.assign rfl rfl ?_
        refine (WL.done (WX.round ?_))
        have heq : xs[g] = ys[g] := by simpa using c3
        exact hN _ (g+1) _ _ (by omega) ⟨rfl, by omega, take_eq_succ hlt hlt2 hall heq, H⟩ (Sub.cons (t := 5) (by rfl) (Sub.nil _)) (Sub.cons (t := 0) rfl (Sub.cons (t := 1) rfl (Sub.nil _)))
    ·
      refine (WC.exit (WX.then_exit (WX.then_exit (WX.block_exit (WX.next ?_)))))
      refine WC.seq ?_
      refine WC.region ?_
      refine WL.assign rfl rfl ?_
      refine (WL.done (WX.next ?_))
      refine (WC.ret ?_)
      refine ret_one rfl rfl ?_
      have heq : xs = ys := by rw [List.take_of_length_le (by omega), List.take_of_length_le (by omega)] at hall; exact hall
      rw [decide_eq_true heq]
      exact ⟨rfl, H⟩

end Go.Proofs.YtkncbggnaobgeaaDoor

/- Walks of functions of the program; printed by a program of this session (walk.py) out of hand-written hints. -/
namespace Go.Proofs.YtkncbggnaobgeaaDoor
open Go.RowKit
set_option linter.unusedVariables false
set_option linter.unusedSimpArgs false
set_option maxRecDepth 100000

theorem opC_w {x : POp} {A : Option Addr} {cap : Nat} : (opC x A cap).toArray = (intsC [x.kind, x.a, x.b] ++ (intsC x.ws ++ [Value.slice A x.cuts.length cap])).toArray := rfl
theorem opC_s {x : POp} {A : Option Addr} {cap : Nat} : (opC x A cap).toArray = ((intsC [x.kind, x.a, x.b] ++ intsC x.ws) ++ ([Value.slice A x.cuts.length cap] ++ [])).toArray := by simp [opC]
theorem Rd.opW {w : World} {b : Nat} {t : TypeId} {fr : Nat × Nat} {x : POp} {A : Option Addr} {cap : Nat} (h8 : x.ws.length = 8) (h : w.heap[b]? = some (.cells (opC x A cap).toArray t)) : Rd Tryd.prog w 38 ⟨b, 0 + 3, none⟩ (YtkncbggnaobgeaaDoor.arr x.ws) := by
  rw [opC_w] at h
  exact Rd.mid (x := intsC x.ws) ty38 h (by simp [intsC]) (by simp [intsC, h8])
theorem Rd.opS {w : World} {b : Nat} {t : TypeId} {fr : Nat × Nat} {x : POp} {A : Option Addr} {cap : Nat} (h8 : x.ws.length = 8) (h : w.heap[b]? = some (.cells (opC x A cap).toArray t)) : Rd Tryd.prog w 50 ⟨b, 0 + 11, none⟩ (.slice A x.cuts.length cap) := by
  rw [opC_s] at h
  exact Rd.mid1 ty50 h (by simp [intsC, h8])

theorem do_any {w0 w : World} {L : Hp} {R : RM} {p k : Nat} {M : PM} (x : POp) (A : Option Addr) (cap : Nat) (hx : x.ok) (hc : CutsIn w0 A x.cuts []) (hk : k < 1073741824) (hI : Is R p M k) (H : St w0 [] w (L ++ R.hp)) (hL : L64 w0) : Calls Tryd.prog 44 #[ptr p, .agg (opC x A cap).toArray] w fun e w' => ∃ R', e = .returned (.tuple #[.int .i64 (M.res x).1, .int .i64 (M.res x).2]) ∧ Is R' p (M.do x) (k + 1) ∧ St w0 [] w' (L ++ R'.hp) := by
  refine calls_walk_n (args := [ptr p, .agg (opC x A cap).toArray]) Tryd.func44 rfl rfl rfl ?_
  
  refine WC.seq ?_
  refine WC.region ?_
  refine WL.box (v := .agg (opC x A cap).toArray) H rfl rfl ?_
  intro b3 wx hb3 hge3 H
  change St w0 [] wx ((b3, .cells (opC x A cap).toArray 60) :: (L ++ R.hp)) at H
  refine WL.assign rfl rfl ?_
  refine WL.assign rfl rfl ?_
  refine (WL.done (WX.next ?_))
  refine WC.seq ?_
  refine WC.seq ?_
  refine WC.region ?_
  refine WL.fieldAddr fld60_0 rfl rfl ?_
  refine WL.load rfl (H.rd1 ty3 0 rfl rfl) rfl ?_
  refine (WL.done (WX.next ?_))
  refine WC.block ?_
  refine WC.seq ?_
  refine WC.region ?_
  refine WL.bin rfl rfl binv_eql rfl ?_
  refine WL.assign rfl rfl ?_
  refine (WL.done (WX.next ?_))
  refine WC.cond_dec rfl (fun c1 => ?_) (fun c1 => ?_)
  ·
    refine WC.seq ?_
    refine WC.region ?_
    refine WL.move rfl rfl ?_
    refine WL.fieldAddr fld60_1 rfl rfl ?_
    refine WL.load rfl (H.rd1 ty3 0 rfl rfl) rfl ?_
    refine WL.fieldAddr fld60_2 rfl rfl ?_
    refine WL.load rfl (H.rd1 ty3 0 rfl rfl) rfl ?_
    refine WL.call call56 rfl rfl ?_
    refine Calls.mono (a_store (L := (b3, .cells (opC x A cap).toArray 60) :: L) x.a x.b hx.a (by omega) hI H hL) ?_
    rintro _ wx ⟨R1, rfl, hI, H⟩
    refine ⟨_, rfl, ?_⟩
    refine WL.assign rfl rfl ?_
    refine WL.assign rfl rfl ?_
    refine (WL.done (WX.next ?_))
    refine (WC.ret (WX.block_ret (WX.then_ret ?_)))
    refine ret_two rfl rfl rfl ?_
    have e1 : M.do x = M.put 1 x.a x.b := by simp [PM.do, c1]
    have e2 : M.res x = (0, M.putErr x.a x.b) := by simp [PM.res, c1]
    rw [e1, e2]
    exact ⟨R1, rfl, hI.mono (by omega), H.tail⟩
  ·
    refine WC.seq ?_
    refine WC.region ?_
    refine WL.bin rfl rfl binv_eql rfl ?_
    refine WL.assign rfl rfl ?_
    refine (WL.done (WX.next ?_))
    refine WC.cond_dec rfl (fun c2 => ?_) (fun c2 => ?_)
    ·
      refine WC.seq ?_
      refine WC.region ?_
      refine WL.move rfl rfl ?_
      refine WL.fieldAddr fld60_1 rfl rfl ?_
      refine WL.load rfl (H.rd1 ty3 0 rfl rfl) rfl ?_
      refine WL.fieldAddr fld60_2 rfl rfl ?_
      refine WL.load rfl (H.rd1 ty3 0 rfl rfl) rfl ?_
      refine WL.call call110 rfl rfl ?_
      refine Calls.mono (a_publish (L := (b3, .cells (opC x A cap).toArray 60) :: L) x.a x.b hx.a (by omega) hI H hL) ?_
      rintro _ wx ⟨R1, rfl, hI, H⟩
      refine ⟨_, rfl, ?_⟩
      refine WL.assign rfl rfl ?_
      refine WL.assign rfl rfl ?_
      refine (WL.done (WX.next ?_))
      refine (WC.ret (WX.block_ret (WX.then_ret ?_)))
      refine ret_two rfl rfl rfl ?_
      have e1 : M.do x = M.put 2 x.a x.b := by simp [PM.do, c2]
      have e2 : M.res x = (0, M.putErr x.a x.b) := by simp [PM.res, c2]
      rw [e1, e2]
      exact ⟨R1, rfl, hI.mono (by omega), H.tail⟩
    ·
      refine WC.seq ?_
      refine WC.region ?_
      refine WL.bin rfl rfl binv_eql rfl ?_
      refine WL.assign rfl rfl ?_
      refine (WL.done (WX.next ?_))
      refine WC.cond_dec rfl (fun c3 => ?_) (fun c3 => ?_)
      ·
        refine WC.seq ?_
        refine WC.region ?_
        refine WL.move rfl rfl ?_
        refine WL.fieldAddr fld60_1 rfl rfl ?_
        refine WL.load rfl (H.rd1 ty3 0 rfl rfl) rfl ?_
        refine WL.call call61 rfl rfl ?_
        refine Calls.mono (a_span (L := (b3, .cells (opC x A cap).toArray 60) :: L) x.a hx.a.2 hI H hL) ?_
        rintro _ wx ⟨R1, rfl, hI, H⟩
        refine ⟨_, rfl, ?_⟩
        refine (WL.done (WX.next ?_))
        refine WC.seq ?_
        refine WC.region ?_
        refine WL.assign rfl rfl ?_
        refine WL.assign rfl rfl ?_
        refine (WL.done (WX.next ?_))
        refine (WC.ret (WX.block_ret (WX.then_ret ?_)))
        refine ret_two rfl rfl rfl ?_
        have e1 : M.do x = { M with span := if 0 > x.a then 0 else x.a } := by simp [PM.do, c3]
        have e2 : M.res x = (0, 0) := by simp [PM.res, c3]
        rw [e1, e2]
        exact ⟨R1, rfl, hI.mono (by omega), H.tail⟩
      ·
        refine WC.seq ?_
        refine WC.region ?_
        refine WL.bin rfl rfl binv_eql rfl ?_
        refine WL.assign rfl rfl ?_
        refine (WL.done (WX.next ?_))
        refine WC.cond_dec rfl (fun c4 => ?_) (fun c4 => ?_)
        ·
          refine WC.seq ?_
          refine WC.region ?_
          refine WL.move rfl rfl ?_
          refine WL.fieldAddr fld60_1 rfl rfl ?_
          refine WL.load rfl (H.rd1 ty3 0 rfl rfl) rfl ?_
          refine WL.call call35 rfl rfl ?_
          refine Calls.mono (a_flush (L := (b3, .cells (opC x A cap).toArray 60) :: L) x.a (by omega) hI H hL) ?_
          rintro _ wx ⟨R1, rfl, hI, H⟩
          refine ⟨_, rfl, ?_⟩
          refine WL.assign rfl rfl ?_
          refine WL.assign rfl rfl ?_
          refine (WL.done (WX.next ?_))
          refine (WC.ret (WX.block_ret (WX.then_ret ?_)))
          refine ret_two rfl rfl rfl ?_
          have e1 : M.do x = M.flush x.a := by simp [PM.do, c4]
          have e2 : M.res x = (0, if M.has x.a then 0 else 40) := by simp [PM.res, c4]
          rw [e1, e2]
          exact ⟨R1, rfl, hI.mono (by omega), H.tail⟩
        ·
          refine WC.seq ?_
          refine WC.region ?_
          refine WL.bin rfl rfl binv_eql rfl ?_
          refine WL.assign rfl rfl ?_
          refine (WL.done (WX.next ?_))
          refine WC.cond_dec rfl (fun c5 => ?_) (fun c5 => ?_)
          ·
            refine WC.seq ?_
            refine WC.region ?_
            refine WL.move rfl rfl ?_
            refine WL.call call36 rfl rfl ?_
            refine Calls.mono (a_fence (L := (b3, .cells (opC x A cap).toArray 60) :: L) (by omega) hI H hL) ?_
            rintro _ wx ⟨R1, rfl, hI, H⟩
            refine ⟨_, rfl, ?_⟩
            refine (WL.done (WX.next ?_))
            refine WC.seq ?_
            refine WC.region ?_
            refine WL.assign rfl rfl ?_
            refine WL.assign rfl rfl ?_
            refine (WL.done (WX.next ?_))
            refine (WC.ret (WX.block_ret (WX.then_ret ?_)))
            refine ret_two rfl rfl rfl ?_
            have e1 : M.do x = M.fence := by simp [PM.do, c5]
            have e2 : M.res x = (0, 0) := by simp [PM.res, c5]
            rw [e1, e2]
            exact ⟨R1, rfl, hI.mono (by omega), H.tail⟩
          ·
            refine WC.seq ?_
            refine WC.region ?_
            refine WL.bin rfl rfl binv_eql rfl ?_
            refine WL.assign rfl rfl ?_
            refine (WL.done (WX.next ?_))
            refine WC.cond_dec rfl (fun c6 => ?_) (fun c6 => ?_)
            ·
              refine WC.seq ?_
              refine WC.region ?_
              refine WL.move rfl rfl ?_
              refine WL.fieldAddr fld60_1 rfl rfl ?_
              refine WL.load rfl (H.rd1 ty3 0 rfl rfl) rfl ?_
              refine WL.fieldAddr fld60_2 rfl rfl ?_
              refine WL.load rfl (H.rd1 ty3 0 rfl rfl) rfl ?_
              refine WL.call call40 rfl rfl ?_
              refine Calls.mono (a_evict (L := (b3, .cells (opC x A cap).toArray 60) :: L) x.a x.b (by omega) hI H hL) ?_
              rintro _ wx ⟨R1, rfl, hI, H⟩
              refine ⟨_, rfl, ?_⟩
              refine WL.assign rfl rfl ?_
              refine WL.assign rfl rfl ?_
              refine (WL.done (WX.next ?_))
              refine (WC.ret (WX.block_ret (WX.then_ret ?_)))
              refine ret_two rfl rfl rfl ?_
              have e1 : M.do x = M.evict x.a x.b := by simp [PM.do, c6]
              have e2 : M.res x = (0, M.evictErr x.a x.b) := by simp [PM.res, c6]
              rw [e1, e2]
              exact ⟨R1, rfl, hI.mono (by omega), H.tail⟩
            ·
              refine WC.seq ?_
              refine WC.region ?_
              refine WL.bin rfl rfl binv_eql rfl ?_
              refine WL.assign rfl rfl ?_
              refine (WL.done (WX.next ?_))
              refine WC.cond_dec rfl (fun c7 => ?_) (fun c7 => ?_)
              ·
                refine WC.seq ?_
                refine WC.region ?_
                refine WL.move rfl rfl ?_
                refine WL.fieldAddr fld60_1 rfl rfl ?_
                refine WL.load rfl (H.rd1 ty3 0 rfl rfl) rfl ?_
                refine WL.fieldAddr fld60_3 rfl rfl ?_
                refine WL.load rfl (Rd.opW (fr := (0, 0)) hx.w8 (H.blk 0 rfl)) rfl ?_
                refine WL.call call111 rfl rfl ?_
                refine Calls.mono (a_heal (L := (b3, .cells (opC x A cap).toArray 60) :: L) x.a x.ws hx.w8 (by omega) hI H hL) ?_
                rintro _ wx ⟨R1, rfl, hI, H⟩
                refine ⟨_, rfl, ?_⟩
                refine WL.assign rfl rfl ?_
                refine WL.assign rfl rfl ?_
                refine (WL.done (WX.next ?_))
                refine (WC.ret (WX.block_ret (WX.then_ret ?_)))
                refine ret_two rfl rfl rfl ?_
                have e1 : M.do x = M.heal x.a x.ws := by simp [PM.do, c7]
                have e2 : M.res x = (0, M.healErr x.a x.ws) := by simp [PM.res, c7]
                rw [e1, e2]
                exact ⟨R1, rfl, hI.mono (by omega), H.tail⟩
              ·
                refine WC.seq ?_
                refine WC.region ?_
                refine WL.bin rfl rfl binv_eql rfl ?_
                refine WL.assign rfl rfl ?_
                refine (WL.done (WX.next ?_))
                refine WC.cond_dec rfl (fun c8 => ?_) (fun c8 => ?_)
                ·
                  refine WC.seq ?_
                  refine WC.region ?_
                  refine WL.move rfl rfl ?_
                  refine WL.fieldAddr fld60_1 rfl rfl ?_
                  refine WL.load rfl (H.rd1 ty3 0 rfl rfl) rfl ?_
                  refine WL.fieldAddr fld60_3 rfl rfl ?_
                  refine WL.load rfl (Rd.opW (fr := (0, 0)) hx.w8 (H.blk 0 rfl)) rfl ?_
                  refine WL.fieldAddr fld60_2 rfl rfl ?_
                  refine WL.load rfl (H.rd1 ty3 0 rfl rfl) rfl ?_
                  refine WL.call call51 rfl rfl ?_
                  refine Calls.mono (a_rot (L := (b3, .cells (opC x A cap).toArray 60) :: L) x.a x.ws hx.w8 x.b (by omega) hI H hL) ?_
                  rintro _ wx ⟨R1, rfl, hI, H⟩
                  refine ⟨_, rfl, ?_⟩
                  refine WL.assign rfl rfl ?_
                  refine WL.assign rfl rfl ?_
                  refine (WL.done (WX.next ?_))
                  refine (WC.ret (WX.block_ret (WX.then_ret ?_)))
                  refine ret_two rfl rfl rfl ?_
                  have e1 : M.do x = M.rot x.a x.ws x.b := by simp [PM.do, c8]
                  have e2 : M.res x = (0, M.rotErr x.a x.ws x.b) := by simp [PM.res, c8]
                  rw [e1, e2]
                  exact ⟨R1, rfl, hI.mono (by omega), H.tail⟩
                ·
                  refine WC.seq ?_
                  refine WC.region ?_
                  refine WL.bin rfl rfl binv_eql rfl ?_
                  refine WL.assign rfl rfl ?_
                  refine (WL.done (WX.next ?_))
                  refine WC.cond_dec rfl (fun c9 => ?_) (fun c9 => ?_)
                  ·
                    refine WC.seq ?_
                    refine WC.region ?_
                    refine WL.move rfl rfl ?_
                    refine WL.fieldAddr fld60_4 rfl rfl ?_
                    refine WL.load rfl (Rd.opS (fr := (0, 0)) hx.w8 (H.blk 0 rfl)) rfl ?_
                    refine WL.call call37 rfl rfl ?_
                    refine Calls.mono (a_crash (L := (b3, .cells (opC x A cap).toArray 60) :: L) A x.cuts.length cap x.cuts rfl hx.n (by omega) hI H hL (hc.keep (L := (b3, .cells (opC x A cap).toArray 60) :: L) H)) ?_
                    rintro _ wx ⟨R1, rfl, hI, H⟩
                    refine ⟨_, rfl, ?_⟩
                    refine WL.assign rfl rfl ?_
                    refine WL.assign rfl rfl ?_
                    refine (WL.done (WX.next ?_))
                    refine (WC.ret (WX.block_ret (WX.then_ret ?_)))
                    refine ret_two rfl rfl rfl ?_
                    have e1 : M.do x = M.crash x.cuts := by simp [PM.do, c9]
                    have e2 : M.res x = (0, if M.cutsOk x.cuts then 0 else 1) := by simp [PM.res, c9]
                    rw [e1, e2]
                    exact ⟨R1, rfl, hI.mono (by omega), H.tail⟩
                  ·
                    refine WC.seq ?_
                    refine WC.region ?_
                    refine WL.bin rfl rfl binv_eql rfl ?_
                    refine WL.assign rfl rfl ?_
                    refine (WL.done (WX.next ?_))
                    refine WC.cond_dec rfl (fun c10 => ?_) (fun c10 => ?_)
                    ·
                      refine WC.seq ?_
                      refine WC.region ?_
                      refine WL.move rfl rfl ?_
                      refine WL.call call112 rfl rfl ?_
                      refine Calls.mono (a_forget (L := (b3, .cells (opC x A cap).toArray 60) :: L) hI H hL) ?_
                      rintro _ wx ⟨R1, rfl, hI, H⟩
                      refine ⟨_, rfl, ?_⟩
                      refine (WL.done (WX.next ?_))
                      refine WC.seq ?_
                      refine WC.region ?_
                      refine WL.assign rfl rfl ?_
                      refine WL.assign rfl rfl ?_
                      refine (WL.done (WX.next ?_))
                      refine (WC.ret (WX.block_ret (WX.then_ret ?_)))
                      refine ret_two rfl rfl rfl ?_
                      have e1 : M.do x = { M with evs := [] } := by simp [PM.do, c10]
                      have e2 : M.res x = (0, 0) := by simp [PM.res, c10]
                      rw [e1, e2]
                      exact ⟨R1, rfl, hI.mono (by omega), H.tail⟩
                    ·
                      refine (WC.skip (WX.block_normal (WX.next ?_)))
                      refine WC.seq ?_
                      refine WC.region ?_
                      refine WL.move rfl rfl ?_
                      refine WL.fieldAddr fld60_1 rfl rfl ?_
                      refine WL.load rfl (H.rd1 ty3 0 rfl rfl) rfl ?_
                      refine WL.call call96 rfl rfl ?_
                      refine Calls.mono (a_load (L := (b3, .cells (opC x A cap).toArray 60) :: L) x.a hx.a.2 hI H hL) ?_
                      rintro _ wx ⟨rfl, H⟩
                      refine ⟨_, rfl, ?_⟩
                      refine WL.extract rfl rfl rfl ?_
                      refine WL.extract rfl rfl rfl ?_
                      refine WL.assign rfl rfl ?_
                      refine WL.assign rfl rfl ?_
                      refine (WL.done (WX.next ?_))
                      refine (WC.ret ?_)
                      refine ret_two rfl rfl rfl ?_
                      have e1 : M.do x = M := by simp [PM.do, c1, c2, c3, c4, c5, c6, c7, c8, c9, c10]
                      have e2 : M.res x = M.load x.a := by simp [PM.res, c1, c2, c3, c4, c5, c6, c7, c8, c9, c10]
                      rw [e1, e2]
                      exact ⟨R, rfl, hI.mono (by omega), H.tail⟩

end Go.Proofs.YtkncbggnaobgeaaDoor

/- Walks of functions of the program; printed by a program of this session (walk.py) out of hand-written hints. -/
namespace Go.Proofs.YtkncbggnaobgeaaDoor
open Go.RowKit
set_option linter.unusedVariables false
set_option linter.unusedSimpArgs false
set_option maxRecDepth 100000

theorem OpsIn.keep {w0 w : World} {L : Hp} {A : Option Addr} {xs : List OpV} (h : OpsIn w0 A xs) (H : St w0 [] w L) : OpsIn w A xs := by
  rcases h with h | ⟨b, o, cs, t, fr, h1, h2, h3⟩
  · exact .inl h
  · exact .inr ⟨b, o, cs, t, fr, h1, H.oldBlock h2 (by simp), h3⟩
theorem OpsIn.at {w : World} {A : Option Addr} {xs : List OpV} (h : OpsIn w A xs) {g : Nat} (hg : g < xs.length) : ∃ b o cs t fr, A = some ⟨b, o, none⟩ ∧ w.heap[b]? = some (.cells cs t fr) ∧ ∀ j, j < 12 → cs[o + g * 12 + j]? = (xs[g]).cells[j]? := by
  rcases h with h | ⟨b, o, cs, t, fr, h1, h2, h3⟩
  · rw [h] at hg; simp at hg
  · exact ⟨b, o, cs, t, fr, h1, h2, h3 g hg⟩
theorem mod8 (n : Int) : 0 ≤ n % 8 ∧ n % 8 < 8 := ⟨Int.emod_nonneg _ (by decide), Int.emod_lt_of_pos _ (by decide)⟩
/-- The plain calls of a script. -/
def plain (xs : List OpV) : List POp := xs.map OpV.x
theorem plain_len (xs : List OpV) : (plain xs).length = xs.length := by simp [plain]
theorem plain_get (xs : List OpV) {g : Nat} (hg : g < xs.length) : (plain xs)[g]'(by rw [plain_len]; exact hg) = (xs[g]).x := by simp [plain]

theorem begun_any {w0 w : World} {L : Hp} (n : Int) (A : Option Addr) (m cap : Nat) (xs : List OpV) (hm : m = xs.length) (hm63 : m ≤ 9223372036854775807) (hx : OpsIn w0 A xs) (hok : ∀ v ∈ xs, v.ok w0) (H : St w0 [] w L) (hL : L64 w0) : Calls Tryd.prog 30 #[.int .i64 n, .slice A m cap] w fun e w' => ∃ p R, e = .returned (ptr p) ∧ Is R p (PM.begun n (plain xs)) 80 ∧ St w0 [] w' (L ++ R.hp) := by
  refine calls_walk_n (args := [.int .i64 n, .slice A m cap]) Tryd.func30 rfl rfl rfl ?_
  have hn8 := mod8 n
  refine WC.seq ?_
  refine WC.region ?_
  refine WL.assign rfl rfl ?_
  refine (WL.done (WX.next ?_))
  refine WC.seq ?_
  refine WC.region ?_
  refine WL.move rfl rfl ?_
  refine WL.bin rfl rfl (iandm (k := 3) (by decide) rfl) rfl ?_
  refine WL.bin rfl rfl (iadd (by show _ ≤ 1 + n % 8; omega) (by show 1 + n % 8 ≤ _; omega)) rfl ?_
  refine WL.call call23 rfl rfl ?_
  refine Calls.mono (a_new_ok (1 + n % 8) (by omega) H hL) ?_
  rintro _ wx ⟨p, R0, rfl, hI, H⟩
  refine ⟨_, rfl, ?_⟩
  refine WL.assign rfl rfl ?_
  refine (WL.done (WX.next ?_))
  refine WC.seq ?_
  refine WC.seq ?_
  refine WC.region ?_
  refine WL.assign rfl rfl ?_
  refine (WL.done (WX.next ?_))
  refine WC.block ?_
  -- loop 1: changed [6] kept [1, 5]
  refine WC.loop (Sub.cons (t := 1) rfl (Sub.cons (t := 5) rfl (Sub.nil _))) (fun q : RM × Nat => [(6, .int .i64 (q.2 : Int))]) (fun q i wx => q = 80 - i.2 ∧ i.2 ≤ 80 ∧ i.2 ≤ m ∧ Is i.1 p ((PM.fresh (1 + n % 8).toNat).run ((plain xs).take i.2)) i.2 ∧ St w0 [] wx (L ++ i.1.hp)) (80) ((R0, 0)) (Sub.cons (t := 6) (by rfl) (Sub.nil _)) (⟨rfl, by show 0 ≤ 80; omega, Nat.zero_le _, hI, H⟩) ?_
  rintro k g wx hI N hN
  obtain ⟨R, g⟩ := g
  obtain ⟨rfl, hg80, hgm, hI, H⟩ := hI
  change g ≤ 80 at hg80
  change g ≤ m at hgm
  change Is R p ((PM.fresh (1 + n % 8).toNat).run ((plain xs).take g)) g at hI
  change St w0 [] wx (L ++ R.hp) at H
  refine WC.seq ?_
  refine WC.seq ?_
  refine WC.region ?_
  refine WL.move rfl rfl ?_
  refine WL.move rfl rfl ?_
  refine WL.lenSlc isl35 rfl rfl ?_
  refine WL.bin rfl rfl binv_lss rfl ?_
  refine WL.move rfl rfl ?_
  refine WL.splitD (t := 15) rfl (fun g1 => ?_) (fun g1 => ?_)
  ·
    refine WL.yes rfl rfl ?_
    refine WL.move rfl rfl ?_
    refine WL.yes rfl rfl ?_
    refine WL.bin rfl rfl binv_lss rfl ?_
    refine WL.pickT rfl rfl rfl ?_
    refine WL.move rfl rfl ?_
    refine WL.splitD (t := 19) rfl (fun g2 => ?_) (fun g2 => ?_)
    ·
      refine WL.yes rfl rfl ?_
      refine WL.move rfl rfl ?_
      refine WL.yes rfl rfl ?_
      refine WL.bin rfl rfl (binv_ptr_neq (by kernel_rfl) _) rfl ?_
      refine WL.pickT rfl rfl rfl ?_
      refine (WL.done (WX.next ?_))
      refine WC.cond rfl (fun c1 => ?_) (fun c1 => ?_)
      ·
        refine (WC.skip (WX.next ?_))
        refine WC.seq ?_
        refine WC.block ?_
        refine WC.region ?_
        have hlt : g < xs.length := by omega
        have hv := hok _ (List.getElem_mem hlt)
        obtain ⟨b, o, cs, t, fr, rfl, hb, hcs⟩ := (hx.keep H).at hlt
        refine WL.move rfl rfl ?_
        refine WL.move rfl rfl ?_
        refine WL.move rfl rfl ?_
        refine WL.idxSlc (k := g) slc35 rfl rfl (by rfl) (by omega) rfl ?_
        refine WL.load rfl (Rd.cellsAt ty60 hb (opC_length (A := (xs[g]).A) (cap := (xs[g]).cap) hv.x.w8) (by omega) hcs) rfl ?_
        refine WL.call call44 rfl rfl ?_
        refine Calls.mono (do_any (L := L) (xs[g]).x (xs[g]).A (xs[g]).cap hv.x hv.cuts (by omega) hI H hL) ?_
        rintro _ wx ⟨R1, rfl, hI, H⟩
        refine ⟨_, rfl, ?_⟩
        refine (WL.done (WX.block_normal (WX.next ?_)))
        refine WC.region ?_
        refine WL.move rfl rfl ?_
        refine WL.bin rfl rfl (iadd (by omega) (by omega)) rfl ?_
        refine WL.assign rfl rfl ?_
        refine (WL.done (WX.round ?_))
        rw [← plain_get xs hlt, ← run_succ] at hI
        exact hN _ (R1, g + 1) _ _ (by show 80 - (g + 1) < 80 - g; omega) ⟨rfl, by show g + 1 ≤ 80; omega, by show g + 1 ≤ m; omega, hI, H⟩ (Sub.cons (t := 6) (by rfl) (Sub.nil _)) (Sub.cons (t := 1) rfl (Sub.cons (t := 5) rfl (Sub.nil _)))
      ·
        exact absurd c1 (by simp)
    ·
      refine WL.no rfl rfl rfl ?_
      refine WL.no rfl rfl rfl ?_
      refine WL.pickF rfl rfl rfl ?_
      refine (WL.done (WX.next ?_))
      refine WC.cond_false rfl (rfl) ?_
      refine (WC.exit (WX.then_exit (WX.then_exit (WX.block_exit (WX.next ?_)))))
      refine WC.seq ?_
      refine WC.region ?_
      refine WL.move rfl rfl ?_
      refine WL.assign rfl rfl ?_
      refine (WL.done (WX.next ?_))
      refine (WC.ret ?_)
      refine ret_one rfl rfl ?_
      have e1 : (plain xs).take g = (plain xs).take 80 := by
        rcases Nat.lt_or_ge g 80 with hl | hge
        · rw [List.take_of_length_le (by rw [plain_len]; omega), List.take_of_length_le (by rw [plain_len]; omega)]
        · rw [show g = 80 by omega]
      rw [e1] at hI
      exact ⟨p, R, rfl, hI.mono (by omega), H⟩
  ·
    refine WL.no rfl rfl rfl ?_
    refine WL.no rfl rfl rfl ?_
    refine WL.pickF rfl rfl rfl ?_
    refine WL.move rfl rfl ?_
    refine WL.no rfl rfl rfl ?_
    refine WL.no rfl rfl rfl ?_
    refine WL.pickF rfl rfl rfl ?_
    refine (WL.done (WX.next ?_))
    refine WC.cond_false rfl (rfl) ?_
    refine (WC.exit (WX.then_exit (WX.then_exit (WX.block_exit (WX.next ?_)))))
    refine WC.seq ?_
    refine WC.region ?_
    refine WL.move rfl rfl ?_
    refine WL.assign rfl rfl ?_
    refine (WL.done (WX.next ?_))
    refine (WC.ret ?_)
    refine ret_one rfl rfl ?_
    have e1 : (plain xs).take g = (plain xs).take 80 := by
      rcases Nat.lt_or_ge g 80 with hl | hge
      · rw [List.take_of_length_le (by rw [plain_len]; omega), List.take_of_length_le (by rw [plain_len]; omega)]
      · rw [show g = 80 by omega]
    rw [e1] at hI
    exact ⟨p, R, rfl, hI.mono (by omega), H⟩

end Go.Proofs.YtkncbggnaobgeaaDoor

/- Walks of functions of the program; printed by a program of this session (walk.py) out of hand-written hints. -/
namespace Go.Proofs.YtkncbggnaobgeaaDoor
open Go.RowKit
set_option linter.unusedVariables false
set_option linter.unusedSimpArgs false
set_option maxRecDepth 100000

theorem app50 : AppT Tryd.prog 50 109 2 16 := appT_of (by kernel_rfl)
theorem St.preApp {w0 w : World} {S : List Nat} {X L K : Hp} {q : Nat × Obj} (H : St w0 S w (q :: ((X ++ L) ++ K))) : St w0 S w (X ++ (q :: (L ++ K))) := by
  rw [List.append_assoc] at H
  exact H.perm List.perm_middle.symm
theorem St.postApp {w0 w : World} {S : List Nat} {X L K : Hp} {q : Nat × Obj} (H : St w0 S w (X ++ (q :: (L ++ K)))) : St w0 S w ((X ++ L) ++ K) := by
  rw [List.append_assoc]
  exact H.weaken (List.Sublist.append_left (List.sublist_cons_self _ _) _)
theorem pend_of {M : PM} {g : Nat} (h : g < M.ls.length) : M.pend (g : Int) = (M.line g).ps := by unfold PM.pend; rw [has_of h]; rfl
theorem Row.val_len {r : Row} {n m : Nat} (h : n = m) : r.val n = r.val m := by rw [h]

theorem cuts_any {w0 w : World} {L : Hp} {R : RM} {p k : Nat} {M : PM} (A : Option Addr) (m cap : Nat) (keep : List Int) (hm : m = keep.length) (hm63 : m ≤ 9223372036854775807) (hkp : IntsIn w0 A keep) (hk : k ≤ 536870912) (hI : Is R p M k) (H : St w0 [] w (L ++ R.hp)) (hL : L64 w0) : Calls Tryd.prog 38 #[ptr p, .slice A m cap] w fun e w' => ∃ r : Row, e = .returned (r.val (M.cutsOf keep).length) ∧ r.ok 2 (M.cutsOf keep).length (flatP (M.cutsOf keep)) ∧ St w0 [] w' ((r.hp 109 ++ L) ++ R.hp) := by
  refine calls_walk_n (args := [ptr p, .slice A m cap]) Tryd.func38 rfl rfl rfl ?_
  have hlens := hI.lens
  refine WC.seq ?_
  refine WC.region ?_
  refine WL.assign rfl rfl ?_
  refine (WL.done (WX.next ?_))
  refine WC.seq ?_
  refine WC.region ?_
  refine WL.assign rfl rfl ?_
  refine (WL.done (WX.next ?_))
  refine WC.seq ?_
  refine WC.seq ?_
  refine WC.region ?_
  refine WL.assign rfl rfl ?_
  refine (WL.done (WX.next ?_))
  refine WC.block ?_
  -- loop 1: changed [5, 6] kept [0, 1]
  refine WC.loop (Sub.cons (t := 0) rfl (Sub.cons (t := 1) rfl (Sub.nil _))) (fun q : Row × Nat => [(5, q.1.val (M.cutsTo keep q.2).length), (6, .int .i64 (q.2 : Int))]) (fun q i wx => q = M.ls.length - i.2 ∧ i.2 ≤ M.ls.length ∧ i.1.ok 2 (M.cutsTo keep i.2).length (flatP (M.cutsTo keep i.2)) ∧ (M.cutsTo keep i.2).length ≤ i.2 ∧ St w0 [] wx ((i.1.hp 109 ++ L) ++ R.hp)) (M.ls.length) ((Row.none, 0)) (Sub.cons (t := 5) (by rfl) (Sub.cons (t := 6) (by rfl) (Sub.nil _))) (⟨rfl, Nat.zero_le _, ⟨rfl, rfl⟩, Nat.le_refl _, H⟩) ?_
  rintro k g wx hI N hN
  obtain ⟨r, g⟩ := g
  obtain ⟨rfl, hgm, hr, hcl0, H⟩ := hI
  change g ≤ M.ls.length at hgm
  change r.ok 2 (M.cutsTo keep g).length (flatP (M.cutsTo keep g)) at hr
  change (M.cutsTo keep g).length ≤ g at hcl0
  change St w0 [] wx ((r.hp 109 ++ L) ++ R.hp) at H
  refine WC.seq ?_
  refine WC.seq ?_
  refine WC.region ?_
  refine WL.move rfl rfl ?_
  refine WL.move rfl rfl ?_
  refine WL.call call26 rfl rfl ?_
  refine Calls.mono (a_lines hI H hL) ?_
  rintro _ wx ⟨rfl, rfl⟩
  refine ⟨_, rfl, ?_⟩
  refine WL.bin rfl rfl binv_lss rfl ?_
  refine (WL.done (WX.next ?_))
  refine WC.cond_dec rfl (fun c1 => ?_) (fun c1 => ?_)
  ·
    have hgl : g < M.ls.length := by omega
    refine (WC.skip (WX.next ?_))
    refine WC.seq ?_
    refine WC.block ?_
    refine WC.seq ?_
    refine WC.region ?_
    refine WL.move rfl rfl ?_
    refine WL.move rfl rfl ?_
    refine WL.call call39 rfl rfl ?_
    refine Calls.mono (a_pending (g : Int) (by omega) hI H hL) ?_
    rintro _ wx ⟨r2, rfl, hr2, H⟩
    refine ⟨_, rfl, ?_⟩
    replace H := H.dropR
    have hpe := pend_of hgl
    have hpl : (M.pend (g : Int)).length ≤ 536870912 := by rw [hpe]; exact Nat.le_trans (hI.sm.ps _ (line_mem (has_of hgl))) hk
    refine WL.lenR isl52 rfl rfl ?_
    refine WL.assign rfl rfl ?_
    refine (WL.done (WX.next ?_))
    refine WC.seq ?_
    refine WC.region ?_
    refine WL.move rfl rfl ?_
    refine WL.bin rfl rfl binv_gtr rfl ?_
    refine WL.move rfl rfl ?_
    refine WL.splitD (t := 20) rfl (fun g1 => ?_) (fun g1 => ?_)
    ·
      refine WL.yes rfl rfl ?_
      refine WL.move rfl rfl ?_
      refine WL.yes rfl rfl ?_
      refine WL.move rfl rfl ?_
      refine WL.yes rfl rfl ?_
      refine WL.lenSlc isl43 rfl rfl ?_
      refine WL.yes rfl rfl ?_
      refine WL.bin rfl rfl binv_lss rfl ?_
      refine WL.pickT rfl rfl rfl ?_
      refine (WL.done (WX.next ?_))
      refine WC.cond_dec rfl (fun c2 => ?_) (fun c2 => ?_)
      ·
        refine WC.region ?_
        have hget : keep[g]? = some (keep.getD g 0) := by simp [List.getD, List.getElem?_eq_getElem (show g < keep.length by omega)]
        obtain ⟨b, o, hA⟩ : ∃ b o, A = some ⟨b, o, none⟩ := by
          rcases hkp with h | ⟨b, o, cs, t, fr, h1, h2, h3⟩
          · rw [h] at hget; cases hget
          · exact ⟨b, o, h1⟩
        subst hA
        refine WL.move rfl rfl ?_
        refine WL.move rfl rfl ?_
        refine WL.move rfl rfl ?_
        refine WL.move rfl rfl ?_
        refine WL.idxSlc (k := g) slc43 rfl rfl (by rfl) (by omega) rfl ?_
        refine WL.load rfl ((by rw [Nat.mul_one]; exact Rd.ints ty3 (hkp.keep H) hget rfl)) rfl ?_
        refine WL.move rfl rfl ?_
        refine WL.bin rfl rfl (iadd (by omega) (by omega)) rfl ?_
        refine WL.call call33 rfl rfl ?_
        refine Calls.mono (least_any (keep.getD g 0) (((M.pend (g : Int)).length : Int) + 1) (by omega) _) ?_
        rintro _ wx ⟨rfl, rfl⟩
        refine ⟨_, rfl, ?_⟩
        refine WL.build pla109 zer109 rfl rfl rfl ?_
        refine WL.buildSlice1 H Tryd.underlying50 (sz := 2) (by simp only [Tryd.underlying109]; exact ty109) (by omega) zer109 rfl rfl rfl rfl ?_
        intro g2 wx hg2 hgg2 H
        replace H := St.preApp (X := r.hp 109) (L := L) (K := R.hp) H
        refine WL.append (m := 1) (news := [.int .i64 (g : Int), .int .i64 (keep.getD g 0 % (((M.pend (g : Int)).length : Int) + 1))]) app50 H hr rfl rfl rfl (fun j u hj => by rw [addr_add, cell_of (H.sat _ (List.mem_append_right _ List.mem_cons_self)), Nat.zero_add]; simpa [Value.cells] using hj) (by simp [Value.oneCell']) (by simp only [maxLen]; omega) (by omega) rfl ?_
        intro r1 wx hr1 H
        replace H := H.postApp
        have hcs : M.cutsTo keep (g + 1) = M.cutsTo keep g ++ [((g : Int), keep.getD g 0 % (((M.pend (g : Int)).length : Int) + 1))] := by
          rw [cutsTo_succ, hpe, if_pos ⟨by rw [← hpe]; omega, by omega⟩]
        have hcl : (M.cutsTo keep (g + 1)).length = (M.cutsTo keep g).length + 1 := by rw [hcs]; simp
        replace hr1 : r1.ok 2 (M.cutsTo keep (g + 1)).length (flatP (M.cutsTo keep (g + 1))) := by rw [hcl, hcs, flatP_append]; exact hr1
        refine WL.assign rfl rfl ?_
        refine (WL.done (WX.block_normal (WX.next ?_)))
        refine WC.region ?_
        refine WL.move rfl rfl ?_
        refine WL.bin rfl rfl (iadd (by omega) (by omega)) rfl ?_
        refine WL.assign rfl rfl ?_
        refine (WL.done (WX.round ?_))
        exact hN _ (r1, g + 1) _ _ (by show M.ls.length - (g + 1) < M.ls.length - g; omega) ⟨rfl, by show g + 1 ≤ M.ls.length; omega, hr1, by show (M.cutsTo keep (g + 1)).length ≤ g + 1; omega, H⟩ (Sub.cons (t := 5) (congrArg some (Row.val_len hcl.symm)) (Sub.cons (t := 6) rfl (Sub.nil _))) (Sub.cons (t := 0) rfl (Sub.cons (t := 1) rfl (Sub.nil _)))
      ·
        refine (WC.skip (WX.block_normal (WX.next ?_)))
        refine WC.region ?_
        refine WL.move rfl rfl ?_
        refine WL.bin rfl rfl (iadd (by omega) (by omega)) rfl ?_
        refine WL.assign rfl rfl ?_
        refine (WL.done (WX.round ?_))
        have hcs : M.cutsTo keep (g + 1) = M.cutsTo keep g := by
          rw [cutsTo_succ, if_neg (by rw [← hpe]; omega), List.append_nil]
        exact hN _ (r, g + 1) _ _ (by show M.ls.length - (g + 1) < M.ls.length - g; omega) ⟨rfl, by show g + 1 ≤ M.ls.length; omega, by show r.ok 2 (M.cutsTo keep (g + 1)).length (flatP (M.cutsTo keep (g + 1))); rw [hcs]; exact hr, by show (M.cutsTo keep (g + 1)).length ≤ g + 1; rw [hcs]; omega, H⟩ (Sub.cons (t := 5) (by show _ = some (r.val (M.cutsTo keep (g + 1)).length); rw [hcs]; rfl) (Sub.cons (t := 6) rfl (Sub.nil _))) (Sub.cons (t := 0) rfl (Sub.cons (t := 1) rfl (Sub.nil _)))
    ·
      refine WL.no rfl rfl rfl ?_
      refine WL.no rfl rfl rfl ?_
      refine WL.no rfl rfl rfl ?_
      refine WL.no rfl rfl rfl ?_
      refine WL.pickF rfl rfl rfl ?_
      refine (WL.done (WX.next ?_))
      refine WC.cond_false rfl (rfl) ?_
      refine (WC.skip (WX.block_normal (WX.next ?_)))
      refine WC.region ?_
      refine WL.move rfl rfl ?_
      refine WL.bin rfl rfl (iadd (by omega) (by omega)) rfl ?_
      refine WL.assign rfl rfl ?_
      refine (WL.done (WX.round ?_))
      have hcs : M.cutsTo keep (g + 1) = M.cutsTo keep g := by
        rw [cutsTo_succ, if_neg (by rw [← hpe]; omega), List.append_nil]
      exact hN _ (r, g + 1) _ _ (by show M.ls.length - (g + 1) < M.ls.length - g; omega) ⟨rfl, by show g + 1 ≤ M.ls.length; omega, by show r.ok 2 (M.cutsTo keep (g + 1)).length (flatP (M.cutsTo keep (g + 1))); rw [hcs]; exact hr, by show (M.cutsTo keep (g + 1)).length ≤ g + 1; rw [hcs]; omega, H⟩ (Sub.cons (t := 5) (by show _ = some (r.val (M.cutsTo keep (g + 1)).length); rw [hcs]; rfl) (Sub.cons (t := 6) rfl (Sub.nil _))) (Sub.cons (t := 0) rfl (Sub.cons (t := 1) rfl (Sub.nil _)))
  ·
    refine (WC.exit (WX.then_exit (WX.then_exit (WX.block_exit (WX.next ?_)))))
    refine WC.seq ?_
    refine WC.region ?_
    refine WL.move rfl rfl ?_
    refine WL.assign rfl rfl ?_
    refine (WL.done (WX.next ?_))
    refine (WC.ret ?_)
    refine ret_one rfl rfl ?_
    have e1 : M.cutsTo keep g = M.cutsOf keep := by unfold PM.cutsOf; rw [show g = M.ls.length by omega]
    rw [e1] at hr
    exact ⟨r, by rw [e1], hr, H⟩

end Go.Proofs.YtkncbggnaobgeaaDoor

/- Calls inside a region that draws its order: what they leave as it was. -/
namespace Go.Proofs.YtkncbggnaobgeaaDoor
open Go.RowKit
set_option linter.unusedVariables false
set_option linter.unusedSimpArgs false
set_option maxRecDepth 100000
section
variable {w0 w : World} {L H0 : Hp} {R : RM} {p k : Nat} {M : PM}
theorem a_least (x n : Int) (hn : 0 < n ∧ n ≤ 1073741824) : Calls Tryd.prog 33 #[.int .i64 x, .int .i64 n] w fun e w' => ∃ j : Nat, e = .returned (.int .i64 (j : Int)) ∧ (x % n = j ∧ (j : Int) < n) ∧ w' = w :=
  (least_any x n hn w).mono fun e w' ⟨h, hw⟩ => ⟨(x % n).toNat, by rw [h, Int.toNat_of_nonneg (Int.emod_nonneg _ (by omega))], ⟨by rw [Int.toNat_of_nonneg (Int.emod_nonneg _ (by omega))], by rw [Int.toNat_of_nonneg (Int.emod_nonneg _ (by omega))]; exact Int.emod_lt_of_pos _ hn.1⟩, hw⟩
theorem q_pending (n : Int) (hk : k ≤ 1073741824) (hI : Is R p M k) (H : St w0 [] w (L ++ R.hp)) (hL : L64 w0) :
    Calls Tryd.prog 39 #[ptr p, .int .i64 n] w fun e w' => ∃ r : Row, e = .returned (r.val (M.pend n).length) ∧ St w [] w' [] := by
  have hm := hI.mem H hL
  have h2 := hI.ps
  obtain ⟨rfl, rfl, hok, hs⟩ := hI
  exact (pending_any R n (fun x hx => Nat.le_trans (h2 x hx) hk) w hm).mono fun e w' ⟨r, h, hr, Hc⟩ => ⟨r, h, Hc.weaken (List.nil_sublist _)⟩
theorem q_events (hk : k ≤ 1073741824) (hI : Is R p M k) (H : St w0 [] w (L ++ R.hp)) (hL : L64 w0) :
    Calls Tryd.prog 27 #[ptr p] w fun e w' => ∃ r : Row, e = .returned (r.val M.evs.length) ∧ St w [] w' [] := by
  have hm := hI.mem H hL
  have h1 := hI.evs
  obtain ⟨rfl, rfl, hok, hs⟩ := hI
  exact (events_any R (by omega) w hm).mono fun e w' ⟨r, h, hr, Hc⟩ => ⟨r, h, Hc.weaken (List.nil_sublist _)⟩
theorem q_sanity (hL : L64 w0) (H : St w0 [] w H0) : Calls Tryd.prog 22 #[] w fun e w' => e = .returned (.bool true) ∧ St w [] w' [] := sanity4_any w (hL.of0 H)
theorem q_state (n : Int) (hI : Is R p M k) (H : St w0 [] w (L ++ R.hp)) (hL : L64 w0) : Calls Tryd.prog 31 #[ptr p, .int .i64 n] w fun e w' => e = .returned (.int .i64 (M.state n)) ∧ St w [] w' [] := by
  have hm := hI.mem H hL
  obtain ⟨rfl, rfl, hok, hs⟩ := hI
  rw [← state_abs]
  exact (state_any R n w hm (hL.of0 H)).mono fun e w' ⟨h, Hc⟩ => ⟨h, Hc⟩
theorem MemIn.old {w' : World} {N : Hp} (hm : MemIn w R) (h : St w [] w' N) : MemIn w' R := ⟨hm.nd, fun q hq => h.oldBlock (hm.sat q hq) (by simp), hm.ok, hm.hi⟩
theorem m_image (hI : Is R p M k) (hm : MemIn w R) :
    Calls Tryd.prog 29 #[ptr p] w fun e w' => ∃ g, e = .returned (.slice (some ⟨g, 0, none⟩) M.ls.length M.ls.length) ∧ St w [] w' [(g, .cells (arrC (imgC M.ls)) 40)] := by
  have hl := hI.len
  obtain ⟨rfl, rfl, hok, hs⟩ := hI
  rw [← hl]
  exact image_any R w hm
theorem m_seen (hI : Is R p M k) (hm : MemIn w R) (hLw : L64 w) :
    Calls Tryd.prog 34 #[ptr p] w fun e w' => ∃ g, e = .returned (.slice (some ⟨g, 0, none⟩) M.ls.length M.ls.length) ∧ St w [] w' [(g, .cells (arrC (seenC M.ls)) 38)] := by
  have hl := hI.len
  obtain ⟨rfl, rfl, hok, hs⟩ := hI
  rw [← hl]
  exact seen_any R w hm hLw
theorem m_pending (n : Int) (hk : k ≤ 1073741824) (hI : Is R p M k) (hm : MemIn w R) :
    Calls Tryd.prog 39 #[ptr p, .int .i64 n] w fun e w' => ∃ r : Row, e = .returned (r.val (M.pend n).length) ∧ r.ok 2 (M.pend n).length (flatP (M.pend n)) ∧ St w [] w' (r.hp 111) := by
  have h2 := hI.ps
  obtain ⟨rfl, rfl, hok, hs⟩ := hI
  exact pending_any R n (fun x hx => Nat.le_trans (h2 x hx) hk) w hm
theorem m_lines (hI : Is R p M k) (hm : MemIn w R) : Calls Tryd.prog 26 #[ptr p] w fun e w' => e = .returned (.int .i64 (M.ls.length : Int)) ∧ w' = w := by
  have hl := hI.len
  obtain ⟨rfl, rfl, hok, hs⟩ := hI
  rw [← hl]
  exact lines_any R w hm
theorem m_sameStores {r1 r2 : Row} {xs ys : List (Int × Int)} (hr1 : r1.ok 2 xs.length (flatP xs)) (hr2 : r2.ok 2 ys.length (flatP ys)) (h1 : ∀ q ∈ r1.hp 111, w.heap[q.1]? = some q.2) (h2 : ∀ q ∈ r2.hp 111, w.heap[q.1]? = some q.2) (hl : xs.length ≤ 9223372036854775807) :
    Calls Tryd.prog 45 #[r1.val xs.length, r2.val ys.length] w fun e w' => e = .returned (.bool (decide (xs = ys))) ∧ St w [] w' [] := by
  rw [flatP_ints] at hr1 hr2
  obtain ⟨A1, c1, e1, k1⟩ := RowsIn.row (n := xs.length) (xs := xs.map fun p => [p.1, p.2]) (s := 2) (by intro v hv; obtain ⟨p, _, rfl⟩ := List.mem_map.1 hv; rfl) (by simp) hr1 h1
  obtain ⟨A2, c2, e2, k2⟩ := RowsIn.row (n := ys.length) (xs := ys.map fun p => [p.1, p.2]) (s := 2) (by intro v hv; obtain ⟨p, _, rfl⟩ := List.mem_map.1 hv; rfl) (by simp) hr2 h2
  rw [e1, e2]
  refine (sameStores_any A1 A2 _ _ c1 c2 _ _ (by simp) (by simp) w k1 k2 hl).mono fun e w' ⟨h, Hc⟩ => ⟨?_, Hc⟩
  rw [h]
  have : (xs.map (fun p => [p.1, p.2]) = ys.map fun p => [p.1, p.2]) ↔ xs = ys :=
    ⟨fun h => (List.map_inj_right (fun a b hab => by simp at hab; exact Prod.ext hab.1 hab.2)).1 h, fun h => by rw [h]⟩
  rw [decide_eq_decide.2 this]
theorem pend_ls {A B : PM} (h : A.ls = B.ls) (n : Int) : A.pend n = B.pend n := by unfold PM.pend PM.has PM.line; rw [h]
theorem Rd.opAll {b : Nat} {t : TypeId} {x : POp} {A : Option Addr} {cap : Nat} (h8 : x.ws.length = 8) (h : w.heap[b]? = some (.cells (opC x A cap).toArray t)) : Rd Tryd.prog w 60 ⟨b, 0, none⟩ (.agg (opC x A cap).toArray) :=
  Rd.cellsAt ty60 h (opC_length h8) (by omega) (fun j hj => by rw [Nat.zero_add]; simp)
end
end Go.Proofs.YtkncbggnaobgeaaDoor

/- What the statements of layer 4 say, of the plain memory. No Go in sight. -/
namespace Go.Proofs.YtkncbggnaobgeaaDoor
set_option linter.unusedVariables false
set_option linter.unusedSimpArgs false
set_option maxRecDepth 100000

theorem map_getD {α : Type} [Inhabited α] (f : α → α) {ls : List α} {k : Nat} (h : k < ls.length) : (ls.map f).getD k default = f (ls.getD k default) := by
  simp [List.getD, List.getElem?_eq_getElem h]
theorem crash_len (M : PM) (cuts : List (Int × Int)) : (M.crash cuts).ls.length = M.ls.length := by
  unfold PM.crash; split
  · simp [foldl_len]
  · rfl
theorem flush_len (M : PM) (n : Int) : (M.flush n).ls.length = M.ls.length := by unfold PM.flush; split <;> simp
theorem fence_len (M : PM) : M.fence.ls.length = M.ls.length := by simp [PM.fence]
theorem evict_len (M : PM) (n k : Int) : (M.evict n k).ls.length = M.ls.length := by unfold PM.evict; split <;> simp
theorem flush_line {M : PM} {k j : Nat} (hk : k < M.ls.length) : (M.flush k).line j = if k = j then { M.line k with mark := (M.line k).ps.length } else M.line j := by
  unfold PM.flush
  rw [has_of hk, if_pos rfl]
  unfold PM.line
  simp only [Int.toNat_natCast]
  rw [set_getD]
  by_cases h : k = j
  · rw [if_pos ⟨h, hk⟩, if_pos h]
  · rw [if_neg (fun hh => h hh.1), if_neg h]
theorem fence_line {M : PM} {j : Nat} (hj : j < M.ls.length) : M.fence.line j = pSettle (M.line j) (M.line j).mark := by
  unfold PM.fence PM.line
  simp only [Int.toNat_natCast]
  rw [map_getD (fun l => pSettle l l.mark) hj]
theorem crash_line {M : PM} {cuts : List (Int × Int)} (hc : M.cutsOk cuts = true) {j : Nat} (hj : j < M.ls.length) : (M.crash cuts).line j = drop0 ((cuts.foldl cutStep M.ls).getD j default) := by
  unfold PM.crash
  rw [if_pos hc]
  unfold PM.line
  simp only [Int.toNat_natCast]
  rw [map_getD drop0 (by rw [foldl_len]; exact hj)]
theorem crash_other {M : PM} {cuts : List (Int × Int)} (hc : M.cutsOk cuts = true) {j : Nat} (hj : j < M.ls.length) (h : ∀ c ∈ cuts, c.1.toNat ≠ j) : (M.crash cuts).line j = drop0 (M.line j) := by
  rw [crash_line hc hj, cut_other cuts _ h]; rfl
theorem settle_ps (l : PL) : (pSettle l l.ps.length).ps = [] := by
  unfold pSettle
  split
  · rename_i h; exact List.eq_nil_of_length_eq_zero h
  · simp
theorem settle_mark (l : PL) (m : Nat) (k : Nat) : (pSettle { l with mark := m } k).ws = (pSettle l k).ws ∧ (pSettle { l with mark := m } k).c = (pSettle l k).c ∧ (pSettle { l with mark := m } k).ps = (pSettle l k).ps := by
  unfold pSettle
  split <;> exact ⟨rfl, rfl, rfl⟩
theorem drop_mark (l : PL) (m : Nat) (k : Nat) : drop0 (pSettle { l with mark := m } k) = drop0 (pSettle l k) := by
  obtain ⟨h1, h2, _⟩ := settle_mark l m k
  unfold drop0
  rw [h1, h2]
theorem pend_line {M : PM} {k : Nat} (h : k < M.ls.length) : M.pend (k : Int) = (M.line k).ps := by unfold PM.pend; rw [has_of h]; rfl
/-- P4.9: what is seen when a line is flushed is there after a fence and a failure. -/
theorem fence_keeps {M : PM} (hok : ∀ l ∈ M.ls, l.ok) {k : Nat} (hk : k < M.ls.length) (keep : List Int) :
    shown (((M.flush k).fence.crash ((M.flush k).fence.cutsOf keep)).line k) = shown (M.line k) ∧ ((M.flush k).fence.crash ((M.flush k).fence.cutsOf keep)).pend k = [] := by
  have hk2 : k < (M.flush k).fence.ls.length := by rw [fence_len, flush_len]; exact hk
  have h1 : (M.flush k).fence.line k = pSettle { M.line k with mark := (M.line k).ps.length } (M.line k).ps.length := by
    rw [fence_line (by rw [flush_len]; exact hk), flush_line hk, if_pos rfl]
  have h2 : ((M.flush k).fence.line k).ps = [] := by
    rw [h1, (settle_mark _ _ _).2.2]; exact settle_ps _
  have h3 : ((M.flush k).fence.crash ((M.flush k).fence.cutsOf keep)).line k = drop0 ((M.flush k).fence.line k) := by
    refine crash_other (cutsOf_ok _ _) hk2 (fun c hc => ?_)
    obtain ⟨i, hi, he, hp, _⟩ := cutsTo_mem hc
    rw [he, Int.toNat_natCast]
    intro hik
    subst hik
    rw [h2] at hp; simp at hp
  constructor
  · rw [h3, h1, drop_mark]
    exact shown_all (hok _ (line_mem (has_of hk)))
  · rw [pend_line (by rw [crash_len]; exact hk2), h3]; rfl
theorem map_lines {β : Type} {f : PL → β} {A B : PM} (hl : A.ls.length = B.ls.length) (h : ∀ j : Nat, j < B.ls.length → f (A.line j) = f (B.line j)) : A.ls.map f = B.ls.map f := by
  apply List.ext_getElem?
  intro i
  rw [List.getElem?_map, List.getElem?_map]
  rcases Nat.lt_or_ge i B.ls.length with hi | hi
  · have := h i hi
    rw [line_of hi, line_of (by omega)] at this
    rw [List.getElem?_eq_getElem hi, List.getElem?_eq_getElem (show i < A.ls.length by omega)]
    simp [this]
  · rw [List.getElem?_eq_none hi, List.getElem?_eq_none (by omega)]
theorem fence_mark {M : PM} {j : Nat} (hj : j < M.ls.length) : (M.fence.line j).mark = 0 := by
  rw [fence_line hj]
  unfold pSettle
  split
  · assumption
  · exact Nat.sub_self _
theorem shown_settle {l : PL} (h : l.ok) : shown (pSettle l l.ps.length) = shown l := by
  rw [← shown_all h]
  unfold shown
  rw [settle_ps]
  rfl
theorem evict_line {M : PM} {k j : Nat} (hk : k < M.ls.length) (hn : 0 < (M.line k).ps.length) : M.evictErr k ((M.line k).ps.length : Int) = 0 ∧ (M.evict k ((M.line k).ps.length : Int)).line j = if k = j then pSettle (M.line k) (M.line k).ps.length else M.line j := by
  have h0 : M.evictErr k ((M.line k).ps.length : Int) = 0 := by
    unfold PM.evictErr
    rw [has_of hk, if_pos rfl, if_neg (by omega)]
  refine ⟨h0, ?_⟩
  unfold PM.evict
  rw [if_pos h0]
  unfold PM.line
  simp only [Int.toNat_natCast]
  rw [set_getD]
  by_cases h : k = j
  · rw [if_pos ⟨h, hk⟩, if_pos h]
  · rw [if_neg (fun hh => h hh.1), if_neg h]
/-- P4.4, P4.9: evicting all of a line does what flushing it and a fence do, if no other line is marked. -/
theorem evicts_like {M : PM} (hok : ∀ l ∈ M.ls, l.ok) {k : Nat} (hk : k < M.ls.length) (hm : ∀ j : Nat, j < M.ls.length → (M.line j).mark = 0) (hn : 0 < (M.line k).ps.length) :
    (M.evict k ((M.line k).ps.length : Int)).ls.map bare = (M.flush k).fence.ls.map bare ∧ (M.evict k ((M.line k).ps.length : Int)).ls.map shown = M.ls.map shown ∧ (M.flush k).fence.ls.map shown = M.ls.map shown := by
  have hlok : (M.line k).ok := hok _ (line_mem (has_of hk))
  have hB : ∀ j : Nat, j < M.ls.length → (M.flush k).fence.line j = if k = j then pSettle { M.line k with mark := (M.line k).ps.length } (M.line k).ps.length else M.line j := by
    intro j hj
    rw [fence_line (by rw [flush_len]; exact hj), flush_line hk]
    by_cases h : k = j
    · rw [if_pos h, if_pos h]
    · rw [if_neg h, if_neg h, hm j hj]; rfl
  refine ⟨?_, ?_, ?_⟩
  · refine map_lines (by rw [evict_len, fence_len, flush_len]) (fun j hj => ?_)
    rw [fence_len, flush_len] at hj
    rw [(evict_line hk hn).2, hB j hj]
    by_cases h : k = j
    · rw [if_pos h, if_pos h]
      obtain ⟨h1, h2, _⟩ := settle_mark (M.line k) (M.line k).ps.length (M.line k).ps.length
      unfold bare
      rw [h1, h2]
    · rw [if_neg h, if_neg h]
  · refine map_lines (by rw [evict_len]) (fun j hj => ?_)
    rw [(evict_line hk hn).2]
    by_cases h : k = j
    · rw [if_pos h, shown_settle hlok, h]
    · rw [if_neg h]
  · refine map_lines (by rw [fence_len, flush_len]) (fun j hj => ?_)
    rw [hB j hj]
    by_cases h : k = j
    · rw [if_pos h]
      obtain ⟨h1, h2, h3⟩ := settle_mark (M.line k) (M.line k).ps.length (M.line k).ps.length
      have : shown (pSettle { M.line k with mark := (M.line k).ps.length } (M.line k).ps.length) = shown (pSettle (M.line k) (M.line k).ps.length) := by
        unfold shown pShow
        rw [h1, h2, h3]
      rw [this, shown_settle hlok, h]
    · rw [if_neg h]
/-- A clean line bears the code of its words. -/
theorem clean_code {ws : List Int} {c : Int} (h : (chk ws c).1 = 0) : c = enc ws := by
  unfold chk at h
  split at h
  · rename_i hv
    rw [Bool.and_eq_true] at hv
    obtain ⟨hw, hc⟩ := hv
    have hcr := isCode_iff.1 hc
    simp only at h
    split at h
    · split at h
      · cases h
      · split at h
        · cases h
        · split at h <;> cases h
    · rename_i hpar
      split at h
      · rename_i hs
        have key : ∀ s, s < 512 → ∀ c, c < 1024 → s ^^^ (c &&& 511) = 0 → c = s ∨ c = s ||| 512 := by
          intro s hs c hc h
          have e1 : c &&& 511 = s := by
            have := congrArg (s ^^^ ·) h
            simp only [← Nat.xor_assoc, Nat.xor_self, Nat.zero_xor, Nat.xor_zero] at this
            exact this
          subst e1
          have : ∀ c, c < 1024 → c = c &&& 511 ∨ c = (c &&& 511) ||| 512 := by decide +kernel
          exact this c hc
        have h1 := syn_lt ws
        have h2 := popc512 h1
        unfold enc
        rw [if_pos hw]
        rcases key _ h1 c.toNat (by omega) hs with hcs | hcs
        · rw [hcs] at hpar
          rw [if_neg hpar]; omega
        · rw [hcs, h2.1] at hpar
          rw [if_pos (by omega)]; omega
      · cases h
  · cases h
end Go.Proofs.YtkncbggnaobgeaaDoor

/- Calls that belong to different lines change places. No Go in sight. -/
namespace Go.Proofs.YtkncbggnaobgeaaDoor
set_option linter.unusedVariables false
set_option linter.unusedSimpArgs false
set_option maxRecDepth 100000

/-- To which line a call belongs. -/
def POp.line0 (x : POp) : Int :=
  if x.kind = 0 ∨ x.kind = 1 then (if 0 ≤ x.a then x.a / 8 else -1) else if x.kind = 3 ∨ x.kind = 5 ∨ x.kind = 6 ∨ x.kind = 7 then x.a else -1
def POp.line (x : POp) (lines : Int) : Int := if x.line0 ≥ lines then -1 else x.line0
def lineDo (x : POp) (l : PL) : PL × Int :=
  if x.kind = 0 ∨ x.kind = 1 then (if isWord x.b then (if (chk l.ws l.c).1 = 2 then (l, 9) else ({ l with ps := l.ps ++ [(x.a % 8, x.b)] }, 0)) else (l, 1))
  else if x.kind = 3 then ({ l with mark := l.ps.length }, 0)
  else if x.kind = 5 then (if x.b < 1 ∨ l.ps.length < x.b then (l, 1) else (pSettle l x.b.toNat, 0))
  else if x.kind = 6 then (if isWords x.ws then ({ ws := x.ws, c := enc x.ws, ps := [], mark := 0 }, 0) else (l, 1))
  else (if isWords x.ws && isCode x.b then (if l.ps = [] then ({ l with ws := xorTo l.ws x.ws 8, c := ((l.c.toNat ^^^ x.b.toNat : Nat) : Int) }, 0) else (l, 4)) else (l, 1))
theorem set_same {M : PM} {k : Nat} (h : k < M.ls.length) : M.ls.set k (M.line k) = M.ls := by
  rw [line_of h]; exact List.set_getElem_self h
theorem put_line {M : PM} {kind a b : Int} {k : Nat} (ha : 0 ≤ a) (hk : a / 8 = k) (hlt : k < M.ls.length) :
    (M.put kind a b).ls = M.ls.set k (if isWord b then (if (chk (M.line k).ws (M.line k).c).1 = 2 then (M.line k, (9 : Int)) else ({ M.line k with ps := (M.line k).ps ++ [(a % 8, b)] }, 0)) else (M.line k, 1)).1 ∧
    M.putErr a b = (if isWord b then (if (chk (M.line k).ws (M.line k).c).1 = 2 then (M.line k, (9 : Int)) else ({ M.line k with ps := (M.line k).ps ++ [(a % 8, b)] }, 0)) else (M.line k, 1)).2 := by
  have he : M.putErr a b = if isWord b then (if (chk (M.line k).ws (M.line k).c).1 = 2 then 9 else 0) else 1 := by
    unfold PM.putErr
    rw [if_neg (by omega), hk, has_of hlt, if_pos rfl]
  unfold PM.put
  rw [he, hk]
  by_cases hw : isWord b = true
  · rw [if_pos hw, if_pos hw]
    by_cases hc : (chk (M.line k).ws (M.line k).c).1 = 2
    · rw [if_pos hc, if_pos hc, if_neg (by decide)]
      exact ⟨(set_same hlt).symm, rfl⟩
    · rw [if_neg hc, if_neg hc, if_pos rfl, Int.toNat_natCast]
      exact ⟨rfl, rfl⟩
  · rw [if_neg hw, if_neg hw, if_neg (by decide)]
    exact ⟨(set_same hlt).symm, rfl⟩
theorem do_line {M : PM} {x : POp} {k : Nat} (hk : x.line M.ls.length = k) : k < M.ls.length ∧ (M.do x).ls = M.ls.set k (lineDo x (M.line k)).1 ∧ (M.res x).2 = (lineDo x (M.line k)).2 := by
  unfold POp.line at hk
  split at hk
  · omega
  rename_i hlt0
  have hlt : k < M.ls.length := by omega
  refine ⟨hlt, ?_⟩
  unfold POp.line0 at hk
  unfold lineDo
  by_cases h01 : x.kind = 0 ∨ x.kind = 1
  · rw [if_pos h01] at hk
    split at hk
    · rename_i ha
      rw [if_pos h01]
      rcases h01 with h | h
      · have e1 : M.do x = M.put 1 x.a x.b := by simp [PM.do, h]
        have e2 : (M.res x).2 = M.putErr x.a x.b := by simp [PM.res, h]
        rw [e1, e2]; exact put_line ha hk hlt
      · have e1 : M.do x = M.put 2 x.a x.b := by simp [PM.do, h]
        have e2 : (M.res x).2 = M.putErr x.a x.b := by simp [PM.res, h]
        rw [e1, e2]; exact put_line ha hk hlt
    · omega
  · rw [if_neg h01] at hk ⊢
    split at hk
    · rename_i h
      rcases h with h | h | h | h
      · have e1 : M.do x = M.flush x.a := by simp [PM.do, h]
        have e2 : (M.res x).2 = if M.has x.a then 0 else 40 := by simp [PM.res, h]
        rw [e1, e2, if_pos h, hk, has_of hlt]
        refine ⟨?_, rfl⟩
        unfold PM.flush
        rw [has_of hlt, if_pos rfl, Int.toNat_natCast]
      · have e1 : M.do x = M.evict x.a x.b := by simp [PM.do, h]
        have e2 : (M.res x).2 = M.evictErr x.a x.b := by simp [PM.res, h]
        rw [e1, e2, if_neg (by omega), if_pos h, hk]
        have he : M.evictErr (k : Int) x.b = if x.b < 1 ∨ (M.line k).ps.length < x.b then 1 else 0 := by unfold PM.evictErr; rw [has_of hlt, if_pos rfl]
        unfold PM.evict
        rw [he]
        by_cases hb : x.b < 1 ∨ (M.line k).ps.length < x.b
        · rw [if_pos hb, if_pos hb, if_neg (by decide)]; exact ⟨(set_same hlt).symm, rfl⟩
        · rw [if_neg hb, if_neg hb, if_pos rfl, Int.toNat_natCast]; exact ⟨rfl, rfl⟩
      · have e1 : M.do x = M.heal x.a x.ws := by simp [PM.do, h]
        have e2 : (M.res x).2 = M.healErr x.a x.ws := by simp [PM.res, h]
        rw [e1, e2, if_neg (by omega), if_neg (by omega), if_pos h, hk]
        have he : M.healErr (k : Int) x.ws = if isWords x.ws then 0 else 1 := by unfold PM.healErr; rw [has_of hlt, if_pos rfl]
        unfold PM.heal
        rw [he]
        by_cases hb : isWords x.ws = true
        · rw [if_pos hb, if_pos hb, if_pos rfl, Int.toNat_natCast]; exact ⟨rfl, rfl⟩
        · rw [if_neg hb, if_neg hb, if_neg (by decide)]; exact ⟨(set_same hlt).symm, rfl⟩
      · have e1 : M.do x = M.rot x.a x.ws x.b := by simp [PM.do, h]
        have e2 : (M.res x).2 = M.rotErr x.a x.ws x.b := by simp [PM.res, h]
        rw [e1, e2, if_neg (by omega), if_neg (by omega), if_neg (by omega), hk]
        have he : M.rotErr (k : Int) x.ws x.b = if isWords x.ws && isCode x.b then (if (M.line k).ps = [] then 0 else 4) else 1 := by unfold PM.rotErr; rw [has_of hlt, if_pos rfl]
        unfold PM.rot
        rw [he]
        by_cases hb : (isWords x.ws && isCode x.b) = true
        · rw [if_pos hb, if_pos hb]
          by_cases hp : (M.line k).ps = []
          · rw [if_pos hp, if_pos hp, if_pos rfl, Int.toNat_natCast]; exact ⟨rfl, rfl⟩
          · rw [if_neg hp, if_neg hp, if_neg (by decide)]; exact ⟨(set_same hlt).symm, rfl⟩
        · rw [if_neg hb, if_neg hb, if_neg (by decide)]; exact ⟨(set_same hlt).symm, rfl⟩
    · omega
theorem line_do_other {M : PM} {x : POp} {p q : Nat} (hx : x.line M.ls.length = p) (hpq : p ≠ q) : (M.do x).line q = M.line q := by
  obtain ⟨h1, h2, _⟩ := do_line hx
  unfold PM.line
  rw [h2, Int.toNat_natCast, set_getD, if_neg (fun h => hpq h.1)]
/-- P4.3 to P4.5, P4.9. -/
theorem apart {M : PM} {x y : POp} {p q : Nat} (hx : x.line M.ls.length = p) (hy : y.line M.ls.length = q) (hpq : p ≠ q) :
    ((M.do x).do y).ls = ((M.do y).do x).ls ∧ (M.res x).2 = ((M.do y).res x).2 ∧ ((M.do x).res y).2 = (M.res y).2 := by
  obtain ⟨a1, a2, a3⟩ := do_line hx
  obtain ⟨b1, b2, b3⟩ := do_line hy
  obtain ⟨c1, c2, c3⟩ := do_line (M := M.do x) (x := y) (k := q) (by rw [do_len]; exact hy)
  obtain ⟨d1, d2, d3⟩ := do_line (M := M.do y) (x := x) (k := p) (by rw [do_len]; exact hx)
  rw [line_do_other hx hpq] at c2 c3
  rw [line_do_other hy (Ne.symm hpq)] at d2 d3
  refine ⟨?_, by rw [a3, d3], by rw [b3, c3]⟩
  rw [c2, d2, a2, b2]
  exact List.set_comm _ _ hpq
end Go.Proofs.YtkncbggnaobgeaaDoor

/- Scripts and numbers among a law's arguments. -/
namespace Go.Proofs.YtkncbggnaobgeaaDoor
open Go.ChangeShapes Go.WideShapes Go.ChangeAt Go.WideMaps Go.WideElems Go.RowKit
set_option linter.unusedVariables false
set_option linter.unusedSimpArgs false
set_option linter.unusedSectionVars false
set_option maxRecDepth 100000
section
variable {H : Type} {enc : TypeId × Value → H} {w : World} {base b0 : Nat} {spare : Nat → Bool} {held : Bool} {rr : Reach}
theorem len12 {xs : List Value} (h : xs.length = 12) : ∃ a b c d e f g i j k l m, xs = [a, b, c, d, e, f, g, i, j, k, l, m] := by
  match xs, h with
  | [a, b, c, d, e, f, g, i, j, k, l, m], _ => exact ⟨a, b, c, d, e, f, g, i, j, k, l, m, rfl⟩
/-- Integers in a slice. -/
theorem ints_open {t e : TypeId} {v : Value} {d : DataW H} {ps : List MemPlace} (ht : Tryd.prog.underlying t = some (.slice e)) (he : Tryd.prog.underlying e = some (.int .i64)) (hc : Tryd.prog.cellsOf e = 1) (hval : Value.okWide Tryd.prog w rr b0 t v) (h : DataW.Trod enc Tryd.prog w base spare held t v d ps) :
    ∃ A cap xs, v = .slice A (List.length xs) cap ∧ xs.length ≤ 9223372036854775807 ∧ IntsIn w A xs := by
  have hl : leafB Tryd.prog .i64 1 e = true := by unfold leafB; rw [he, hc]; rfl
  obtain ⟨A, len, cap, Y, rfl, _, hm, hY, hcl⟩ := open_slc ht hc (by omega) hval h
  obtain ⟨rows, hlen, hr, hYr⟩ := rows_of (f := 1) hl hY
  have hin := rows_in (by omega) hlen (fun r hr' => (hr r hr').1) hYr hcl
  have hfl : rows.flatten.length = len := by
    have := (flatten_get (s := 1) (by omega) rows (fun r hr' => (hr r hr').1)).1
    rw [this, hlen, Nat.mul_one]
  exact ⟨A, cap, rows.flatten, by rw [hfl], by omega, hin⟩
theorem cuts_openC {fuel : Nat} {vs : List Value} {x : DataW H × List MemPlace} (h : DataW.trod enc Tryd.prog w base spare held fuel 50 vs = some x) :
    ∃ A cap cuts, vs = [.slice A (List.length cuts) cap] ∧ cuts.length ≤ 9223372036854775807 ∧ CutsIn w A cuts [] := by
  obtain ⟨A, len, cap, Y, rfl, _, hm, hY, hc⟩ := open_slcC Tryd.underlying50 (s := 2) (by kernel_rfl) (by omega) h
  obtain ⟨rows, hlen, hr, hYr⟩ := rows_of (f := 2) (by kernel_rfl) hY
  refine ⟨A, cap, rows.map fun r => (r.getD 0 0, r.getD 1 0), by rw [List.length_map, hlen], by rw [List.length_map]; omega, ?_⟩
  rcases hc with h | ⟨b, o, cs, t, fr, h1, h2, h3⟩
  · left
    have : rows = [] := List.eq_nil_of_length_eq_zero (by omega)
    rw [this]; rfl
  · refine .inr ⟨b, o, cs, t, fr, h1, h2, by simp, fun j hj => ?_⟩
    rw [List.length_map] at hj
    have hj2 := (hr _ (List.getElem_mem hj)).1
    have e0 := h3 (j * 2) (by omega)
    have e1 := h3 (j * 2 + 1) (by omega)
    simp only [show j * 2 / 2 = j from by omega, show j * 2 % 2 = 0 from by omega, show (j * 2 + 1) / 2 = j from by omega, show (j * 2 + 1) % 2 = 1 from by omega, hYr j hj] at e0 e1
    rw [List.getElem_map, e0, Nat.add_assoc, e1]
    obtain ⟨a, b', hab⟩ : ∃ a b', rows[j] = [a, b'] := by
      match rows[j], hj2 with
      | [a, b'], _ => exact ⟨a, b', rfl⟩
    rw [hab]
    exact ⟨rfl, rfl⟩
theorem op_openC {fuel : Nat} {cs : List Value} {x : DataW H × List MemPlace} (h : DataW.trod enc Tryd.prog w base spare held fuel 60 cs = some x) : ∃ v : OpV, cs = v.cells ∧ v.ok w := by
  obtain ⟨xs, n, _, _, hlen, hxs, hf⟩ := DataW.trod_struct Tryd.underlying60 h
  have hxs5 : xs.length = 5 := hxs
  have c60 : Tryd.prog.cellsOf 60 = 12 := by kernel_rfl
  have c3 : Tryd.prog.cellsOf 3 = 1 := by kernel_rfl
  have c38 : Tryd.prog.cellsOf 38 = 8 := by kernel_rfl
  have c50 : Tryd.prog.cellsOf 50 = 1 := by kernel_rfl
  rw [c60] at hlen
  obtain ⟨v0, v1, v2, v3, v4, v5, v6, v7, v8, v9, v10, v11, rfl⟩ := len12 hlen
  have f0 : DataW.trod enc Tryd.prog w base spare held n 3 (([v0, v1, v2, v3, v4, v5, v6, v7, v8, v9, v10, v11].drop 0).take (Tryd.prog.cellsOf 3)) = xs[0]? := hf 0 _ rfl
  have f1 : DataW.trod enc Tryd.prog w base spare held n 3 (([v0, v1, v2, v3, v4, v5, v6, v7, v8, v9, v10, v11].drop 1).take (Tryd.prog.cellsOf 3)) = xs[1]? := hf 1 _ rfl
  have f2 : DataW.trod enc Tryd.prog w base spare held n 3 (([v0, v1, v2, v3, v4, v5, v6, v7, v8, v9, v10, v11].drop 2).take (Tryd.prog.cellsOf 3)) = xs[2]? := hf 2 _ rfl
  have f3 : DataW.trod enc Tryd.prog w base spare held n 38 (([v0, v1, v2, v3, v4, v5, v6, v7, v8, v9, v10, v11].drop 3).take (Tryd.prog.cellsOf 38)) = xs[3]? := hf 3 _ rfl
  have f4 : DataW.trod enc Tryd.prog w base spare held n 50 (([v0, v1, v2, v3, v4, v5, v6, v7, v8, v9, v10, v11].drop 11).take (Tryd.prog.cellsOf 50)) = xs[4]? := hf 4 _ rfl
  rw [c3] at f0 f1 f2
  rw [c38] at f3
  rw [c50] at f4
  simp only [List.drop_zero, List.take_succ_cons, List.take_zero, List.drop_succ_cons] at f0 f1 f2 f3 f4
  rw [List.getElem?_eq_getElem (by omega)] at f0 f1 f2 f3 f4
  obtain ⟨z0, e0, _, w0⟩ := DataW.trod_int Tryd.underlying3 f0
  obtain ⟨z1, e1, _, w1⟩ := DataW.trod_int Tryd.underlying3 f1
  obtain ⟨z2, e2, _, w2⟩ := DataW.trod_int Tryd.underlying3 f2
  obtain ⟨e3, w3, l3⟩ := leaf_open (k := .i64) 2 38 (by kernel_rfl) f3
  obtain ⟨A, cap, cuts, e4, m4, h4⟩ := cuts_openC f4
  cases e0; cases e1; cases e2; cases e4
  generalize flatZ 2 (xs[3]).1 = ws at e3 w3
  refine ⟨{ x := { kind := z0, a := z1, b := z2, ws := ws, cuts := cuts }, A := A, cap := cap }, ?_, ⟨⟨?_, wf_i64' w1, m4⟩, h4⟩⟩
  · show _ = opC _ _ _
    unfold opC intsC
    rw [← e3]; rfl
  · have := congrArg List.length e3
    simpa using this.symm
theorem op_open {v : Value} {d : DataW H} {ps : List MemPlace} (hval : Value.okWide Tryd.prog w rr b0 60 v) (h : DataW.Trod enc Tryd.prog w base spare held 60 v d ps) : ∃ o : OpV, v = .agg o.cells.toArray ∧ o.ok w := by
  obtain ⟨cs, rfl, _⟩ := okWide_struct Tryd.underlying60 hval
  obtain ⟨fuel, hf⟩ := h
  obtain ⟨o, h1, h2⟩ := op_openC hf
  refine ⟨o, ?_, h2⟩
  have h1' : cs.toList = o.cells := h1
  rw [← h1']
theorem ops_open {v : Value} {d : DataW H} {ps : List MemPlace} (hval : Value.okWide Tryd.prog w rr b0 35 v) (h : DataW.Trod enc Tryd.prog w base spare held 35 v d ps) :
    ∃ A cap xs, v = .slice A (List.length xs) cap ∧ xs.length ≤ 9223372036854775807 ∧ OpsIn w A xs ∧ ∀ o ∈ xs, OpV.ok w o := by
  obtain ⟨A, len, cap, Y, rfl, _, hm, hY, hc⟩ := open_slc Tryd.underlying35 (s := 12) (by kernel_rfl) (by omega) hval h
  have key : ∀ i, ∃ o : OpV, i < len → Y i = o.cells ∧ o.ok w := fun i => by
    by_cases hi : i < len
    · obtain ⟨_, n, x, hx⟩ := hY i hi
      obtain ⟨o, h1, h2⟩ := op_openC hx
      exact ⟨o, fun _ => ⟨h1, h2⟩⟩
    · exact ⟨⟨⟨0, 0, 0, [], []⟩, none, 0⟩, fun h => absurd h hi⟩
  obtain ⟨O, hO⟩ := Classical.axiomOfChoice key
  refine ⟨A, cap, (List.range len).map O, by simp, by simpa using hm, ?_, ?_⟩
  · rcases hc with h | ⟨b, o, cs, t, fr, h1, h2, h3⟩
    · left
      have : len = 0 := by omega
      rw [this]; rfl
    · refine .inr ⟨b, o, cs, t, fr, h1, h2, fun i hi j hj => ?_⟩
      have hi' : i < len := by simpa using hi
      have e0 := h3 (i * 12 + j) (by omega)
      simp only [show (i * 12 + j) / 12 = i from by omega, show (i * 12 + j) % 12 = j from by omega, (hO i hi').1] at e0
      rw [← Nat.add_assoc] at e0
      rw [e0, List.getElem_map, List.getElem_range]
  · intro o ho
    obtain ⟨i, hi, rfl⟩ := List.mem_map.1 ho
    exact (hO i (List.mem_range.1 hi)).2
end
end Go.Proofs.YtkncbggnaobgeaaDoor
