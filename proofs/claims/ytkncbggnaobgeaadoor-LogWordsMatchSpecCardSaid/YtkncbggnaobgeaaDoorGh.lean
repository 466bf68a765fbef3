/- Texts of this session, laid together: Api3, RowsIn, Pl2, Pl3, Card1. -/
import Derived.Test.YtkncbggnaobgeaaDoorGf
import Derived.Test.YtkncbggnaobgeaaDoorGg

/- Scripts: how the calls of a script lie in memory; cuts made out of numbers; what else the laws of layer 4 hold. -/
namespace Go.Proofs.YtkncbggnaobgeaaDoor
open Go.RowKit
set_option linter.unusedVariables false
set_option linter.unusedSimpArgs false
set_option maxRecDepth 100000

/-- A call's cells. -/
def opC (x : POp) (A : Option Addr) (cap : Nat) : List Value := intsC [x.kind, x.a, x.b] ++ (intsC x.ws ++ [.slice A x.cuts.length cap])
structure POp.ok (x : POp) : Prop where
  w8 : x.ws.length = 8
  a : -9223372036854775808 ≤ x.a ∧ x.a ≤ 9223372036854775807
  n : x.cuts.length ≤ 9223372036854775807
theorem opC_length {x : POp} {A : Option Addr} {cap : Nat} (h : x.ws.length = 8) : (opC x A cap).length = 12 := by simp [opC, intsC, h]
section
variable {w0 w : World} {L : Hp} {R : RM} {p k : Nat} {M : PM}
theorem CutsIn.keep {A : Option Addr} {cuts : List (Int × Int)} {bad : List Nat} (h : CutsIn w0 A cuts bad) (H : St w0 [] w (L ++ R.hp)) : CutsIn w A cuts (R.hp.map Prod.fst) := by
  rcases h with h | ⟨b, o, cs, t, fr, h1, h2, h3, h4⟩
  · exact .inl h
  · refine .inr ⟨b, o, cs, t, fr, h1, H.oldBlock h2 (by simp), fun hm => ?_, h4⟩
    obtain ⟨q, hq, he⟩ := List.mem_map.1 hm
    have hlt := lt_of_some h2
    rcases H.own q (List.mem_append_right _ hq) with hh | hh
    · simp at hh
    · omega
/-- A call of a script with where its cuts lie. -/
structure OpV where
  x : POp
  A : Option Addr
  cap : Nat
def OpV.cells (v : OpV) : List Value := opC v.x v.A v.cap
structure OpV.ok (w : World) (v : OpV) : Prop where
  x : v.x.ok
  cuts : CutsIn w v.A v.x.cuts []
/-- Scripts that were handed over. -/
def OpsIn (w : World) (A : Option Addr) (xs : List OpV) : Prop := xs = [] ∨ ∃ b o cs t fr, A = some ⟨b, o, none⟩ ∧ w.heap[b]? = some (.cells cs t fr) ∧ ∀ i (hi : i < xs.length) j, j < 12 → cs[o + i * 12 + j]? = (xs[i]).cells[j]?
theorem Rd.cellsAt {P : Program} {T t : TypeId} {fr : Nat × Nat} {b o n : Nat} {cs : Array Value} {ys : List Value} (hT : tyB P T true n = true) (h : w.heap[b]? = some (.cells cs t fr)) (hl : ys.length = n) (hn0 : 0 < n) (hn : ∀ j, j < n → cs[o + j]? = ys[j]?) : Rd P w T ⟨b, o, none⟩ (.agg ys.toArray) := by
  have hk : o + n ≤ cs.size := by
    have h1 := hn (n - 1) (by omega)
    rw [List.getElem?_eq_getElem (by omega)] at h1
    rcases Nat.lt_or_ge (o + (n - 1)) cs.size with hl2 | hg
    · omega
    · rw [Array.getElem?_eq_none hg] at h1; cases h1
  have := Rd.agg (P := P) (o := o) hT h hk
  have e1 : cs.extract o (o + n) = ys.toArray := by
    apply Array.ext_getElem?
    intro i
    rw [Array.getElem?_extract]
    by_cases hi : i < n
    · rw [if_pos (by omega), hn i hi]; simp
    · rw [if_neg (by omega)]; simp; omega
  rw [e1] at this
  exact this
theorem Rd.ints {P : Program} {T : TypeId} {A : Option Addr} {xs : List Int} {i : Nat} {kk : Nat} (hT : tyB P T false kk = true) (h : IntsIn w A xs) {x : Int} (hi : xs[i]? = some x) {b o : Nat} (hA : A = some ⟨b, o, none⟩) : Rd P w T ⟨b, o + i, none⟩ (.int .i64 x) := by
  rcases h with h | ⟨b', o', cs, t, fr, h1, h2, h3⟩
  · rw [h] at hi; cases hi
  · rw [hA] at h1
    cases h1
    exact Rd.one hT (by rw [cell_of h2]; exact h3 i x hi)

/-- Cuts made out of numbers: of the first n lines. -/
def PM.cutsTo (M : PM) (keep : List Int) (n : Nat) : List (Int × Int) :=
  (List.range n).filterMap fun i : Nat => if 0 < (M.line i).ps.length ∧ i < keep.length then some ((i : Int), keep.getD i 0 % (((M.line i).ps.length : Int) + 1)) else none
def PM.cutsOf (M : PM) (keep : List Int) : List (Int × Int) := M.cutsTo keep M.ls.length
theorem cutsTo_succ (M : PM) (keep : List Int) (n : Nat) : M.cutsTo keep (n + 1) = M.cutsTo keep n ++ (if 0 < (M.line n).ps.length ∧ n < keep.length then [((n : Int), keep.getD n 0 % (((M.line n).ps.length : Int) + 1))] else []) := by
  unfold PM.cutsTo
  rw [List.range_succ, List.filterMap_append]
  congr 1
  by_cases h : 0 < (M.line n).ps.length ∧ n < keep.length
  · rw [if_pos h, List.filterMap_cons, if_pos h, List.filterMap_nil]
  · rw [if_neg h, List.filterMap_cons, if_neg h, List.filterMap_nil]
theorem cutsTo_mem {M : PM} {keep : List Int} {n : Nat} {c : Int × Int} (h : c ∈ M.cutsTo keep n) : ∃ i : Nat, i < n ∧ c.1 = i ∧ 0 < (M.line i).ps.length ∧ 0 ≤ c.2 ∧ c.2 ≤ (M.line i).ps.length := by
  unfold PM.cutsTo at h
  obtain ⟨i, hi, he⟩ := List.mem_filterMap.1 h
  split at he
  · rename_i hc
    cases he
    refine ⟨i, List.mem_range.1 hi, rfl, hc.1, Int.emod_nonneg _ (by omega), ?_⟩
    have := Int.emod_lt_of_pos (keep.getD i 0) (show (0 : Int) < ((M.line i).ps.length : Int) + 1 by omega)
    show keep.getD i 0 % _ ≤ _
    omega
  · cases he
theorem cutsTo_asc (M : PM) (keep : List Int) : ∀ n, (M.cutsTo keep n).Pairwise fun a b => a.1 < b.1
  | 0 => by simp [PM.cutsTo]
  | n + 1 => by
    rw [cutsTo_succ, List.pairwise_append]
    refine ⟨cutsTo_asc M keep n, by split <;> simp, ?_⟩
    intro a ha b hb
    obtain ⟨i, hi, he, _⟩ := cutsTo_mem ha
    split at hb
    · simp only [List.mem_singleton] at hb
      subst hb
      rw [he]
      exact Int.ofNat_lt.2 hi
    · cases hb
theorem cutsOf_ok (M : PM) (keep : List Int) : M.cutsOk (M.cutsOf keep) = true := by
  unfold PM.cutsOk
  rw [List.all_eq_true]
  intro j hj
  have hjl := List.mem_range.1 hj
  have hm : (M.cutsOf keep)[j] ∈ M.cutsOf keep := List.getElem_mem hjl
  obtain ⟨i, hi, h1, h2, h3, h4⟩ := cutsTo_mem hm
  refine (cutOk_iff hjl).2 ⟨?_, ?_, h3, ?_⟩
  · rw [h1]; exact has_of hi
  · rcases Nat.eq_zero_or_pos j with h0 | hp
    · exact .inl h0
    · right
      rw [getD_at (show j - 1 < _ by omega)]
      exact List.pairwise_iff_getElem.1 (cutsTo_asc M keep M.ls.length) (j - 1) j (by unfold PM.cutsOf at hjl; omega) hjl (by omega)
  · rw [h1]; exact h4
theorem cutsOf_len (M : PM) (keep : List Int) : (M.cutsOf keep).length ≤ M.ls.length := by
  have := List.length_filterMap_le (fun i : Nat => if 0 < (M.line i).ps.length ∧ i < keep.length then some ((i : Int), keep.getD i 0 % (((M.line i).ps.length : Int) + 1)) else none) (List.range M.ls.length)
  rw [List.length_range] at this
  exact this
/-- Cuts in a row of the caller's own. -/
theorem CutsIn.row {r : Row} {cuts : List (Int × Int)} {L2 : Hp} (H : St w0 [] w ((r.hp 109 ++ L2) ++ R.hp)) (hr : r.ok 2 cuts.length (flatP cuts)) : ∃ A cap, r.val cuts.length = .slice A cuts.length cap ∧ CutsIn w A cuts (R.hp.map Prod.fst) := by
  cases r with
  | none => exact ⟨none, 0, rfl, .inl (List.eq_nil_of_length_eq_zero hr.1)⟩
  | nul a => exact ⟨some a, 0, rfl, .inl (List.eq_nil_of_length_eq_zero hr.1)⟩
  | some g cap cur =>
    refine ⟨some ⟨g, 0, none⟩, cap, rfl, .inr ⟨g, 0, cur, 109, _, rfl, H.sat (g, .cells cur 109) (List.mem_append_left _ (List.mem_append_left _ List.mem_cons_self)), fun hm => ?_, fun j hj => ?_⟩⟩
    · have hnd := H.nd
      rw [List.map_append, List.nodup_append] at hnd
      exact hnd.2.2 g (List.mem_map.2 ⟨_, List.mem_append_left _ List.mem_cons_self, rfl⟩) g hm rfl
    · have := Row.getP hr hj
      rw [Nat.zero_add, Nat.mul_comm]
      exact this
theorem a_crash_row {r : Row} {cuts : List (Int × Int)} {L2 : Hp} (hr : r.ok 2 cuts.length (flatP cuts)) (hl : cuts.length ≤ 9223372036854775807) (hk : k ≤ 1073741824) (hI : Is R p M k) (H : St w0 [] w ((r.hp 109 ++ L2) ++ R.hp)) (hL : L64 w0) :
    Calls Tryd.prog 37 #[ptr p, r.val cuts.length] w fun e w' => ∃ R', e = .returned (.int .i64 (if M.cutsOk cuts then 0 else 1)) ∧ Is R' p (M.crash cuts) k ∧ St w0 [] w' ((r.hp 109 ++ L2) ++ R'.hp) := by
  obtain ⟨A, cap, he, hc⟩ := CutsIn.row H hr
  rw [he]
  exact a_crash A cuts.length cap cuts rfl hl hk hI H hL hc
end

/-- What a script leads to. -/
def PM.begun (n : Int) (xs : List POp) : PM := (PM.fresh (1 + n % 8).toNat).run (xs.take 80)
theorem iandm {P : Program} {t : TypeId} {x y : Int} {k : Nat} (hk : k < 63) (hy : y = ((2 ^ k - 1 : Nat) : Int)) : BinV P .and t (.int .i64 x) (.int .i64 y) (.int .i64 (x % 2 ^ k)) := by
  subst hy
  refine binv_and ?_
  have h2 : 2 ^ k < 2 ^ 63 := Nat.pow_lt_pow_right (by omega) hk
  have hpos : 0 < 2 ^ k := Nat.two_pow_pos k
  have e1 : (BitVec.ofInt 64 ((2 ^ k - 1 : Nat) : Int)).toNat = 2 ^ k - 1 := ofInt_toNat (by omega) (by omega)
  have e2 : ((BitVec.ofInt 64 x &&& BitVec.ofInt 64 ((2 ^ k - 1 : Nat) : Int)).toNat : Int) = x % 2 ^ k := by
    rw [BitVec.toNat_and, e1, Nat.and_two_pow_sub_one_eq_mod, BitVec.toNat_ofInt]
    have e3 : (((x % ((2 ^ 64 : Nat) : Int)).toNat % 2 ^ k : Nat) : Int) = (x % ((2 ^ 64 : Nat) : Int)) % ((2 ^ k : Nat) : Int) := by
      rw [Int.natCast_emod, Int.toNat_of_nonneg (Int.emod_nonneg _ (by decide))]
    rw [e3]
    have hd : ((2 ^ k : Nat) : Int) ∣ ((2 ^ 64 : Nat) : Int) := Int.natCast_dvd_natCast.2 (Nat.pow_dvd_pow 2 (by omega))
    rw [Int.emod_emod_of_dvd _ hd]
    congr 1
  show IntKind.i64.wrap _ = _
  rw [show (IntKind.i64.bits) = 64 from rfl, e2]
  have h3 : (0 : Int) ≤ x % 2 ^ k := Int.emod_nonneg _ (by exact_mod_cast Nat.ne_of_gt hpos)
  have h4 : x % 2 ^ k < 2 ^ k := Int.emod_lt_of_pos _ (by norm_cast)
  have h5 : ((2 : Int) ^ k) < 2 ^ 63 := by norm_cast
  exact wrap_i64 (by omega) (by omega)
end Go.Proofs.YtkncbggnaobgeaaDoor

/- Rows of integers that lie one behind the other: what is handed over, and what a call hands back. -/
namespace Go.Proofs.YtkncbggnaobgeaaDoor
open Go.RowKit
set_option linter.unusedVariables false
set_option linter.unusedSimpArgs false
set_option maxRecDepth 100000

def RowsIn (w : World) (A : Option Addr) (s : Nat) (xs : List (List Int)) : Prop := (∀ r ∈ xs, r.length = s) ∧ IntsIn w A xs.flatten
section
variable {w0 w : World} {L : Hp} {R : RM} {p k : Nat} {M : PM}
theorem RowsIn.keep {A : Option Addr} {s : Nat} {xs : List (List Int)} (h : RowsIn w0 A s xs) (H : St w0 [] w L) : RowsIn w A s xs := ⟨h.1, h.2.keep H⟩
theorem RowsIn.at {A : Option Addr} {s : Nat} {xs : List (List Int)} (h : RowsIn w A s xs) (hs : 0 < s) {g : Nat} (hg : g < xs.length) :
    ∃ b o cs t fr, A = some ⟨b, o, none⟩ ∧ w.heap[b]? = some (.cells cs t fr) ∧ ∀ j, j < s → cs[o + g * s + j]? = some (.int .i64 ((xs[g]).getD j 0)) := by
  obtain ⟨f1, f2⟩ := flatten_get hs xs h.1
  have hgl := h.1 _ (List.getElem_mem hg)
  have hmul : g * s + s ≤ xs.length * s := by
    have := Nat.mul_le_mul_right s (show g + 1 ≤ xs.length from hg)
    rw [Nat.add_mul, Nat.one_mul] at this; exact this
  rcases h.2 with h0 | ⟨b, o, cs, t, fr, h1, h2, h3⟩
  · rw [h0] at f1
    simp only [List.length_nil] at f1
    omega
  · refine ⟨b, o, cs, t, fr, h1, h2, fun j hj => ?_⟩
    have hx := f2 (g * s + j) (by omega)
    have e1 : (g * s + j) / s = g := by rw [Nat.mul_comm, Nat.mul_add_div hs, Nat.div_eq_of_lt hj, Nat.add_zero]
    have e2 : (g * s + j) % s = j := by rw [Nat.mul_comm, Nat.mul_add_mod, Nat.mod_eq_of_lt hj]
    rw [e1, e2, List.getElem?_eq_getElem hg] at hx
    simp only [Option.getD_some] at hx
    rw [List.getElem?_eq_getElem (l := xs[g]) (show j < (xs[g]).length by rw [hgl]; exact hj)] at hx
    have := h3 _ _ hx
    rw [← Nat.add_assoc] at this
    rw [this]
    simp [List.getD, List.getElem?_eq_getElem (show j < (xs[g]).length by rw [hgl]; exact hj)]
theorem RowsIn.rd {A : Option Addr} {s : Nat} {xs : List (List Int)} {T : TypeId} {P : Program} (hT : tyB P T true s = true) (h : RowsIn w A s xs) (hs : 0 < s) {g : Nat} (hg : g < xs.length) {b o : Nat} (hA : A = some ⟨b, o, none⟩) : Rd P w T ⟨b, o + g * s, none⟩ (YtkncbggnaobgeaaDoor.arr (xs[g])) := by
  obtain ⟨b', o', cs, t, fr, h1, h2, h3⟩ := h.at hs hg
  rw [hA] at h1
  cases h1
  exact Rd.sub (v := xs[g]) hT h2 (h.1 _ (List.getElem_mem hg)) hs h3
theorem RowsIn.addr {A : Option Addr} {s : Nat} {xs : List (List Int)} (h : RowsIn w A s xs) (hs : 0 < s) {g : Nat} (hg : g < xs.length) : ∃ b o, A = some ⟨b, o, none⟩ := by
  obtain ⟨b', o', cs, t, fr, h1, h2, h3⟩ := h.at hs hg
  exact ⟨b', o', h1⟩
theorem RowsIn.block {g s : Nat} {t : TypeId} {xs : List (List Int)} (h8 : ∀ r ∈ xs, r.length = s) (h : w.heap[g]? = some (.cells (arrC xs.flatten) t)) : RowsIn w (some ⟨g, 0, none⟩) s xs :=
  ⟨h8, .inr ⟨g, 0, _, t, _, rfl, h, fun j u hj => by rw [Nat.zero_add, arrC_get, hj]; rfl⟩⟩
theorem flatP_ints (ps : List (Int × Int)) : flatP ps = intsC (ps.map fun p => [p.1, p.2]).flatten := by
  unfold flatP intsC
  induction ps with
  | nil => rfl
  | cons p ps ih => rw [List.flatMap_cons, ih]; simp
theorem flatE_ints (es : List (List Int)) : flatE es = intsC es.flatten := by
  unfold flatE intsC
  induction es with
  | nil => rfl
  | cons p ps ih =>
    rw [List.flatMap_cons, ih]; simp [intsC]
/-- A row that was handed back. -/
theorem RowsIn.row {r : Row} {s n : Nat} {T : TypeId} {xs : List (List Int)} (h8 : ∀ v ∈ xs, v.length = s) (hn : n = xs.length) (hr : r.ok s n (intsC xs.flatten)) (hs : ∀ q ∈ r.hp T, w.heap[q.1]? = some q.2) : ∃ A cap, r.val n = .slice A n cap ∧ RowsIn w A s xs := by
  cases r with
  | none =>
    refine ⟨none, 0, rfl, h8, .inl ?_⟩
    have := hr.2
    unfold intsC at this
    exact List.map_eq_nil_iff.1 this
  | nul a =>
    refine ⟨some a, 0, rfl, h8, .inl ?_⟩
    have := hr.2
    unfold intsC at this
    exact List.map_eq_nil_iff.1 this
  | some g cap cur =>
    refine ⟨some ⟨g, 0, none⟩, cap, rfl, h8, .inr ⟨g, 0, cur, T, _, rfl, hs _ List.mem_cons_self, fun j u hj => ?_⟩⟩
    rw [Nat.zero_add]
    exact Row.ok_get hr (by unfold intsC; rw [List.getElem?_map, hj]; rfl)
theorem seenC_rows (ls : List PL) : seenC ls = (ls.map shown).flatten := by
  unfold seenC shown
  rw [List.flatMap_def]
theorem RowsIn.seen {g : Nat} {t : TypeId} {ls : List PL} (h8 : ∀ r ∈ ls.map shown, r.length = 8) (h : w.heap[g]? = some (.cells (arrC (seenC ls)) t)) : RowsIn w (some ⟨g, 0, none⟩) 8 (ls.map shown) := RowsIn.block h8 (by rw [← seenC_rows]; exact h)
theorem Is.shown8 (hI : Is R p M k) : ∀ r ∈ M.ls.map shown, r.length = 8 := by
  intro x hx
  obtain ⟨l, hl, rfl⟩ := List.mem_map.1 hx
  exact pShow_len (hI.lok l hl).1
end
end Go.Proofs.YtkncbggnaobgeaaDoor

/- What the statements of layer 4 say, of the plain memory. No Go in sight. -/
namespace Go.Proofs.YtkncbggnaobgeaaDoor
set_option linter.unusedVariables false
set_option linter.unusedSimpArgs false
set_option maxRecDepth 100000

theorem map_getD {α : Type} [Inhabited α] (f : α → α) {ls : List α} {k : Nat} (h : k < ls.length) : (ls.map f).getD k default = f (ls.getD k default) := by
  simp [List.getD, List.getElem?_eq_getElem h]
theorem crash_len (M : PM) (cuts : List (Int × Int)) : (M.crash cuts).ls.length = M.ls.length := by
  unfold PM.crash; split
  · simp [foldl_len]
  · rfl
theorem flush_len (M : PM) (n : Int) : (M.flush n).ls.length = M.ls.length := by unfold PM.flush; split <;> simp
theorem fence_len (M : PM) : M.fence.ls.length = M.ls.length := by simp [PM.fence]
theorem evict_len (M : PM) (n k : Int) : (M.evict n k).ls.length = M.ls.length := by unfold PM.evict; split <;> simp
theorem flush_line {M : PM} {k j : Nat} (hk : k < M.ls.length) : (M.flush k).line j = if k = j then { M.line k with mark := (M.line k).ps.length } else M.line j := by
  unfold PM.flush
  rw [has_of hk, if_pos rfl]
  unfold PM.line
  simp only [Int.toNat_natCast]
  rw [set_getD]
  by_cases h : k = j
  · rw [if_pos ⟨h, hk⟩, if_pos h]
  · rw [if_neg (fun hh => h hh.1), if_neg h]
theorem fence_line {M : PM} {j : Nat} (hj : j < M.ls.length) : M.fence.line j = pSettle (M.line j) (M.line j).mark := by
  unfold PM.fence PM.line
  simp only [Int.toNat_natCast]
  rw [map_getD (fun l => pSettle l l.mark) hj]
theorem crash_line {M : PM} {cuts : List (Int × Int)} (hc : M.cutsOk cuts = true) {j : Nat} (hj : j < M.ls.length) : (M.crash cuts).line j = drop0 ((cuts.foldl cutStep M.ls).getD j default) := by
  unfold PM.crash
  rw [if_pos hc]
  unfold PM.line
  simp only [Int.toNat_natCast]
  rw [map_getD drop0 (by rw [foldl_len]; exact hj)]
theorem crash_other {M : PM} {cuts : List (Int × Int)} (hc : M.cutsOk cuts = true) {j : Nat} (hj : j < M.ls.length) (h : ∀ c ∈ cuts, c.1.toNat ≠ j) : (M.crash cuts).line j = drop0 (M.line j) := by
  rw [crash_line hc hj, cut_other cuts _ h]; rfl
theorem settle_ps (l : PL) : (pSettle l l.ps.length).ps = [] := by
  unfold pSettle
  split
  · rename_i h; exact List.eq_nil_of_length_eq_zero h
  · simp
theorem settle_mark (l : PL) (m : Nat) (k : Nat) : (pSettle { l with mark := m } k).ws = (pSettle l k).ws ∧ (pSettle { l with mark := m } k).c = (pSettle l k).c ∧ (pSettle { l with mark := m } k).ps = (pSettle l k).ps := by
  unfold pSettle
  split <;> exact ⟨rfl, rfl, rfl⟩
theorem drop_mark (l : PL) (m : Nat) (k : Nat) : drop0 (pSettle { l with mark := m } k) = drop0 (pSettle l k) := by
  obtain ⟨h1, h2, _⟩ := settle_mark l m k
  unfold drop0
  rw [h1, h2]
theorem pend_line {M : PM} {k : Nat} (h : k < M.ls.length) : M.pend (k : Int) = (M.line k).ps := by unfold PM.pend; rw [has_of h]; rfl
/-- P4.9: what is seen when a line is flushed is there after a fence and a failure. -/
theorem fence_keeps {M : PM} (hok : ∀ l ∈ M.ls, l.ok) {k : Nat} (hk : k < M.ls.length) (keep : List Int) :
    shown (((M.flush k).fence.crash ((M.flush k).fence.cutsOf keep)).line k) = shown (M.line k) ∧ ((M.flush k).fence.crash ((M.flush k).fence.cutsOf keep)).pend k = [] := by
  have hk2 : k < (M.flush k).fence.ls.length := by rw [fence_len, flush_len]; exact hk
  have h1 : (M.flush k).fence.line k = pSettle { M.line k with mark := (M.line k).ps.length } (M.line k).ps.length := by
    rw [fence_line (by rw [flush_len]; exact hk), flush_line hk, if_pos rfl]
  have h2 : ((M.flush k).fence.line k).ps = [] := by
    rw [h1, (settle_mark _ _ _).2.2]; exact settle_ps _
  have h3 : ((M.flush k).fence.crash ((M.flush k).fence.cutsOf keep)).line k = drop0 ((M.flush k).fence.line k) := by
    refine crash_other (cutsOf_ok _ _) hk2 (fun c hc => ?_)
    obtain ⟨i, hi, he, hp, _⟩ := cutsTo_mem hc
    rw [he, Int.toNat_natCast]
    intro hik
    subst hik
    rw [h2] at hp; simp at hp
  constructor
  · rw [h3, h1, drop_mark]
    exact shown_all (hok _ (line_mem (has_of hk)))
  · rw [pend_line (by rw [crash_len]; exact hk2), h3]; rfl
theorem map_lines {β : Type} {f : PL → β} {A B : PM} (hl : A.ls.length = B.ls.length) (h : ∀ j : Nat, j < B.ls.length → f (A.line j) = f (B.line j)) : A.ls.map f = B.ls.map f := by
  apply List.ext_getElem?
  intro i
  rw [List.getElem?_map, List.getElem?_map]
  rcases Nat.lt_or_ge i B.ls.length with hi | hi
  · have := h i hi
    rw [line_of hi, line_of (by omega)] at this
    rw [List.getElem?_eq_getElem hi, List.getElem?_eq_getElem (show i < A.ls.length by omega)]
    simp [this]
  · rw [List.getElem?_eq_none hi, List.getElem?_eq_none (by omega)]
theorem fence_mark {M : PM} {j : Nat} (hj : j < M.ls.length) : (M.fence.line j).mark = 0 := by
  rw [fence_line hj]
  unfold pSettle
  split
  · assumption
  · exact Nat.sub_self _
theorem shown_settle {l : PL} (h : l.ok) : shown (pSettle l l.ps.length) = shown l := by
  rw [← shown_all h]
  unfold shown
  rw [settle_ps]
  rfl
theorem evict_line {M : PM} {k j : Nat} (hk : k < M.ls.length) (hn : 0 < (M.line k).ps.length) : M.evictErr k ((M.line k).ps.length : Int) = 0 ∧ (M.evict k ((M.line k).ps.length : Int)).line j = if k = j then pSettle (M.line k) (M.line k).ps.length else M.line j := by
  have h0 : M.evictErr k ((M.line k).ps.length : Int) = 0 := by
    unfold PM.evictErr
    rw [has_of hk, if_pos rfl, if_neg (by omega)]
  refine ⟨h0, ?_⟩
  unfold PM.evict
  rw [if_pos h0]
  unfold PM.line
  simp only [Int.toNat_natCast]
  rw [set_getD]
  by_cases h : k = j
  · rw [if_pos ⟨h, hk⟩, if_pos h]
  · rw [if_neg (fun hh => h hh.1), if_neg h]
/-- P4.4, P4.9: evicting all of a line does what flushing it and a fence do, if no other line is marked. -/
theorem evicts_like {M : PM} (hok : ∀ l ∈ M.ls, l.ok) {k : Nat} (hk : k < M.ls.length) (hm : ∀ j : Nat, j < M.ls.length → (M.line j).mark = 0) (hn : 0 < (M.line k).ps.length) :
    (M.evict k ((M.line k).ps.length : Int)).ls.map bare = (M.flush k).fence.ls.map bare ∧ (M.evict k ((M.line k).ps.length : Int)).ls.map shown = M.ls.map shown ∧ (M.flush k).fence.ls.map shown = M.ls.map shown := by
  have hlok : (M.line k).ok := hok _ (line_mem (has_of hk))
  have hB : ∀ j : Nat, j < M.ls.length → (M.flush k).fence.line j = if k = j then pSettle { M.line k with mark := (M.line k).ps.length } (M.line k).ps.length else M.line j := by
    intro j hj
    rw [fence_line (by rw [flush_len]; exact hj), flush_line hk]
    by_cases h : k = j
    · rw [if_pos h, if_pos h]
    · rw [if_neg h, if_neg h, hm j hj]; rfl
  refine ⟨?_, ?_, ?_⟩
  · refine map_lines (by rw [evict_len, fence_len, flush_len]) (fun j hj => ?_)
    rw [fence_len, flush_len] at hj
    rw [(evict_line hk hn).2, hB j hj]
    by_cases h : k = j
    · rw [if_pos h, if_pos h]
      obtain ⟨h1, h2, _⟩ := settle_mark (M.line k) (M.line k).ps.length (M.line k).ps.length
      unfold bare
      rw [h1, h2]
    · rw [if_neg h, if_neg h]
  · refine map_lines (by rw [evict_len]) (fun j hj => ?_)
    rw [(evict_line hk hn).2]
    by_cases h : k = j
    · rw [if_pos h, shown_settle hlok, h]
    · rw [if_neg h]
  · refine map_lines (by rw [fence_len, flush_len]) (fun j hj => ?_)
    rw [hB j hj]
    by_cases h : k = j
    · rw [if_pos h]
      obtain ⟨h1, h2, h3⟩ := settle_mark (M.line k) (M.line k).ps.length (M.line k).ps.length
      have : shown (pSettle { M.line k with mark := (M.line k).ps.length } (M.line k).ps.length) = shown (pSettle (M.line k) (M.line k).ps.length) := by
        unfold shown pShow
        rw [h1, h2, h3]
      rw [this, shown_settle hlok, h]
    · rw [if_neg h]
/-- A clean line bears the code of its words. -/
theorem clean_code {ws : List Int} {c : Int} (h : (chk ws c).1 = 0) : c = enc ws := by
  unfold chk at h
  split at h
  · rename_i hv
    rw [Bool.and_eq_true] at hv
    obtain ⟨hw, hc⟩ := hv
    have hcr := isCode_iff.1 hc
    simp only at h
    split at h
    · split at h
      · cases h
      · split at h
        · cases h
        · split at h <;> cases h
    · rename_i hpar
      split at h
      · rename_i hs
        have key : ∀ s, s < 512 → ∀ c, c < 1024 → s ^^^ (c &&& 511) = 0 → c = s ∨ c = s ||| 512 := by
          intro s hs c hc h
          have e1 : c &&& 511 = s := by
            have := congrArg (s ^^^ ·) h
            simp only [← Nat.xor_assoc, Nat.xor_self, Nat.zero_xor, Nat.xor_zero] at this
            exact this
          subst e1
          have : ∀ c, c < 1024 → c = c &&& 511 ∨ c = (c &&& 511) ||| 512 := by decide +kernel
          exact this c hc
        have h1 := syn_lt ws
        have h2 := popc512 h1
        unfold enc
        rw [if_pos hw]
        rcases key _ h1 c.toNat (by omega) hs with hcs | hcs
        · rw [hcs] at hpar
          rw [if_neg hpar]; omega
        · rw [hcs, h2.1] at hpar
          rw [if_pos (by omega)]; omega
      · cases h
  · cases h
end Go.Proofs.YtkncbggnaobgeaaDoor

/- Calls that belong to different lines change places. No Go in sight. -/
namespace Go.Proofs.YtkncbggnaobgeaaDoor
set_option linter.unusedVariables false
set_option linter.unusedSimpArgs false
set_option maxRecDepth 100000

/-- To which line a call belongs. -/
def POp.line0 (x : POp) : Int :=
  if x.kind = 0 ∨ x.kind = 1 then (if 0 ≤ x.a then x.a / 8 else -1) else if x.kind = 3 ∨ x.kind = 5 ∨ x.kind = 6 ∨ x.kind = 7 then x.a else -1
def POp.line (x : POp) (lines : Int) : Int := if x.line0 ≥ lines then -1 else x.line0
def lineDo (x : POp) (l : PL) : PL × Int :=
  if x.kind = 0 ∨ x.kind = 1 then (if isWord x.b then (if (chk l.ws l.c).1 = 2 then (l, 9) else ({ l with ps := l.ps ++ [(x.a % 8, x.b)] }, 0)) else (l, 1))
  else if x.kind = 3 then ({ l with mark := l.ps.length }, 0)
  else if x.kind = 5 then (if x.b < 1 ∨ l.ps.length < x.b then (l, 1) else (pSettle l x.b.toNat, 0))
  else if x.kind = 6 then (if isWords x.ws then ({ ws := x.ws, c := enc x.ws, ps := [], mark := 0 }, 0) else (l, 1))
  else (if isWords x.ws && isCode x.b then (if l.ps = [] then ({ l with ws := xorTo l.ws x.ws 8, c := ((l.c.toNat ^^^ x.b.toNat : Nat) : Int) }, 0) else (l, 4)) else (l, 1))
theorem set_same {M : PM} {k : Nat} (h : k < M.ls.length) : M.ls.set k (M.line k) = M.ls := by
  rw [line_of h]; exact List.set_getElem_self h
theorem put_line {M : PM} {kind a b : Int} {k : Nat} (ha : 0 ≤ a) (hk : a / 8 = k) (hlt : k < M.ls.length) :
    (M.put kind a b).ls = M.ls.set k (if isWord b then (if (chk (M.line k).ws (M.line k).c).1 = 2 then (M.line k, (9 : Int)) else ({ M.line k with ps := (M.line k).ps ++ [(a % 8, b)] }, 0)) else (M.line k, 1)).1 ∧
    M.putErr a b = (if isWord b then (if (chk (M.line k).ws (M.line k).c).1 = 2 then (M.line k, (9 : Int)) else ({ M.line k with ps := (M.line k).ps ++ [(a % 8, b)] }, 0)) else (M.line k, 1)).2 := by
  have he : M.putErr a b = if isWord b then (if (chk (M.line k).ws (M.line k).c).1 = 2 then 9 else 0) else 1 := by
    unfold PM.putErr
    rw [if_neg (by omega), hk, has_of hlt, if_pos rfl]
  unfold PM.put
  rw [he, hk]
  by_cases hw : isWord b = true
  · rw [if_pos hw, if_pos hw]
    by_cases hc : (chk (M.line k).ws (M.line k).c).1 = 2
    · rw [if_pos hc, if_pos hc, if_neg (by decide)]
      exact ⟨(set_same hlt).symm, rfl⟩
    · rw [if_neg hc, if_neg hc, if_pos rfl, Int.toNat_natCast]
      exact ⟨rfl, rfl⟩
  · rw [if_neg hw, if_neg hw, if_neg (by decide)]
    exact ⟨(set_same hlt).symm, rfl⟩
theorem do_line {M : PM} {x : POp} {k : Nat} (hk : x.line M.ls.length = k) : k < M.ls.length ∧ (M.do x).ls = M.ls.set k (lineDo x (M.line k)).1 ∧ (M.res x).2 = (lineDo x (M.line k)).2 := by
  unfold POp.line at hk
  split at hk
  · omega
  rename_i hlt0
  have hlt : k < M.ls.length := by omega
  refine ⟨hlt, ?_⟩
  unfold POp.line0 at hk
  unfold lineDo
  by_cases h01 : x.kind = 0 ∨ x.kind = 1
  · rw [if_pos h01] at hk
    split at hk
    · rename_i ha
      rw [if_pos h01]
      rcases h01 with h | h
      · have e1 : M.do x = M.put 1 x.a x.b := by simp [PM.do, h]
        have e2 : (M.res x).2 = M.putErr x.a x.b := by simp [PM.res, h]
        rw [e1, e2]; exact put_line ha hk hlt
      · have e1 : M.do x = M.put 2 x.a x.b := by simp [PM.do, h]
        have e2 : (M.res x).2 = M.putErr x.a x.b := by simp [PM.res, h]
        rw [e1, e2]; exact put_line ha hk hlt
    · omega
  · rw [if_neg h01] at hk ⊢
    split at hk
    · rename_i h
      rcases h with h | h | h | h
      · have e1 : M.do x = M.flush x.a := by simp [PM.do, h]
        have e2 : (M.res x).2 = if M.has x.a then 0 else 40 := by simp [PM.res, h]
        rw [e1, e2, if_pos h, hk, has_of hlt]
        refine ⟨?_, rfl⟩
        unfold PM.flush
        rw [has_of hlt, if_pos rfl, Int.toNat_natCast]
      · have e1 : M.do x = M.evict x.a x.b := by simp [PM.do, h]
        have e2 : (M.res x).2 = M.evictErr x.a x.b := by simp [PM.res, h]
        rw [e1, e2, if_neg (by omega), if_pos h, hk]
        have he : M.evictErr (k : Int) x.b = if x.b < 1 ∨ (M.line k).ps.length < x.b then 1 else 0 := by unfold PM.evictErr; rw [has_of hlt, if_pos rfl]
        unfold PM.evict
        rw [he]
        by_cases hb : x.b < 1 ∨ (M.line k).ps.length < x.b
        · rw [if_pos hb, if_pos hb, if_neg (by decide)]; exact ⟨(set_same hlt).symm, rfl⟩
        · rw [if_neg hb, if_neg hb, if_pos rfl, Int.toNat_natCast]; exact ⟨rfl, rfl⟩
      · have e1 : M.do x = M.heal x.a x.ws := by simp [PM.do, h]
        have e2 : (M.res x).2 = M.healErr x.a x.ws := by simp [PM.res, h]
        rw [e1, e2, if_neg (by omega), if_neg (by omega), if_pos h, hk]
        have he : M.healErr (k : Int) x.ws = if isWords x.ws then 0 else 1 := by unfold PM.healErr; rw [has_of hlt, if_pos rfl]
        unfold PM.heal
        rw [he]
        by_cases hb : isWords x.ws = true
        · rw [if_pos hb, if_pos hb, if_pos rfl, Int.toNat_natCast]; exact ⟨rfl, rfl⟩
        · rw [if_neg hb, if_neg hb, if_neg (by decide)]; exact ⟨(set_same hlt).symm, rfl⟩
      · have e1 : M.do x = M.rot x.a x.ws x.b := by simp [PM.do, h]
        have e2 : (M.res x).2 = M.rotErr x.a x.ws x.b := by simp [PM.res, h]
        rw [e1, e2, if_neg (by omega), if_neg (by omega), if_neg (by omega), hk]
        have he : M.rotErr (k : Int) x.ws x.b = if isWords x.ws && isCode x.b then (if (M.line k).ps = [] then 0 else 4) else 1 := by unfold PM.rotErr; rw [has_of hlt, if_pos rfl]
        unfold PM.rot
        rw [he]
        by_cases hb : (isWords x.ws && isCode x.b) = true
        · rw [if_pos hb, if_pos hb]
          by_cases hp : (M.line k).ps = []
          · rw [if_pos hp, if_pos hp, if_pos rfl, Int.toNat_natCast]; exact ⟨rfl, rfl⟩
          · rw [if_neg hp, if_neg hp, if_neg (by decide)]; exact ⟨(set_same hlt).symm, rfl⟩
        · rw [if_neg hb, if_neg hb, if_neg (by decide)]; exact ⟨(set_same hlt).symm, rfl⟩
    · omega
theorem line_do_other {M : PM} {x : POp} {p q : Nat} (hx : x.line M.ls.length = p) (hpq : p ≠ q) : (M.do x).line q = M.line q := by
  obtain ⟨h1, h2, _⟩ := do_line hx
  unfold PM.line
  rw [h2, Int.toNat_natCast, set_getD, if_neg (fun h => hpq h.1)]
/-- P4.3 to P4.5, P4.9. -/
theorem apart {M : PM} {x y : POp} {p q : Nat} (hx : x.line M.ls.length = p) (hy : y.line M.ls.length = q) (hpq : p ≠ q) :
    ((M.do x).do y).ls = ((M.do y).do x).ls ∧ (M.res x).2 = ((M.do y).res x).2 ∧ ((M.do x).res y).2 = (M.res y).2 := by
  obtain ⟨a1, a2, a3⟩ := do_line hx
  obtain ⟨b1, b2, b3⟩ := do_line hy
  obtain ⟨c1, c2, c3⟩ := do_line (M := M.do x) (x := y) (k := q) (by rw [do_len]; exact hy)
  obtain ⟨d1, d2, d3⟩ := do_line (M := M.do y) (x := x) (k := p) (by rw [do_len]; exact hx)
  rw [line_do_other hx hpq] at c2 c3
  rw [line_do_other hy (Ne.symm hpq)] at d2 d3
  refine ⟨?_, by rw [a3, d3], by rw [b3, c3]⟩
  rw [c2, d2, a2, b2]
  exact List.set_comm _ _ hpq
end Go.Proofs.YtkncbggnaobgeaaDoor

/- Scripts and numbers among a law's arguments. -/
namespace Go.Proofs.YtkncbggnaobgeaaDoor
open Go.ChangeShapes Go.WideShapes Go.ChangeAt Go.WideMaps Go.WideElems Go.RowKit
set_option linter.unusedVariables false
set_option linter.unusedSimpArgs false
set_option linter.unusedSectionVars false
set_option maxRecDepth 100000
section
variable {H : Type} {enc : TypeId × Value → H} {w : World} {base b0 : Nat} {spare : Nat → Bool} {held : Bool} {rr : Reach}
theorem len12 {xs : List Value} (h : xs.length = 12) : ∃ a b c d e f g i j k l m, xs = [a, b, c, d, e, f, g, i, j, k, l, m] := by
  match xs, h with
  | [a, b, c, d, e, f, g, i, j, k, l, m], _ => exact ⟨a, b, c, d, e, f, g, i, j, k, l, m, rfl⟩
/-- Integers in a slice. -/
theorem ints_open {t e : TypeId} {v : Value} {d : DataW H} {ps : List MemPlace} (ht : Tryd.prog.underlying t = some (.slice e)) (he : Tryd.prog.underlying e = some (.int .i64)) (hc : Tryd.prog.cellsOf e = 1) (hval : Value.okWide Tryd.prog w rr b0 t v) (h : DataW.Trod enc Tryd.prog w base spare held t v d ps) :
    ∃ A cap xs, v = .slice A (List.length xs) cap ∧ xs.length ≤ 9223372036854775807 ∧ IntsIn w A xs := by
  have hl : leafB Tryd.prog .i64 1 e = true := by unfold leafB; rw [he, hc]; rfl
  obtain ⟨A, len, cap, Y, rfl, _, hm, hY, hcl⟩ := open_slc ht hc (by omega) hval h
  obtain ⟨rows, hlen, hr, hYr⟩ := rows_of (f := 1) hl hY
  have hin := rows_in (by omega) hlen (fun r hr' => (hr r hr').1) hYr hcl
  have hfl : rows.flatten.length = len := by
    have := (flatten_get (s := 1) (by omega) rows (fun r hr' => (hr r hr').1)).1
    rw [this, hlen, Nat.mul_one]
  exact ⟨A, cap, rows.flatten, by rw [hfl], by omega, hin⟩
theorem cuts_openC {fuel : Nat} {vs : List Value} {x : DataW H × List MemPlace} (h : DataW.trod enc Tryd.prog w base spare held fuel 50 vs = some x) :
    ∃ A cap cuts, vs = [.slice A (List.length cuts) cap] ∧ cuts.length ≤ 9223372036854775807 ∧ CutsIn w A cuts [] := by
  obtain ⟨A, len, cap, Y, rfl, _, hm, hY, hc⟩ := open_slcC Tryd.underlying50 (s := 2) (by kernel_rfl) (by omega) h
  obtain ⟨rows, hlen, hr, hYr⟩ := rows_of (f := 2) (by kernel_rfl) hY
  refine ⟨A, cap, rows.map fun r => (r.getD 0 0, r.getD 1 0), by rw [List.length_map, hlen], by rw [List.length_map]; omega, ?_⟩
  rcases hc with h | ⟨b, o, cs, t, fr, h1, h2, h3⟩
  · left
    have : rows = [] := List.eq_nil_of_length_eq_zero (by omega)
    rw [this]; rfl
  · refine .inr ⟨b, o, cs, t, fr, h1, h2, by simp, fun j hj => ?_⟩
    rw [List.length_map] at hj
    have hj2 := (hr _ (List.getElem_mem hj)).1
    have e0 := h3 (j * 2) (by omega)
    have e1 := h3 (j * 2 + 1) (by omega)
    simp only [show j * 2 / 2 = j from by omega, show j * 2 % 2 = 0 from by omega, show (j * 2 + 1) / 2 = j from by omega, show (j * 2 + 1) % 2 = 1 from by omega, hYr j hj] at e0 e1
    rw [List.getElem_map, e0, Nat.add_assoc, e1]
    obtain ⟨a, b', hab⟩ : ∃ a b', rows[j] = [a, b'] := by
      match rows[j], hj2 with
      | [a, b'], _ => exact ⟨a, b', rfl⟩
    rw [hab]
    exact ⟨rfl, rfl⟩
theorem op_openC {fuel : Nat} {cs : List Value} {x : DataW H × List MemPlace} (h : DataW.trod enc Tryd.prog w base spare held fuel 60 cs = some x) : ∃ v : OpV, cs = v.cells ∧ v.ok w := by
  obtain ⟨xs, n, _, _, hlen, hxs, hf⟩ := DataW.trod_struct Tryd.underlying60 h
  have hxs5 : xs.length = 5 := hxs
  have c60 : Tryd.prog.cellsOf 60 = 12 := by kernel_rfl
  have c3 : Tryd.prog.cellsOf 3 = 1 := by kernel_rfl
  have c38 : Tryd.prog.cellsOf 38 = 8 := by kernel_rfl
  have c50 : Tryd.prog.cellsOf 50 = 1 := by kernel_rfl
  rw [c60] at hlen
  obtain ⟨v0, v1, v2, v3, v4, v5, v6, v7, v8, v9, v10, v11, rfl⟩ := len12 hlen
  have f0 : DataW.trod enc Tryd.prog w base spare held n 3 (([v0, v1, v2, v3, v4, v5, v6, v7, v8, v9, v10, v11].drop 0).take (Tryd.prog.cellsOf 3)) = xs[0]? := hf 0 _ rfl
  have f1 : DataW.trod enc Tryd.prog w base spare held n 3 (([v0, v1, v2, v3, v4, v5, v6, v7, v8, v9, v10, v11].drop 1).take (Tryd.prog.cellsOf 3)) = xs[1]? := hf 1 _ rfl
  have f2 : DataW.trod enc Tryd.prog w base spare held n 3 (([v0, v1, v2, v3, v4, v5, v6, v7, v8, v9, v10, v11].drop 2).take (Tryd.prog.cellsOf 3)) = xs[2]? := hf 2 _ rfl
  have f3 : DataW.trod enc Tryd.prog w base spare held n 38 (([v0, v1, v2, v3, v4, v5, v6, v7, v8, v9, v10, v11].drop 3).take (Tryd.prog.cellsOf 38)) = xs[3]? := hf 3 _ rfl
  have f4 : DataW.trod enc Tryd.prog w base spare held n 50 (([v0, v1, v2, v3, v4, v5, v6, v7, v8, v9, v10, v11].drop 11).take (Tryd.prog.cellsOf 50)) = xs[4]? := hf 4 _ rfl
  rw [c3] at f0 f1 f2
  rw [c38] at f3
  rw [c50] at f4
  simp only [List.drop_zero, List.take_succ_cons, List.take_zero, List.drop_succ_cons] at f0 f1 f2 f3 f4
  rw [List.getElem?_eq_getElem (by omega)] at f0 f1 f2 f3 f4
  obtain ⟨z0, e0, _, w0⟩ := DataW.trod_int Tryd.underlying3 f0
  obtain ⟨z1, e1, _, w1⟩ := DataW.trod_int Tryd.underlying3 f1
  obtain ⟨z2, e2, _, w2⟩ := DataW.trod_int Tryd.underlying3 f2
  obtain ⟨e3, w3, l3⟩ := leaf_open (k := .i64) 2 38 (by kernel_rfl) f3
  obtain ⟨A, cap, cuts, e4, m4, h4⟩ := cuts_openC f4
  cases e0; cases e1; cases e2; cases e4
  generalize flatZ 2 (xs[3]).1 = ws at e3 w3
  refine ⟨{ x := { kind := z0, a := z1, b := z2, ws := ws, cuts := cuts }, A := A, cap := cap }, ?_, ⟨⟨?_, wf_i64' w1, m4⟩, h4⟩⟩
  · show _ = opC _ _ _
    unfold opC intsC
    rw [← e3]; rfl
  · have := congrArg List.length e3
    simpa using this.symm
theorem op_open {v : Value} {d : DataW H} {ps : List MemPlace} (hval : Value.okWide Tryd.prog w rr b0 60 v) (h : DataW.Trod enc Tryd.prog w base spare held 60 v d ps) : ∃ o : OpV, v = .agg o.cells.toArray ∧ o.ok w := by
  obtain ⟨cs, rfl, _⟩ := okWide_struct Tryd.underlying60 hval
  obtain ⟨fuel, hf⟩ := h
  obtain ⟨o, h1, h2⟩ := op_openC hf
  refine ⟨o, ?_, h2⟩
  have h1' : cs.toList = o.cells := h1
  rw [← h1']
theorem ops_open {v : Value} {d : DataW H} {ps : List MemPlace} (hval : Value.okWide Tryd.prog w rr b0 35 v) (h : DataW.Trod enc Tryd.prog w base spare held 35 v d ps) :
    ∃ A cap xs, v = .slice A (List.length xs) cap ∧ xs.length ≤ 9223372036854775807 ∧ OpsIn w A xs ∧ ∀ o ∈ xs, OpV.ok w o := by
  obtain ⟨A, len, cap, Y, rfl, _, hm, hY, hc⟩ := open_slc Tryd.underlying35 (s := 12) (by kernel_rfl) (by omega) hval h
  have key : ∀ i, ∃ o : OpV, i < len → Y i = o.cells ∧ o.ok w := fun i => by
    by_cases hi : i < len
    · obtain ⟨_, n, x, hx⟩ := hY i hi
      obtain ⟨o, h1, h2⟩ := op_openC hx
      exact ⟨o, fun _ => ⟨h1, h2⟩⟩
    · exact ⟨⟨⟨0, 0, 0, [], []⟩, none, 0⟩, fun h => absurd h hi⟩
  obtain ⟨O, hO⟩ := Classical.axiomOfChoice key
  refine ⟨A, cap, (List.range len).map O, by simp, by simpa using hm, ?_, ?_⟩
  · rcases hc with h | ⟨b, o, cs, t, fr, h1, h2, h3⟩
    · left
      have : len = 0 := by omega
      rw [this]; rfl
    · refine .inr ⟨b, o, cs, t, fr, h1, h2, fun i hi j hj => ?_⟩
      have hi' : i < len := by simpa using hi
      have e0 := h3 (i * 12 + j) (by omega)
      simp only [show (i * 12 + j) / 12 = i from by omega, show (i * 12 + j) % 12 = j from by omega, (hO i hi').1] at e0
      rw [← Nat.add_assoc] at e0
      rw [e0, List.getElem_map, List.getElem_range]
  · intro o ho
    obtain ⟨i, hi, rfl⟩ := List.mem_map.1 ho
    exact (hO i (List.mem_range.1 hi)).2
end
end Go.Proofs.YtkncbggnaobgeaaDoor
