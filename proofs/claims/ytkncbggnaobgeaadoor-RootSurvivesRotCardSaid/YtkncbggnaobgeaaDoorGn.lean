/- Texts of this session, laid together: Trd, Blk, Lft, Hst, Flp, Gon, Tr1, Tr2, Tr3, Tr4, Tr5, Tr6, Tr7, Card3. -/
import Derived.Test.YtkncbggnaobgeaaDoorGk
import Derived.Test.YtkncbggnaobgeaaDoorGf
import Derived.Test.YtkncbggnaobgeaaDoorGh

/- Events played again: what trace's functions do to a plain memory. No Go in sight. -/
namespace Go.Proofs.YtkncbggnaobgeaaDoor
set_option linter.unusedVariables false
set_option linter.unusedSimpArgs false
set_option maxRecDepth 100000

def spanned (M : PM) (s : Int) : PM := { M with span := if 0 > s then 0 else s }
/-- The memory behind the call that an event records. -/
def evM (M : PM) (v : List Int) : PM :=
  if v.getD 0 0 = 1 then (spanned M (v.getD 3 0)).put 1 (v.getD 1 0) (v.getD 2 0)
  else if v.getD 0 0 = 2 then (spanned M (v.getD 3 0)).put 2 (v.getD 1 0) (v.getD 2 0)
  else if v.getD 0 0 = 3 then M.flush (v.getD 1 0)
  else if v.getD 0 0 = 4 then M.fence
  else if v.getD 0 0 = 5 then M.evict (v.getD 1 0) (v.getD 2 0)
  else if v.getD 0 0 = 6 then M.heal (v.getD 1 0) (v.drop 4)
  else if v.getD 0 0 = 7 then M.rot (v.getD 1 0) (v.drop 4) (v.getD 2 0) else M
def evErr (M : PM) (v : List Int) : Int :=
  if v.getD 0 0 = 1 then (spanned M (v.getD 3 0)).putErr (v.getD 1 0) (v.getD 2 0)
  else if v.getD 0 0 = 2 then (spanned M (v.getD 3 0)).putErr (v.getD 1 0) (v.getD 2 0)
  else if v.getD 0 0 = 3 then (if M.has (v.getD 1 0) then 0 else 40)
  else if v.getD 0 0 = 4 then 0
  else if v.getD 0 0 = 5 then M.evictErr (v.getD 1 0) (v.getD 2 0)
  else if v.getD 0 0 = 6 then M.healErr (v.getD 1 0) (v.drop 4)
  else if v.getD 0 0 = 7 then M.rotErr (v.getD 1 0) (v.drop 4) (v.getD 2 0) else 1
def evWant (v : List Int) : List Int :=
  if v.getD 0 0 = 1 ∨ v.getD 0 0 = 2 then [v.getD 0 0, v.getD 1 0, v.getD 2 0, if 0 > v.getD 3 0 then 0 else v.getD 3 0, 0, 0, 0, 0, 0, 0, 0, 0]
  else if v.getD 0 0 = 3 then [3, v.getD 1 0, 0, 0, 0, 0, 0, 0, 0, 0, 0, 0]
  else if v.getD 0 0 = 4 then [4, 0, 0, 0, 0, 0, 0, 0, 0, 0, 0, 0]
  else if v.getD 0 0 = 5 then [5, v.getD 1 0, v.getD 2 0, 0, 0, 0, 0, 0, 0, 0, 0, 0]
  else if v.getD 0 0 = 6 then [6, v.getD 1 0, 0, 0] ++ v.drop 4
  else [v.getD 0 0, v.getD 1 0, v.getD 2 0, 0] ++ v.drop 4
/-- It has recorded this event. -/
def evOk (M : PM) (v : List Int) : Prop := evErr M v = 0 ∧ v = evWant v
def runEv (M : PM) (l : List (List Int)) : PM := l.foldl evM M
def goodEv (M : PM) (l : List (List Int)) : Prop := ∀ i (h : i < l.length), evOk (runEv M (l.take i)) l[i]
theorem runEv_append (M : PM) (a b : List (List Int)) : runEv M (a ++ b) = runEv (runEv M a) b := by unfold runEv; rw [List.foldl_append]
theorem runEv_one (M : PM) (v : List Int) : runEv M [v] = evM M v := rfl
theorem goodEv_append {M : PM} {a b : List (List Int)} (ha : goodEv M a) (hb : goodEv (runEv M a) b) : goodEv M (a ++ b) := by
  intro i hi
  by_cases h : i < a.length
  · rw [List.getElem_append_left h, List.take_append_of_le_length (by omega)]
    exact ha i h
  · have h2 : i - a.length < b.length := by rw [List.length_append] at hi; omega
    have h3 := hb (i - a.length) h2
    rw [List.getElem_append_right (by omega)]
    have h4 : (a ++ b).take i = a ++ b.take (i - a.length) := by rw [List.take_append, List.take_of_length_le (by omega)]
    rw [h4, runEv_append]
    exact h3
theorem goodEv_nil (M : PM) : goodEv M [] := fun i h => absurd h (by simp)
theorem goodEv_one {M : PM} {v : List Int} (h : evOk M v) : goodEv M [v] := by
  intro i hi
  simp only [List.length_cons, List.length_nil] at hi
  obtain rfl : i = 0 := by omega
  exact h
theorem goodEv_take {M : PM} {l : List (List Int)} (h : goodEv M l) (n : Nat) : goodEv M (l.take n) := by
  intro i hi
  rw [List.length_take] at hi
  have := h i (by omega)
  rw [List.getElem_take, List.take_take, Nat.min_eq_left (by omega)]
  exact this
theorem runEv_succ (M : PM) (l : List (List Int)) {i : Nat} (h : i < l.length) : runEv M (l.take (i + 1)) = evM (runEv M (l.take i)) l[i] := by
  rw [List.take_add_one, List.getElem?_eq_getElem h, runEv_append]; rfl

/-! ### A choice of a failure -/
def chTo (M : PM) (k : Int) : Nat → List (Int × Int) × Int
  | 0 => ([], k)
  | i + 1 => if 0 < (M.line (i : Nat)).ps.length then ((chTo M k i).1 ++ [((i : Int), (chTo M k i).2 % (((M.line (i : Nat)).ps.length : Int) + 1))], (chTo M k i).2 / (((M.line (i : Nat)).ps.length : Int) + 1)) else chTo M k i
def pos (k : Int) : Int := if k < 0 then -(k + 1) else k
def choice (M : PM) (k : Int) : List (Int × Int) := (chTo M (pos k) M.ls.length).1
/-- What a failure leaves, as a memory of its own. -/
def leftOf (M : PM) (k : Int) : PM := PM.ofImg ((M.crash (choice M k)).ls.map bare)
theorem pos_nonneg (k : Int) : 0 ≤ pos k := by unfold pos; split <;> omega
theorem chTo_none {M : PM} {k : Int} : ∀ i, (∀ j : Nat, j < i → (M.line j).ps = []) → chTo M k i = ([], k)
  | 0, _ => rfl
  | i + 1, h => by
    unfold chTo
    rw [h i (by omega), if_neg (by simp)]
    exact chTo_none i fun j hj => h j (by omega)
theorem chTo_one {M : PM} {k : Int} {c : Nat} (hc : (M.line c).ps ≠ []) : ∀ i, c < i → (∀ j : Nat, j < i → j ≠ c → (M.line j).ps = []) → (chTo M k i).1 = [((c : Int), k % (((M.line c).ps.length : Int) + 1))]
  | 0, h, _ => by omega
  | i + 1, hi, h => by
    unfold chTo
    by_cases hci : i = c
    · subst hci
      rw [if_pos (List.length_pos_iff.2 hc), chTo_none i fun j hj => h j (by omega) (by omega)]
      rfl
    · rw [h i (by omega) hci, if_neg (by simp)]
      exact chTo_one hc i (by omega) fun j hj => h j (by omega)
end Go.Proofs.YtkncbggnaobgeaaDoor

/- The events of a put, played again up to any point; what a failure leaves there. No Go in sight. -/
namespace Go.Proofs.YtkncbggnaobgeaaDoor
set_option linter.unusedVariables false
set_option linter.unusedSimpArgs false
set_option maxRecDepth 100000

def tev (c : Int) (t : Int × Nat × Int) : List Int := [t.1, 8 * c + (t.2.1 : Int), t.2.2, 0, 0, 0, 0, 0, 0, 0, 0, 0]
def trips (w : List Int) : List (Int × Nat × Int) := [(1, 1, 0), (1, 0, w.getD 0 0), (1, 2, w.getD 2 0), (1, 3, w.getD 3 0), (1, 4, w.getD 4 0), (1, 5, w.getD 5 0), (1, 6, w.getD 6 0), (1, 7, w.getD 7 0), (2, 1, w.getD 1 0)]
def evFl (c : Int) : List Int := [3, c, 0, 0, 0, 0, 0, 0, 0, 0, 0, 0]
def evFe : List Int := [4, 0, 0, 0, 0, 0, 0, 0, 0, 0, 0, 0]
theorem blk_eq (c : Int) (w : List Int) : blk 0 c w = (trips w).map (tev c) ++ [evFl c, evFe] := rfl
theorem blk_len (c : Int) (w : List Int) : (blk 0 c w).length = 11 := rfl
def okT (t : Int × Nat × Int) : Prop := (t.1 = 1 ∨ t.1 = 2) ∧ t.2.1 < 8 ∧ isWord t.2.2 = true
def psOf (T : List (Int × Nat × Int)) : List (Int × Int) := T.map fun t => ((t.2.1 : Int), t.2.2)
theorem trips_ok {w : List Int} (hw : isWords w = true) : ∀ t ∈ trips w, okT t := by
  intro t ht
  have hg := word_getD hw
  simp only [trips, List.mem_cons, List.not_mem_nil, or_false] at ht
  rcases ht with rfl | rfl | rfl | rfl | rfl | rfl | rfl | rfl | rfl
  · exact ⟨.inl rfl, by decide, rfl⟩
  · exact ⟨.inl rfl, Nat.le_of_ble_eq_true rfl, hg _⟩
  · exact ⟨.inl rfl, Nat.le_of_ble_eq_true rfl, hg _⟩
  · exact ⟨.inl rfl, Nat.le_of_ble_eq_true rfl, hg _⟩
  · exact ⟨.inl rfl, Nat.le_of_ble_eq_true rfl, hg _⟩
  · exact ⟨.inl rfl, Nat.le_of_ble_eq_true rfl, hg _⟩
  · exact ⟨.inl rfl, Nat.le_of_ble_eq_true rfl, hg _⟩
  · exact ⟨.inl rfl, Nat.le_of_ble_eq_true rfl, hg _⟩
  · exact ⟨.inr rfl, Nat.le_of_ble_eq_true rfl, hg _⟩
section
variable {M : PM} {c : Nat} {l : PL} {E : List (List Int)} {w : List Int}
theorem spanned_same (hs : M.span = 0) : spanned M 0 = M := by
  unfold spanned
  rw [if_neg (by decide)]
  cases M
  simp only at hs
  rw [hs]
theorem at_span {E : List (List Int)} : (M.at c l E).span = M.span := rfl
theorem evM_trip {ps : List (Int × Int)} {t : Int × Nat × Int} (hc : c < M.ls.length) (hs : M.span = 0) (ht : okT t) (hl : (chk l.ws l.c).1 ≠ 2) :
    evM (M.at c (lineP l ps) E) (tev c t) = M.at c (lineP l (ps ++ [((t.2.1 : Int), t.2.2)])) (E ++ [tev c t]) ∧ evOk (M.at c (lineP l ps) E) (tev c t) := by
  obtain ⟨k, i, v⟩ := t
  obtain ⟨hk, hi, hv⟩ := ht
  simp only at hk hi hv
  have hsp : spanned (M.at c (lineP l ps) E) 0 = M.at c (lineP l ps) E := spanned_same (by rw [at_span, hs])
  have hc' : c < (M.at c (lineP l ps) E).ls.length := by rw [at_len]; exact hc
  have hl' : (chk ((M.at c (lineP l ps) E).line c).ws ((M.at c (lineP l ps) E).line c).c).1 ≠ 2 := by rw [at_line hc]; exact hl
  have hp : ∀ kind, (M.at c (lineP l ps) E).put kind (8 * (c : Int) + i) v = M.at c (lineP l (ps ++ [((i : Int), v)])) (E ++ [[kind, 8 * (c : Int) + i, v, 0, 0, 0, 0, 0, 0, 0, 0, 0]]) := by
    intro kind
    rw [put_at hc' hi hv hl', at_line hc, at_at, at_span, hs]
    rfl
  have he : (M.at c (lineP l ps) E).putErr (8 * (c : Int) + i) v = 0 := by
    unfold PM.putErr
    rw [if_neg (by omega), show (8 * (c : Int) + i) / 8 = (c : Int) by omega, has_of hc', if_pos rfl, hv, if_pos rfl, if_neg hl']
  rcases hk with rfl | rfl
  · refine ⟨?_, ?_, rfl⟩
    · show (spanned (M.at c (lineP l ps) E) 0).put 1 (8 * (c : Int) + i) v = _
      rw [hsp, hp]; rfl
    · show (spanned (M.at c (lineP l ps) E) 0).putErr (8 * (c : Int) + i) v = 0
      rw [hsp, he]
  · refine ⟨?_, ?_, rfl⟩
    · show (spanned (M.at c (lineP l ps) E) 0).put 2 (8 * (c : Int) + i) v = _
      rw [hsp, hp]; rfl
    · show (spanned (M.at c (lineP l ps) E) 0).putErr (8 * (c : Int) + i) v = 0
      rw [hsp, he]
theorem trips_run (hc : c < M.ls.length) (hs : M.span = 0) (hl : (chk l.ws l.c).1 ≠ 2) : ∀ (T : List (Int × Nat × Int)), (∀ t ∈ T, okT t) → ∀ (ps : List (Int × Int)) (E : List (List Int)),
    runEv (M.at c (lineP l ps) E) (T.map (tev c)) = M.at c (lineP l (ps ++ psOf T)) (E ++ T.map (tev c)) ∧ goodEv (M.at c (lineP l ps) E) (T.map (tev c))
  | [], _, ps, E => by
    refine ⟨?_, goodEv_nil _⟩
    simp [runEv, psOf]
  | t :: T, h, ps, E => by
    obtain ⟨h1, h2⟩ := evM_trip (E := E) (ps := ps) hc hs (h t List.mem_cons_self) hl
    obtain ⟨h3, h4⟩ := trips_run hc hs hl T (fun x hx => h x (List.mem_cons_of_mem _ hx)) (ps ++ [((t.2.1 : Int), t.2.2)]) (E ++ [tev c t])
    have e1 : (t :: T).map (tev c) = [tev c t] ++ T.map (tev c) := rfl
    rw [e1, runEv_append, runEv_one, h1, h3]
    refine ⟨?_, goodEv_append (goodEv_one h2) (by rw [runEv_one, h1]; exact h4)⟩
    rw [List.append_assoc, List.append_assoc]
    rfl
/-- The line that is being put, behind so many events. -/
def midL (l : PL) (w : List Int) (q : Nat) : PL := if q ≤ 9 then lineP l (psOf ((trips w).take q)) else { lineP l (psOf (trips w)) with mark := 9 }
theorem blk_mid (hc : c < M.ls.length) (hs : M.span = 0) (hl : (chk l.ws l.c).1 ≠ 2) (hw : isWords w = true) (hM : M.line c = lineP l []) {q : Nat} (hq : q ≤ 10) :
    runEv M ((blk 0 c w).take q) = M.at c (midL l w q) (M.evs ++ (blk 0 c w).take q) := by
  have e0 : M.at c (lineP l []) M.evs = M := by rw [← hM]; exact at_self hc
  have ht := trips_run hc hs hl
  rw [blk_eq]
  by_cases h9 : q ≤ 9
  · have e1 : ((trips w).map (tev c) ++ [evFl c, evFe]).take q = ((trips w).take q).map (tev c) := by
      rw [List.take_append_of_le_length (by simp only [trips, List.length_map, List.length_cons, List.length_nil]; omega), List.map_take]
    rw [e1]
    have h1 := (ht ((trips w).take q) (fun t h => trips_ok hw t (List.mem_of_mem_take h)) [] M.evs).1
    rw [e0] at h1
    unfold midL
    rw [h1, if_pos h9]
    rfl
  · obtain rfl : q = 10 := by omega
    have e1 : ((trips w).map (tev c) ++ [evFl c, evFe]).take 10 = (trips w).map (tev c) ++ [evFl c] := rfl
    have h1 := (ht (trips w) (trips_ok hw) [] M.evs).1
    rw [e0] at h1
    rw [e1, runEv_append, h1, runEv_one]
    show PM.flush (M.at c (lineP l ([] ++ psOf (trips w))) (M.evs ++ (trips w).map (tev c))) c = _
    rw [flush_at hc]
    unfold midL
    rw [if_neg (by decide), List.append_assoc]
    rfl
theorem blk_good (hc : c < M.ls.length) (hs : M.span = 0) (hl : (chk l.ws l.c).1 ≠ 2) (hw : isWords w = true) (hM : M.line c = lineP l []) : goodEv M (blk 0 c w) := by
  have e0 : M.at c (lineP l []) M.evs = M := by rw [← hM]; exact at_self hc
  obtain ⟨h1, h2⟩ := trips_run hc hs hl (trips w) (trips_ok hw) [] M.evs
  rw [e0] at h1 h2
  rw [blk_eq]
  refine goodEv_append h2 ?_
  rw [h1]
  have h3 : evOk (M.at c (lineP l ([] ++ psOf (trips w))) (M.evs ++ (trips w).map (tev c))) (evFl c) := by
    refine ⟨?_, rfl⟩
    show (if (M.at c (lineP l ([] ++ psOf (trips w))) (M.evs ++ (trips w).map (tev c))).has c then (0 : Int) else 40) = 0
    rw [has_of (by rw [at_len]; exact hc)]
    rfl
  exact goodEv_append (a := [evFl c]) (goodEv_one h3) (goodEv_one ⟨rfl, rfl⟩)
theorem psOf_trips (w : List Int) : psOf (trips w) = psTo w 8 ++ [(1, w.getD 1 0)] := rfl
theorem blk_all (hc : c < M.ls.length) (hs : M.span = 0) (hm : M.calm) (hok : l.ok) (hl : (chk l.ws l.c).1 ≠ 2) (hw : isWords w = true) (h8 : w.length = 8) (hM : M.line c = lineP l []) :
    runEv M (blk 0 c w) = M.at c (clean w) (M.evs ++ blk 0 c w) := by
  have h1 := blk_mid hc hs hl hw hM (q := 10) (Nat.le_refl _)
  have e1 : blk 0 c w = (blk 0 c w).take 10 ++ [evFe] := rfl
  conv => lhs; rw [e1]
  rw [runEv_append, h1, runEv_one]
  show PM.fence (M.at c (midL l w 10) (M.evs ++ (blk 0 c w).take 10)) = _
  rw [fence_at hc hm]
  unfold midL
  rw [if_neg (by decide)]
  have hf := fix_sound hok hl
  have h9 := settle_P (l := l) (ps := psOf (trips w)) hf (by simp [psOf, trips])
  have e2 : ({ lineP l (psOf (trips w)) with mark := 9 } : PL) = { lineP l (psOf (trips w)) with mark := (lineP l (psOf (trips w))).ps.length } := rfl
  rw [e2]
  show PM.at M c (pSettle { lineP l (psOf (trips w)) with mark := (lineP l (psOf (trips w))).ps.length } (psOf (trips w)).length) _ = _
  rw [h9, psOf_trips, psTo8 h8 (fix_len hok.1), List.append_assoc]
  rfl
end
end Go.Proofs.YtkncbggnaobgeaaDoor

/- What a failure leaves in the middle of a put. No Go in sight. -/
namespace Go.Proofs.YtkncbggnaobgeaaDoor
set_option linter.unusedVariables false
set_option linter.unusedSimpArgs false
set_option maxRecDepth 100000

section
variable {M : PM} {c : Nat} {l : PL} {E : List (List Int)} {w x : List Int} {k : Int}
theorem ofImg_drop (ls : List PL) : PM.ofImg ((ls.map drop0).map bare) = { ls := ls.map drop0, span := 0, evs := [] } := by
  unfold PM.ofImg
  rw [List.map_map, List.map_map]
  rfl
theorem cutsOk_nil (M : PM) : M.cutsOk [] = true := rfl
theorem left_none (h : ∀ j : Nat, j < M.ls.length → (M.line j).ps = []) : leftOf M k = { ls := M.ls.map drop0, span := 0, evs := [] } := by
  have e1 : choice M k = [] := by unfold choice; rw [chTo_none _ h]
  unfold leftOf
  rw [e1]
  unfold PM.crash
  rw [cutsOk_nil, if_pos rfl]
  exact ofImg_drop _
theorem left_one (hc : c < M.ls.length) (hp : (M.line c).ps ≠ []) (h : ∀ j : Nat, j < M.ls.length → j ≠ c → (M.line j).ps = []) :
    ∃ keep : Nat, keep ≤ (M.line c).ps.length ∧ leftOf M k = { ls := (M.ls.set c (pSettle (M.line c) keep)).map drop0, span := 0, evs := [] } := by
  have e1 : choice M k = [((c : Int), pos k % (((M.line c).ps.length : Int) + 1))] := by unfold choice; exact chTo_one hp _ hc h
  have h0 := Int.emod_nonneg (pos k) (show ((M.line c).ps.length : Int) + 1 ≠ 0 by omega)
  have h1 := Int.emod_lt_of_pos (pos k) (show (0 : Int) < ((M.line c).ps.length : Int) + 1 by omega)
  refine ⟨(pos k % (((M.line c).ps.length : Int) + 1)).toNat, by omega, ?_⟩
  unfold leftOf
  rw [e1]
  generalize hk : pos k % (((M.line c).ps.length : Int) + 1) = kk at *
  have hok : M.cutsOk [((c : Int), kk)] = true := by
    unfold PM.cutsOk
    rw [List.all_eq_true]
    intro j hj
    obtain rfl : j = 0 := by simpa using List.mem_range.1 hj
    rw [cutOk_iff (by simp)]
    exact ⟨has_of hc, .inl rfl, h0, by show kk ≤ ((M.line c).ps.length : Int); omega⟩
  unfold PM.crash
  rw [hok, if_pos rfl]
  show PM.ofImg (((([((c : Int), kk)] : List (Int × Int)).foldl cutStep M.ls).map drop0).map bare) = _
  rw [ofImg_drop]
  rfl
theorem map_set_drop (ls : List PL) (c : Nat) (l : PL) : (ls.set c l).map drop0 = (ls.map drop0).set c (drop0 l) := by rw [List.map_set]
theorem psOf_take (T : List (Int × Nat × Int)) (q : Nat) : psOf (T.take q) = (psOf T).take q := by unfold psOf; rw [List.map_take]
theorem midL_ps (l : PL) (w : List Int) (q : Nat) : (midL l w q).ps = (psOf (trips w)).take q := by
  unfold midL
  split
  · exact psOf_take _ _
  · rw [List.take_of_length_le (by simp only [psOf, trips, List.length_map, List.length_cons, List.length_nil]; omega)]
    rfl
theorem midL_ws (l : PL) (w : List Int) (q : Nat) : (midL l w q).ws = l.ws ∧ (midL l w q).c = l.c := by
  unfold midL
  split <;> exact ⟨rfl, rfl⟩
/-- What a prefix of the stores makes of the words. -/
theorem cut_word (hx : x.length = 8) (hw : w.length = 8) {j : Nat} (hj : j ≤ 9) : (j = 0 ∧ putAll x ((psOf (trips w)).take j) = x) ∨ (putAll x ((psOf (trips w)).take j)).getD 1 0 = 0 ∨ putAll x ((psOf (trips w)).take j) = w := by
  match x, hx with
  | [a, b, c, d, e, f, g, h], _ =>
    match w, hw with
    | [a', b', c', d', e', f', g', h'], _ =>
      have hj' : j = 0 ∨ j = 1 ∨ j = 2 ∨ j = 3 ∨ j = 4 ∨ j = 5 ∨ j = 6 ∨ j = 7 ∨ j = 8 ∨ j = 9 := by omega
      rcases hj' with rfl | rfl | rfl | rfl | rfl | rfl | rfl | rfl | rfl | rfl
      · exact .inl ⟨rfl, rfl⟩
      · exact .inr (.inl rfl)
      · exact .inr (.inl rfl)
      · exact .inr (.inl rfl)
      · exact .inr (.inl rfl)
      · exact .inr (.inl rfl)
      · exact .inr (.inl rfl)
      · exact .inr (.inl rfl)
      · exact .inr (.inl rfl)
      · exact .inr (.inr rfl)
theorem putAllLen' (ws : List Int) (ps : List (Int × Int)) : (putAll ws ps).length = ws.length := by
  unfold putAll
  induction ps generalizing ws with
  | nil => rfl
  | cons p ps ih => rw [List.foldl_cons, ih]; simp
theorem psOf_words (hw : isWords w = true) (j : Nat) : ∀ p ∈ (psOf (trips w)).take j, isWord p.2 = true := by
  intro p hp
  obtain ⟨t, ht, rfl⟩ := List.mem_map.1 (List.mem_of_mem_take hp)
  exact (trips_ok hw t ht).2.2
/-- The line in the middle, behind a failure that keeps j of its stores. -/
theorem settle_mid (hx : W8 x) (hw : W8 w) {q j : Nat} (hq : q ≤ 10) (hj : j ≤ (midL (clean x) w q).ps.length) :
    ∃ y, drop0 (pSettle (midL (clean x) w q) j) = clean y ∧ W8 y ∧ (y = x ∨ y.getD 1 0 = 0 ∨ y = w) := by
  have h1 := midL_ws (clean x) w q
  have h2 := midL_ps (clean x) w q
  by_cases h0 : j = 0
  · refine ⟨x, ?_, hx, .inl rfl⟩
    unfold pSettle
    rw [if_pos h0]
    unfold drop0
    rw [h1.1, h1.2]
    rfl
  · have hj9 : j ≤ 9 := by
      rw [h2, List.length_take] at hj
      simp only [psOf, trips, List.length_map, List.length_cons, List.length_nil] at hj
      omega
    have hjq : j ≤ q := by
      rw [h2, List.length_take] at hj
      omega
    have e1 : (pShow (midL (clean x) w q) j).1 = putAll x ((psOf (trips w)).take j) := by
      unfold pShow
      rw [h1.1, h1.2, h2]
      show (if (fix x (enc x)).2.2 = 0 then (putAll (fix x (enc x)).1 (((psOf (trips w)).take q).take j), (0 : Int)) else _).1 = _
      rw [fix_enc hx.1, if_pos rfl, List.take_take, Nat.min_eq_left hjq]
    refine ⟨putAll x ((psOf (trips w)).take j), ?_, ⟨putAll_words hx.1 (psOf_words hw.1 j), by rw [putAllLen']; exact hx.2⟩, ?_⟩
    · unfold pSettle
      rw [if_neg h0, e1]
      rfl
    · rcases cut_word hx.2 hw.2 hj9 with h | h | h
      · exact absurd h.1 h0
      · exact .inr (.inl h)
      · exact .inr (.inr h)
end
section
variable {n : Nat} {a b w : List Int} {E E' : List (List Int)} {k : Int} {q : Nat}
theorem rs_drop : (RS n a b E).ls.map drop0 = (RS n a b E).ls := by
  unfold RS
  simp only [List.map_cons, List.map_replicate]
  rfl
theorem rs_ps (j : Nat) (hj : j < (RS n a b E).ls.length) : ((RS n a b E).line j).ps = [] := by
  have key : ∀ l ∈ (RS n a b E).ls, l.ps = [] := by
    intro l hl
    unfold RS at hl
    simp only [List.mem_cons] at hl
    rcases hl with rfl | rfl | hl
    · rfl
    · rfl
    · rw [List.eq_of_mem_replicate hl]; rfl
  rw [line_of hj]
  exact key _ (List.getElem_mem hj)
theorem left_rs : leftOf (RS n a b E) k = RS n a b [] := by
  rw [left_none rs_ps, rs_drop]
  rfl
theorem left_mid {c : Nat} {x : List Int} (hc : c < (RS n a b E).ls.length) (hl : (RS n a b E).line c = clean x) (hx : W8 x) (hw : W8 w) (hq : q ≤ 10) :
    ∃ y, leftOf ((RS n a b E).at c (midL (clean x) w q) E') k = { ls := (RS n a b E).ls.set c (clean y), span := 0, evs := [] } ∧ W8 y ∧ (y = x ∨ y.getD 1 0 = 0 ∨ y = w) := by
  have hc' : c < ((RS n a b E).at c (midL (clean x) w q) E').ls.length := by rw [at_len]; exact hc
  have hlc : ((RS n a b E).at c (midL (clean x) w q) E').line c = midL (clean x) w q := at_line hc
  have hoth : ∀ j : Nat, j < ((RS n a b E).at c (midL (clean x) w q) E').ls.length → j ≠ c → (((RS n a b E).at c (midL (clean x) w q) E').line j).ps = [] := by
    intro j hj hne
    rw [at_other (Ne.symm hne)]
    exact rs_ps j (by rw [at_len] at hj; exact hj)
  by_cases hp : (midL (clean x) w q).ps = []
  · refine ⟨x, ?_, hx, .inl rfl⟩
    rw [left_none (fun j hj => by
      by_cases hjc : j = c
      · rw [hjc, hlc]; exact hp
      · exact hoth j hj hjc)]
    show PM.mk (((RS n a b E).ls.set c (midL (clean x) w q)).map drop0) 0 [] = _
    rw [map_set_drop, rs_drop]
    have : drop0 (midL (clean x) w q) = clean x := by
      unfold drop0
      rw [(midL_ws _ _ _).1, (midL_ws _ _ _).2]
      rfl
    rw [this]
  · obtain ⟨keep, hk, he⟩ := left_one (k := k) hc' (by rw [hlc]; exact hp) hoth
    rw [hlc] at hk he
    obtain ⟨y, hy, h8, hd⟩ := settle_mid hx hw hq hk
    refine ⟨y, ?_, h8, hd⟩
    rw [he]
    show PM.mk ((((RS n a b E).ls.set c (midL (clean x) w q)).set c (pSettle (midL (clean x) w q) keep)).map drop0) 0 [] = _
    rw [List.set_set, map_set_drop, rs_drop, hy]
theorem left_mid0 (hn : 2 ≤ n) (ha : W8 a) (hw : W8 w) (hq : q ≤ 10) : ∃ y, leftOf ((RS n a b E).at 0 (midL (clean a) w q) E') k = RS n y b [] ∧ W8 y ∧ (y = a ∨ y.getD 1 0 = 0 ∨ y = w) :=
  left_mid (c := 0) (by rw [rs_len hn]; omega) rs_l0 ha hw hq
theorem left_mid1 (hn : 2 ≤ n) (hb : W8 b) (hw : W8 w) (hq : q ≤ 10) : ∃ y, leftOf ((RS n a b E).at 1 (midL (clean b) w q) E') k = RS n a y [] ∧ W8 y ∧ (y = b ∨ y.getD 1 0 = 0 ∨ y = w) :=
  left_mid (c := 1) (by rw [rs_len hn]; omega) rs_l1 hb hw hq
end
end Go.Proofs.YtkncbggnaobgeaaDoor

/- A memory after Format and some writes, its events, and what a failure at any of them leaves. No Go in sight. -/
namespace Go.Proofs.YtkncbggnaobgeaaDoor
set_option linter.unusedVariables false
set_option linter.unusedSimpArgs false
set_option maxRecDepth 100000

/-- 0 or a pointer, from any integer. -/
def catV (z : Int) : Int := if z % 4294967296 % 4096 < 1 ∨ z % 4294967296 / 4096 % 1048576 < 1 then 0 else z % 4294967296 % 4096 + z % 4294967296 / 4096 % 1048576 * 4096
theorem catV_right (z : Int) : pRight (catV z) = true := by
  unfold pRight catV isWord
  simp only [Bool.or_eq_true, Bool.and_eq_true, decide_eq_true_eq]
  split
  · exact .inl rfl
  · right; omega
/-- The roots that are written. -/
def rootAt (n : Nat) (cats stamps : List Int) : Nat → List Int
  | 0 => [1, 0, 0, (n : Int)]
  | i + 1 => [2 + (i : Int), catV (cats.getD i 0), if i < stamps.length then stamps.getD i 0 else (i : Int), (n : Int)]
def evsTo (n : Nat) (cats stamps : List Int) : Nat → List (List Int)
  | 0 => blk 0 0 (rootW (rootAt n cats stamps 0)) ++ blk 0 1 (rootW (rootAt n cats stamps 0))
  | i + 1 => evsTo n cats stamps i ++ (blk 0 1 (rootW (rootAt n cats stamps (i + 1))) ++ blk 0 0 (rootW (rootAt n cats stamps (i + 1))))
section
variable {n : Nat} {cats stamps : List Int} {k : Int}
theorem evsTo_len : ∀ i, (evsTo n cats stamps i).length = 22 * (i + 1)
  | 0 => by unfold evsTo; rw [List.length_append, blk_len, blk_len]
  | i + 1 => by unfold evsTo; rw [List.length_append, List.length_append, blk_len, blk_len, evsTo_len i]; omega
theorem rootAt_N (hn : 64 ≤ n ∧ n ≤ 4096) (hs : ∀ s ∈ stamps, 0 ≤ s ∧ s ≤ 1073741824) : ∀ i, i ≤ 1000 → RootN n (rootAt n cats stamps i)
  | 0, _ => first_rootN hn
  | i + 1, hi => by
    refine ⟨rfl, ?_, rfl⟩
    have h1 := catV_right (cats.getD i 0)
    have h2 : 0 ≤ (if i < stamps.length then stamps.getD i 0 else (i : Int)) ∧ (if i < stamps.length then stamps.getD i 0 else (i : Int)) ≤ 1073741824 := by
      split
      · rename_i h
        refine hs _ ?_
        have : stamps.getD i 0 = stamps[i] := by simp [List.getD, List.getElem?_eq_getElem h]
        rw [this]
        exact List.getElem_mem h
      · omega
    unfold rootOk
    show (planOk (n : Int) && (decide ((1 : Int) ≤ 2 + (i : Int)) && (decide (2 + (i : Int) ≤ 1099511627775) && (pRight (catV (cats.getD i 0)) && (decide (0 ≤ (if i < stamps.length then stamps.getD i 0 else (i : Int))) && decide ((if i < stamps.length then stamps.getD i 0 else (i : Int)) ≤ 1073741824)))))) = true
    rw [planOk_of hn, h1, decide_eq_true h2.1, decide_eq_true h2.2, decide_eq_true (show (1 : Int) ≤ 2 + (i : Int) by omega), decide_eq_true (show 2 + (i : Int) ≤ 1099511627775 by omega)]
    rfl
theorem seq_at (i : Nat) : (rootAt n cats stamps i).getD 0 0 = 1 + (i : Int) := by
  cases i with
  | zero => rfl
  | succ i => show 2 + (i : Int) = 1 + ((i + 1 : Nat) : Int); omega
/-- Two puts, played again from a memory with both copies whole. -/
theorem rs_lineP0 {a b : List Int} {E : List (List Int)} : (RS n a b E).line (0 : Nat) = lineP (clean a) [] := rfl
theorem rs_lineP1 {a b : List Int} {E : List (List Int)} : (RS n a b E).line (1 : Nat) = lineP (clean b) [] := rfl
theorem play0 {a b w : List Int} {E : List (List Int)} (hn : 2 ≤ n) (ha : W8 a) (hw : W8 w) : runEv (RS n a b E) (blk 0 0 w) = RS n w b (E ++ blk 0 0 w) ∧ goodEv (RS n a b E) (blk 0 0 w) := by
  have hc : 0 < (RS n a b E).ls.length := by rw [rs_len hn]; omega
  have hl : (chk (clean a).ws (clean a).c).1 ≠ 2 := by rw [clean_chk ha.1]; decide
  exact ⟨blk_all (M := RS n a b E) (c := 0) (l := clean a) hc rfl rs_calm (clean_ok ha.2 ha.1) hl hw.1 hw.2 rs_lineP0, blk_good (M := RS n a b E) (c := 0) (l := clean a) hc rfl hl hw.1 rs_lineP0⟩
theorem play1 {a b w : List Int} {E : List (List Int)} (hn : 2 ≤ n) (hb : W8 b) (hw : W8 w) : runEv (RS n a b E) (blk 0 1 w) = RS n a w (E ++ blk 0 1 w) ∧ goodEv (RS n a b E) (blk 0 1 w) := by
  have hc : 1 < (RS n a b E).ls.length := by rw [rs_len hn]; omega
  have hl : (chk (clean b).ws (clean b).c).1 ≠ 2 := by rw [clean_chk hb.1]; decide
  exact ⟨blk_all (M := RS n a b E) (c := 1) (l := clean b) hc rfl rs_calm (clean_ok hb.2 hb.1) hl hw.1 hw.2 rs_lineP1, blk_good (M := RS n a b E) (c := 1) (l := clean b) hc rfl hl hw.1 rs_lineP1⟩
theorem play_to (hn : 64 ≤ n ∧ n ≤ 4096) (hs : ∀ s ∈ stamps, 0 ≤ s ∧ s ≤ 1073741824) : ∀ i, i ≤ 1000 →
    runEv (PM.fresh n) (evsTo n cats stamps i) = RS n (rootW (rootAt n cats stamps i)) (rootW (rootAt n cats stamps i)) (evsTo n cats stamps i) ∧ goodEv (PM.fresh n) (evsTo n cats stamps i)
  | 0, _ => by
    have hW := (rootAt_N (cats := cats) hn hs 0 (by omega)).W
    rw [fresh_rs (by omega)]
    obtain ⟨h1, h2⟩ := play0 (a := zeros8) (b := zeros8) (E := []) (show 2 ≤ n by omega) zeros_W8 hW
    obtain ⟨h3, h4⟩ := play1 (a := rootW (rootAt n cats stamps 0)) (b := zeros8) (E := [] ++ blk 0 0 (rootW (rootAt n cats stamps 0))) (show 2 ≤ n by omega) zeros_W8 hW
    unfold evsTo
    rw [runEv_append, h1, h3]
    exact ⟨rfl, goodEv_append h2 (by rw [h1]; exact h4)⟩
  | i + 1, hi => by
    have hW := (rootAt_N (cats := cats) hn hs (i + 1) hi).W
    have hV := (rootAt_N (cats := cats) hn hs i (by omega)).W
    obtain ⟨h5, h6⟩ := play_to hn hs i (by omega)
    obtain ⟨h1, h2⟩ := play1 (a := rootW (rootAt n cats stamps i)) (b := rootW (rootAt n cats stamps i)) (E := evsTo n cats stamps i) (show 2 ≤ n by omega) hV hW
    obtain ⟨h3, h4⟩ := play0 (a := rootW (rootAt n cats stamps i)) (b := rootW (rootAt n cats stamps (i + 1))) (E := evsTo n cats stamps i ++ blk 0 1 (rootW (rootAt n cats stamps (i + 1)))) (show 2 ≤ n by omega) hV hW
    unfold evsTo
    rw [runEv_append, runEv_append, h5, h1, h3]
    refine ⟨by rw [List.append_assoc], goodEv_append h6 ?_⟩
    rw [h5]
    exact goodEv_append h2 (by rw [h1]; exact h4)
theorem evsTo_take {m j : Nat} (h : j ≤ m) : (evsTo n cats stamps m).take (22 * (j + 1)) = evsTo n cats stamps j := by
  induction m with
  | zero =>
    obtain rfl : j = 0 := by omega
    rw [List.take_of_length_le (by rw [evsTo_len]; omega)]
  | succ m ih =>
    by_cases hj : j = m + 1
    · rw [hj, List.take_of_length_le (by rw [evsTo_len]; omega)]
    · show List.take (22 * (j + 1)) (evsTo n cats stamps m ++ _) = _
      rw [List.take_append_of_le_length (by rw [evsTo_len]; omega)]
      exact ih (by omega)
theorem evsTo_more {m j q : Nat} (h : j < m) (hq : q ≤ 22) : (evsTo n cats stamps m).take (22 * (j + 1) + q) = evsTo n cats stamps j ++ (blk 0 1 (rootW (rootAt n cats stamps (j + 1))) ++ blk 0 0 (rootW (rootAt n cats stamps (j + 1)))).take q := by
  have h1 : (evsTo n cats stamps m).take (22 * (j + 1) + q) = (evsTo n cats stamps (j + 1)).take (22 * (j + 1) + q) := by
    rw [← evsTo_take (n := n) (cats := cats) (stamps := stamps) (show j + 1 ≤ m by omega), List.take_take, Nat.min_eq_left (by omega)]
  rw [h1]
  show List.take (22 * (j + 1) + q) (evsTo n cats stamps j ++ _) = _
  rw [List.take_append, evsTo_len, List.take_of_length_le (by rw [evsTo_len]; omega)]
  congr 2
  omega

/-- What a failure leaves: both lines whole, or one of them broken; Read finds the root of the last call that had returned, or that of the write under way. -/
theorem left_at (hn : 64 ≤ n ∧ n ≤ 4096) (hs : ∀ s ∈ stamps, 0 ≤ s ∧ s ≤ 1073741824) {m j q : Nat} (hm : m ≤ 1000) (hj : j ≤ m) (hq : q < 22) (hjm : j = m → q = 0) :
    ∃ a b, leftOf (runEv (PM.fresh n) ((evsTo n cats stamps m).take (22 * (j + 1) + q))) k = RS n a b [] ∧ W8 a ∧ W8 b ∧
      ∃ r cp, pRead (RS n a b []) = (r, cp, 0) ∧ RootN n r ∧ ((cp = 0 ∧ a = rootW r) ∨ (cp = 1 ∧ b = rootW r)) ∧ (r = rootAt n cats stamps j ∨ (0 < q ∧ r = rootAt n cats stamps (j + 1))) := by
  have hV := rootAt_N (cats := cats) hn hs j (by omega)
  obtain ⟨h5, h6⟩ := play_to (cats := cats) hn hs j (by omega)
  by_cases hq0 : q = 0
  · subst hq0
    rw [Nat.add_zero, evsTo_take hj, h5, left_rs]
    exact ⟨_, _, rfl, hV.W, hV.W, _, 0, rs_readW hn hV, hV, .inl ⟨rfl, rfl⟩, .inl rfl⟩
  · have hjm' : j < m := by omega
    have hW := rootAt_N (cats := cats) hn hs (j + 1) (by omega)
    rw [evsTo_more hjm' (by omega), runEv_append, h5]
    have hlt : (rootAt n cats stamps j).getD 0 0 < (rootAt n cats stamps (j + 1)).getD 0 0 := by rw [seq_at, seq_at]; omega
    by_cases hq1 : q ≤ 10
    · rw [List.take_append_of_le_length (by rw [blk_len]; omega)]
      have h7 := blk_mid (M := RS n (rootW (rootAt n cats stamps j)) (rootW (rootAt n cats stamps j)) (evsTo n cats stamps j)) (c := 1) (l := clean (rootW (rootAt n cats stamps j))) (w := rootW (rootAt n cats stamps (j + 1))) (by rw [rs_len (by omega)]; omega) rfl (by rw [clean_chk hV.W.1]; decide) hW.W.1 rs_lineP1 hq1
      rw [show ((1 : Nat) : Int) = 1 from rfl] at h7
      rw [h7]
      obtain ⟨y, hy, hy8, hd⟩ := left_mid1 (k := k) (E := evsTo n cats stamps j) (E' := (RS n (rootW (rootAt n cats stamps j)) (rootW (rootAt n cats stamps j)) (evsTo n cats stamps j)).evs ++ (blk 0 1 (rootW (rootAt n cats stamps (j + 1)))).take q) (a := rootW (rootAt n cats stamps j)) (show 2 ≤ n by omega) hV.W hW.W hq1
      refine ⟨_, y, hy, hV.W, hy8, ?_⟩
      rcases hd with rfl | hd | rfl
      · exact ⟨_, 0, rs_readW hn hV, hV, .inl ⟨rfl, rfl⟩, .inl rfl⟩
      · refine ⟨_, 0, rs_read0 hn hV.W hy8 hV.of hV.ne ?_, hV, .inl ⟨rfl, rfl⟩, .inl rfl⟩
        rw [rootOf_no hd, seq_at]
        show (0 : Int) ≤ _
        omega
      · exact ⟨_, 1, rs_read1 hn hV.W hW.W hW.of hW.ne (.inr (by rw [hV.of]; exact hlt)), hW, .inr ⟨rfl, rfl⟩, .inr ⟨by omega, rfl⟩⟩
    · have hq2 : q - 11 ≤ 10 := by omega
      have e1 : (blk 0 1 (rootW (rootAt n cats stamps (j + 1))) ++ blk 0 0 (rootW (rootAt n cats stamps (j + 1)))).take q = blk 0 1 (rootW (rootAt n cats stamps (j + 1))) ++ (blk 0 0 (rootW (rootAt n cats stamps (j + 1)))).take (q - 11) := by
        rw [List.take_append, blk_len, List.take_of_length_le (by rw [blk_len]; omega)]
      rw [e1, runEv_append, (play1 (show 2 ≤ n by omega) hV.W hW.W).1]
      have h7 := blk_mid (M := RS n (rootW (rootAt n cats stamps j)) (rootW (rootAt n cats stamps (j + 1))) (evsTo n cats stamps j ++ blk 0 1 (rootW (rootAt n cats stamps (j + 1))))) (c := 0) (l := clean (rootW (rootAt n cats stamps j))) (w := rootW (rootAt n cats stamps (j + 1))) (by rw [rs_len (by omega)]; omega) rfl (by rw [clean_chk hV.W.1]; decide) hW.W.1 rs_lineP0 hq2
      rw [show ((0 : Nat) : Int) = 0 from rfl] at h7
      rw [h7]
      obtain ⟨y, hy, hy8, hd⟩ := left_mid0 (k := k) (E := evsTo n cats stamps j ++ blk 0 1 (rootW (rootAt n cats stamps (j + 1)))) (E' := (RS n (rootW (rootAt n cats stamps j)) (rootW (rootAt n cats stamps (j + 1))) (evsTo n cats stamps j ++ blk 0 1 (rootW (rootAt n cats stamps (j + 1))))).evs ++ (blk 0 0 (rootW (rootAt n cats stamps (j + 1)))).take (q - 11)) (b := rootW (rootAt n cats stamps (j + 1))) (show 2 ≤ n by omega) hV.W hW.W hq2
      refine ⟨y, _, hy, hy8, hW.W, ?_⟩
      rcases hd with rfl | hd | rfl
      · exact ⟨_, 1, rs_read1 hn hV.W hW.W hW.of hW.ne (.inr (by rw [hV.of]; exact hlt)), hW, .inr ⟨rfl, rfl⟩, .inr ⟨by omega, rfl⟩⟩
      · exact ⟨_, 1, rs_read1 hn hy8 hW.W hW.of hW.ne (.inl (rootOf_no hd)), hW, .inr ⟨rfl, rfl⟩, .inr ⟨by omega, rfl⟩⟩
      · exact ⟨_, 0, rs_readW hn hW, hW, .inl ⟨rfl, rfl⟩, .inr ⟨by omega, rfl⟩⟩
end
end Go.Proofs.YtkncbggnaobgeaaDoor

/- Inverted bits of a line that was clean: one is mended, two make the line rotten. No Go in sight. -/
namespace Go.Proofs.YtkncbggnaobgeaaDoor
set_option linter.unusedVariables false
set_option linter.unusedSimpArgs false
set_option maxRecDepth 100000

/-- Bit b of a line (320 of the words, 10 of the code) inverted. -/
def flipW (ws : List Int) (b : Nat) : List Int := if b < 320 then ws.set (b / 40) (((ws.getD (b / 40) 0).toNat ^^^ 2 ^ (b % 40) : Nat) : Int) else ws
def flipC (c : Int) (b : Nat) : Int := if b < 320 then c else ((c.toNat ^^^ 2 ^ (b - 320) : Nat) : Int)
def dlt (b : Nat) : Nat := if b < 320 then posn b else if b < 329 then 2 ^ (b - 320) else 0
def sxx (ws : List Int) (c : Int) : Nat := syn ws ^^^ (c.toNat &&& 511)
def par (ws : List Int) (c : Int) : Nat := (cnt ws + popc c.toNat) % 2
theorem set_getI {ls : List Int} {k j : Nat} {x : Int} (hk : k < ls.length) : (ls.set k x).getD j 0 = if k = j then x else ls.getD j 0 := by
  rw [set_getD]
  by_cases h : k = j
  · rw [if_pos ⟨h, hk⟩, if_pos h]
  · rw [if_neg (fun h2 => h h2.1), if_neg h]
section
variable {ws : List Int} {c : Int} {b : Nat}
theorem flipW_len (ws : List Int) (b : Nat) : (flipW ws b).length = ws.length := by unfold flipW; split <;> simp
theorem flipW_words (h8 : ws.length = 8) (hw : isWords ws = true) : isWords (flipW ws b) = true := by
  unfold flipW
  split
  · rename_i hb
    have h1 := (word_nat hw (i := b / 40) (by omega)).1
    have h2 : 2 ^ (b % 40) < 2 ^ 40 := Nat.pow_lt_pow_right (by omega) (Nat.mod_lt _ (by decide))
    have h3 : (ws.getD (b / 40) 0).toNat ^^^ 2 ^ (b % 40) < 2 ^ 40 := Nat.xor_lt_two_pow h1 h2
    exact isWords_set hw (isWord_iff.2 ⟨by omega, by omega⟩)
  · exact hw
theorem flipC_code (hc : isCode c = true) (hb : b < 330) : isCode (flipC c b) = true := by
  have h := isCode_iff.1 hc
  unfold flipC
  split
  · exact hc
  · have h2 : 2 ^ (b - 320) < 2 ^ 10 := Nat.pow_lt_pow_right (by omega) (by omega)
    have h3 : c.toNat ^^^ 2 ^ (b - 320) < 2 ^ 10 := Nat.xor_lt_two_pow (by omega) h2
    exact isCode_iff.2 ⟨by omega, by omega⟩
theorem bitAt_flip (h8 : ws.length = 8) (hb : b < 320) {j : Nat} (hj : j < 320) : bitAt (flipW ws b) j = if j = b then !(bitAt ws j) else bitAt ws j := by
  unfold bitAt flipW
  rw [if_pos hb, set_getI (by omega)]
  by_cases h1 : b / 40 = j / 40
  · rw [if_pos h1, Int.toNat_natCast, Nat.testBit_xor, Nat.testBit_two_pow, h1]
    by_cases h2 : j = b
    · subst h2
      simp
    · have : ¬ b % 40 = j % 40 := by omega
      simp [h2, this]
  · have h2 : ¬ j = b := fun h => h1 (by rw [h])
    rw [if_neg h1, if_neg h2]
theorem synTo_flip (h8 : ws.length = 8) (hb : b < 320) : ∀ j, j ≤ 320 → (synTo (flipW ws b) j).1 = (synTo ws j).1 ^^^ (if b < j then posn b else 0) ∧ (synTo (flipW ws b) j).2 % 2 = ((synTo ws j).2 + (if b < j then 1 else 0)) % 2
  | 0, _ => by simp [synTo]
  | j + 1, hj => by
    obtain ⟨i1, i2⟩ := synTo_flip h8 hb j (by omega)
    have hf := bitAt_flip h8 hb (show j < 320 by omega)
    simp only [synTo, hf]
    by_cases h1 : j = b
    · subst h1
      have n1 : ¬ j < j := Nat.lt_irrefl j
      rw [if_neg n1] at i1 i2
      simp only [if_true, Nat.lt_succ_self]
      rw [Nat.xor_zero] at i1
      cases hbit : bitAt ws j with
      | true =>
        simp only [Bool.not_true, Bool.false_eq_true, if_false, if_true]
        rw [i1, Nat.xor_assoc, Nat.xor_self, Nat.xor_zero]
        exact ⟨rfl, by omega⟩
      | false =>
        simp only [Bool.not_false, Bool.false_eq_true, if_false, if_true]
        rw [i1]
        exact ⟨rfl, by omega⟩
    · simp only [h1, if_false]
      have e1 : (if b < j + 1 then posn b else 0) = if b < j then posn b else 0 := by
        by_cases h2 : b < j
        · rw [if_pos h2, if_pos (by omega)]
        · rw [if_neg h2, if_neg (by omega)]
      have e2 : (if b < j + 1 then 1 else 0) = if b < j then 1 else 0 := by
        by_cases h2 : b < j
        · rw [if_pos h2, if_pos (by omega)]
        · rw [if_neg h2, if_neg (by omega)]
      rw [e1, e2]
      cases hbit : bitAt ws j with
      | true =>
        simp only [if_true]
        rw [i1]
        refine ⟨?_, by omega⟩
        rw [Nat.xor_assoc, Nat.xor_assoc, Nat.xor_comm (posn j)]
      | false => simp only [Bool.false_eq_true, if_false]; exact ⟨i1, i2⟩
theorem popc_flip : ∀ c, c < 1024 → ∀ k, k < 10 → popc (c ^^^ 2 ^ k) % 2 = (popc c + 1) % 2 := by decide +kernel
theorem and_flip : ∀ c, c < 1024 → ∀ k, k < 10 → (c ^^^ 2 ^ k) &&& 511 = (c &&& 511) ^^^ (if k < 9 then 2 ^ k else 0) := by decide +kernel
theorem flip_one (h8 : ws.length = 8) (hc : isCode c = true) (hb : b < 330) : sxx (flipW ws b) (flipC c b) = sxx ws c ^^^ dlt b ∧ par (flipW ws b) (flipC c b) = (par ws c + 1) % 2 := by
  have hcc := isCode_iff.1 hc
  unfold sxx par dlt
  by_cases h : b < 320
  · obtain ⟨h1, h2⟩ := synTo_flip h8 h 320 (Nat.le_refl _)
    rw [if_pos h] at h1 h2
    have e1 : flipC c b = c := by unfold flipC; rw [if_pos h]
    unfold syn cnt
    rw [e1, h1, if_pos h]
    refine ⟨?_, by omega⟩
    rw [Nat.xor_assoc, Nat.xor_assoc, Nat.xor_comm (posn b)]
  · have e1 : flipW ws b = ws := by unfold flipW; rw [if_neg h]
    have e2 : flipC c b = ((c.toNat ^^^ 2 ^ (b - 320) : Nat) : Int) := by unfold flipC; rw [if_neg h]
    rw [e1, e2, Int.toNat_natCast, if_neg h, and_flip c.toNat (by omega) (b - 320) (by omega)]
    have h3 := popc_flip c.toNat (by omega) (b - 320) (by omega)
    have e3 : (if b - 320 < 9 then 2 ^ (b - 320) else 0) = if b < 329 then 2 ^ (b - 320) else 0 := by
      by_cases h4 : b < 329
      · rw [if_pos h4, if_pos (by omega)]
      · rw [if_neg h4, if_neg (by omega)]
    rw [e3, Nat.xor_assoc]
    exact ⟨rfl, by omega⟩
theorem pow_isPow2 : ∀ k, k < 9 → isPow2 (2 ^ k) = true ∧ log2 (2 ^ k) = k ∧ 2 ^ k ≠ 0 := by decide
theorem dlt_inj {a b : Nat} (ha : a < 330) (hb : b < 330) (h : dlt a = dlt b) : a = b := by
  unfold dlt at h
  have key : ∀ x, x < 320 → ∀ k, k < 9 → posn x ≠ 2 ^ k := fun x hx k hk he => by
    have h1 := (posn_facts x hx).2.2
    rw [he, (pow_isPow2 k hk).1] at h1
    cases h1
  have kz : ∀ x, x < 320 → posn x ≠ 0 := fun x hx he => by have := (posn_facts x hx).1; omega
  have kp : ∀ i, i < 9 → ∀ j, j < 9 → 2 ^ i = 2 ^ j → i = j := by decide
  by_cases h1 : a < 320
  · rw [if_pos h1] at h
    by_cases h2 : b < 320
    · rw [if_pos h2] at h
      exact posn_inj h1 h2 h
    · rw [if_neg h2] at h
      split at h
      · exact absurd h (key a h1 _ (by omega))
      · exact absurd h (kz a h1)
  · rw [if_neg h1] at h
    by_cases h2 : b < 320
    · rw [if_pos h2] at h
      split at h
      · exact absurd h.symm (key b h2 _ (by omega))
      · exact absurd h.symm (kz b h2)
    · rw [if_neg h2] at h
      by_cases h3 : a < 329
      · rw [if_pos h3] at h
        by_cases h4 : b < 329
        · rw [if_pos h4] at h
          have := kp (a - 320) (by omega) (b - 320) (by omega) h
          omega
        · rw [if_neg h4] at h
          exact absurd h (pow_isPow2 (a - 320) (by omega)).2.2
      · rw [if_neg h3] at h
        by_cases h4 : b < 329
        · rw [if_pos h4] at h
          exact absurd h.symm (pow_isPow2 (b - 320) (by omega)).2.2
        · omega
theorem sxx_enc (hw : isWords ws = true) : sxx ws (enc ws) = 0 ∧ par ws (enc ws) = 0 := by
  have h1 := syn_lt ws
  have h2 := popc512 h1
  have h3 := and511 h1
  unfold sxx par enc
  rw [if_pos hw]
  by_cases hp : (cnt ws + popc (syn ws)) % 2 = 1
  · rw [if_pos hp, Int.toNat_natCast, h3.1, h2.1, Nat.xor_self]
    exact ⟨rfl, by omega⟩
  · rw [if_neg hp, Int.toNat_natCast, h3.2, Nat.xor_self]
    exact ⟨rfl, by omega⟩
theorem chk_by (hw : isWords ws = true) (hc : isCode c = true) : chk ws c = if par ws c = 1 then (if sxx ws c = 0 then ((1, 8, 9) : Int × Int × Int) else if isPow2 (sxx ws c) then (1, 8, (log2 (sxx ws c) : Nat)) else match findPos (sxx ws c) with | some j => (1, (j / 40 : Nat), (j % 40 : Nat)) | none => (2, 0, 0)) else if sxx ws c = 0 then (0, 0, 0) else (2, 0, 0) := by
  unfold chk
  rw [hw, hc]
  rfl
/-- Two different bits: rotten. -/
theorem flip_two (h8 : ws.length = 8) (hw : isWords ws = true) {a : Nat} (ha : a < 330) (hb : b < 330) (hab : a ≠ b) : chk (flipW (flipW ws a) b) (flipC (flipC (enc ws) a) b) = (2, 0, 0) := by
  have hc := enc_code hw
  have h1 := flip_one (ws := ws) h8 hc ha
  have hwa := flipW_words (b := a) h8 hw
  have hca := flipC_code (b := a) hc ha
  have h8a : (flipW ws a).length = 8 := by rw [flipW_len]; exact h8
  have h2 := flip_one (b := b) h8a hca hb
  obtain ⟨s0, p0⟩ := sxx_enc hw
  rw [h1.1, h1.2, s0, p0] at h2
  rw [chk_by (flipW_words h8a hwa) (flipC_code hca hb), h2.1, h2.2, if_neg (by decide), if_neg]
  intro h
  rw [Nat.zero_xor] at h
  have e : dlt a = dlt b := by
    have h3 : (dlt a ^^^ dlt b) ^^^ dlt b = dlt b := by rw [h, Nat.zero_xor]
    rw [Nat.xor_assoc, Nat.xor_self, Nat.xor_zero] at h3
    exact h3
  exact hab (dlt_inj ha hb e)
theorem toNat_xx {x : Int} (hx : 0 ≤ x) (k : Nat) : (((((x.toNat ^^^ k : Nat) : Int).toNat ^^^ k : Nat)) : Int) = x := by
  rw [Int.toNat_natCast, Nat.xor_assoc, Nat.xor_self, Nat.xor_zero]
  exact Int.toNat_of_nonneg hx
/-- The same bit twice. -/
theorem flip_same (h8 : ws.length = 8) (hw : isWords ws = true) (hc : isCode c = true) : flipW (flipW ws b) b = ws ∧ flipC (flipC c b) b = c := by
  have hcc := isCode_iff.1 hc
  constructor
  · unfold flipW
    by_cases h : b < 320
    · rw [if_pos h, if_pos h, set_getI (by omega), if_pos rfl, toNat_xx, List.set_set]
      · have hl : b / 40 < ws.length := by omega
        have : ws.getD (b / 40) 0 = ws[b / 40] := by simp [List.getD, List.getElem?_eq_getElem hl]
        rw [this]
        exact List.set_getElem_self hl
      · exact (isWords_get hw (by omega)).1
    · rw [if_neg h, if_neg h]
  · unfold flipC
    by_cases h : b < 320
    · rw [if_pos h, if_pos h]
    · rw [if_neg h, if_neg h]
      exact toNat_xx hcc.1 _
/-- One bit: mended. -/
theorem flip_mended (h8 : ws.length = 8) (hw : isWords ws = true) (hb : b < 330) : fix (flipW ws b) (flipC (enc ws) b) = (ws, enc ws, 0) ∧ (chk (flipW ws b) (flipC (enc ws) b)).1 = 1 := by
  have hc := enc_code hw
  have h1 := flip_one (ws := ws) h8 hc hb
  obtain ⟨s0, p0⟩ := sxx_enc hw
  rw [s0, p0, Nat.zero_xor] at h1
  have hwb := flipW_words (b := b) h8 hw
  have hcb := flipC_code (b := b) hc hb
  have hs := flip_same (b := b) h8 hw hc
  have hchk := chk_by hwb hcb
  rw [h1.1, h1.2, if_pos (by decide)] at hchk
  have key : ∃ w t : Nat, chk (flipW ws b) (flipC (enc ws) b) = (1, (w : Int), (t : Int)) ∧ flipBit (flipW ws b) (flipC (enc ws) b) w t = (ws, enc ws) := by
    by_cases h : b < 320
    · have hd : dlt b = posn b := by unfold dlt; rw [if_pos h]
      have hp := posn_facts b h
      rw [hd, if_neg (by omega), hp.2.2] at hchk
      have hf : findPos (posn b) = some b := findPos_some h rfl (fun x hx => fun he => by have := posn_lt (show b ≤ 320 by omega) hx; omega)
      rw [hf] at hchk
      refine ⟨b / 40, b % 40, hchk, ?_⟩
      have e1 : ¬ b / 40 = 8 := by omega
      unfold flipBit
      rw [if_neg e1]
      have e2 := hs.1
      have e3 : flipC (enc ws) b = enc ws := by unfold flipC; rw [if_pos h]
      rw [e3]
      conv at e2 => lhs; unfold flipW
      rw [if_pos h] at e2
      have e4 : (flipW ws b) = (if b < 320 then ws.set (b / 40) (((ws.getD (b / 40) 0).toNat ^^^ 2 ^ (b % 40) : Nat) : Int) else ws) := rfl
      rw [if_pos h] at e4
      rw [e4]
      rw [if_pos h] at e2
      rw [e2]
    · have e1 : flipW ws b = ws := by unfold flipW; rw [if_neg h]
      have e2 := hs.2
      by_cases h2 : b < 329
      · have hd : dlt b = 2 ^ (b - 320) := by unfold dlt; rw [if_neg h, if_pos h2]
        have hp := pow_isPow2 (b - 320) (by omega)
        rw [hd, if_neg hp.2.2, hp.1, if_pos rfl, hp.2.1] at hchk
        refine ⟨8, b - 320, hchk, ?_⟩
        unfold flipBit
        rw [if_pos rfl, e1]
        conv at e2 => lhs; unfold flipC
        rw [if_neg h] at e2
        have e4 : flipC (enc ws) b = (if b < 320 then enc ws else (((enc ws).toNat ^^^ 2 ^ (b - 320) : Nat) : Int)) := rfl
        rw [if_neg h] at e4
        rw [e4]
        rw [if_neg h] at e2
        rw [e2]
      · have hb9 : b = 329 := by omega
        have hd : dlt b = 0 := by unfold dlt; rw [if_neg h, if_neg h2]
        rw [hd, if_pos rfl] at hchk
        refine ⟨8, 9, hchk, ?_⟩
        unfold flipBit
        rw [if_pos rfl, e1]
        conv at e2 => lhs; unfold flipC
        rw [if_neg h] at e2
        have e4 : flipC (enc ws) b = (if b < 320 then enc ws else (((enc ws).toNat ^^^ 2 ^ (b - 320) : Nat) : Int)) := rfl
        rw [if_neg h] at e4
        rw [e4]
        rw [if_neg h] at e2
        rw [show b - 320 = 9 by omega] at e2 ⊢
        rw [e2]
  obtain ⟨w, t, h3, h4⟩ := key
  refine ⟨?_, by rw [h3]⟩
  unfold fix
  rw [hwb, hcb, h3]
  simp only [Bool.and_self, if_true, Int.toNat_natCast]
  rw [h4]
end
/-- What a rot with such a mask does. -/
theorem xorTo_get {ws xs : List Int} (h8 : ws.length = 8) (hw : isWords ws = true) : ∀ i, i ≤ 8 → ∀ j, j < 8 → (xorTo ws xs i).getD j 0 = if j < i then (((ws.getD j 0).toNat ^^^ (xs.getD j 0).toNat : Nat) : Int) else ws.getD j 0
  | 0, _, j, _ => by simp [xorTo]
  | i + 1, hi, j, hj => by
    have ih := xorTo_get (xs := xs) h8 hw i (by omega)
    unfold xorTo
    rw [set_getI (by rw [xorTo_len]; omega)]
    by_cases h : i = j
    · subst h
      rw [if_pos rfl, if_pos (by omega), ih i hj, if_neg (by omega)]
    · rw [if_neg h, ih j hj]
      by_cases h2 : j < i
      · rw [if_pos h2, if_pos (by omega)]
      · rw [if_neg h2, if_neg (by omega)]
theorem ext8 {a b : List Int} (ha : a.length = 8) (hb : b.length = 8) (h : ∀ j, j < 8 → a.getD j 0 = b.getD j 0) : a = b := by
  apply List.ext_getElem (by omega)
  intro i h1 h2
  have := h i (by omega)
  simpa [List.getD, List.getElem?_eq_getElem h1, List.getElem?_eq_getElem h2] using this
theorem flipW_get {ws : List Int} (h8 : ws.length = 8) (b j : Nat) : (flipW ws b).getD j 0 = if b < 320 ∧ b / 40 = j then (((ws.getD j 0).toNat ^^^ 2 ^ (b % 40) : Nat) : Int) else ws.getD j 0 := by
  unfold flipW
  by_cases h : b < 320
  · rw [if_pos h, set_getI (by omega)]
    by_cases h2 : b / 40 = j
    · rw [if_pos h2, if_pos ⟨h, h2⟩, h2]
    · rw [if_neg h2, if_neg (fun x => h2 x.2)]
  · rw [if_neg h, if_neg (fun x => h x.1)]
theorem xor_flips {ws : List Int} (h8 : ws.length = 8) (hw : isWords ws = true) (a b : Nat) : xorTo ws (flipW (flipW zeros8 a) b) 8 = flipW (flipW ws a) b := by
  refine ext8 (by rw [xorTo_len]; exact h8) (by rw [flipW_len, flipW_len]; exact h8) fun j hj => ?_
  have hz : zeros8.getD j 0 = 0 := by
    have hj' : j = 0 ∨ j = 1 ∨ j = 2 ∨ j = 3 ∨ j = 4 ∨ j = 5 ∨ j = 6 ∨ j = 7 := by omega
    rcases hj' with rfl | rfl | rfl | rfl | rfl | rfl | rfl | rfl <;> rfl
  have hj0 := isWords_get hw (g := j) (by omega)
  rw [xorTo_get h8 hw 8 (Nat.le_refl _) j hj, if_pos hj, flipW_get (by rw [flipW_len]; rfl), flipW_get rfl, flipW_get (by rw [flipW_len]; exact h8), flipW_get h8, hz]
  have e0 : (0 : Int).toNat = 0 := rfl
  have e3 : ((ws.getD j 0).toNat : Int) = ws.getD j 0 := Int.toNat_of_nonneg hj0.1
  by_cases h1 : a < 320 ∧ a / 40 = j
  · by_cases h2 : b < 320 ∧ b / 40 = j
    · rw [if_pos h1, if_pos h2, if_pos h1, if_pos h2, e0, Nat.zero_xor, Int.toNat_natCast, Int.toNat_natCast, Int.toNat_natCast, Nat.xor_assoc]
    · rw [if_pos h1, if_neg h2, if_pos h1, if_neg h2, e0, Nat.zero_xor, Int.toNat_natCast]
  · by_cases h2 : b < 320 ∧ b / 40 = j
    · rw [if_neg h1, if_pos h2, if_neg h1, if_pos h2, e0, Nat.zero_xor, Int.toNat_natCast]
    · rw [if_neg h1, if_neg h2, if_neg h1, if_neg h2, e0, Nat.xor_zero, e3]
theorem xor_codes {c : Int} (hc : isCode c = true) (a b : Nat) : ((c.toNat ^^^ (flipC (flipC 0 a) b).toNat : Nat) : Int) = flipC (flipC c a) b := by
  have hcc := isCode_iff.1 hc
  have e0 : (0 : Int).toNat = 0 := rfl
  unfold flipC
  by_cases h1 : a < 320
  · by_cases h2 : b < 320
    · rw [if_pos h1, if_pos h2, if_pos h1, if_pos h2, e0, Nat.xor_zero, Int.toNat_of_nonneg hcc.1]
    · rw [if_pos h1, if_neg h2, if_pos h1, if_neg h2, e0, Nat.zero_xor, Int.toNat_natCast]
  · by_cases h2 : b < 320
    · rw [if_neg h1, if_pos h2, if_neg h1, if_pos h2, e0, Nat.zero_xor, Int.toNat_natCast]
    · rw [if_neg h1, if_neg h2, if_neg h1, if_neg h2, e0, Nat.zero_xor, Int.toNat_natCast, Int.toNat_natCast, Int.toNat_natCast, Nat.xor_assoc]
end Go.Proofs.YtkncbggnaobgeaaDoor

/- Memories one of whose two first lines has rotted: Read, Mend, Write there. No Go in sight. -/
namespace Go.Proofs.YtkncbggnaobgeaaDoor
set_option linter.unusedVariables false
set_option linter.unusedSimpArgs false
set_option maxRecDepth 100000

section
variable {n : Nat} {r w xs : List Int} {E : List (List Int)} {M : PM} {c : Nat} {bits : Int}
theorem rot_at (hc : c < M.ls.length) (hx : isWords xs = true) (hb : isCode bits = true) (hp : (M.line c).ps = []) :
    M.rotErr c xs bits = 0 ∧ M.rot c xs bits = M.at c { M.line c with ws := xorTo (M.line c).ws xs 8, c := (((M.line c).c.toNat ^^^ bits.toNat : Nat) : Int) } (M.evs ++ [[7, (c : Int), bits, 0] ++ xs]) := by
  have he : M.rotErr c xs bits = 0 := by
    unfold PM.rotErr
    rw [has_of hc, if_pos rfl, hx, hb, Bool.and_self, if_pos rfl, if_pos hp]
  refine ⟨he, ?_⟩
  unfold PM.rot
  rw [he, if_pos rfl, Int.toNat_natCast]
  rfl
/-- A line of other words and another code. -/
def bad (ws : List Int) (c : Int) : PL := { ws := ws, c := c, ps := [], mark := 0 }
theorem flip_zero_words {a b : Nat} : isWords (flipW (flipW zeros8 a) b) = true := flipW_words (by rw [flipW_len]; rfl) (flipW_words rfl rfl)
theorem flip_zero_code {a b : Nat} (ha : a < 330) (hb : b < 330) : isCode (flipC (flipC 0 a) b) = true := flipC_code (flipC_code rfl ha) hb
/-- A rot that inverts two bits of a whole line. -/
theorem rot_flips (hc : c < M.ls.length) (hl : M.line c = clean w) (hw : W8 w) {a b : Nat} (ha : a < 330) (hb : b < 330) :
    M.rot c (flipW (flipW zeros8 a) b) (flipC (flipC 0 a) b) = M.at c (bad (flipW (flipW w a) b) (flipC (flipC (enc w) a) b)) (M.evs ++ [[7, (c : Int), flipC (flipC 0 a) b, 0] ++ flipW (flipW zeros8 a) b]) := by
  rw [(rot_at hc flip_zero_words (flip_zero_code ha hb) (by rw [hl]; rfl)).2, hl]
  have e1 : xorTo (clean w).ws (flipW (flipW zeros8 a) b) 8 = flipW (flipW w a) b := xor_flips hw.2 hw.1 a b
  have e2 : (((clean w).c.toNat ^^^ (flipC (flipC 0 a) b).toNat : Nat) : Int) = flipC (flipC (enc w) a) b := xor_codes (enc_code hw.1) a b
  rw [e1, e2]
  rfl
theorem bad_ok {a b : Nat} (hw : W8 w) (ha : a < 330) (hb : b < 330) : (bad (flipW (flipW w a) b) (flipC (flipC (enc w) a) b)).ok := by
  refine ⟨by show (flipW (flipW w a) b).length = 8; rw [flipW_len, flipW_len]; exact hw.2, flipW_words (by rw [flipW_len]; exact hw.2) (flipW_words hw.2 hw.1), flipC_code (flipC_code (enc_code hw.1) ha) hb, Nat.le_refl _, fun p hp => by cases hp⟩
theorem bad_rotten {a b : Nat} (hw : W8 w) (ha : a < 330) (hb : b < 330) (hab : a ≠ b) : (chk (bad (flipW (flipW w a) b) (flipC (flipC (enc w) a) b)).ws (bad (flipW (flipW w a) b) (flipC (flipC (enc w) a) b)).c).1 = 2 := by
  have := flip_two hw.2 hw.1 ha hb hab
  show (chk (flipW (flipW w a) b) (flipC (flipC (enc w) a) b)).1 = 2
  rw [this]
theorem bad_same {a : Nat} (hw : W8 w) : bad (flipW (flipW w a) a) (flipC (flipC (enc w) a) a) = clean w := by
  obtain ⟨h1, h2⟩ := flip_same (b := a) hw.2 hw.1 (enc_code hw.1)
  unfold bad clean
  rw [h1, h2]
theorem rotten_shows {l : PL} (hok : l.ok) (h : (chk l.ws l.c).1 = 2) : (pShow l l.ps.length).2 ≠ 0 := by
  have hf : (fix l.ws l.c).2.2 = 9 := by
    unfold fix
    rw [hok.2.1, hok.2.2.1]
    simp only [Bool.and_self, if_true]
    rcases chk_cases (ws := l.ws) hok.2.2.1 with e | e | ⟨x, y, e, _⟩
    · rw [e] at h; cases h
    · rw [e]; rfl
    · rw [e] at h; cases h
  unfold pShow
  rw [if_neg (by rw [hf]; decide)]
  rw [hf]; decide
/-- Both lines whole with r, but for line c, which is rotten. -/
structure Hurt (n : Nat) (r : List Int) (c : Nat) (M : PM) : Prop where
  le : c ≤ 1
  len : M.ls.length = n
  calm : M.calm
  other : M.line (1 - c : Nat) = clean (rootW r)
  ok : (M.line c).ok
  ps : (M.line c).ps = []
  bad : (chk (M.line c).ws (M.line c).c).1 = 2
  back : ∀ (l : PL) (E : List (List Int)), M.at c l E = (RS n (rootW r) (rootW r) []).at c l E
theorem Hurt.copy (h : Hurt n r c M) : pCopy M c = zero4 := copy_bad (rotten_shows h.ok h.bad)
theorem Hurt.copy2 (h : Hurt n r c M) (hr : RootN n r) : pCopy M (1 - c) = r := by
  rw [copy_clean h.other hr.W.1, h.len, hr.of]
theorem Hurt.read (h : Hurt n r c M) (hn : 64 ≤ n ∧ n ≤ 4096) (hr : RootN n r) : pRead M = (r, ((1 - c : Nat) : Int), 0) := by
  have h1 := h.copy
  have h2 := h.copy2 hr
  have hc : c = 0 ∨ c = 1 := by have := h.le; omega
  unfold pRead
  rw [h.len, planOk_of hn, if_neg (by decide)]
  rcases hc with rfl | rfl
  · rw [h1, if_neg (fun x => x.1 rfl)]
    rw [show (1 - 0 : Nat) = 1 from rfl] at h2
    rw [h2, if_pos hr.ne]
    rfl
  · rw [show (1 - 1 : Nat) = 0 from rfl] at h2
    rw [h1, h2, if_pos ⟨hr.ne, by have := (rootOk_word hr.2.1).2.2.1; show r.getD 0 0 ≥ 0; omega⟩]
    rfl
theorem rs_at_same {c : Nat} (hc : c ≤ 1) {E E' : List (List Int)} : (RS n w w E).at c (clean w) E' = RS n w w E' := by
  have hc' : c = 0 ∨ c = 1 := by omega
  rcases hc' with rfl | rfl <;> rfl
theorem Hurt.mend (h : Hurt n r c M) (hn : 64 ≤ n ∧ n ≤ 4096) (hr : RootN n r) : mends M = true ∧ ∃ E, pMend M = RS n (rootW r) (rootW r) E := by
  have hc := h.le
  have hrd := h.read hn hr
  have hm : mends M = true := by
    rw [mends_eq hrd (by omega), show 1 - (1 - c) = c by omega, h.copy, decide_eq_false (fun e => hr.ne e.symm)]
    rfl
  refine ⟨hm, M.evs ++ [[6, (c : Int), 0, 0] ++ rootW r], ?_⟩
  unfold pMend
  rw [hm, if_pos rfl, hrd]
  show M.heal (1 - ((1 - c : Nat) : Int)) (rootW r) = _
  rw [show (1 : Int) - ((1 - c : Nat) : Int) = (c : Int) by omega, heal_at (by rw [h.len]; omega) hr.W.1, h.back]
  exact rs_at_same h.le
theorem rs_other {c : Nat} (hc : c ≤ 1) {E : List (List Int)} : (RS n w w E).line (1 - c : Nat) = clean w := by
  have hc' : c = 0 ∨ c = 1 := by omega
  rcases hc' with rfl | rfl <;> rfl
theorem rs_line {c : Nat} (hc : c ≤ 1) {E : List (List Int)} : (RS n w w E).line (c : Nat) = clean w := by
  have hc' : c = 0 ∨ c = 1 := by omega
  rcases hc' with rfl | rfl <;> rfl
/-- Two bits inverted: nothing, or a rotten line. -/
theorem rs_flips (hn : 64 ≤ n ∧ n ≤ 4096) (hr : RootN n r) (hc : c ≤ 1) {a b : Nat} (ha : a < 330) (hb : b < 330) :
    (∃ E', (RS n (rootW r) (rootW r) E).rot c (flipW (flipW zeros8 a) b) (flipC (flipC 0 a) b) = RS n (rootW r) (rootW r) E') ∨ Hurt n r c ((RS n (rootW r) (rootW r) E).rot c (flipW (flipW zeros8 a) b) (flipC (flipC 0 a) b)) := by
  have hlen : (RS n (rootW r) (rootW r) E).ls.length = n := rs_len (by omega)
  have hcl : c < (RS n (rootW r) (rootW r) E).ls.length := by rw [hlen]; omega
  rw [rot_flips hcl (rs_line hc) hr.W ha hb]
  by_cases hab : a = b
  · subst hab
    left
    rw [bad_same hr.W]
    exact ⟨_, rs_at_same hc⟩
  · right
    refine ⟨hc, by rw [at_len]; exact hlen, calm_at rs_calm rfl, ?_, ?_, ?_, ?_, ?_⟩
    · rw [at_other (by omega)]; exact rs_other hc
    · rw [at_line hcl]; exact bad_ok hr.W ha hb
    · rw [at_line hcl]; rfl
    · rw [at_line hcl]; exact bad_rotten hr.W ha hb hab
    · intro l E'
      rw [at_at]
      rfl
/-- Whole, or hurt at c. -/
def Near (n : Nat) (r : List Int) (M : PM) : Prop := (∃ E, M = RS n (rootW r) (rootW r) E) ∨ ∃ c, Hurt n r c M
theorem Near.read (h : Near n r M) (hn : 64 ≤ n ∧ n ≤ 4096) (hr : RootN n r) : (pRead M).1 = r ∧ (pRead M).2.2 = 0 := by
  rcases h with ⟨E, rfl⟩ | ⟨c, h⟩
  · rw [rs_readW hn hr]; exact ⟨rfl, rfl⟩
  · rw [h.read hn hr]; exact ⟨rfl, rfl⟩
theorem rs_mend (hn : 64 ≤ n ∧ n ≤ 4096) (hr : RootN n r) : mends (RS n (rootW r) (rootW r) E) = false ∧ pMend (RS n (rootW r) (rootW r) E) = RS n (rootW r) (rootW r) E := by
  have hm : mends (RS n (rootW r) (rootW r) E) = false := by
    rw [mends_eq (j := 0) (rs_readW hn hr) (by omega)]
    show (!decide (pCopy (RS n (rootW r) (rootW r) E) 1 = r)) = false
    rw [rs_copy1 (by omega) hr.W, hr.of, decide_eq_true rfl]
    rfl
  refine ⟨hm, ?_⟩
  unfold pMend
  rw [hm]
  rfl
theorem Near.mend (h : Near n r M) (hn : 64 ≤ n ∧ n ≤ 4096) (hr : RootN n r) : ∃ E, pMend M = RS n (rootW r) (rootW r) E := by
  rcases h with ⟨E, rfl⟩ | ⟨c, h⟩
  · exact ⟨E, (rs_mend hn hr).2⟩
  · exact (h.mend hn hr).2
theorem rs_near (hn : 64 ≤ n ∧ n ≤ 4096) (hr : RootN n r) (hc : c ≤ 1) {a b : Nat} (ha : a < 330) (hb : b < 330) : Near n r ((RS n (rootW r) (rootW r) E).rot c (flipW (flipW zeros8 a) b) (flipC (flipC 0 a) b)) := by
  rcases rs_flips (E := E) hn hr hc ha hb with h | h
  · exact .inl h
  · exact .inr ⟨c, h⟩
/-- Mend behind a failure. -/
theorem left_mend {a b : List Int} {cp : Int} (hn : 64 ≤ n ∧ n ≤ 4096) (ha : W8 a) (hb : W8 b) (hr : RootN n r) (hrd : pRead (RS n a b E) = (r, cp, 0)) (hcp : (cp = 0 ∧ a = rootW r) ∨ (cp = 1 ∧ b = rootW r)) :
    ∃ E', pMend (RS n a b E) = RS n (rootW r) (rootW r) E' := by
  have key : ∀ x, W8 x → rootOf n x = r → x = rootW r := by
    intro x hx he
    unfold rootOf at he
    split at he
    · rename_i hh
      rw [Bool.and_eq_true] at hh
      have := (parseB_iff.1 hh.1).2
      rw [← he]
      exact this.symm
    · exact absurd he.symm hr.ne
  have hl : (RS n a b E).ls.length = n := rs_len (by omega)
  rcases hcp with ⟨rfl, rfl⟩ | ⟨rfl, rfl⟩
  · by_cases he : rootOf n b = r
    · rw [key b hb he]
      exact ⟨E, (rs_mend hn hr).2⟩
    · have hm : mends (RS n (rootW r) b E) = true := by
        rw [mends_eq (j := 0) hrd (by omega)]
        show (!decide (pCopy (RS n (rootW r) b E) 1 = r)) = true
        rw [rs_copy1 (by omega) hb, decide_eq_false he]
        rfl
      refine ⟨(RS n (rootW r) b E).evs ++ [[6, ((1 : Nat) : Int), 0, 0] ++ rootW r], ?_⟩
      unfold pMend
      rw [hm, if_pos rfl, hrd]
      show (RS n (rootW r) b E).heal ((1 : Nat) : Int) (rootW r) = _
      rw [heal_at (by rw [hl]; omega) hr.W.1]
      rfl
  · by_cases he : rootOf n a = r
    · rw [key a ha he]
      exact ⟨E, (rs_mend hn hr).2⟩
    · have hm : mends (RS n a (rootW r) E) = true := by
        rw [mends_eq (j := 1) hrd (by omega)]
        show (!decide (pCopy (RS n a (rootW r) E) 0 = r)) = true
        rw [rs_copy0 (by omega) ha, decide_eq_false he]
        rfl
      refine ⟨(RS n a (rootW r) E).evs ++ [[6, ((0 : Nat) : Int), 0, 0] ++ rootW r], ?_⟩
      unfold pMend
      rw [hm, if_pos rfl, hrd]
      show (RS n a (rootW r) E).heal ((0 : Nat) : Int) (rootW r) = _
      rw [heal_at (by rw [hl]; omega) hr.W.1]
      rfl
theorem three_flips : flipW (flipW zeros8 0) 1 = [3, 0, 0, 0, 0, 0, 0, 0] ∧ flipC (flipC 0 0) 1 = 0 := by decide
/-- The rot of RootGoesOn. -/
theorem rs_three (hn : 64 ≤ n ∧ n ≤ 4096) (hr : RootN n r) (hc : c ≤ 1) : Hurt n r c ((RS n (rootW r) (rootW r) E).rot c [3, 0, 0, 0, 0, 0, 0, 0] 0) := by
  have hlen : (RS n (rootW r) (rootW r) E).ls.length = n := rs_len (by omega)
  have hcl : c < (RS n (rootW r) (rootW r) E).ls.length := by rw [hlen]; omega
  have h := rot_flips hcl (rs_line hc) hr.W (a := 0) (b := 1) (by omega) (by omega)
  rw [three_flips.1, three_flips.2] at h
  rw [h]
  refine ⟨hc, by rw [at_len]; exact hlen, calm_at rs_calm rfl, ?_, ?_, ?_, ?_, ?_⟩
  · rw [at_other (by omega)]; exact rs_other hc
  · rw [at_line hcl]; exact bad_ok hr.W (by omega) (by omega)
  · rw [at_line hcl]; rfl
  · rw [at_line hcl]; exact bad_rotten hr.W (by omega) (by omega) (by omega)
  · intro l E'
    rw [at_at]
    rfl
/-- A write on a memory with a rotten line. -/
theorem Hurt.write (h : Hurt n r c M) (hn : 64 ≤ n ∧ n ≤ 4096) (hr : RootN n r) {z t : Int} (h' : RootN n [r.getD 0 0 + 1, z, t, (n : Int)]) :
    pWriteE M z t = 0 ∧ ∃ E, pWrite M z t = RS n (rootW [r.getD 0 0 + 1, z, t, (n : Int)]) (rootW [r.getD 0 0 + 1, z, t, (n : Int)]) E := by
  have hc := h.le
  have hrd := h.read hn hr
  have hnx : nextRoot M z t = [r.getD 0 0 + 1, z, t, (n : Int)] := by
    unfold nextRoot
    rw [hrd]
    simp only []
    rw [hr.2.2]
  have hlt : r.getD 0 0 ≠ 1099511627775 := by
    have := (rootOk_word h'.2.1).2.2.2.1
    change r.getD 0 0 + 1 ≤ _ at this
    omega
  have hE : pWriteE M z t = 0 := by
    unfold pWriteE
    rw [hnx, hrd]
    simp only [ne_eq, not_true_eq_false, if_false]
    rw [if_neg hlt]
    unfold wordsE
    rw [h'.2.1]
    rfl
  refine ⟨hE, ?_⟩
  unfold pWrite
  rw [if_pos hE, hnx, hrd]
  generalize hWW : rootW [r.getD 0 0 + 1, z, t, (n : Int)] = W
  have hW : W8 W := by rw [← hWW]; exact h'.W
  show ∃ E, pPut (pPut M (1 - ((1 - c : Nat) : Int)) W) ((1 - c : Nat) : Int) W = _
  rw [show (1 : Int) - ((1 - c : Nat) : Int) = (c : Int) by omega]
  obtain ⟨E1, h1⟩ := pPut_any (M := M) (c := c) (w := W) (by rw [h.len]; omega) h.calm h.ps h.ok hW.1 hW.2
  rw [h1, h.back]
  have hl2 : ((RS n (rootW r) (rootW r) []).at c (clean W) (M.evs ++ E1)).ls.length = n := by rw [at_len, rs_len (by omega)]
  have ho : ((RS n (rootW r) (rootW r) []).at c (clean W) (M.evs ++ E1)).line (1 - c : Nat) = clean (rootW r) := by rw [at_other (by omega)]; exact rs_other hc
  obtain ⟨E2, h2⟩ := pPut_any (M := (RS n (rootW r) (rootW r) []).at c (clean W) (M.evs ++ E1)) (c := 1 - c) (w := W) (by rw [hl2]; omega) (calm_at rs_calm rfl) (by rw [ho]; rfl) (by rw [ho]; exact clean_ok hr.W.2 hr.W.1) hW.1 hW.2
  rw [h2]
  have hc' : c = 0 ∨ c = 1 := by omega
  rcases hc' with rfl | rfl
  · exact ⟨_, rfl⟩
  · exact ⟨_, rfl⟩
end
end Go.Proofs.YtkncbggnaobgeaaDoor

/- Walks of functions of the program; printed by a program of this session (walk.py) out of hand-written hints. -/
namespace Go.Proofs.YtkncbggnaobgeaaDoor
open Go.RowKit
set_option linter.unusedVariables false
set_option linter.unusedSimpArgs false
set_option maxRecDepth 100000

theorem flds164' : FldsI Tryd.prog 12 (Tryd.prog.fieldsOf 164).toList [(0, 1), (1, 1), (2, 1), (3, 1), (4, 8)] := by
  unfold Program.fieldsOf
  rw [Tryd.underlying164]
  exact .int (by decide) (by kernel_rfl) (by decide) (.int (by decide) (by kernel_rfl) (by decide) (.int (by decide) (by kernel_rfl) (by decide) (.int (by decide) (by kernel_rfl) (by decide) (.agg (by decide) eqI38 ty38 (by decide) .nil))))
theorem split12' {xs ys : List Int} (hx : xs.length = 12) (hy : ys.length = 12) : ([(0, 1), (1, 1), (2, 1), (3, 1), (4, 8)].all fun s => (xs.drop s.1).take s.2 == (ys.drop s.1).take s.2) = (xs == ys) := by
  match xs, hx with
  | [a, b, c, d, e, f, g, h, i, j, k, l], _ =>
    match ys, hy with
    | [a', b', c', d', e', f', g', h', i', j', k', l'], _ => rw [Bool.eq_iff_iff]; simp [and_assoc]
theorem eqI164' : EqI5 Tryd.prog 164 12 := eqI_struct (by unfold Program.fieldsOf; rw [Tryd.underlying164]) rfl (by kernel_rfl) flds164' (fun xs ys hx hy => split12' hx hy)
theorem EX.maxTo {P : Program} {n : Nat} {ds : List Deferred} {e : Env} {ty : TypeId} {w : World} {x y : Operand} {k k' : IntKind} {a b r : Int} {ats : Array TypeId} (hx : ev e x = some (.int k a)) (hy : ev e y = some (.int k' b)) (hr : (if b > a then b else a) = r) :
    EX P n ds e (.call { callee := .builtin .max, args := #[x, y], argTypes := ats }) ty (.int k r) w := by
  subst hr
  exact EX.max2 hx hy
def evS (k at_ val s : Int) : List Int := [k, at_, val, s, 0, 0, 0, 0, 0, 0, 0, 0]

theorem rep_store {w0 w : World} {L : Hp} {R : RM} {p k : Nat} {M : PM} (at_ val s : Int) (hs : 0 ≤ s ∧ s ≤ 9223372036854775807) (ha : -9223372036854775808 ≤ at_ ∧ at_ ≤ 9223372036854775807) (he : (spanned M s).putErr at_ val = 0) (hk : k < 536870912) (hI : Is R p M k) (H : St w0 [] w (L ++ R.hp)) (hL : L64 w0) : Calls Tryd.prog 216 #[ptr p, arr (evS 1 at_ val s)] w fun e w' => ∃ R', e = .returned (.bool true) ∧ Is R' p ((spanned M s).put 1 at_ val) (k + 1) ∧ St w0 [] w' (L ++ R'.hp) := by
  refine calls_walk_n (args := [ptr p, arr (evS 1 at_ val s)]) Tryd.func216 rfl rfl rfl ?_
  replace H : St w0 [] w (([] ++ L) ++ R.hp) := H
  refine WC.seq ?_
  refine WC.region ?_
  refine WL.boxArr H rfl rfl ?_
  intro b3 wx hb3 hge3 H
  refine WL.assign rfl rfl ?_
  refine (WL.done (WX.next ?_))
  refine WC.seq ?_
  refine WC.region ?_
  refine WL.assign rfl rfl ?_
  refine (WL.done (WX.next ?_))
  refine WC.seq ?_
  refine WC.region ?_
  refine WL.fieldAddr fld164_0 rfl rfl ?_
  refine WL.load rfl (H.rd1 ty3 0 rfl rfl) rfl ?_
  refine WL.fieldAddr fld164_1 rfl rfl ?_
  refine WL.load rfl (H.rd1 ty3 0 rfl rfl) rfl ?_
  refine WL.build (cells := arrC [1, at_, 0, 0, 0, 0, 0, 0, 0, 0, 0, 0]) pla164 zer164 rfl rfl (by kernel_rfl) ?_
  refine WL.alloc H zer164 rfl ?_
  intro b6 wx hb6 hge6 H
  refine WL.storeTo (cs' := arrC [1, at_, 0, 0, 0, 0, 0, 0, 0, 0, 0, 0]) H ty164 0 rfl rfl rfl (by rfl) (by exact arrC_one _) (by exact Nat.le_of_ble_eq_true rfl) (by kernel_rfl) ?_
  intro wx H
  refine (WL.done (WX.next ?_))
  refine WC.seq ?_
  refine WC.seq ?_
  refine WC.region ?_
  refine WL.fieldAddr fld164_0 rfl rfl ?_
  refine WL.load rfl (H.rd1 ty3 1 rfl rfl) rfl ?_
  refine (WL.done (WX.next ?_))
  refine WC.block ?_
  refine WC.seq ?_
  refine WC.seq ?_
  refine WC.region ?_
  refine WL.bin rfl rfl binv_eql rfl ?_
  refine WL.assign rfl rfl ?_
  refine (WL.done (WX.next ?_))
  refine WC.cond_true rfl (rfl) ?_
  refine (WC.skip (WX.next ?_))
  refine WC.cond_true rfl (rfl) ?_
  refine WC.seq ?_
  refine WC.region ?_
  refine WL.move rfl rfl ?_
  refine WL.fieldAddr fld164_3 rfl rfl ?_
  refine WL.load rfl (H.rd1 ty3 1 rfl rfl) rfl ?_
  refine WL.call call61 rfl rfl ?_
  refine Calls.mono (a_span (L := (b6, .cells (arrC [1, at_, 0, 0, 0, 0, 0, 0, 0, 0, 0, 0]) 164) :: (b3, .cells (arrC (evS 1 at_ val s)) 164) :: L) s hs.2 hI H hL) ?_
  rintro _ wx ⟨R1, rfl, hI, H⟩
  refine ⟨_, rfl, ?_⟩
  replace hI : Is R1 p (spanned M s) k := hI
  refine (WL.done (WX.next ?_))
  refine WC.seq ?_
  refine WC.region ?_
  refine WL.move rfl rfl ?_
  refine WL.makeFunc (us := [ptr p]) (vs := []) rfl rfl rfl ?_
  refine WL.assign rfl rfl ?_
  refine (WL.done (WX.next ?_))
  refine WC.seq ?_
  refine WC.seq ?_
  refine WC.region ?_
  refine WL.fieldAddr fld164_0 rfl rfl ?_
  refine WL.load rfl (H.rd1 ty3 1 rfl rfl) rfl ?_
  refine WL.bin rfl rfl binv_eql rfl ?_
  refine (WL.done (WX.next ?_))
  refine WC.cond_false rfl (rfl) ?_
  refine (WC.skip (WX.next ?_))
  refine WC.seq ?_
  refine WC.region ?_
  refine WL.move rfl rfl ?_
  refine WL.fieldAddr fld164_1 rfl rfl ?_
  refine WL.load rfl (H.rd1 ty3 1 rfl rfl) rfl ?_
  refine WL.fieldAddr fld164_2 rfl rfl ?_
  refine WL.load rfl (H.rd1 ty3 1 rfl rfl) rfl ?_
  refine WL.callVal call56 rfl rfl rfl ?_
  refine Calls.mono (a_store (L := (b6, .cells (arrC [1, at_, 0, 0, 0, 0, 0, 0, 0, 0, 0, 0]) 164) :: (b3, .cells (arrC (evS 1 at_ val s)) 164) :: L) at_ val ha (by omega) hI H hL) ?_
  rintro _ wx ⟨R2, rfl, hI, H⟩
  refine ⟨_, rfl, ?_⟩
  rw [he]
  refine WL.assign rfl rfl ?_
  refine (WL.done (WX.next ?_))
  replace H := H.drew
  refine WC.held (SX (World.drew wx) [b6]) (by kernel_rfl) ?_
  generalize World.drew wx = wb at H ⊢
  have HB := H.single 0 rfl
  refine WH.take 0 rfl (by kernel_rfl) (by kernel_rfl) (by kernel_rfl) (fun _ _ _ h => h) ⟨_, HB⟩ (fun w' hS => EX.fieldAddr fld164_2 rfl) rfl ?_
  refine WH.take 1 rfl (by kernel_rfl) (by kernel_rfl) (by kernel_rfl) (fun _ _ _ h => h) ⟨_, HB⟩ (fun w' hS => EX.load rfl (hS.rd1 ty3 (H.blk 1 rfl) (by simpa using H.ne 1 0 rfl rfl rfl) rfl)) rfl ?_
  refine WH.take 2 rfl (by kernel_rfl) (by kernel_rfl) (by kernel_rfl) (fun _ _ _ h => h) ⟨_, HB⟩ (fun w' hS => EX.fieldAddr fld164_3 rfl) rfl ?_
  refine WH.take 3 rfl (by kernel_rfl) (by kernel_rfl) (by kernel_rfl) (fun _ _ _ h => h) ⟨_, HB⟩ (fun w' hS => EX.load rfl (hS.rd1 ty3 (H.blk 1 rfl) (by simpa using H.ne 1 0 rfl rfl rfl) rfl)) rfl ?_
  refine WH.take 4 rfl (by kernel_rfl) (by kernel_rfl) (by kernel_rfl) (fun _ _ _ h => h) ⟨_, HB⟩ (fun w' hS => EX.maxTo (r := s) rfl rfl (by omega)) rfl ?_
  refine WH.take 5 rfl (by kernel_rfl) (by kernel_rfl) (by kernel_rfl) (fun _ _ _ h => h) ⟨_, HB⟩ (fun w' hS => EX.fieldAddr fld164_2 rfl) rfl ?_
  refine WH.hard 6 rfl (by kernel_rfl) ?_
  refine WL.storeElt (o := 2) HB ty3 0 rfl rfl rfl (by simp) ?_
  intro wx HB
  refine WL.done (WX.heldOn ⟨_, HB⟩ ?_)
  refine WH.take 7 rfl (by kernel_rfl) (by kernel_rfl) (by kernel_rfl) (fun _ _ _ h => h) ⟨_, HB⟩ (fun w' hS => EX.fieldAddr fld164_3 rfl) rfl ?_
  refine WH.hard 8 rfl (by kernel_rfl) ?_
  refine WL.storeElt (o := 3) HB ty3 0 rfl rfl rfl (by simp) ?_
  intro wx HB
  refine WL.done (WX.heldOn ⟨_, HB⟩ ?_)
  refine WH.done (by kernel_rfl) ?_
  replace H := H.back (N := []) 0 rfl HB rfl
  refine (WX.block_normal (WX.next ?_))
  refine WC.seq ?_
  refine WC.region ?_
  refine WL.move rfl rfl ?_
  refine WL.bin rfl rfl binv_eql rfl ?_
  refine WL.move rfl rfl ?_
  refine WL.known (t := 93) rfl (b := true) (rfl) ?_
  refine WL.yes rfl rfl ?_
  refine WL.load rfl (H.rdAll ty164 1 rfl rfl) rfl ?_
  refine WL.yes rfl rfl ?_
  refine WL.load rfl (H.rdAll ty164 0 rfl rfl) rfl ?_
  refine WL.yes rfl rfl ?_
  refine WL.bin rfl rfl (eqT eqI164' (by kernel_rfl) (xs := evS 1 at_ val s) rfl rfl) rfl ?_
  refine WL.pickT rfl rfl rfl ?_
  refine WL.assign rfl rfl ?_
  refine (WL.done (WX.next ?_))
  refine (WC.ret ?_)
  refine ret_one rfl rfl ?_
  refine ⟨R2, rfl, hI, H.weaken (List.Sublist.cons _ (List.Sublist.cons _ (List.Sublist.refl _)))⟩

theorem rep_publish {w0 w : World} {L : Hp} {R : RM} {p k : Nat} {M : PM} (at_ val s : Int) (hs : 0 ≤ s ∧ s ≤ 9223372036854775807) (ha : -9223372036854775808 ≤ at_ ∧ at_ ≤ 9223372036854775807) (he : (spanned M s).putErr at_ val = 0) (hk : k < 536870912) (hI : Is R p M k) (H : St w0 [] w (L ++ R.hp)) (hL : L64 w0) : Calls Tryd.prog 216 #[ptr p, arr (evS 2 at_ val s)] w fun e w' => ∃ R', e = .returned (.bool true) ∧ Is R' p ((spanned M s).put 2 at_ val) (k + 1) ∧ St w0 [] w' (L ++ R'.hp) := by
  refine calls_walk_n (args := [ptr p, arr (evS 2 at_ val s)]) Tryd.func216 rfl rfl rfl ?_
  replace H : St w0 [] w (([] ++ L) ++ R.hp) := H
  refine WC.seq ?_
  refine WC.region ?_
  refine WL.boxArr H rfl rfl ?_
  intro b3 wx hb3 hge3 H
  refine WL.assign rfl rfl ?_
  refine (WL.done (WX.next ?_))
  refine WC.seq ?_
  refine WC.region ?_
  refine WL.assign rfl rfl ?_
  refine (WL.done (WX.next ?_))
  refine WC.seq ?_
  refine WC.region ?_
  refine WL.fieldAddr fld164_0 rfl rfl ?_
  refine WL.load rfl (H.rd1 ty3 0 rfl rfl) rfl ?_
  refine WL.fieldAddr fld164_1 rfl rfl ?_
  refine WL.load rfl (H.rd1 ty3 0 rfl rfl) rfl ?_
  refine WL.build (cells := arrC [2, at_, 0, 0, 0, 0, 0, 0, 0, 0, 0, 0]) pla164 zer164 rfl rfl (by kernel_rfl) ?_
  refine WL.alloc H zer164 rfl ?_
  intro b6 wx hb6 hge6 H
  refine WL.storeTo (cs' := arrC [2, at_, 0, 0, 0, 0, 0, 0, 0, 0, 0, 0]) H ty164 0 rfl rfl rfl (by rfl) (by exact arrC_one _) (by exact Nat.le_of_ble_eq_true rfl) (by kernel_rfl) ?_
  intro wx H
  refine (WL.done (WX.next ?_))
  refine WC.seq ?_
  refine WC.seq ?_
  refine WC.region ?_
  refine WL.fieldAddr fld164_0 rfl rfl ?_
  refine WL.load rfl (H.rd1 ty3 1 rfl rfl) rfl ?_
  refine (WL.done (WX.next ?_))
  refine WC.block ?_
  refine WC.seq ?_
  refine WC.seq ?_
  refine WC.region ?_
  refine WL.bin rfl rfl binv_eql rfl ?_
  refine WL.assign rfl rfl ?_
  refine (WL.done (WX.next ?_))
  refine WC.cond_false rfl (rfl) ?_
  refine WC.region ?_
  refine WL.bin rfl rfl binv_eql rfl ?_
  refine WL.assign rfl rfl ?_
  refine (WL.done (WX.next ?_))
  refine WC.cond_true rfl (rfl) ?_
  refine WC.seq ?_
  refine WC.region ?_
  refine WL.move rfl rfl ?_
  refine WL.fieldAddr fld164_3 rfl rfl ?_
  refine WL.load rfl (H.rd1 ty3 1 rfl rfl) rfl ?_
  refine WL.call call61 rfl rfl ?_
  refine Calls.mono (a_span (L := (b6, .cells (arrC [2, at_, 0, 0, 0, 0, 0, 0, 0, 0, 0, 0]) 164) :: (b3, .cells (arrC (evS 2 at_ val s)) 164) :: L) s hs.2 hI H hL) ?_
  rintro _ wx ⟨R1, rfl, hI, H⟩
  refine ⟨_, rfl, ?_⟩
  replace hI : Is R1 p (spanned M s) k := hI
  refine (WL.done (WX.next ?_))
  refine WC.seq ?_
  refine WC.region ?_
  refine WL.move rfl rfl ?_
  refine WL.makeFunc (us := [ptr p]) (vs := []) rfl rfl rfl ?_
  refine WL.assign rfl rfl ?_
  refine (WL.done (WX.next ?_))
  refine WC.seq ?_
  refine WC.seq ?_
  refine WC.region ?_
  refine WL.fieldAddr fld164_0 rfl rfl ?_
  refine WL.load rfl (H.rd1 ty3 1 rfl rfl) rfl ?_
  refine WL.bin rfl rfl binv_eql rfl ?_
  refine (WL.done (WX.next ?_))
  refine WC.cond_true rfl (rfl) ?_
  refine WC.region ?_
  refine WL.move rfl rfl ?_
  refine WL.makeFunc (us := [ptr p]) (vs := []) rfl rfl rfl ?_
  refine WL.assign rfl rfl ?_
  refine (WL.done (WX.next ?_))
  refine WC.seq ?_
  refine WC.region ?_
  refine WL.move rfl rfl ?_
  refine WL.fieldAddr fld164_1 rfl rfl ?_
  refine WL.load rfl (H.rd1 ty3 1 rfl rfl) rfl ?_
  refine WL.fieldAddr fld164_2 rfl rfl ?_
  refine WL.load rfl (H.rd1 ty3 1 rfl rfl) rfl ?_
  refine WL.callVal call110 rfl rfl rfl ?_
  refine Calls.mono (a_publish (L := (b6, .cells (arrC [2, at_, 0, 0, 0, 0, 0, 0, 0, 0, 0, 0]) 164) :: (b3, .cells (arrC (evS 2 at_ val s)) 164) :: L) at_ val ha (by omega) hI H hL) ?_
  rintro _ wx ⟨R2, rfl, hI, H⟩
  refine ⟨_, rfl, ?_⟩
  rw [he]
  refine WL.assign rfl rfl ?_
  refine (WL.done (WX.next ?_))
  replace H := H.drew
  refine WC.held (SX (World.drew wx) [b6]) (by kernel_rfl) ?_
  generalize World.drew wx = wb at H ⊢
  have HB := H.single 0 rfl
  refine WH.take 0 rfl (by kernel_rfl) (by kernel_rfl) (by kernel_rfl) (fun _ _ _ h => h) ⟨_, HB⟩ (fun w' hS => EX.fieldAddr fld164_2 rfl) rfl ?_
  refine WH.take 1 rfl (by kernel_rfl) (by kernel_rfl) (by kernel_rfl) (fun _ _ _ h => h) ⟨_, HB⟩ (fun w' hS => EX.load rfl (hS.rd1 ty3 (H.blk 1 rfl) (by simpa using H.ne 1 0 rfl rfl rfl) rfl)) rfl ?_
  refine WH.take 2 rfl (by kernel_rfl) (by kernel_rfl) (by kernel_rfl) (fun _ _ _ h => h) ⟨_, HB⟩ (fun w' hS => EX.fieldAddr fld164_3 rfl) rfl ?_
  refine WH.take 3 rfl (by kernel_rfl) (by kernel_rfl) (by kernel_rfl) (fun _ _ _ h => h) ⟨_, HB⟩ (fun w' hS => EX.load rfl (hS.rd1 ty3 (H.blk 1 rfl) (by simpa using H.ne 1 0 rfl rfl rfl) rfl)) rfl ?_
  refine WH.take 4 rfl (by kernel_rfl) (by kernel_rfl) (by kernel_rfl) (fun _ _ _ h => h) ⟨_, HB⟩ (fun w' hS => EX.maxTo (r := s) rfl rfl (by omega)) rfl ?_
  refine WH.take 5 rfl (by kernel_rfl) (by kernel_rfl) (by kernel_rfl) (fun _ _ _ h => h) ⟨_, HB⟩ (fun w' hS => EX.fieldAddr fld164_2 rfl) rfl ?_
  refine WH.hard 6 rfl (by kernel_rfl) ?_
  refine WL.storeElt (o := 2) HB ty3 0 rfl rfl rfl (by simp) ?_
  intro wx HB
  refine WL.done (WX.heldOn ⟨_, HB⟩ ?_)
  refine WH.take 7 rfl (by kernel_rfl) (by kernel_rfl) (by kernel_rfl) (fun _ _ _ h => h) ⟨_, HB⟩ (fun w' hS => EX.fieldAddr fld164_3 rfl) rfl ?_
  refine WH.hard 8 rfl (by kernel_rfl) ?_
  refine WL.storeElt (o := 3) HB ty3 0 rfl rfl rfl (by simp) ?_
  intro wx HB
  refine WL.done (WX.heldOn ⟨_, HB⟩ ?_)
  refine WH.done (by kernel_rfl) ?_
  replace H := H.back (N := []) 0 rfl HB rfl
  refine (WX.block_normal (WX.next ?_))
  refine WC.seq ?_
  refine WC.region ?_
  refine WL.move rfl rfl ?_
  refine WL.bin rfl rfl binv_eql rfl ?_
  refine WL.move rfl rfl ?_
  refine WL.known (t := 93) rfl (b := true) (rfl) ?_
  refine WL.yes rfl rfl ?_
  refine WL.load rfl (H.rdAll ty164 1 rfl rfl) rfl ?_
  refine WL.yes rfl rfl ?_
  refine WL.load rfl (H.rdAll ty164 0 rfl rfl) rfl ?_
  refine WL.yes rfl rfl ?_
  refine WL.bin rfl rfl (eqT eqI164' (by kernel_rfl) (xs := evS 2 at_ val s) rfl rfl) rfl ?_
  refine WL.pickT rfl rfl rfl ?_
  refine WL.assign rfl rfl ?_
  refine (WL.done (WX.next ?_))
  refine (WC.ret ?_)
  refine ret_one rfl rfl ?_
  refine ⟨R2, rfl, hI, H.weaken (List.Sublist.cons _ (List.Sublist.cons _ (List.Sublist.refl _)))⟩

theorem rep_flush {w0 w : World} {L : Hp} {R : RM} {p k : Nat} {M : PM} (at_ : Int) (he : M.has at_ = true) (hk : k < 536870912) (hI : Is R p M k) (H : St w0 [] w (L ++ R.hp)) (hL : L64 w0) : Calls Tryd.prog 216 #[ptr p, arr (evS 3 at_ 0 0)] w fun e w' => ∃ R', e = .returned (.bool true) ∧ Is R' p (M.flush at_) (k + 1) ∧ St w0 [] w' (L ++ R'.hp) := by
  refine calls_walk_n (args := [ptr p, arr (evS 3 at_ 0 0)]) Tryd.func216 rfl rfl rfl ?_
  replace H : St w0 [] w (([] ++ L) ++ R.hp) := H
  refine WC.seq ?_
  refine WC.region ?_
  refine WL.boxArr H rfl rfl ?_
  intro b3 wx hb3 hge3 H
  refine WL.assign rfl rfl ?_
  refine (WL.done (WX.next ?_))
  refine WC.seq ?_
  refine WC.region ?_
  refine WL.assign rfl rfl ?_
  refine (WL.done (WX.next ?_))
  refine WC.seq ?_
  refine WC.region ?_
  refine WL.fieldAddr fld164_0 rfl rfl ?_
  refine WL.load rfl (H.rd1 ty3 0 rfl rfl) rfl ?_
  refine WL.fieldAddr fld164_1 rfl rfl ?_
  refine WL.load rfl (H.rd1 ty3 0 rfl rfl) rfl ?_
  refine WL.build (cells := arrC [3, at_, 0, 0, 0, 0, 0, 0, 0, 0, 0, 0]) pla164 zer164 rfl rfl (by kernel_rfl) ?_
  refine WL.alloc H zer164 rfl ?_
  intro b6 wx hb6 hge6 H
  refine WL.storeTo (cs' := arrC [3, at_, 0, 0, 0, 0, 0, 0, 0, 0, 0, 0]) H ty164 0 rfl rfl rfl (by rfl) (by exact arrC_one _) (by exact Nat.le_of_ble_eq_true rfl) (by kernel_rfl) ?_
  intro wx H
  refine (WL.done (WX.next ?_))
  refine WC.seq ?_
  refine WC.seq ?_
  refine WC.region ?_
  refine WL.fieldAddr fld164_0 rfl rfl ?_
  refine WL.load rfl (H.rd1 ty3 1 rfl rfl) rfl ?_
  refine (WL.done (WX.next ?_))
  refine WC.block ?_
  refine WC.seq ?_
  refine WC.seq ?_
  refine WC.region ?_
  refine WL.bin rfl rfl binv_eql rfl ?_
  refine WL.assign rfl rfl ?_
  refine (WL.done (WX.next ?_))
  refine WC.cond_false rfl (rfl) ?_
  refine WC.region ?_
  refine WL.bin rfl rfl binv_eql rfl ?_
  refine WL.assign rfl rfl ?_
  refine (WL.done (WX.next ?_))
  refine WC.cond_false rfl (rfl) ?_
  refine WC.seq ?_
  refine WC.region ?_
  refine WL.bin rfl rfl binv_eql rfl ?_
  refine WL.assign rfl rfl ?_
  refine (WL.done (WX.next ?_))
  refine WC.cond_true rfl (rfl) ?_
  refine WC.region ?_
  refine WL.move rfl rfl ?_
  refine WL.fieldAddr fld164_1 rfl rfl ?_
  refine WL.load rfl (H.rd1 ty3 1 rfl rfl) rfl ?_
  refine WL.call call35 rfl rfl ?_
  refine Calls.mono (a_flush (L := (b6, .cells (arrC [3, at_, 0, 0, 0, 0, 0, 0, 0, 0, 0, 0]) 164) :: (b3, .cells (arrC (evS 3 at_ 0 0)) 164) :: L) at_ (by omega) hI H hL) ?_
  rintro _ wx ⟨R2, rfl, hI, H⟩
  refine ⟨_, rfl, ?_⟩
  rw [he, if_pos rfl]
  refine WL.assign rfl rfl ?_
  refine (WL.done (WX.block_normal (WX.next ?_)))
  refine WC.seq ?_
  refine WC.region ?_
  refine WL.move rfl rfl ?_
  refine WL.bin rfl rfl binv_eql rfl ?_
  refine WL.move rfl rfl ?_
  refine WL.known (t := 93) rfl (b := true) (rfl) ?_
  refine WL.yes rfl rfl ?_
  refine WL.load rfl (H.rdAll ty164 1 rfl rfl) rfl ?_
  refine WL.yes rfl rfl ?_
  refine WL.load rfl (H.rdAll ty164 0 rfl rfl) rfl ?_
  refine WL.yes rfl rfl ?_
  refine WL.bin rfl rfl (eqT eqI164' (by kernel_rfl) (xs := evS 3 at_ 0 0) rfl rfl) rfl ?_
  refine WL.pickT rfl rfl rfl ?_
  refine WL.assign rfl rfl ?_
  refine (WL.done (WX.next ?_))
  refine (WC.ret ?_)
  refine ret_one rfl rfl ?_
  refine ⟨R2, rfl, hI, H.weaken (List.Sublist.cons _ (List.Sublist.cons _ (List.Sublist.refl _)))⟩

theorem rep_fence {w0 w : World} {L : Hp} {R : RM} {p k : Nat} {M : PM} (hk : k < 536870912) (hI : Is R p M k) (H : St w0 [] w (L ++ R.hp)) (hL : L64 w0) : Calls Tryd.prog 216 #[ptr p, arr (evS 4 0 0 0)] w fun e w' => ∃ R', e = .returned (.bool true) ∧ Is R' p (M.fence) (k + 1) ∧ St w0 [] w' (L ++ R'.hp) := by
  refine calls_walk_n (args := [ptr p, arr (evS 4 0 0 0)]) Tryd.func216 rfl rfl rfl ?_
  replace H : St w0 [] w (([] ++ L) ++ R.hp) := H
  refine WC.seq ?_
  refine WC.region ?_
  refine WL.boxArr H rfl rfl ?_
  intro b3 wx hb3 hge3 H
  refine WL.assign rfl rfl ?_
  refine (WL.done (WX.next ?_))
  refine WC.seq ?_
  refine WC.region ?_
  refine WL.assign rfl rfl ?_
  refine (WL.done (WX.next ?_))
  refine WC.seq ?_
  refine WC.region ?_
  refine WL.fieldAddr fld164_0 rfl rfl ?_
  refine WL.load rfl (H.rd1 ty3 0 rfl rfl) rfl ?_
  refine WL.fieldAddr fld164_1 rfl rfl ?_
  refine WL.load rfl (H.rd1 ty3 0 rfl rfl) rfl ?_
  refine WL.build (cells := arrC [4, 0, 0, 0, 0, 0, 0, 0, 0, 0, 0, 0]) pla164 zer164 rfl rfl (by kernel_rfl) ?_
  refine WL.alloc H zer164 rfl ?_
  intro b6 wx hb6 hge6 H
  refine WL.storeTo (cs' := arrC [4, 0, 0, 0, 0, 0, 0, 0, 0, 0, 0, 0]) H ty164 0 rfl rfl rfl (by rfl) (by exact arrC_one _) (by exact Nat.le_of_ble_eq_true rfl) (by kernel_rfl) ?_
  intro wx H
  refine (WL.done (WX.next ?_))
  refine WC.seq ?_
  refine WC.seq ?_
  refine WC.region ?_
  refine WL.fieldAddr fld164_0 rfl rfl ?_
  refine WL.load rfl (H.rd1 ty3 1 rfl rfl) rfl ?_
  refine (WL.done (WX.next ?_))
  refine WC.block ?_
  refine WC.seq ?_
  refine WC.seq ?_
  refine WC.region ?_
  refine WL.bin rfl rfl binv_eql rfl ?_
  refine WL.assign rfl rfl ?_
  refine (WL.done (WX.next ?_))
  refine WC.cond_false rfl (rfl) ?_
  refine WC.region ?_
  refine WL.bin rfl rfl binv_eql rfl ?_
  refine WL.assign rfl rfl ?_
  refine (WL.done (WX.next ?_))
  refine WC.cond_false rfl (rfl) ?_
  refine WC.seq ?_
  refine WC.region ?_
  refine WL.bin rfl rfl binv_eql rfl ?_
  refine WL.assign rfl rfl ?_
  refine (WL.done (WX.next ?_))
  refine WC.cond_false rfl (rfl) ?_
  refine WC.seq ?_
  refine WC.region ?_
  refine WL.bin rfl rfl binv_eql rfl ?_
  refine WL.assign rfl rfl ?_
  refine (WL.done (WX.next ?_))
  refine WC.cond_true rfl (rfl) ?_
  refine WC.seq ?_
  refine WC.region ?_
  refine WL.fieldAddr fld164_1 rfl rfl ?_
  refine WL.storeTo (cs' := arrC [4, 0, 0, 0, 0, 0, 0, 0, 0, 0, 0, 0]) H ty3 0 rfl rfl rfl (by rfl) (by simp [Value.cells, Value.oneCell']) (by exact Nat.le_of_ble_eq_true rfl) (by kernel_rfl) ?_
  intro wx H
  refine (WL.done (WX.next ?_))
  refine WC.region ?_
  refine WL.move rfl rfl ?_
  refine WL.call call36 rfl rfl ?_
  refine Calls.mono (a_fence (L := (b6, .cells (arrC [4, 0, 0, 0, 0, 0, 0, 0, 0, 0, 0, 0]) 164) :: (b3, .cells (arrC (evS 4 0 0 0)) 164) :: L) (by omega) hI H hL) ?_
  rintro _ wx ⟨R2, rfl, hI, H⟩
  refine ⟨_, rfl, ?_⟩
  refine (WL.done (WX.block_normal (WX.next ?_)))
  refine WC.seq ?_
  refine WC.region ?_
  refine WL.move rfl rfl ?_
  refine WL.bin rfl rfl binv_eql rfl ?_
  refine WL.move rfl rfl ?_
  refine WL.known (t := 93) rfl (b := true) (rfl) ?_
  refine WL.yes rfl rfl ?_
  refine WL.load rfl (H.rdAll ty164 1 rfl rfl) rfl ?_
  refine WL.yes rfl rfl ?_
  refine WL.load rfl (H.rdAll ty164 0 rfl rfl) rfl ?_
  refine WL.yes rfl rfl ?_
  refine WL.bin rfl rfl (eqT eqI164' (by kernel_rfl) (xs := evS 4 0 0 0) rfl rfl) rfl ?_
  refine WL.pickT rfl rfl rfl ?_
  refine WL.assign rfl rfl ?_
  refine (WL.done (WX.next ?_))
  refine (WC.ret ?_)
  refine ret_one rfl rfl ?_
  refine ⟨R2, rfl, hI, H.weaken (List.Sublist.cons _ (List.Sublist.cons _ (List.Sublist.refl _)))⟩

end Go.Proofs.YtkncbggnaobgeaaDoor

/- Walks of functions of the program; printed by a program of this session (walk.py) out of hand-written hints. -/
namespace Go.Proofs.YtkncbggnaobgeaaDoor
open Go.RowKit
set_option linter.unusedVariables false
set_option linter.unusedSimpArgs false
set_option maxRecDepth 100000

/-- Events of stores, publications, flushes and fences. -/
inductive Plain4 : List Int → Prop
  | put1 (at_ val s : Int) (hs : 0 ≤ s ∧ s ≤ 9223372036854775807) (ha : -9223372036854775808 ≤ at_ ∧ at_ ≤ 9223372036854775807) : Plain4 (evS 1 at_ val s)
  | put2 (at_ val s : Int) (hs : 0 ≤ s ∧ s ≤ 9223372036854775807) (ha : -9223372036854775808 ≤ at_ ∧ at_ ≤ 9223372036854775807) : Plain4 (evS 2 at_ val s)
  | fl (at_ : Int) : Plain4 (evS 3 at_ 0 0)
  | fe : Plain4 (evS 4 0 0 0)
theorem Plain4.len {v : List Int} (h : Plain4 v) : v.length = 12 := by cases h <;> rfl
theorem rep_any {w0 w : World} {L : Hp} {R : RM} {p k : Nat} {M : PM} (v : List Int) (h4 : Plain4 v) (hok : evOk M v) (hk : k < 536870912) (hI : Is R p M k) (H : St w0 [] w (L ++ R.hp)) (hL : L64 w0) :
    Calls Tryd.prog 216 #[ptr p, arr v] w fun e w' => ∃ R', e = .returned (.bool true) ∧ Is R' p (evM M v) (k + 1) ∧ St w0 [] w' (L ++ R'.hp) := by
  have he := hok.1
  cases h4 with
  | put1 a v s hs ha => exact rep_store a v s hs ha he hk hI H hL
  | put2 a v s hs ha => exact rep_publish a v s hs ha he hk hI H hL
  | fl a =>
    refine rep_flush a ?_ hk hI H hL
    cases hh : M.has a with
    | true => rfl
    | false =>
      exfalso
      change (if M.has a then (0 : Int) else 40) = 0 at he
      rw [hh] at he
      cases he
  | fe => exact rep_fence hk hI H hL
theorem a_from_ok {w : World} (A : Option Addr) (m cap : Nat) (imgs : List (List Int × Int)) (hmi : m = imgs.length) (h8 : ∀ x ∈ imgs, x.1.length = 8) (himg : ImgIn w A imgs) (hm63 : m ≤ 1073741824) (hok : imgOk imgs = true) (hL : L64 w) :
    Calls Tryd.prog 24 #[.slice A m cap] w fun e w' => ∃ p R, e = .returned (ptr p) ∧ Is R p (PM.ofImg imgs) 0 ∧ St w [] w' R.hp := by
  refine (a_from_opt A m cap imgs hmi h8 himg hm63 (St.refl w) hL).mono ?_
  rintro _ w' ⟨o, rfl, h⟩
  rcases h with ⟨_, p, R, rfl, hI, hs⟩ | ⟨h, _⟩
  · exact ⟨p, R, rfl, hI, hs⟩
  · rw [hok] at h; cases h
/-- A row that was handed back, with its room. -/
theorem RowsIn.rowC {w : World} {r : Row} {s n : Nat} {T : TypeId} {xs : List (List Int)} (h8 : ∀ v ∈ xs, v.length = s) (hn : n = xs.length) (hr : r.ok s n (intsC xs.flatten)) (hs : ∀ q ∈ r.hp T, w.heap[q.1]? = some q.2) : ∃ A cap, r.val n = .slice A n cap ∧ n ≤ cap ∧ RowsIn w A s xs := by
  obtain ⟨A, cap, h1, h2⟩ := RowsIn.row h8 hn hr hs
  refine ⟨A, cap, h1, ?_, h2⟩
  cases r with
  | none => cases h1; rw [hr.1]; exact Nat.zero_le _
  | nul a => cases h1; rw [hr.1]; exact Nat.zero_le _
  | some g c cur => cases h1; exact hr.2.1
theorem RowsIn.take {w : World} {A : Option Addr} {s : Nat} {xs : List (List Int)} (h : RowsIn w A s xs) (n : Nat) : RowsIn w A s (xs.take n) := by
  refine ⟨fun r hr => h.1 r (List.mem_of_mem_take hr), ?_⟩
  have hpre : ∀ (j : Nat) (u : Int), (xs.take n).flatten[j]? = some u → xs.flatten[j]? = some u := by
    intro j u hj
    have e : xs.flatten = (xs.take n).flatten ++ (xs.drop n).flatten := by rw [← List.flatten_append, List.take_append_drop]
    rw [e, List.getElem?_append_left (lt_len hj)]
    exact hj
  rcases h.2 with h | ⟨b, o, cs, t, fr, h1, h2, h3⟩
  · left
    have e : xs.flatten = (xs.take n).flatten ++ (xs.drop n).flatten := by rw [← List.flatten_append, List.take_append_drop]
    rw [h] at e
    exact (List.append_eq_nil_iff.1 e.symm).1
  · exact .inr ⟨b, o, cs, t, fr, h1, h2, fun j u hj => h3 j u (hpre j u hj)⟩
theorem perm2 {α : Type} (a b : α) (X K : List α) : (a :: b :: (X ++ K)).Perm (X ++ a :: b :: K) := (List.perm_middle.symm.cons a).trans List.perm_middle.symm
theorem choice_len (M : PM) (k : Int) : ∀ i, (chTo M k i).1.length ≤ i
  | 0 => Nat.le_refl _
  | i + 1 => by
    have ih := choice_len M k i
    unfold chTo
    split
    · simp only [List.length_append, List.length_cons, List.length_nil]; omega
    · omega
theorem chTo_nonneg (M : PM) {k : Int} (hk : 0 ≤ k ∧ k ≤ 9223372036854775807) : ∀ i, 0 ≤ (chTo M k i).2 ∧ (chTo M k i).2 ≤ 9223372036854775807
  | 0 => hk
  | i + 1 => by
    have ih := chTo_nonneg M hk i
    unfold chTo
    split
    · rename_i h
      have h1 := Int.ediv_nonneg ih.1 (show (0 : Int) ≤ ((M.line (i : Nat)).ps.length : Int) + 1 by omega)
      have h2 := Int.ediv_le_self (((M.line (i : Nat)).ps.length : Int) + 1) ih.1
      exact ⟨h1, Int.le_trans h2 ih.2⟩
    · exact ih
theorem WL.negTo {P : Program} {ops : Array Oper} {Q : Exit → Act → World → Prop} {n : Nat} {ds : List Deferred} {e : Env} {w : World} {rest : List Oper} {d : Nat} {ty : TypeId} {pos : String} {af : Array Edge} {t : TypeId} {x : Operand} {z r : Int} (hx : ev e x = some (.int .i64 z)) (hdn : Nat.blt d n = true) (hr : 0 - z = r) (hb : -9223372036854775808 ≤ r ∧ r ≤ 9223372036854775807)
    (h : WL P ops Q n ds rest ((d, .int .i64 r) :: e) w) : WL P ops Q n ds ({ dst := some d, op := .unOp .neg t x, type := ty, pos, after := af, guard := none } :: rest) e w := by
  refine WL.negOp hx hdn ?_
  rw [wrap_i64 (by omega) (by omega), hr]
  exact h
theorem app50' : AppT Tryd.prog 50 109 2 16 := appT_of (by kernel_rfl)

theorem replay_any (A : Option Addr) (m cap : Nat) (imgs : List (List Int × Int)) (hmi : m = imgs.length) (h8 : ∀ x ∈ imgs, x.1.length = 8) (hm63 : m ≤ 1073741824) (himk : imgOk imgs = true) (A2 : Option Addr) (m2 cap2 : Nat) (l : List (List Int)) (hm2 : m2 = l.length) (hm2s : m2 < 536870912) (hgood : goodEv (PM.ofImg imgs) l) (hpl : ∀ v ∈ l, Plain4 v) (w : World) (himg : ImgIn w A imgs) (hl : RowsIn w A2 12 l) (hL : L64 w) : Calls Tryd.prog 208 #[.slice A m cap, .slice A2 m2 cap2] w fun e w' => ∃ p R, e = .returned (.tuple #[ptr p, .int .i64 (m2 : Int), .bool true]) ∧ Is R p (runEv (PM.ofImg imgs) l) m2 ∧ St w [] w' R.hp := by
  refine calls_walk_n (args := [.slice A m cap, .slice A2 m2 cap2]) Tryd.func208 rfl rfl rfl ?_
  have H := St.refl w
  refine WC.seq ?_
  refine WC.region ?_
  refine WL.assign rfl rfl ?_
  refine WL.assign rfl rfl ?_
  refine WL.assign rfl rfl ?_
  refine (WL.done (WX.next ?_))
  refine WC.seq ?_
  refine WC.region ?_
  refine WL.move rfl rfl ?_
  refine WL.call call24 rfl rfl ?_
  refine Calls.mono (a_from_ok A m cap imgs hmi h8 himg hm63 himk (hL.of0 H)) ?_
  rintro _ wx ⟨p, R0, rfl, hI0, Hc⟩
  refine ⟨_, rfl, ?_⟩
  replace H : St w [] wx ([] ++ R0.hp) := by
    have H2 := H.call Hc
    rw [List.append_nil] at H2
    exact H2
  refine WL.assign rfl rfl ?_
  refine (WL.done (WX.next ?_))
  refine WC.seq ?_
  refine WC.seq ?_
  refine WC.region ?_
  refine WL.move rfl rfl ?_
  refine WL.bin rfl rfl (binv_ptr_eql (by kernel_rfl) _) rfl ?_
  refine (WL.done (WX.next ?_))
  refine WC.cond_false rfl (rfl) ?_
  refine (WC.skip (WX.next ?_))
  refine WC.seq ?_
  refine WC.seq ?_
  refine WC.region ?_
  refine WL.move rfl rfl ?_
  refine WL.lenSlc isl30 rfl rfl ?_
  refine WL.move rfl rfl ?_
  refine (WL.done (WX.next ?_))
  refine WC.block ?_
  -- loop 1: changed [16] kept [1, 7, 14, 15]
  refine WC.loop (Sub.cons (t := 1) rfl (Sub.cons (t := 7) rfl (Sub.cons (t := 14) rfl (Sub.cons (t := 15) rfl (Sub.nil _))))) (fun z : RM × Nat => [(16, .int .i64 (z.2 : Int))]) (fun q z wx => q = m2 - z.2 ∧ z.2 ≤ m2 ∧ Is z.1 p (runEv (PM.ofImg imgs) (l.take z.2)) z.2 ∧ St w [] wx ([] ++ z.1.hp)) (m2) ((R0, 0)) (Sub.cons (t := 16) (by rfl) (Sub.nil _)) (⟨rfl, Nat.zero_le _, hI0, H⟩) ?_
  rintro q z wx hJ N hN
  clear hI0 H
  obtain ⟨R, i⟩ := z
  obtain ⟨rfl, hi, hI, H⟩ := hJ
  change i ≤ m2 at hi
  change Is R p (runEv (PM.ofImg imgs) (l.take i)) i at hI
  change St w [] wx ([] ++ R.hp) at H
  refine WC.seq ?_
  refine WC.region ?_
  refine WL.bin rfl rfl binv_lss rfl ?_
  refine (WL.done (WX.next ?_))
  refine WC.seq ?_
  refine WC.cond_dec rfl (fun c2 => ?_) (fun c2 => ?_)
  ·
    change (i : Int) < (m2 : Int) at c2
    have hi2 : i < l.length := by omega
    obtain ⟨b, o, rfl⟩ := (hl.keep H).addr (by omega) hi2
    refine (WC.skip (WX.next ?_))
    refine WC.seq ?_
    refine WC.block ?_
    refine WC.seq ?_
    refine WC.region ?_
    refine WL.move rfl rfl ?_
    refine WL.idxSlc (k := i) slc30 rfl rfl (by rfl) (by omega) rfl ?_
    refine WL.load rfl ((hl.keep H).rd ty164 (by omega) hi2 rfl) rfl ?_
    refine WL.alloc H zer164 rfl ?_
    intro b9 wx hb9 hge9 H
    refine WL.assign rfl rfl ?_
    refine WL.storeArr H ty164 0 rfl rfl rfl rfl (hpl _ (List.getElem_mem hi2)).len ?_
    intro wx H
    replace H : St w [] wx ([(b9, .cells (arrC (l[i])) 164)] ++ R.hp) := H
    refine (WL.done (WX.next ?_))
    refine WC.seq ?_
    refine WC.region ?_
    refine WL.move rfl rfl ?_
    refine WL.load rfl (H.rdArr ty164 0 rfl (hpl _ (List.getElem_mem hi2)).len) rfl ?_
    refine WL.call call216 rfl rfl ?_
    refine Calls.mono (rep_any (L := [(b9, .cells (arrC (l[i])) 164)]) l[i] (hpl _ (List.getElem_mem hi2)) (hgood i hi2) (by omega) hI H hL) ?_
    rintro _ wx ⟨R1, rfl, hI, H⟩
    refine ⟨_, rfl, ?_⟩
    rw [← runEv_succ] at hI
    refine WL.notOp rfl rfl ?_
    refine (WL.done (WX.next ?_))
    refine WC.cond_false rfl (rfl) ?_
    refine (WC.skip (WX.block_normal (WX.next ?_)))
    refine WC.region ?_
    refine WL.bin rfl rfl (iadd (by omega) (by omega)) rfl ?_
    refine WL.move rfl rfl ?_
    refine (WL.done (WX.round ?_))
    exact hN _ (R1, i + 1) _ _ (by show m2 - (i + 1) < m2 - i; omega) ⟨rfl, by show i + 1 ≤ m2; omega, hI, H.weaken (List.sublist_append_right _ _)⟩ (Sub.cons (t := 16) (by rfl) (Sub.nil _)) (Sub.cons (t := 1) rfl (Sub.cons (t := 7) rfl (Sub.cons (t := 14) rfl (Sub.cons (t := 15) rfl (Sub.nil _)))))
  ·
    change ¬ (i : Int) < (m2 : Int) at c2
    obtain rfl : i = m2 := by omega
    refine (WC.exit (WX.then_exit (WX.then_exit (WX.block_exit (WX.next ?_)))))
    refine WC.seq ?_
    refine WC.region ?_
    refine WL.move rfl rfl ?_
    refine WL.move rfl rfl ?_
    refine WL.lenSlc isl30 rfl rfl ?_
    refine WL.assign rfl rfl ?_
    refine WL.assign rfl rfl ?_
    refine WL.assign rfl rfl ?_
    refine (WL.done (WX.next ?_))
    refine (WC.ret ?_)
    refine ret_three rfl rfl rfl rfl ?_
    rw [List.take_of_length_le (by omega)] at hI
    exact ⟨p, R, rfl, hI, H⟩

theorem tReplay_any (A : Option Addr) (m cap : Nat) (imgs : List (List Int × Int)) (hmi : m = imgs.length) (h8 : ∀ x ∈ imgs, x.1.length = 8) (hm63 : m ≤ 1073741824) (himk : imgOk imgs = true) (A2 : Option Addr) (m2 cap2 : Nat) (l : List (List Int)) (hm2 : m2 = l.length) (hm2s : m2 < 536870912) (hgood : goodEv (PM.ofImg imgs) l) (hpl : ∀ v ∈ l, Plain4 v) (w : World) (himg : ImgIn w A imgs) (hl : RowsIn w A2 12 l) (hL : L64 w) : Calls Tryd.prog 205 #[.slice A m cap, .slice A2 m2 cap2] w fun e w' => ∃ p R, e = .returned (.tuple #[ptr p, .int .i64 0]) ∧ Is R p (runEv (PM.ofImg imgs) l) m2 ∧ St w [] w' R.hp := by
  refine calls_walk_n (args := [.slice A m cap, .slice A2 m2 cap2]) Tryd.func205 rfl rfl rfl ?_
  have H := St.refl w
  refine WC.seq ?_
  refine WC.region ?_
  refine WL.assign rfl rfl ?_
  refine WL.assign rfl rfl ?_
  refine (WL.done (WX.next ?_))
  refine WC.seq ?_
  refine WC.region ?_
  refine WL.move rfl rfl ?_
  refine WL.move rfl rfl ?_
  refine WL.call call208 rfl rfl ?_
  refine Calls.mono (replay_any A m cap imgs hmi h8 hm63 himk A2 m2 cap2 l hm2 hm2s hgood hpl _ himg hl (hL.of0 H)) ?_
  rintro _ wx ⟨p, R, rfl, hI, Hc⟩
  refine ⟨_, rfl, ?_⟩
  refine WL.move rfl rfl ?_
  refine WL.extract rfl rfl rfl ?_
  refine WL.extract rfl rfl rfl ?_
  refine WL.extract rfl rfl rfl ?_
  refine WL.assign rfl rfl ?_
  refine WL.assign rfl rfl ?_
  refine WL.assign rfl rfl ?_
  refine (WL.done (WX.next ?_))
  refine WC.seq ?_
  refine WC.seq ?_
  refine WC.region ?_
  refine WL.move rfl rfl ?_
  refine WL.notOp rfl rfl ?_
  refine (WL.done (WX.next ?_))
  refine WC.cond_false rfl (rfl) ?_
  refine (WC.skip (WX.next ?_))
  refine WC.seq ?_
  refine WC.seq ?_
  refine WC.region ?_
  refine WL.move rfl rfl ?_
  refine WL.move rfl rfl ?_
  refine WL.lenSlc isl30 rfl rfl ?_
  refine WL.bin rfl rfl binv_lss rfl ?_
  refine (WL.done (WX.next ?_))
  refine WC.cond_false rfl (decide_eq_false (by omega)) ?_
  refine (WC.skip (WX.next ?_))
  refine WC.seq ?_
  refine WC.region ?_
  refine WL.move rfl rfl ?_
  refine WL.assign rfl rfl ?_
  refine WL.assign rfl rfl ?_
  refine (WL.done (WX.next ?_))
  refine (WC.ret ?_)
  refine ret_two rfl rfl rfl ?_
  exact ⟨p, R, rfl, hI, Hc⟩

theorem tAt_any (A : Option Addr) (m cap : Nat) (imgs : List (List Int × Int)) (hmi : m = imgs.length) (h8 : ∀ x ∈ imgs, x.1.length = 8) (hm63 : m ≤ 1073741824) (himk : imgOk imgs = true) (A2 : Option Addr) (m2 cap2 : Nat) (l : List (List Int)) (hm2 : m2 = l.length) (hm2s : m2 < 536870912) (hgood : goodEv (PM.ofImg imgs) l) (hpl : ∀ v ∈ l, Plain4 v) (q : Nat) (hq : q ≤ m2) (hcap : m2 ≤ cap2) (w : World) (himg : ImgIn w A imgs) (hl : RowsIn w A2 12 l) (hL : L64 w) : Calls Tryd.prog 174 #[.slice A m cap, .slice A2 m2 cap2, .int .i64 (q : Int)] w fun e w' => ∃ p R, e = .returned (.tuple #[ptr p, .int .i64 0]) ∧ Is R p (runEv (PM.ofImg imgs) (l.take q)) q ∧ St w [] w' R.hp := by
  refine calls_walk_n (args := [.slice A m cap, .slice A2 m2 cap2, .int .i64 (q : Int)]) Tryd.func174 rfl rfl rfl ?_
  have H := St.refl w
  refine WC.seq ?_
  refine WC.region ?_
  refine WL.assign rfl rfl ?_
  refine WL.assign rfl rfl ?_
  refine (WL.done (WX.next ?_))
  refine WC.seq ?_
  refine WC.seq ?_
  refine WC.region ?_
  refine WL.move rfl rfl ?_
  refine WL.bin rfl rfl binv_lss rfl ?_
  refine WL.move rfl rfl ?_
  refine WL.known (t := 10) rfl (b := false) (decide_eq_false (by omega)) ?_
  refine WL.yes rfl rfl ?_
  refine WL.move rfl rfl ?_
  refine WL.yes rfl rfl ?_
  refine WL.move rfl rfl ?_
  refine WL.yes rfl rfl ?_
  refine WL.lenSlc isl30 rfl rfl ?_
  refine WL.yes rfl rfl ?_
  refine WL.bin rfl rfl binv_gtr rfl ?_
  refine WL.pickF rfl rfl rfl ?_
  refine (WL.done (WX.next ?_))
  refine WC.cond_false rfl (decide_eq_false (by omega)) ?_
  refine (WC.skip (WX.next ?_))
  refine WC.seq ?_
  refine WC.region ?_
  refine WL.move rfl rfl ?_
  refine WL.move rfl rfl ?_
  refine WL.move rfl rfl ?_
  refine WL.sliceHi (k := q) slc30 rfl rfl rfl (by omega) rfl ?_
  refine WL.call call205 rfl rfl ?_
  refine Calls.mono (tReplay_any A m cap imgs hmi h8 hm63 himk A2 q cap2 (l.take q) (by rw [List.length_take]; omega) (by omega) (goodEv_take hgood q) (fun v hv => hpl v (List.mem_of_mem_take hv)) _ himg (hl.take q) (hL.of0 H)) ?_
  rintro _ wx ⟨p, R, rfl, hI, Hc⟩
  refine ⟨_, rfl, ?_⟩
  refine WL.extract rfl rfl rfl ?_
  refine WL.extract rfl rfl rfl ?_
  refine WL.assign rfl rfl ?_
  refine WL.assign rfl rfl ?_
  refine (WL.done (WX.next ?_))
  refine (WC.ret ?_)
  refine ret_two rfl rfl rfl ?_
  exact ⟨p, R, rfl, hI, Hc⟩

theorem digit_any (z d : Int) (b : Nat) (t : TypeId) (hz : 0 ≤ z ∧ z ≤ 9223372036854775807) (hd : 0 < d ∧ d ≤ 9223372036854775807) (w : World) (hb : w.heap[b]? = some (.cells #[.int .i64 z] t)) : Calls Tryd.prog 175 #[.int .i64 d, ptr b] w fun e w' => e = .returned (.int .i64 (z % d)) ∧ St w [b] w' [(b, .cells #[.int .i64 (z / d)] t)] := by
  refine calls_walk_n (args := [.int .i64 d, ptr b]) Tryd.func175 rfl rfl rfl ?_
  have H : St w [b] w [(b, .cells #[.int .i64 z] t)] := St.start (H := [(b, .cells #[.int .i64 z] t)]) (by simp) (by simpa using hb)
  refine WC.seq ?_
  refine WC.region ?_
  refine WL.assign rfl rfl ?_
  refine (WL.done (WX.next ?_))
  refine WC.seq ?_
  refine WC.region ?_
  refine WL.load rfl (H.rd1 ty3 0 rfl rfl) rfl ?_
  refine WL.move rfl rfl ?_
  refine WL.bin rfl rfl (irem hz.1 hd.1) rfl ?_
  refine WL.assign rfl rfl ?_
  refine (WL.done (WX.next ?_))
  refine WC.seq ?_
  refine WC.region ?_
  refine WL.load rfl (H.rd1 ty3 0 rfl rfl) rfl ?_
  refine WL.move rfl rfl ?_
  refine WL.bin rfl rfl (iquo hz.1 hz.2 hd.1) rfl ?_
  refine WL.storeTo (cs' := #[.int .i64 (z / d)]) H ty3 0 rfl rfl rfl (by rfl) (by simp [Value.cells, Value.oneCell']) (by exact Nat.le_of_ble_eq_true rfl) (by kernel_rfl) ?_
  intro wx H
  refine (WL.done (WX.next ?_))
  refine WC.seq ?_
  refine WC.region ?_
  refine WL.move rfl rfl ?_
  refine WL.assign rfl rfl ?_
  refine (WL.done (WX.next ?_))
  refine (WC.ret ?_)
  refine ret_one rfl rfl ?_
  exact ⟨rfl, H⟩

theorem point_any (A : Option Addr) (m cap : Nat) (k : Int) (hk : -9223372036854775808 ≤ k ∧ k ≤ 9223372036854775807) (hm : m < 536870912) (w : World) : Calls Tryd.prog 114 #[.slice A m cap, .int .i64 k] w fun e w' => e = .returned (.int .i64 (pos k % ((m : Int) + 1))) ∧ w' = w := by
  refine calls_walk_n (args := [.slice A m cap, .int .i64 k]) Tryd.func114 rfl rfl rfl ?_
  refine WC.seq ?_
  refine WC.region ?_
  refine WL.assign rfl rfl ?_
  refine (WL.done (WX.next ?_))
  refine WC.seq ?_
  refine WC.region ?_
  refine WL.move rfl rfl ?_
  refine WL.assign rfl rfl ?_
  refine (WL.done (WX.next ?_))
  refine WC.seq ?_
  refine WC.seq ?_
  refine WC.region ?_
  refine WL.move rfl rfl ?_
  refine WL.bin rfl rfl binv_lss rfl ?_
  refine (WL.done (WX.next ?_))
  refine WC.cond_dec rfl (fun c1 => ?_) (fun c1 => ?_)
  ·
    have hpk : pos k = -(k + 1) := by unfold pos; exact if_pos c1
    refine WC.region ?_
    refine WL.move rfl rfl ?_
    refine WL.bin rfl rfl (iadd (by omega) (by omega)) rfl ?_
    refine WL.negTo (r := -(k + 1)) rfl rfl (by omega) (by omega) ?_
    refine WL.assign rfl rfl ?_
    refine (WL.done (WX.next ?_))
    refine WC.seq ?_
    refine WC.region ?_
    refine WL.move rfl rfl ?_
    refine WL.move rfl rfl ?_
    refine WL.lenSlc isl30 rfl rfl ?_
    refine WL.bin rfl rfl (iadd (by omega) (by omega)) rfl ?_
    refine WL.bin rfl rfl (irem (by omega) (by omega)) rfl ?_
    refine WL.assign rfl rfl ?_
    refine (WL.done (WX.next ?_))
    refine (WC.ret ?_)
    refine ret_one rfl rfl ?_
    rw [hpk]; exact ⟨rfl, rfl⟩
  ·
    have hpk : pos k = k := by unfold pos; exact if_neg c1
    refine (WC.skip (WX.next ?_))
    refine WC.seq ?_
    refine WC.region ?_
    refine WL.move rfl rfl ?_
    refine WL.move rfl rfl ?_
    refine WL.lenSlc isl30 rfl rfl ?_
    refine WL.bin rfl rfl (iadd (by omega) (by omega)) rfl ?_
    refine WL.bin rfl rfl (irem (by omega) (by omega)) rfl ?_
    refine WL.assign rfl rfl ?_
    refine (WL.done (WX.next ?_))
    refine (WC.ret ?_)
    refine ret_one rfl rfl ?_
    rw [hpk]; exact ⟨rfl, rfl⟩

theorem make_any (x g : Int) (hx : 0 ≤ x ∧ x ≤ 4095) (hg : 0 ≤ g ∧ g ≤ 1048575) (w : World) : Calls Tryd.prog 119 #[.int .i64 x, .int .i64 g] w fun e w' => e = .returned (.int .i64 (if x < 1 ∨ g < 1 then 0 else x + g * 4096)) ∧ w' = w := by
  refine calls_walk_n (args := [.int .i64 x, .int .i64 g]) Tryd.func119 rfl rfl rfl ?_
  refine WC.seq ?_
  refine WC.region ?_
  refine WL.assign rfl rfl ?_
  refine (WL.done (WX.next ?_))
  refine WC.seq ?_
  refine WC.seq ?_
  refine WC.region ?_
  refine WL.move rfl rfl ?_
  refine WL.bin rfl rfl binv_lss rfl ?_
  refine WL.move rfl rfl ?_
  refine WL.splitD (t := 7) rfl (fun g1 => ?_) (fun g1 => ?_)
  ·
    refine WL.no rfl rfl rfl ?_
    refine WL.no rfl rfl rfl ?_
    refine WL.pickT rfl rfl rfl ?_
    refine WL.move rfl rfl ?_
    refine WL.no rfl rfl rfl ?_
    refine WL.no rfl rfl rfl ?_
    refine WL.pickT rfl rfl rfl ?_
    refine WL.move rfl rfl ?_
    refine WL.no rfl rfl rfl ?_
    refine WL.no rfl rfl rfl ?_
    refine WL.pickT rfl rfl rfl ?_
    refine (WL.done (WX.next ?_))
    refine WC.cond_true rfl (rfl) ?_
    refine WC.seq ?_
    refine WC.region ?_
    refine WL.assign rfl rfl ?_
    refine (WL.done (WX.next ?_))
    refine (WC.ret (WX.then_ret ?_))
    refine ret_one rfl rfl ?_
    (rw [if_pos (by omega)]; exact ⟨rfl, rfl⟩)
  ·
    refine WL.yes rfl rfl ?_
    refine WL.move rfl rfl ?_
    refine WL.yes rfl rfl ?_
    refine WL.bin rfl rfl binv_gtr rfl ?_
    refine WL.pickF rfl rfl rfl ?_
    refine WL.move rfl rfl ?_
    refine WL.splitD (t := 11) rfl (fun g2 => ?_) (fun g2 => ?_)
    ·
      refine WL.no rfl rfl rfl ?_
      refine WL.no rfl rfl rfl ?_
      refine WL.pickT rfl rfl rfl ?_
      refine WL.move rfl rfl ?_
      refine WL.no rfl rfl rfl ?_
      refine WL.no rfl rfl rfl ?_
      refine WL.pickT rfl rfl rfl ?_
      refine (WL.done (WX.next ?_))
      refine WC.cond_true rfl (rfl) ?_
      refine WC.seq ?_
      refine WC.region ?_
      refine WL.assign rfl rfl ?_
      refine (WL.done (WX.next ?_))
      refine (WC.ret (WX.then_ret ?_))
      refine ret_one rfl rfl ?_
      (rw [if_pos (by omega)]; exact ⟨rfl, rfl⟩)
    ·
      refine WL.yes rfl rfl ?_
      refine WL.move rfl rfl ?_
      refine WL.yes rfl rfl ?_
      refine WL.bin rfl rfl binv_lss rfl ?_
      refine WL.pickF rfl rfl rfl ?_
      refine WL.move rfl rfl ?_
      refine WL.splitD (t := 15) rfl (fun g3 => ?_) (fun g3 => ?_)
      ·
        refine WL.no rfl rfl rfl ?_
        refine WL.no rfl rfl rfl ?_
        refine WL.pickT rfl rfl rfl ?_
        refine (WL.done (WX.next ?_))
        refine WC.cond_true rfl (rfl) ?_
        refine WC.seq ?_
        refine WC.region ?_
        refine WL.assign rfl rfl ?_
        refine (WL.done (WX.next ?_))
        refine (WC.ret (WX.then_ret ?_))
        refine ret_one rfl rfl ?_
        (rw [if_pos (by omega)]; exact ⟨rfl, rfl⟩)
      ·
        refine WL.yes rfl rfl ?_
        refine WL.move rfl rfl ?_
        refine WL.yes rfl rfl ?_
        refine WL.bin rfl rfl binv_gtr rfl ?_
        refine WL.pickF rfl rfl rfl ?_
        refine (WL.done (WX.next ?_))
        refine WC.cond_dec rfl (fun c4 => ?_) (fun c4 => ?_)
        ·
          refine WC.seq ?_
          refine WC.region ?_
          refine WL.assign rfl rfl ?_
          refine (WL.done (WX.next ?_))
          refine (WC.ret (WX.then_ret ?_))
          refine ret_one rfl rfl ?_
          (rw [if_pos (by omega)]; exact ⟨rfl, rfl⟩)
        ·
          refine (WC.skip (WX.next ?_))
          refine WC.seq ?_
          refine WC.region ?_
          refine WL.move rfl rfl ?_
          refine WL.move rfl rfl ?_
          refine WL.bin rfl rfl (imul (by omega) (by omega)) rfl ?_
          refine WL.bin rfl rfl (iadd (by omega) (by omega)) rfl ?_
          refine WL.assign rfl rfl ?_
          refine (WL.done (WX.next ?_))
          refine (WC.ret ?_)
          refine ret_one rfl rfl ?_
          (rw [if_neg (by omega)]; exact ⟨rfl, rfl⟩)

theorem catalog_any (z : Int) (w : World) : Calls Tryd.prog 53 #[.int .i64 z] w fun e w' => e = .returned (.int .i64 (catV z)) ∧ w' = w := by
  refine calls_walk_n (args := [.int .i64 z]) Tryd.func53 rfl rfl rfl ?_
  refine WC.seq ?_
  refine WC.region ?_
  refine WL.assign rfl rfl ?_
  refine (WL.done (WX.next ?_))
  refine WC.seq ?_
  refine WC.region ?_
  refine WL.move rfl rfl ?_
  refine WL.bin rfl rfl (iandm (k := 32) (by decide) rfl) rfl ?_
  refine WL.assign rfl rfl ?_
  refine (WL.done (WX.next ?_))
  refine WC.seq ?_
  refine WC.region ?_
  refine WL.move rfl rfl ?_
  refine WL.bin rfl rfl (irem (by omega) (by omega)) rfl ?_
  refine WL.move rfl rfl ?_
  refine WL.bin rfl rfl (iquo (by omega) (by omega) (by omega)) rfl ?_
  refine WL.bin rfl rfl (irem (by omega) (by omega)) rfl ?_
  refine WL.call call119 rfl rfl ?_
  refine Calls.mono (make_any (z % 2 ^ 32 % 4096) (z % 2 ^ 32 / 4096 % 1048576) (by omega) (by omega) _) ?_
  rintro _ wx ⟨rfl, rfl⟩
  refine ⟨_, rfl, ?_⟩
  refine WL.assign rfl rfl ?_
  refine (WL.done (WX.next ?_))
  refine (WC.ret ?_)
  refine ret_one rfl rfl ?_
  exact ⟨rfl, rfl⟩

end Go.Proofs.YtkncbggnaobgeaaDoor

/- Walks of functions of the program; printed by a program of this session (walk.py) out of hand-written hints. -/
namespace Go.Proofs.YtkncbggnaobgeaaDoor
open Go.RowKit
set_option linter.unusedVariables false
set_option linter.unusedSimpArgs false
set_option maxRecDepth 100000

theorem chTo_mem {M : PM} {k : Int} {n : Nat} {c : Int × Int} (h : c ∈ (chTo M k n).1) : ∃ i : Nat, i < n ∧ c.1 = i ∧ 0 < (M.line (i : Nat)).ps.length ∧ 0 ≤ c.2 ∧ c.2 ≤ (M.line (i : Nat)).ps.length := by
  induction n with
  | zero => cases h
  | succ n ih =>
    unfold chTo at h
    split at h
    · rename_i hp
      rcases List.mem_append.1 h with h | h
      · obtain ⟨i, h1, h2⟩ := ih h
        exact ⟨i, by omega, h2⟩
      · rw [List.mem_singleton.1 h]
        have h3 := Int.emod_nonneg (chTo M k n).2 (show ((M.line (n : Nat)).ps.length : Int) + 1 ≠ 0 by omega)
        have h4 := Int.emod_lt_of_pos (chTo M k n).2 (show (0 : Int) < ((M.line (n : Nat)).ps.length : Int) + 1 by omega)
        exact ⟨n, by omega, rfl, hp, h3, by show _ % _ ≤ _; omega⟩
    · obtain ⟨i, h1, h2⟩ := ih h
      exact ⟨i, by omega, h2⟩
theorem chTo_asc (M : PM) (k : Int) : ∀ n, (chTo M k n).1.Pairwise fun a b => a.1 < b.1
  | 0 => List.Pairwise.nil
  | n + 1 => by
    have ih := chTo_asc M k n
    unfold chTo
    split
    · show List.Pairwise _ ((chTo M k n).1 ++ [_])
      rw [List.pairwise_append]
      refine ⟨ih, by simp, ?_⟩
      intro a ha b hb
      obtain ⟨i, hi, he, _⟩ := chTo_mem ha
      rw [List.mem_singleton.1 hb, he]
      show (i : Int) < (n : Int)
      omega
    · exact ih
theorem choice_ok (M : PM) (k : Int) : M.cutsOk (choice M k) = true := by
  unfold PM.cutsOk
  rw [List.all_eq_true]
  intro j hj
  have hjl := List.mem_range.1 hj
  have hm : (choice M k)[j] ∈ choice M k := List.getElem_mem hjl
  obtain ⟨i, hi, h1, h2, h3, h4⟩ := chTo_mem hm
  refine (cutOk_iff hjl).2 ⟨?_, ?_, h3, ?_⟩
  · rw [h1]; exact has_of hi
  · rcases Nat.eq_zero_or_pos j with h0 | hp
    · exact .inl h0
    · right
      rw [getD_at (show j - 1 < _ by omega)]
      exact List.pairwise_iff_getElem.1 (chTo_asc M (pos k) M.ls.length) (j - 1) j (by unfold choice at hjl; omega) hjl (by omega)
  · rw [h1]; exact h4
theorem chTo_pos {M : PM} {k : Int} {i : Nat} (h : 0 < (M.line (i : Nat)).ps.length) : (chTo M k (i + 1)).1 = (chTo M k i).1 ++ [((i : Int), (chTo M k i).2 % (((M.line (i : Nat)).ps.length : Int) + 1))] ∧ (chTo M k (i + 1)).2 = (chTo M k i).2 / (((M.line (i : Nat)).ps.length : Int) + 1) := by
  constructor
  · conv => lhs; unfold chTo
    rw [if_pos h]
  · conv => lhs; unfold chTo
    rw [if_pos h]
theorem chTo_zero {M : PM} {k : Int} {i : Nat} (h : ¬ 0 < (M.line (i : Nat)).ps.length) : chTo M k (i + 1) = chTo M k i := by
  conv => lhs; unfold chTo
  rw [if_neg h]
theorem img_ok {R : RM} {p k : Nat} {M : PM} (hI : Is R p M k) : imgOk (M.ls.map bare) = true := by
  rw [imgOk_iff, List.length_map]
  refine ⟨hI.lens, ?_⟩
  intro x hx
  obtain ⟨l, hl, rfl⟩ := List.mem_map.1 hx
  have := hI.lok l hl
  exact ⟨this.2.1, this.2.2.1⟩
theorem ofImg_fresh (n : Nat) : PM.ofImg ((PM.fresh n).ls.map bare) = PM.fresh n := by
  unfold PM.ofImg PM.fresh
  rw [List.map_map]
  simp only [List.map_replicate]
  rfl
/-- The point that a number chooses, from some event on. -/
def ptOf (n f : Nat) (at_ : Int) : Nat := f + (pos at_ % (((n - f : Nat) : Int) + 1)).toNat
theorem ptOf_le {n f : Nat} {at_ : Int} (h : f ≤ n) : f ≤ ptOf n f at_ ∧ ptOf n f at_ ≤ n := by
  unfold ptOf
  have h1 := Int.emod_nonneg (pos at_) (show ((n - f : Nat) : Int) + 1 ≠ 0 by omega)
  have h2 := Int.emod_lt_of_pos (pos at_) (show (0 : Int) < ((n - f : Nat) : Int) + 1 by omega)
  omega

theorem choice_any (A : Option Addr) (m cap : Nat) (imgs : List (List Int × Int)) (hmi : m = imgs.length) (h8 : ∀ x ∈ imgs, x.1.length = 8) (hm63 : m ≤ 1073741824) (himk : imgOk imgs = true) (A2 : Option Addr) (m2 cap2 : Nat) (l : List (List Int)) (hm2 : m2 = l.length) (hm2s : m2 < 536870912) (hgood : goodEv (PM.ofImg imgs) l) (hpl : ∀ v ∈ l, Plain4 v) (q : Nat) (hq : q ≤ m2) (hcap : m2 ≤ cap2) (M : PM) (hM : runEv (PM.ofImg imgs) (l.take q) = M) (w : World) (himg : ImgIn w A imgs) (hl : RowsIn w A2 12 l) (hL : L64 w) (k : Int) (hk : -9223372036854775808 ≤ k ∧ k ≤ 9223372036854775807) : Calls Tryd.prog 115 #[.slice A m cap, .slice A2 m2 cap2, .int .i64 (q : Int), .int .i64 k] w fun e w' => ∃ r : Row, e = .returned (.tuple #[r.val (choice M k).length, .int .i64 0]) ∧ r.ok 2 (choice M k).length (flatP (choice M k)) ∧ M.ls.length ≤ 4096 ∧ St w [] w' (r.hp 109) := by
  refine calls_walk_n (args := [.slice A m cap, .slice A2 m2 cap2, .int .i64 (q : Int), .int .i64 k]) Tryd.func115 rfl rfl rfl ?_
  have H := St.refl w
  refine WC.seq ?_
  refine WC.region ?_
  refine WL.box H rfl rfl ?_
  intro b7 wx hb7 hge7 H
  refine WL.assign rfl rfl ?_
  refine WL.assign rfl rfl ?_
  refine (WL.done (WX.next ?_))
  refine WC.seq ?_
  refine WC.region ?_
  refine WL.move rfl rfl ?_
  refine WL.move rfl rfl ?_
  refine WL.move rfl rfl ?_
  refine WL.call call174 rfl rfl ?_
  refine Calls.mono (tAt_any A m cap imgs hmi h8 hm63 himk A2 m2 cap2 l hm2 hm2s hgood hpl q hq hcap _ (himg.keep H) (hl.keep H) (hL.of0 H)) ?_
  rintro _ wx ⟨p, R, rfl, hI, Hc⟩
  refine ⟨_, rfl, ?_⟩
  replace H := H.call Hc
  replace H := H.perm List.perm_append_comm
  rw [hM] at hI
  have hlens := hI.lens
  refine WL.move rfl rfl ?_
  refine WL.extract rfl rfl rfl ?_
  refine WL.extract rfl rfl rfl ?_
  refine WL.assign rfl rfl ?_
  refine WL.assign rfl rfl ?_
  refine (WL.done (WX.next ?_))
  refine WC.seq ?_
  refine WC.seq ?_
  refine WC.region ?_
  refine WL.move rfl rfl ?_
  refine WL.bin rfl rfl binv_neq rfl ?_
  refine (WL.done (WX.next ?_))
  refine WC.cond_false rfl (rfl) ?_
  refine (WC.skip (WX.next ?_))
  refine WC.seqJ (Sub.cons (t := 7) rfl (Sub.cons (t := 10) rfl (Sub.nil _))) (fun _ : Unit => []) (fun _ wx => St w [] wx ([(b7, .cells #[.int .i64 (pos k)] 3)] ++ R.hp)) (fun N hN => ?_) (fun _ wx H => ?_)
  · -- first
    refine WC.seq ?_
    refine WC.region ?_
    refine WL.load rfl (H.rd1 ty3 0 rfl rfl) rfl ?_
    refine WL.bin rfl rfl binv_lss rfl ?_
    refine (WL.done (WX.next ?_))
    refine WC.cond_dec rfl (fun c2 => ?_) (fun c2 => ?_)
    ·
      refine WC.region ?_
      refine WL.load rfl (H.rd1 ty3 0 rfl rfl) rfl ?_
      refine WL.bin rfl rfl (iadd (by omega) (by omega)) rfl ?_
      refine WL.negTo (r := -(k + 1)) rfl rfl (by omega) (by omega) ?_
      refine WL.storeTo (cs' := #[.int .i64 (-(k + 1))]) H ty3 0 rfl rfl rfl (by rfl) (by simp [Value.cells, Value.oneCell']) (by exact Nat.le_of_ble_eq_true rfl) (by kernel_rfl) ?_
      intro wx H
      refine (WL.done (WX.round ?_))
      exact hN () _ _ (by have e : pos k = -(k + 1) := if_pos c2; rw [e]; exact H) (Sub.nil _) (Sub.cons (t := 7) rfl (Sub.cons (t := 10) rfl (Sub.nil _)))
    ·
      refine (WC.skip (WX.round ?_))
      exact hN () _ _ (by have e : pos k = k := if_neg c2; rw [e]; exact H) (Sub.nil _) (Sub.cons (t := 7) rfl (Sub.cons (t := 10) rfl (Sub.nil _)))
  · -- join
    refine WC.seq ?_
    refine WC.region ?_
    refine WL.makeFunc (us := []) (vs := [ptr b7]) rfl rfl rfl ?_
    refine WL.assign rfl rfl ?_
    refine (WL.done (WX.next ?_))
    refine WC.seq ?_
    refine WC.region ?_
    refine WL.assign rfl rfl ?_
    refine (WL.done (WX.next ?_))
    refine WC.seq ?_
    refine WC.seq ?_
    refine WC.region ?_
    refine WL.move rfl rfl ?_
    refine WL.call call26 rfl rfl ?_
    refine Calls.mono (a_lines (L := [(b7, .cells #[.int .i64 (pos k)] 3)]) hI H hL) ?_
    rintro _ wx ⟨rfl, rfl⟩
    refine ⟨_, rfl, ?_⟩
    refine WL.move rfl rfl ?_
    refine (WL.done (WX.next ?_))
    refine WC.block ?_
    -- loop 1: changed [13, 34] kept [10, 12, 33]
    replace H : St w [] wx (((b7, .cells #[.int .i64 ((chTo M (pos k) 0).2)] 3) :: Row.none.hp 109) ++ R.hp) := H
    refine WC.loop (Sub.cons (t := 10) rfl (Sub.cons (t := 12) rfl (Sub.cons (t := 33) rfl (Sub.nil _)))) (fun z : Row × Nat => [(13, z.1.val (chTo M (pos k) z.2).1.length), (34, .int .i64 (z.2 : Int))]) (fun q z wx => q = M.ls.length - z.2 ∧ z.2 ≤ M.ls.length ∧ z.1.ok 2 (chTo M (pos k) z.2).1.length (flatP (chTo M (pos k) z.2).1) ∧ (chTo M (pos k) z.2).1.length ≤ z.2 ∧ St w [] wx (((b7, .cells #[.int .i64 ((chTo M (pos k) z.2).2)] 3) :: z.1.hp 109) ++ R.hp)) (M.ls.length) ((Row.none, 0)) (Sub.cons (t := 13) (by rfl) (Sub.cons (t := 34) (by rfl) (Sub.nil _))) (⟨rfl, Nat.zero_le _, ⟨rfl, rfl⟩, Nat.le_refl _, H⟩) ?_
    rintro q9 z wx hJ N hN
    clear H
    obtain ⟨r, i⟩ := z
    obtain ⟨rfl, hi, hr, hcl0, H⟩ := hJ
    change i ≤ M.ls.length at hi
    change r.ok 2 (chTo M (pos k) i).1.length (flatP (chTo M (pos k) i).1) at hr
    change (chTo M (pos k) i).1.length ≤ i at hcl0
    change St w [] wx (((b7, .cells #[.int .i64 ((chTo M (pos k) i).2)] 3) :: r.hp 109) ++ R.hp) at H
    refine WC.seq ?_
    refine WC.region ?_
    refine WL.bin rfl rfl binv_lss rfl ?_
    refine (WL.done (WX.next ?_))
    refine WC.seq ?_
    refine WC.cond_dec rfl (fun c3 => ?_) (fun c3 => ?_)
    ·
      change (i : Int) < (M.ls.length : Int) at c3
      have hil : i < M.ls.length := by omega
      refine (WC.skip (WX.next ?_))
      refine WC.seq ?_
      refine WC.block ?_
      refine WC.seq ?_
      refine WC.region ?_
      refine WL.move rfl rfl ?_
      refine WL.assign rfl rfl ?_
      refine (WL.done (WX.next ?_))
      refine WC.seq ?_
      refine WC.region ?_
      refine WL.move rfl rfl ?_
      refine WL.move rfl rfl ?_
      refine WL.call call39 rfl rfl ?_
      refine Calls.mono (a_pending (L := (b7, .cells #[.int .i64 ((chTo M (pos k) i).2)] 3) :: r.hp 109) (i : Int) (by omega) hI H hL) ?_
      rintro _ wx ⟨r2, rfl, hr2, H⟩
      refine ⟨_, rfl, ?_⟩
      replace H := H.dropR
      have hpe : M.pend (i : Int) = (M.line (i : Nat)).ps := by unfold PM.pend; rw [has_of hil]; rfl
      have hpl2 : (M.pend (i : Int)).length ≤ 536870912 := by rw [hpe]; exact Nat.le_trans (hI.sm.ps _ (line_mem (has_of hil))) (by omega)
      refine WL.lenR isl52 rfl rfl ?_
      refine WL.assign rfl rfl ?_
      refine (WL.done (WX.next ?_))
      refine WC.seq ?_
      refine WC.region ?_
      refine WL.move rfl rfl ?_
      refine WL.bin rfl rfl binv_gtr rfl ?_
      refine (WL.done (WX.next ?_))
      refine WC.cond_dec rfl (fun c4 => ?_) (fun c4 => ?_)
      ·
        refine WC.region ?_
        refine WL.move rfl rfl ?_
        refine WL.move rfl rfl ?_
        refine WL.move rfl rfl ?_
        refine WL.move rfl rfl ?_
        refine WL.bin rfl rfl (iadd (by omega) (by omega)) rfl ?_
        refine WL.callVal call175 rfl rfl rfl ?_
        refine Calls.mono (digit_any (chTo M (pos k) i).2 (((M.pend (i : Int)).length : Int) + 1) b7 3 (chTo_nonneg M ⟨pos_nonneg k, by unfold pos; split <;> omega⟩ i) (by omega) _ (H.blk 0 rfl)) ?_
        rintro _ wx ⟨rfl, Hc⟩
        refine ⟨_, rfl, ?_⟩
        replace H := H.back (N := []) 0 rfl Hc rfl
        refine WL.build (cells := arrC [(i : Int), (chTo M (pos k) i).2 % (((M.pend (i : Int)).length : Int) + 1)]) pla109 zer109 rfl rfl (by kernel_rfl) ?_
        refine WL.buildSlice1 H Tryd.underlying50 (sz := 2) (by simp only [Tryd.underlying109]; exact ty109) (by omega) zer109 rfl rfl rfl rfl ?_
        intro g2 wx hg2 hgg2 H
        replace H := H.perm (perm2 (g2, _) (b7, .cells #[.int .i64 ((chTo M (pos k) i).2 / (((M.pend (i : Int)).length : Int) + 1))] 3) (r.hp 109) R.hp)
        refine WL.append (m := 1) (news := [.int .i64 (i : Int), .int .i64 ((chTo M (pos k) i).2 % (((M.pend (i : Int)).length : Int) + 1))]) app50' H hr rfl rfl rfl (fun j u hj => by rw [addr_add, cell_of (H.sat _ (List.mem_append_right _ List.mem_cons_self)), Nat.zero_add]; simpa [Value.cells, arrC] using hj) (by simp [Value.oneCell']) (by simp only [maxLen]; omega) (by omega) rfl ?_
        intro r1 wx hr1 H
        have hpp : 0 < (M.line (i : Nat)).ps.length := by rw [← hpe]; omega
        obtain ⟨hc1, hc2⟩ := chTo_pos (k := pos k) hpp
        rw [← hpe] at hc1 hc2
        have hcl : (chTo M (pos k) (i + 1)).1.length = (chTo M (pos k) i).1.length + 1 := by rw [hc1]; simp
        replace hr1 : r1.ok 2 (chTo M (pos k) (i + 1)).1.length (flatP (chTo M (pos k) (i + 1)).1) := by rw [hcl, hc1, flatP_append]; exact hr1
        replace H : St w [] wx (((b7, .cells #[.int .i64 ((chTo M (pos k) (i + 1)).2)] 3) :: r1.hp 109) ++ R.hp) := by
          rw [hc2]
          exact (H.weaken (List.Sublist.append_left (List.sublist_cons_self _ _) _)).perm List.perm_middle
        refine WL.assign rfl rfl ?_
        refine (WL.done (WX.block_normal (WX.next ?_)))
        refine WC.region ?_
        refine WL.bin rfl rfl (iadd (by omega) (by omega)) rfl ?_
        refine WL.move rfl rfl ?_
        refine (WL.done (WX.round ?_))
        exact hN _ (r1, i + 1) _ _ (by show M.ls.length - (i + 1) < M.ls.length - i; omega) ⟨rfl, by show i + 1 ≤ M.ls.length; omega, hr1, by show (chTo M (pos k) (i + 1)).1.length ≤ i + 1; omega, H⟩ (Sub.cons (t := 13) (congrArg some (Row.val_len hcl.symm)) (Sub.cons (t := 34) rfl (Sub.nil _))) (Sub.cons (t := 10) rfl (Sub.cons (t := 12) rfl (Sub.cons (t := 33) rfl (Sub.nil _))))
      ·
        refine (WC.skip (WX.block_normal (WX.next ?_)))
        refine WC.region ?_
        refine WL.bin rfl rfl (iadd (by omega) (by omega)) rfl ?_
        refine WL.move rfl rfl ?_
        refine (WL.done (WX.round ?_))
        have hcz : chTo M (pos k) (i + 1) = chTo M (pos k) i := chTo_zero (by rw [← hpe]; omega)
        exact hN _ (r, i + 1) _ _ (by show M.ls.length - (i + 1) < M.ls.length - i; omega) ⟨rfl, by show i + 1 ≤ M.ls.length; omega, by show r.ok 2 (chTo M (pos k) (i + 1)).1.length (flatP (chTo M (pos k) (i + 1)).1); rw [hcz]; exact hr, by show (chTo M (pos k) (i + 1)).1.length ≤ i + 1; rw [hcz]; omega, by show St w [] _ (((b7, .cells #[.int .i64 ((chTo M (pos k) (i + 1)).2)] 3) :: r.hp 109) ++ R.hp); rw [hcz]; exact H⟩ (Sub.cons (t := 13) (by show _ = some (r.val (chTo M (pos k) (i + 1)).1.length); rw [hcz]; rfl) (Sub.cons (t := 34) rfl (Sub.nil _))) (Sub.cons (t := 10) rfl (Sub.cons (t := 12) rfl (Sub.cons (t := 33) rfl (Sub.nil _))))
    ·
      change ¬ (i : Int) < (M.ls.length : Int) at c3
      obtain rfl : i = M.ls.length := by omega
      refine (WC.exit (WX.then_exit (WX.then_exit (WX.block_exit (WX.next ?_)))))
      refine WC.seq ?_
      refine WC.region ?_
      refine WL.move rfl rfl ?_
      refine WL.assign rfl rfl ?_
      refine WL.assign rfl rfl ?_
      refine (WL.done (WX.next ?_))
      refine (WC.ret ?_)
      refine ret_two rfl rfl rfl ?_
      exact ⟨r, rfl, hr, hlens.2, H.weaken (List.Sublist.cons _ (List.sublist_append_left _ _))⟩

theorem tImage_any (A : Option Addr) (m cap : Nat) (imgs : List (List Int × Int)) (hmi : m = imgs.length) (h8 : ∀ x ∈ imgs, x.1.length = 8) (hm63 : m ≤ 1073741824) (himk : imgOk imgs = true) (A2 : Option Addr) (m2 cap2 : Nat) (l : List (List Int)) (hm2 : m2 = l.length) (hm2s : m2 < 536870912) (hgood : goodEv (PM.ofImg imgs) l) (hpl : ∀ v ∈ l, Plain4 v) (q : Nat) (hq : q ≤ m2) (hcap : m2 ≤ cap2) (M : PM) (hM : runEv (PM.ofImg imgs) (l.take q) = M) (w : World) (himg : ImgIn w A imgs) (hl : RowsIn w A2 12 l) (hL : L64 w) (Ac : Option Addr) (mc capc : Nat) (cuts : List (Int × Int)) (bad : List Nat) (hmc : mc = cuts.length) (hmcs : mc ≤ 1073741824) (hck : M.cutsOk cuts = true) (hcut : CutsIn w Ac cuts bad) : Calls Tryd.prog 116 #[.slice A m cap, .slice A2 m2 cap2, .int .i64 (q : Int), .slice Ac mc capc] w fun e w' => ∃ g, e = .returned (.tuple #[.slice (some ⟨g, 0, none⟩) M.ls.length M.ls.length, .int .i64 0]) ∧ imgOk ((M.crash cuts).ls.map bare) = true ∧ (∀ x ∈ (M.crash cuts).ls.map bare, x.1.length = 8) ∧ St w [] w' [(g, .cells (arrC (imgC (M.crash cuts).ls)) 40)] := by
  refine calls_walk_n (args := [.slice A m cap, .slice A2 m2 cap2, .int .i64 (q : Int), .slice Ac mc capc]) Tryd.func116 rfl rfl rfl ?_
  have H := St.refl w
  refine WC.seq ?_
  refine WC.region ?_
  refine WL.assign rfl rfl ?_
  refine WL.assign rfl rfl ?_
  refine (WL.done (WX.next ?_))
  refine WC.seq ?_
  refine WC.region ?_
  refine WL.move rfl rfl ?_
  refine WL.move rfl rfl ?_
  refine WL.move rfl rfl ?_
  refine WL.call call174 rfl rfl ?_
  refine Calls.mono (tAt_any A m cap imgs hmi h8 hm63 himk A2 m2 cap2 l hm2 hm2s hgood hpl q hq hcap _ (himg.keep H) (hl.keep H) (hL.of0 H)) ?_
  rintro _ wx ⟨p, R, rfl, hI, Hc⟩
  refine ⟨_, rfl, ?_⟩
  replace H := H.call Hc
  replace H := H.perm List.perm_append_comm
  rw [hM] at hI
  have hlens := hI.lens
  refine WL.move rfl rfl ?_
  refine WL.extract rfl rfl rfl ?_
  refine WL.extract rfl rfl rfl ?_
  refine WL.assign rfl rfl ?_
  refine WL.assign rfl rfl ?_
  refine (WL.done (WX.next ?_))
  refine WC.seq ?_
  refine WC.seq ?_
  refine WC.region ?_
  refine WL.move rfl rfl ?_
  refine WL.bin rfl rfl binv_neq rfl ?_
  refine (WL.done (WX.next ?_))
  refine WC.cond_false rfl (rfl) ?_
  refine (WC.skip (WX.next ?_))
  refine WC.seq ?_
  refine WC.seq ?_
  refine WC.region ?_
  refine WL.move rfl rfl ?_
  refine WL.move rfl rfl ?_
  refine WL.call call37 rfl rfl ?_
  refine Calls.mono (a_crash Ac mc capc cuts hmc (by omega) (by omega) hI H hL (hcut.keep H)) ?_
  rintro _ wx ⟨R1, rfl, hI, H⟩
  refine ⟨_, rfl, ?_⟩
  rw [hck, if_pos rfl]
  refine WL.assign rfl rfl ?_
  refine (WL.done (WX.next ?_))
  refine WC.seq ?_
  refine WC.region ?_
  refine WL.move rfl rfl ?_
  refine WL.bin rfl rfl binv_neq rfl ?_
  refine (WL.done (WX.next ?_))
  refine WC.cond_false rfl (rfl) ?_
  refine (WC.skip (WX.next ?_))
  refine WC.seq ?_
  refine WC.region ?_
  refine WL.move rfl rfl ?_
  refine WL.call call29 rfl rfl ?_
  refine Calls.mono (a_image hI H hL) ?_
  rintro _ wx ⟨g, rfl, H⟩
  refine ⟨_, rfl, ?_⟩
  rw [crash_len]
  refine WL.assign rfl rfl ?_
  refine WL.assign rfl rfl ?_
  refine (WL.done (WX.next ?_))
  refine (WC.ret ?_)
  refine ret_two rfl rfl rfl ?_
  exact ⟨g, rfl, img_ok hI, hI.bare8, H.weaken (List.Sublist.cons_cons _ (List.nil_sublist _))⟩

end Go.Proofs.YtkncbggnaobgeaaDoor

/- Walks of functions of the program; printed by a program of this session (walk.py) out of hand-written hints. -/
namespace Go.Proofs.YtkncbggnaobgeaaDoor
open Go.RowKit
set_option linter.unusedVariables false
set_option linter.unusedSimpArgs false
set_option maxRecDepth 100000

theorem app71 : AppT Tryd.prog 71 77 4 32 := appT_of (by kernel_rfl)
theorem app43 : AppT Tryd.prog 43 3 1 8 := appT_of (by kernel_rfl)
def U16In (w : World) (A : Option Addr) (xs : List Int) : Prop := xs = [] ∨ ∃ b o cs t fr, A = some ⟨b, o, none⟩ ∧ w.heap[b]? = some (.cells cs t fr) ∧ ∀ (j : Nat) (u : Int), xs[j]? = some u → cs[o + j]? = some (.int .u16 u)
/-- The input of a statement that makes writes. -/
structure WV where
  lines : Int
  A1 : Option Addr
  cap1 : Nat
  cats : List Int
  A2 : Option Addr
  cap2 : Nat
  stamps : List Int
  at_ : Int
  cut : Int
  b0 : Int
  b1 : Int
  line : Bool
def WV.cells (x : WV) : Array Value := #[.int .u8 x.lines, .slice x.A1 x.cats.length x.cap1, .slice x.A2 x.stamps.length x.cap2, .int .i64 x.at_, .int .i64 x.cut, .int .u16 x.b0, .int .u16 x.b1, .bool x.line]
structure WV.ok (x : WV) (w : World) : Prop where
  lines : 0 ≤ x.lines ∧ x.lines ≤ 255
  cats : IntsIn w x.A1 x.cats
  catl : x.cats.length ≤ 9223372036854775807
  stamps : U16In w x.A2 x.stamps
  stl : x.stamps.length ≤ 9223372036854775807
  str : ∀ s ∈ x.stamps, 0 ≤ s ∧ s ≤ 65535
  at_ : -9223372036854775808 ≤ x.at_ ∧ x.at_ ≤ 9223372036854775807
  cut : -9223372036854775808 ≤ x.cut ∧ x.cut ≤ 9223372036854775807
  b0 : 0 ≤ x.b0 ∧ x.b0 ≤ 65535
  b1 : 0 ≤ x.b1 ∧ x.b1 ≤ 65535
def WV.n (x : WV) : Nat := (64 + x.lines % 40).toNat
abbrev WV.root (x : WV) (i : Nat) : List Int := rootAt x.n x.cats x.stamps i
abbrev WV.evs (x : WV) (i : Nat) : List (List Int) := evsTo x.n x.cats x.stamps i
def WV.mem (x : WV) (i : Nat) : PM := RS x.n (rootW (x.root i)) (rootW (x.root i)) (x.evs i)
def WV.roots (x : WV) (i : Nat) : List (List Int) := (List.range i).map x.root
def endsTo (i : Nat) : List Int := (List.range i).map fun j => (22 * (j + 1 : Nat) : Int)
theorem WV.n_eq {x : WV} {w : World} (h : x.ok w) : ((x.n : Nat) : Int) = 64 + x.lines % 40 ∧ 64 ≤ x.n ∧ x.n ≤ 4096 := by
  have := h.lines
  unfold WV.n
  omega
theorem WV.rootN {x : WV} {w : World} (h : x.ok w) {i : Nat} (hi : i ≤ 1000) : RootN x.n (x.root i) := rootAt_N (WV.n_eq h).2 (fun s hs => by have := h.str s hs; omega) i hi
theorem roots_succ (x : WV) (i : Nat) : (x.roots (i + 1)).flatten = (x.roots i).flatten ++ x.root i := by
  unfold WV.roots
  rw [List.range_succ, List.map_append, List.flatten_append]
  simp
theorem ends_succ (i : Nat) : endsTo (i + 1) = endsTo i ++ [(22 * (i + 1 : Nat) : Int)] := by
  unfold endsTo
  rw [List.range_succ, List.map_append]
  rfl
theorem intsC_append (a b : List Int) : intsC (a ++ b) = intsC a ++ intsC b := by simp [intsC]
theorem root_succ (x : WV) (i : Nat) : x.root (i + 1) = [2 + (i : Int), catV (x.cats.getD i 0), if i < x.stamps.length then x.stamps.getD i 0 else (i : Int), (x.n : Int)] := rfl
theorem WV.step {x : WV} {w : World} (h : x.ok w) {i : Nat} (hi : i ≤ 100) {st : Int} (hst : st = if i < x.stamps.length then x.stamps.getD i 0 else (i : Int)) :
    pWriteE (x.mem i) (catV (x.cats.getD i 0)) st = 0 ∧ pWrite (x.mem i) (catV (x.cats.getD i 0)) st = x.mem (i + 1) := by
  have hn := (WV.n_eq h).2
  have h1 := WV.rootN h (show i ≤ 1000 by omega)
  have h2 := WV.rootN h (show i + 1 ≤ 1000 by omega)
  have e0 : (x.root i).getD 0 0 + 1 = 2 + (i : Int) := by rw [seq_at]; omega
  have e1 : x.root (i + 1) = [(x.root i).getD 0 0 + 1, catV (x.cats.getD i 0), st, (x.n : Int)] := by rw [root_succ, e0, hst]
  rw [e1] at h2
  have h3 := write_rs (E := x.evs i) hn h1 h2
  refine ⟨h3.1, h3.2.trans ?_⟩
  unfold WV.mem
  rw [e1, List.append_assoc]
  show _ = RS x.n _ _ (evsTo x.n x.cats x.stamps i ++ (blk 0 1 (rootW (x.root (i + 1))) ++ blk 0 0 (rootW (x.root (i + 1)))))
  rw [e1]
theorem WV.first {x : WV} {w : World} (h : x.ok w) : pFormat (PM.fresh x.n) = x.mem 0 := format_fresh (WV.n_eq h).2

theorem wrote_any {w : World} (x : WV) (hx : x.ok w) (hc6 : x.cats.length ≤ 6) (hG : GG w) : Calls Tryd.prog 47 #[.agg x.cells] w fun e w' => ∃ p R rr re, e = .returned (.tuple #[ptr p, Row.val rr (x.cats.length + 1), Row.val re (x.cats.length + 1)]) ∧ Is R p (x.mem x.cats.length) 400 ∧ Row.ok rr 4 (x.cats.length + 1) (intsC (x.roots (x.cats.length + 1)).flatten) ∧ Row.ok re 1 (x.cats.length + 1) (intsC (endsTo (x.cats.length + 1))) ∧ St w [] w' ((Row.hp rr 77 ++ Row.hp re 3) ++ R.hp) := by
  refine calls_walk_n (args := [.agg x.cells]) Tryd.func47 rfl rfl rfl ?_
  have hL := hG.l
  have H := St.refl w
  have hnn := WV.n_eq hx
  have hxl := hx.lines
  refine WC.seq ?_
  refine WC.region ?_
  refine WL.box (v := .agg x.cells) H rfl rfl ?_
  intro b1 wx hb1 hge1 H
  replace H : St w [] wx [(b1, .cells x.cells 70)] := H
  refine WL.assign rfl rfl ?_
  refine WL.assign rfl rfl ?_
  refine WL.assign rfl rfl ?_
  refine (WL.done (WX.next ?_))
  refine WC.seq ?_
  refine WC.region ?_
  refine WL.fieldAddr fld70_0 rfl rfl ?_
  refine WL.load rfl (H.rd1 ty5 0 rfl rfl) rfl ?_
  refine WL.convert int5 int3 rfl (wrap_i64 (by omega) (by omega)) rfl ?_
  refine WL.bin rfl rfl (irem (by omega) (by omega)) rfl ?_
  refine WL.bin rfl rfl (iadd (by omega) (by omega)) rfl ?_
  refine WL.assign rfl rfl ?_
  refine (WL.done (WX.next ?_))
  refine WC.seq ?_
  refine WC.region ?_
  refine WL.move rfl rfl ?_
  refine WL.call call23 rfl rfl ?_
  refine Calls.mono (a_new_ok (64 + x.lines % 40) (by omega) H hL) ?_
  rintro _ wx ⟨p, R0, rfl, hI, H⟩
  refine ⟨_, rfl, ?_⟩
  replace hI : Is R0 p (PM.fresh x.n) 0 := hI
  refine WL.assign rfl rfl ?_
  refine (WL.done (WX.next ?_))
  refine WC.seq ?_
  refine WC.seq ?_
  refine WC.region ?_
  refine WL.move rfl rfl ?_
  refine WL.bin rfl rfl (binv_ptr_eql (by kernel_rfl) _) rfl ?_
  refine WL.move rfl rfl ?_
  refine WL.known (t := 21) rfl (b := false) (rfl) ?_
  refine WL.yes rfl rfl ?_
  refine WL.fieldAddr fld70_1 rfl rfl ?_
  refine WL.yes rfl rfl ?_
  refine WL.load rfl (H.rd1 ty43 0 rfl rfl) rfl ?_
  refine WL.yes rfl rfl ?_
  refine WL.lenSlc isl43 rfl rfl ?_
  refine WL.yes rfl rfl ?_
  refine WL.bin rfl rfl binv_gtr rfl ?_
  refine WL.pickF rfl rfl rfl ?_
  refine WL.move rfl rfl ?_
  refine WL.known (t := 27) rfl (b := false) (decide_eq_false (by omega)) ?_
  refine WL.yes rfl rfl ?_
  refine WL.move rfl rfl ?_
  refine WL.yes rfl rfl ?_
  refine WL.call call113 rfl rfl ?_
  refine Calls.mono (rformat_any (L := [(b1, .cells x.cells 70)]) (by omega) hI H hG) ?_
  rintro _ wx ⟨R0, rfl, hI, H⟩
  refine ⟨_, rfl, ?_⟩
  rw [WV.first hx] at hI
  have hfl : planE ((PM.fresh x.n).ls.length : Int) = 0 := planE_iff.2 (by rw [show (PM.fresh x.n).ls.length = x.n by simp [PM.fresh]]; exact planOk_of hnn.2)
  rw [hfl]
  refine WL.yes rfl rfl ?_
  refine WL.bin rfl rfl binv_neq rfl ?_
  refine WL.pickF rfl rfl rfl ?_
  refine (WL.done (WX.next ?_))
  refine WC.cond_false rfl (rfl) ?_
  refine (WC.skip (WX.next ?_))
  refine WC.seq ?_
  refine WC.region ?_
  refine WL.move rfl rfl ?_
  refine WL.build (cells := arrC [1, 0, 0, 64 + x.lines % 40]) pla77 zer77 rfl rfl (by kernel_rfl) ?_
  refine WL.buildSlice1 H Tryd.underlying71 (sz := 4) (by simp only [Tryd.underlying77]; exact ty77) (by omega) zer77 rfl rfl rfl rfl ?_
  intro g7 wx hg7 hgg7 H
  refine WL.assign rfl rfl ?_
  refine (WL.done (WX.next ?_))
  refine WC.seq ?_
  refine WC.region ?_
  refine WL.move rfl rfl ?_
  refine WL.call call27 rfl rfl ?_
  refine Calls.mono (a_events (L := (g7, .cells (arrC [1, 0, 0, 64 + x.lines % 40]) 77) :: [(b1, .cells x.cells 70)]) (by omega) hI H hL) ?_
  rintro _ wx ⟨r1, rfl, hr1, H⟩
  refine ⟨_, rfl, ?_⟩
  replace H := H.dropR
  refine WL.lenR isl30 rfl rfl ?_
  refine WL.buildSlice1 H Tryd.underlying43 (sz := 1) (by simp only [Tryd.underlying3]; exact ty3) (by omega) zer3 rfl rfl rfl rfl ?_
  intro g8 wx hg8 hgg8 H
  refine WL.assign rfl rfl ?_
  refine (WL.done (WX.next ?_))
  refine WC.seq ?_
  refine WC.seq ?_
  refine WC.region ?_
  refine WL.assign rfl rfl ?_
  refine (WL.done (WX.next ?_))
  refine WC.block ?_
  -- loop 1: changed [7, 8, 9] kept [1, 5, 6]
  obtain ⟨rr0, hrr0, hrrv, hre0, hH0⟩ : ∃ rr0 : Row × Row, (Row.val rr0.1 1 = .slice (some ⟨g7, 0, none⟩) 1 1 ∧ Row.val rr0.2 1 = .slice (some ⟨g8, 0, none⟩) 1 1) ∧ rr0.1.ok 4 1 (intsC (x.roots 1).flatten) ∧ rr0.2.ok 1 1 (intsC (endsTo 1)) ∧ St w [] wx (((b1, .cells x.cells 70) :: (rr0.1.hp 77 ++ rr0.2.hp 3)) ++ R0.hp) := by
    refine ⟨(Row.some g7 1 (arrC [1, 0, 0, 64 + x.lines % 40]), Row.some g8 1 #[.int .i64 22]), ⟨rfl, rfl⟩, ?_, ?_, ?_⟩
    · have e : (x.roots 1).flatten = [1, 0, 0, (x.n : Int)] := rfl
      rw [e, hnn.1]
      exact ⟨rfl, Nat.le_refl _, by simp [maxLen], rfl, rfl, fun h => by cases h⟩
    · exact ⟨rfl, Nat.le_refl _, by simp [maxLen], rfl, rfl, fun h => by cases h⟩
    · have e2 : (x.mem 0).evs.length = 22 := evsTo_len 0
      rw [e2] at H
      have H3 : St w [] wx ((g8, .cells #[.int .i64 22] 3) :: ((g7, .cells (arrC [1, 0, 0, 64 + x.lines % 40]) 77) :: ((b1, .cells x.cells 70) :: R0.hp))) := H
      have H4 : St w [] wx ((b1, .cells x.cells 70) :: ((g7, .cells (arrC [1, 0, 0, 64 + x.lines % 40]) 77) :: ((g8, .cells #[.int .i64 22] 3) :: R0.hp))) := H3.perm (by classical exact List.perm_iff_count.2 (fun q => by simp only [List.count_append, List.count_cons, List.count_nil, Nat.add_zero, Nat.zero_add]; ac_rfl))
      exact H4
  refine WC.loop (Sub.cons (t := 1) rfl (Sub.cons (t := 5) rfl (Sub.cons (t := 6) rfl (Sub.nil _)))) (fun z : RM × Row × Row × Nat => [(7, z.2.1.val (z.2.2.2 + 1)), (8, z.2.2.1.val (z.2.2.2 + 1)), (9, .int .i64 (z.2.2.2 : Int))]) (fun q z wx => q = x.cats.length - z.2.2.2 ∧ z.2.2.2 ≤ x.cats.length ∧ Is z.1 p (x.mem z.2.2.2) (50 + 50 * z.2.2.2) ∧ z.2.1.ok 4 (z.2.2.2 + 1) (intsC (x.roots (z.2.2.2 + 1)).flatten) ∧ z.2.2.1.ok 1 (z.2.2.2 + 1) (intsC (endsTo (z.2.2.2 + 1))) ∧ St w [] wx (((b1, .cells x.cells 70) :: (z.2.1.hp 77 ++ z.2.2.1.hp 3)) ++ z.1.hp)) (x.cats.length) ((R0, rr0.1, rr0.2, 0)) (Sub.cons (t := 7) (by rw [hrr0.1]; rfl) (Sub.cons (t := 8) (by rw [hrr0.2]; rfl) (Sub.cons (t := 9) rfl (Sub.nil _)))) (⟨rfl, Nat.zero_le _, hI.mono (by omega), hrrv, hre0, hH0⟩) ?_
  rintro q z wx hJ N hN
  clear hI H hrr0 hrrv hre0 hH0
  obtain ⟨R, rr, re, i⟩ := z
  obtain ⟨rfl, hi, hI, hrr, hre, H⟩ := hJ
  change i ≤ x.cats.length at hi
  change Is R p (x.mem i) (50 + 50 * i) at hI
  change rr.ok 4 (i + 1) (intsC (x.roots (i + 1)).flatten) at hrr
  change re.ok 1 (i + 1) (intsC (endsTo (i + 1))) at hre
  change St w [] wx (((b1, .cells x.cells 70) :: (rr.hp 77 ++ re.hp 3)) ++ R.hp) at H
  refine WC.seq ?_
  refine WC.seq ?_
  refine WC.region ?_
  refine WL.move rfl rfl ?_
  refine WL.fieldAddr fld70_1 rfl rfl ?_
  refine WL.load rfl (H.rd1 ty43 0 rfl rfl) rfl ?_
  refine WL.lenSlc isl43 rfl rfl ?_
  refine WL.bin rfl rfl binv_lss rfl ?_
  refine (WL.done (WX.next ?_))
  refine WC.cond_dec rfl (fun c2 => ?_) (fun c2 => ?_)
  ·
    change (i : Int) < (x.cats.length : Int) at c2
    have hgx : x.cats[i]? = some (x.cats.getD i 0) := by rw [List.getD, List.getElem?_eq_getElem (by omega)]; rfl
    obtain ⟨bc, oc, hA1⟩ : ∃ b o, x.A1 = some ⟨b, o, none⟩ := by
      rcases hx.cats with h | ⟨b, o, cs, t, fr, h1, h2, h3⟩
      · rw [h] at hgx; cases hgx
      · exact ⟨b, o, h1⟩
    refine (WC.skip (WX.next ?_))
    refine WC.seq ?_
    refine WC.block ?_
    refine WC.seq ?_
    refine WC.region ?_
    refine WL.move rfl rfl ?_
    refine WL.assign rfl rfl ?_
    refine (WL.done (WX.next ?_))
    refine WC.seqJ (Sub.cons (t := 1) rfl (Sub.cons (t := 5) rfl (Sub.cons (t := 6) rfl (Sub.cons (t := 7) rfl (Sub.cons (t := 8) rfl (Sub.cons (t := 9) rfl (Sub.nil _))))))) (fun st : Int => [(10, .int .i64 st)]) (fun st wx => st = (if i < x.stamps.length then x.stamps.getD i 0 else (i : Int)) ∧ St w [] wx (((b1, .cells x.cells 70) :: (rr.hp 77 ++ re.hp 3)) ++ R.hp)) (fun N hN => ?_) (fun st wx hJ2 => ?_)
    · -- first
      refine WC.seq ?_
      refine WC.region ?_
      refine WL.move rfl rfl ?_
      refine WL.fieldAddr fld70_2 rfl rfl ?_
      refine WL.load rfl (H.rd1 ty66 0 rfl rfl) rfl ?_
      refine WL.lenSlc isl66 rfl rfl ?_
      refine WL.bin rfl rfl binv_lss rfl ?_
      refine (WL.done (WX.next ?_))
      refine WC.cond_dec rfl (fun c3 => ?_) (fun c3 => ?_)
      ·
        change (i : Int) < (x.stamps.length : Int) at c3
        have hgs : x.stamps[i]? = some (x.stamps.getD i 0) := by rw [List.getD, List.getElem?_eq_getElem (by omega)]; rfl
        obtain ⟨bs, os, css, ts, frs, hA2, hbs, hcs⟩ : ∃ b o cs t fr, x.A2 = some ⟨b, o, none⟩ ∧ w.heap[b]? = some (.cells cs t fr) ∧ ∀ (j : Nat) (u : Int), x.stamps[j]? = some u → cs[o + j]? = some (.int .u16 u) := by
          rcases hx.stamps with h | h
          · rw [h] at hgs; cases hgs
          · exact h
        have hsr := hx.str _ (List.mem_of_getElem? hgs)
        refine WC.region ?_
        refine WL.fieldAddr fld70_2 rfl rfl ?_
        refine WL.load rfl (H.rd1 ty66 0 rfl rfl) rfl ?_
        refine WL.move rfl rfl ?_
        refine WL.idxSlc (k := i) (b := bs) (o := os) slc66 (by rw [← hA2]; rfl) rfl rfl (by omega) rfl ?_
        refine WL.load rfl (Rd.one ty67 (by rw [cell_of (H.oldBlock hbs (by simp)), Nat.mul_one]; exact hcs i _ hgs)) rfl ?_
        refine WL.convert int67 int3 rfl (wrap_i64 (by omega) (by omega)) rfl ?_
        refine WL.assign rfl rfl ?_
        refine (WL.done (WX.round ?_))
        exact hN (x.stamps.getD i 0) _ _ ⟨by rw [if_pos (by omega)], H⟩ (Sub.cons (t := 10) (by rfl) (Sub.nil _)) (Sub.cons (t := 1) rfl (Sub.cons (t := 5) rfl (Sub.cons (t := 6) rfl (Sub.cons (t := 7) rfl (Sub.cons (t := 8) rfl (Sub.cons (t := 9) rfl (Sub.nil _)))))))
      ·
        change ¬ (i : Int) < (x.stamps.length : Int) at c3
        refine (WC.skip (WX.round ?_))
        exact hN (i : Int) _ _ ⟨by rw [if_neg (by omega)], H⟩ (Sub.cons (t := 10) (by rfl) (Sub.nil _)) (Sub.cons (t := 1) rfl (Sub.cons (t := 5) rfl (Sub.cons (t := 6) rfl (Sub.cons (t := 7) rfl (Sub.cons (t := 8) rfl (Sub.cons (t := 9) rfl (Sub.nil _)))))))
    · -- join
      obtain ⟨hst, H⟩ := hJ2
      refine WC.seq ?_
      refine WC.region ?_
      refine WL.move rfl rfl ?_
      refine WL.bin rfl rfl (iadd (x := 2) (y := (i : Int)) (by omega) (by omega)) rfl ?_
      refine WL.fieldAddr fld70_1 rfl rfl ?_
      refine WL.load rfl (H.rd1 ty43 0 rfl rfl) rfl ?_
      refine WL.move rfl rfl ?_
      refine WL.idxSlc (k := i) (b := bc) (o := oc) slc43 (by rw [← hA1]; rfl) rfl rfl (by omega) rfl ?_
      refine WL.load rfl ((by rw [Nat.mul_one]; exact Rd.ints ty3 (hx.cats.keep H) hgx hA1)) rfl ?_
      refine WL.call call53 rfl rfl ?_
      refine Calls.mono (catalog_any (x.cats.getD i 0) _) ?_
      rintro _ wx ⟨rfl, rfl⟩
      refine ⟨_, rfl, ?_⟩
      refine WL.move rfl rfl ?_
      refine WL.move rfl rfl ?_
      refine WL.build (cells := arrC [2 + (i : Int), catV (x.cats.getD i 0), st, 64 + x.lines % 40]) pla77 zer77 rfl rfl (by kernel_rfl) ?_
      refine WL.alloc H zer77 rfl ?_
      intro b11 wx hb11 hge11 H
      refine WL.storeTo (cs' := arrC [2 + (i : Int), catV (x.cats.getD i 0), st, 64 + x.lines % 40]) H ty77 0 rfl rfl rfl (by rfl) (by exact arrC_one _) (by exact Nat.le_of_ble_eq_true rfl) (by kernel_rfl) ?_
      intro wx H
      refine (WL.done (WX.next ?_))
      refine WC.seq ?_
      refine WC.seq ?_
      refine WC.region ?_
      refine WL.move rfl rfl ?_
      refine WL.fieldAddr fld77_1 rfl rfl ?_
      refine WL.load rfl (H.rd1 ty3 0 rfl rfl) rfl ?_
      refine WL.fieldAddr fld77_2 rfl rfl ?_
      refine WL.load rfl (H.rd1 ty3 0 rfl rfl) rfl ?_
      refine WL.call call52 rfl rfl ?_
      refine Calls.mono (rwrite_any (L := (b11, .cells (arrC [2 + (i : Int), catV (x.cats.getD i 0), st, 64 + x.lines % 40]) 77) :: (b1, .cells x.cells 70) :: (rr.hp 77 ++ re.hp 3)) (catV (x.cats.getD i 0)) st (by omega) hI H hG) ?_
      rintro _ wx ⟨R1, rfl, hI, H⟩
      refine ⟨_, rfl, ?_⟩
      obtain ⟨hw1, hw2⟩ := WV.step hx (show i ≤ 100 by omega) hst
      rw [hw1]
      rw [hw2] at hI
      refine WL.bin rfl rfl binv_neq rfl ?_
      refine (WL.done (WX.next ?_))
      refine WC.cond_false rfl (rfl) ?_
      refine (WC.skip (WX.next ?_))
      refine WC.seq ?_
      refine WC.region ?_
      refine WL.move rfl rfl ?_
      refine WL.load rfl (H.rdAll ty77 0 rfl rfl) rfl ?_
      refine WL.buildSlice1 H Tryd.underlying71 (sz := 4) (by simp only [Tryd.underlying77]; exact ty77) (by omega) zer77 rfl rfl rfl rfl ?_
      intro g9 wx hg9 hgg9 H
      replace H : St w [] wx (rr.hp 77 ++ ((g9, .cells (arrC [2 + (i : Int), catV (x.cats.getD i 0), st, 64 + x.lines % 40]) 77) :: (b11, .cells (arrC [2 + (i : Int), catV (x.cats.getD i 0), st, 64 + x.lines % 40]) 77) :: (b1, .cells x.cells 70) :: (re.hp 3 ++ R1.hp))) := H.perm (by classical exact List.perm_iff_count.2 (fun q => by simp only [List.count_append, List.count_cons, List.count_nil, Nat.add_zero, Nat.zero_add]; ac_rfl))
      refine WL.append (m := 1) (news := intsC [2 + (i : Int), catV (x.cats.getD i 0), st, 64 + x.lines % 40]) app71 H hrr rfl rfl rfl (fun j u hj => by rw [addr_add, cell_of (H.sat _ (List.mem_append_right _ List.mem_cons_self)), arrC_ints, Nat.zero_add]; simpa using hj) (intsC_one _) (by simp only [maxLen]; omega) (by omega) rfl ?_
      intro rr1 wx hrr1 H
      replace hrr1 : rr1.ok 4 (i + 1 + 1) (intsC (x.roots (i + 1 + 1)).flatten) := by
        rw [roots_succ, intsC_append, root_succ, ← hst, hnn.1]; exact hrr1
      replace H : St w [] wx (((b1, .cells x.cells 70) :: (rr1.hp 77 ++ re.hp 3)) ++ R1.hp) := (H.weaken (List.Sublist.append_left (List.Sublist.cons _ (List.sublist_cons_self _ _)) _)).perm (by classical exact List.perm_iff_count.2 (fun q => by simp only [List.count_append, List.count_cons, List.count_nil, Nat.add_zero, Nat.zero_add]; ac_rfl))
      refine WL.assign rfl rfl ?_
      refine (WL.done (WX.next ?_))
      refine WC.region ?_
      refine WL.move rfl rfl ?_
      refine WL.move rfl rfl ?_
      refine WL.call call27 rfl rfl ?_
      refine Calls.mono (a_events (L := (b1, .cells x.cells 70) :: (rr1.hp 77 ++ re.hp 3)) (by omega) hI H hL) ?_
      rintro _ wx ⟨r1, rfl, hr1, H⟩
      refine ⟨_, rfl, ?_⟩
      refine WL.lenR isl30 rfl rfl ?_
      replace H := H.dropR
      refine WL.buildSlice1 H Tryd.underlying43 (sz := 1) (by simp only [Tryd.underlying3]; exact ty3) (by omega) zer3 rfl rfl rfl rfl ?_
      intro g10 wx hg10 hgg10 H
      replace H : St w [] wx (re.hp 3 ++ ((g10, .cells #[.int .i64 (((x.mem (i + 1)).evs.length : Nat) : Int)] 3) :: (b1, .cells x.cells 70) :: (rr1.hp 77 ++ R1.hp))) := H.perm (by classical exact List.perm_iff_count.2 (fun q => by simp only [List.count_append, List.count_cons, List.count_nil, Nat.add_zero, Nat.zero_add]; ac_rfl))
      refine WL.append (m := 1) (news := intsC [(22 * (i + 1 + 1 : Nat) : Int)]) app43 H hre rfl rfl rfl (fun j u hj => by rw [addr_add, cell_of (H.sat _ (List.mem_append_right _ List.mem_cons_self)), Nat.zero_add, show (x.mem (i + 1)).evs.length = 22 * (i + 1 + 1) from evsTo_len (i + 1)]; simpa [intsC] using hj) (intsC_one _) (by simp only [maxLen]; omega) (by omega) rfl ?_
      intro re1 wx hre1 H
      replace hre1 : re1.ok 1 (i + 1 + 1) (intsC (endsTo (i + 1 + 1))) := by
        rw [ends_succ, intsC_append]; exact hre1
      replace H : St w [] wx (((b1, .cells x.cells 70) :: (rr1.hp 77 ++ re1.hp 3)) ++ R1.hp) := (H.weaken (List.Sublist.append_left (List.sublist_cons_self _ _) _)).perm (by classical exact List.perm_iff_count.2 (fun q => by simp only [List.count_append, List.count_cons, List.count_nil, Nat.add_zero, Nat.zero_add]; ac_rfl))
      refine WL.assign rfl rfl ?_
      refine (WL.done (WX.block_normal (WX.next ?_)))
      refine WC.region ?_
      refine WL.move rfl rfl ?_
      refine WL.bin rfl rfl (iadd (x := (i : Int)) (y := 1) (by omega) (by omega)) rfl ?_
      refine WL.assign rfl rfl ?_
      refine (WL.done (WX.round ?_))
      exact hN _ (R1, rr1, re1, i + 1) _ _ (by show x.cats.length - (i + 1) < x.cats.length - i; omega) ⟨rfl, by show i + 1 ≤ x.cats.length; omega, by show Is R1 p (x.mem (i + 1)) (50 + 50 * (i + 1)); exact hI.mono (by omega), hrr1, hre1, H⟩ (Sub.cons (t := 7) (by rfl) (Sub.cons (t := 8) (by rfl) (Sub.cons (t := 9) (by rfl) (Sub.nil _)))) (Sub.cons (t := 1) rfl (Sub.cons (t := 5) rfl (Sub.cons (t := 6) rfl (Sub.nil _))))
  ·
    change ¬ (i : Int) < (x.cats.length : Int) at c2
    obtain rfl : i = x.cats.length := by omega
    refine (WC.exit (WX.then_exit (WX.then_exit (WX.block_exit (WX.next ?_)))))
    refine WC.seq ?_
    refine WC.region ?_
    refine WL.move rfl rfl ?_
    refine WL.move rfl rfl ?_
    refine WL.move rfl rfl ?_
    refine WL.assign rfl rfl ?_
    refine WL.assign rfl rfl ?_
    refine WL.assign rfl rfl ?_
    refine (WL.done (WX.next ?_))
    refine (WC.ret ?_)
    refine ret_three rfl rfl rfl rfl ?_
    exact ⟨p, R, rr, re, rfl, hI.mono (by omega), hrr, hre, H.tail⟩

end Go.Proofs.YtkncbggnaobgeaaDoor

/- Walks of functions of the program; printed by a program of this session (walk.py) out of hand-written hints. -/
namespace Go.Proofs.YtkncbggnaobgeaaDoor
open Go.RowKit
set_option linter.unusedVariables false
set_option linter.unusedSimpArgs false
set_option maxRecDepth 100000

theorem flatE_row {r : Row} {es : List (List Int)} {n : Nat} (hr : r.ok 12 n (flatE es)) : r.ok 12 n (intsC es.flatten) := by rw [← flatE_ints]; exact hr
theorem m_events8 {w : World} {R : RM} {p k : Nat} {M : PM} (hk : k ≤ 1073741824) (hI : Is R p M k) (hm : MemIn w R) :
    Calls Tryd.prog 27 #[ptr p] w fun e w' => ∃ r : Row, e = .returned (r.val M.evs.length) ∧ r.ok 12 M.evs.length (flatE M.evs) ∧ St w [] w' (r.hp 164) := by
  have h1 := hI.evs
  obtain ⟨rfl, rfl, hok, hs⟩ := hI
  exact events_any R (by omega) w hm

theorem after_any {w : World} {R : RM} {p k : Nat} {M : PM} (f : Nat) (at_ cut : Int) (hf : f ≤ M.evs.length) (hf0 : 0 < M.evs.length) (hat : -9223372036854775808 ≤ at_ ∧ at_ ≤ 9223372036854775807) (hcut : -9223372036854775808 ≤ cut ∧ cut ≤ 9223372036854775807) (hgood : goodEv (PM.fresh M.ls.length) M.evs) (hpl : ∀ v ∈ M.evs, Plain4 v) (hk : k < 536870912) (hI : Is R p M k) (hm : MemIn w R) (hL : L64 w) : Calls Tryd.prog 48 #[ptr p, .int .i64 (f : Int), .int .i64 at_, .int .i64 cut] w fun e w' => ∃ p2 R2, e = .returned (.tuple #[ptr p2, .int .i64 (ptOf M.evs.length f at_ : Nat)]) ∧ Is R2 p2 (leftOf (runEv (PM.fresh M.ls.length) (M.evs.take (ptOf M.evs.length f at_))) cut) 0 ∧ St w [] w' R2.hp := by
  refine calls_walk_n (args := [ptr p, .int .i64 (f : Int), .int .i64 at_, .int .i64 cut]) Tryd.func48 rfl rfl rfl ?_
  have H := St.refl w
  have hlens := hI.lens
  have hev : M.evs.length ≤ k := hI.sm.ev
  have hpt := ptOf_le (at_ := at_) hf
  have h12 : ∀ v ∈ M.evs, v.length = 12 := fun v hv => (hpl v hv).len
  obtain ⟨N, hN0⟩ : ∃ N, runEv (PM.fresh M.ls.length) (M.evs.take (ptOf M.evs.length f at_)) = N := ⟨_, rfl⟩
  have hN : runEv (PM.ofImg ((PM.fresh M.ls.length).ls.map bare)) (M.evs.take (ptOf M.evs.length f at_)) = N := by rw [ofImg_fresh]; exact hN0
  have hgood2 : goodEv (PM.ofImg ((PM.fresh M.ls.length).ls.map bare)) M.evs := by rw [ofImg_fresh]; exact hgood
  rw [hN0]
  refine WC.seq ?_
  refine WC.region ?_
  refine WL.assign rfl rfl ?_
  refine WL.assign rfl rfl ?_
  refine (WL.done (WX.next ?_))
  refine WC.seq ?_
  refine WC.region ?_
  refine WL.move rfl rfl ?_
  refine WL.call call26 rfl rfl ?_
  refine Calls.mono (m_lines hI (hm.old H)) ?_
  rintro _ wx ⟨rfl, hwx⟩
  refine ⟨_, rfl, ?_⟩
  rw [hwx]
  refine WL.call call23 rfl rfl ?_
  refine Calls.mono (a_new_ok (M.ls.length : Int) (by omega) H hL) ?_
  rintro _ wx ⟨p0, R0, rfl, hI0, H⟩
  refine ⟨_, rfl, ?_⟩
  replace H : St w [] wx ([] ++ R0.hp) := H
  replace hI0 : Is R0 p0 (PM.fresh M.ls.length) 0 := hI0
  refine WL.assign rfl rfl ?_
  refine (WL.done (WX.next ?_))
  refine WC.seq ?_
  refine WC.region ?_
  refine WL.move rfl rfl ?_
  refine WL.call call27 rfl rfl ?_
  refine Calls.mono (m_events8 (by omega) hI (hm.old H)) ?_
  rintro _ wx ⟨re, rfl, hre, Hc⟩
  refine ⟨_, rfl, ?_⟩
  replace H := H.call Hc
  obtain ⟨A2, cap2, he2, hle2, hx2⟩ := RowsIn.rowC (T := 164) h12 rfl (flatE_row hre) (fun q hq => H.sat q (by simp [hq]))
  rw [he2]
  obtain ⟨b, o, rfl⟩ := hx2.addr (by omega) hf0
  replace H : St w [] wx (re.hp 164 ++ R0.hp) := H
  refine WL.assign rfl rfl ?_
  refine (WL.done (WX.next ?_))
  refine WC.seq ?_
  refine WC.seq ?_
  refine WC.region ?_
  refine WL.move rfl rfl ?_
  refine WL.bin rfl rfl (binv_ptr_eql (by kernel_rfl) _) rfl ?_
  refine WL.move rfl rfl ?_
  refine WL.known (t := 24) rfl (b := false) (rfl) ?_
  refine WL.yes rfl rfl ?_
  refine WL.move rfl rfl ?_
  refine WL.yes rfl rfl ?_
  refine WL.move rfl rfl ?_
  refine WL.yes rfl rfl ?_
  refine WL.lenSlc isl30 rfl rfl ?_
  refine WL.yes rfl rfl ?_
  refine WL.bin rfl rfl binv_gtr rfl ?_
  refine WL.pickF rfl rfl rfl ?_
  refine (WL.done (WX.next ?_))
  refine WC.cond_false rfl (decide_eq_false (by omega)) ?_
  refine (WC.skip (WX.next ?_))
  refine WC.seq ?_
  refine WC.region ?_
  refine WL.move rfl rfl ?_
  refine WL.move rfl rfl ?_
  refine WL.move rfl rfl ?_
  refine WL.sliceLo (k := f) slc30 rfl rfl rfl (by omega) rfl ?_
  refine WL.move rfl rfl ?_
  refine WL.call call114 rfl rfl ?_
  refine Calls.mono (point_any _ (M.evs.length - f) _ at_ hat (by omega) _) ?_
  rintro _ wx ⟨rfl, rfl⟩
  refine ⟨_, rfl, ?_⟩
  have hp1 := Int.emod_nonneg (pos at_) (show ((M.evs.length - f : Nat) : Int) + 1 ≠ 0 by omega)
  have hp2 := Int.emod_lt_of_pos (pos at_) (show (0 : Int) < ((M.evs.length - f : Nat) : Int) + 1 by omega)
  refine WL.bin rfl rfl ((by have h := iadd (P := Tryd.prog) (t := 3) (x := (f : Int)) (y := pos at_ % (((M.evs.length - f : Nat) : Int) + 1)) (by unfold ptOf at hpt; omega) (by unfold ptOf at hpt; omega); rw [show (f : Int) + pos at_ % (((M.evs.length - f : Nat) : Int) + 1) = ((ptOf M.evs.length f at_ : Nat) : Int) by unfold ptOf; omega] at h; exact h)) rfl ?_
  refine WL.assign rfl rfl ?_
  refine (WL.done (WX.next ?_))
  refine WC.seq ?_
  refine WC.region ?_
  refine WL.move rfl rfl ?_
  refine WL.call call29 rfl rfl ?_
  refine Calls.mono (a_image hI0 H hL) ?_
  rintro _ wx ⟨g1, rfl, Hg⟩
  refine ⟨_, rfl, ?_⟩
  have hlf : (PM.fresh M.ls.length).ls.length = M.ls.length := by simp [PM.fresh]
  have hx3 : RowsIn wx (some ⟨b, o, none⟩) 12 M.evs := by
    have : ∀ q ∈ re.hp 164, wx.heap[q.1]? = some q.2 := fun q hq => Hg.sat q (by simp [hq])
    obtain ⟨A3, cap3, he3, _, hx3⟩ := RowsIn.rowC (T := 164) h12 rfl (flatE_row hre) this
    rw [he2] at he3
    cases he3
    exact hx3
  replace H := Hg
  refine WL.move rfl rfl ?_
  refine WL.move rfl rfl ?_
  refine WL.move rfl rfl ?_
  refine WL.call call115 rfl rfl ?_
  refine Calls.mono (choice_any (some ⟨g1, 0, none⟩) (PM.fresh M.ls.length).ls.length (PM.fresh M.ls.length).ls.length ((PM.fresh M.ls.length).ls.map bare) (by simp) hI0.bare8 (by omega) (img_ok hI0) (some ⟨b, o, none⟩) M.evs.length cap2 M.evs rfl (by omega) hgood2 hpl (ptOf M.evs.length f at_) hpt.2 hle2 N hN _ (ImgIn.block (H.blk 0 rfl)) hx3 (hL.of0 H) cut hcut) ?_
  rintro _ wx ⟨rc, rfl, hrc, hNl, Hc⟩
  refine ⟨_, rfl, ?_⟩
  replace H := H.call Hc
  replace H : St w [] wx ((rc.hp 109 ++ ((g1, .cells (arrC (imgC (PM.fresh M.ls.length).ls)) 40) :: re.hp 164)) ++ R0.hp) := H.perm (by classical exact List.perm_iff_count.2 (fun q => by simp only [List.count_append, List.count_cons, List.count_nil, Nat.add_zero, Nat.zero_add]; ac_rfl))
  refine WL.move rfl rfl ?_
  refine WL.extract rfl rfl rfl ?_
  refine WL.extract rfl rfl rfl ?_
  refine WL.assign rfl rfl ?_
  refine WL.assign rfl rfl ?_
  refine (WL.done (WX.next ?_))
  refine WC.seq ?_
  refine WC.region ?_
  refine WL.move rfl rfl ?_
  refine WL.call call29 rfl rfl ?_
  refine Calls.mono (a_image hI0 H hL) ?_
  rintro _ wx ⟨g2, rfl, Hg⟩
  refine ⟨_, rfl, ?_⟩
  have hx4 : RowsIn wx (some ⟨b, o, none⟩) 12 M.evs := by
    have : ∀ q ∈ re.hp 164, wx.heap[q.1]? = some q.2 := fun q hq => Hg.sat q (by simp [hq])
    obtain ⟨A3, cap3, he3, _, hx3⟩ := RowsIn.rowC (T := 164) h12 rfl (flatE_row hre) this
    rw [he2] at he3
    cases he3
    exact hx3
  replace H := Hg
  obtain ⟨Ac, capc, hec, hcin⟩ := CutsIn.row (R := R0) (L2 := (g2, .cells (arrC (imgC (PM.fresh M.ls.length).ls)) 40) :: ((g1, .cells (arrC (imgC (PM.fresh M.ls.length).ls)) 40) :: re.hp 164)) (H.perm (by classical exact List.perm_iff_count.2 (fun q => by simp only [List.count_append, List.count_cons, List.count_nil, Nat.add_zero, Nat.zero_add]; ac_rfl))) hrc
  rw [hec]
  have hcl : (choice N cut).length ≤ N.ls.length := choice_len N (pos cut) _
  refine WL.move rfl rfl ?_
  refine WL.move rfl rfl ?_
  refine WL.move rfl rfl ?_
  refine WL.call call116 rfl rfl ?_
  refine Calls.mono (tImage_any (some ⟨g2, 0, none⟩) (PM.fresh M.ls.length).ls.length (PM.fresh M.ls.length).ls.length ((PM.fresh M.ls.length).ls.map bare) (by simp) hI0.bare8 (by omega) (img_ok hI0) (some ⟨b, o, none⟩) M.evs.length cap2 M.evs rfl (by omega) hgood2 hpl (ptOf M.evs.length f at_) hpt.2 hle2 N hN _ (ImgIn.block (H.blk 0 rfl)) hx4 (hL.of0 H) Ac (choice N cut).length capc (choice N cut) (R0.hp.map Prod.fst) rfl (by omega) (choice_ok N cut) hcin) ?_
  rintro _ wx ⟨g3, rfl, himk, hb8, Hc⟩
  refine ⟨_, rfl, ?_⟩
  replace H := H.call Hc
  refine WL.move rfl rfl ?_
  refine WL.extract rfl rfl rfl ?_
  refine WL.extract rfl rfl rfl ?_
  refine WL.assign rfl rfl ?_
  refine WL.assign rfl rfl ?_
  refine (WL.done (WX.next ?_))
  refine WC.seq ?_
  refine WC.seq ?_
  refine WC.region ?_
  refine WL.move rfl rfl ?_
  refine WL.bin rfl rfl binv_neq rfl ?_
  refine WL.move rfl rfl ?_
  refine WL.known (t := 57) rfl (b := false) (rfl) ?_
  refine WL.yes rfl rfl ?_
  refine WL.move rfl rfl ?_
  refine WL.yes rfl rfl ?_
  refine WL.bin rfl rfl binv_neq rfl ?_
  refine WL.pickF rfl rfl rfl ?_
  refine (WL.done (WX.next ?_))
  refine WC.cond_false rfl (rfl) ?_
  refine (WC.skip (WX.next ?_))
  refine WC.seq ?_
  refine WC.region ?_
  refine WL.move rfl rfl ?_
  refine WL.call call24 rfl rfl ?_
  refine Calls.mono (a_from_ok (some ⟨g3, 0, none⟩) N.ls.length N.ls.length ((N.crash (choice N cut)).ls.map bare) (by rw [List.length_map, crash_len]) hb8 (ImgIn.block (H.blk 0 rfl)) (by omega) himk (hL.of0 H)) ?_
  rintro _ wx ⟨p2, R2, rfl, hI2, Hc⟩
  refine ⟨_, rfl, ?_⟩
  replace H := H.call Hc
  refine WL.move rfl rfl ?_
  refine WL.assign rfl rfl ?_
  refine WL.assign rfl rfl ?_
  refine (WL.done (WX.next ?_))
  refine (WC.ret ?_)
  refine ret_two rfl rfl rfl ?_
  refine ⟨p2, R2, rfl, hI2, ?_⟩
  replace H : St w [] wx (R2.hp ++ ((g3, .cells (arrC (imgC (N.crash (choice N cut)).ls)) 40) :: (g2, .cells (arrC (imgC (PM.fresh M.ls.length).ls)) 40) :: (rc.hp 109 ++ ((g1, .cells (arrC (imgC (PM.fresh M.ls.length).ls)) 40) :: (re.hp 164 ++ R0.hp))))) := H.perm (by classical exact List.perm_iff_count.2 (fun q => by simp only [List.count_append, List.count_cons, List.count_nil, Nat.add_zero, Nat.zero_add]; ac_rfl))
  exact H.weaken (List.sublist_append_left _ _)

end Go.Proofs.YtkncbggnaobgeaaDoor

/- Walks of functions of the program; printed by a program of this session (walk.py) out of hand-written hints. -/
namespace Go.Proofs.YtkncbggnaobgeaaDoor
open Go.RowKit
set_option linter.unusedVariables false
set_option linter.unusedSimpArgs false
set_option maxRecDepth 100000

theorem U16In.keep {w0 w : World} {A : Option Addr} {xs : List Int} {L : Hp} (h : U16In w0 A xs) (H : St w0 [] w L) : U16In w A xs := by
  rcases h with h | ⟨b, o, cs, t, fr, h1, h2, h3⟩
  · exact .inl h
  · exact .inr ⟨b, o, cs, t, fr, h1, H.oldBlock h2 (by simp), h3⟩
theorem WV.ok.keep {x : WV} {w0 w : World} {L : Hp} (h : x.ok w0) (H : St w0 [] w L) : x.ok w :=
  ⟨h.lines, h.cats.keep H, h.catl, h.stamps.keep H, h.stl, h.str, h.at_, h.cut, h.b0, h.b1⟩
theorem Row.some_of {r : Row} {sz n : Nat} {xs : List Value} (h : r.ok sz n xs) (hn : 0 < n) : ∃ b cap cur, r = Row.some b cap cur := by
  cases r with
  | none => have := h.1; omega
  | nul a => have := h.1; omega
  | some b cap cur => exact ⟨b, cap, cur, rfl⟩
theorem ends_get {b cap : Nat} {cur : Array Value} {n : Nat} (h : Row.ok (.some b cap cur) 1 n (intsC (endsTo n))) {i : Nat} (hi : i < n) : cur[i]? = Option.some (Value.int .i64 (22 * (i + 1 : Nat) : Int)) := by
  refine Row.ok_get h ?_
  unfold intsC endsTo
  rw [List.getElem?_map, List.getElem?_map, List.getElem?_range hi]
  rfl
theorem roots_get {x : WV} {b cap : Nat} {cur : Array Value} {n : Nat} (h : Row.ok (.some b cap cur) 4 n (intsC (x.roots n).flatten)) {i : Nat} (hi : i < n) : ∀ j, j < 4 → cur[i * 4 + j]? = (intsC (x.root i))[j]? := by
  intro j hj
  have h4 : ∀ r ∈ x.roots n, r.length = 4 := by
    intro r hr
    obtain ⟨k, _, rfl⟩ := List.mem_map.1 hr
    cases k <;> rfl
  obtain ⟨f1, f2⟩ := flatten_get (s := 4) (by omega) (x.roots n) h4
  have hl : (x.roots n).length = n := by simp [WV.roots]
  have hx := f2 (i * 4 + j) (by rw [hl]; omega)
  rw [show (i * 4 + j) / 4 = i by omega, show (i * 4 + j) % 4 = j by omega] at hx
  have hr : (x.roots n)[i]? = Option.some (x.root i) := by unfold WV.roots; rw [List.getElem?_map, List.getElem?_range hi]; rfl
  rw [hr] at hx
  simp only [Option.getD_some] at hx
  have h4' : (x.root i).length = 4 := by cases i <;> rfl
  have hg : (x.root i)[j]? = Option.some ((x.root i).getD j 0) := by simp [List.getD, List.getElem?_eq_getElem (show j < (x.root i).length by omega)]
  unfold intsC
  rw [List.getElem?_map, hg]
  refine Row.ok_get h ?_
  unfold intsC
  rw [List.getElem?_map, hx, hg]
  rfl
theorem root_len (x : WV) (i : Nat) : (x.root i).length = 4 := by cases i <;> rfl
theorem Rd.root {w : World} {x : WV} {b cap : Nat} {cur : Array Value} {t : TypeId} {fr : Nat × Nat} {n : Nat} (h : Row.ok (.some b cap cur) 4 n (intsC (x.roots n).flatten)) (hb : w.heap[b]? = some (.cells cur t fr)) {i : Nat} (hi : i < n) : Rd Tryd.prog w 77 ⟨b, 0 + i * 4, none⟩ (YtkncbggnaobgeaaDoor.arr (x.root i)) :=
  Rd.cellsAt (ys := intsC (x.root i)) ty77 hb (by unfold intsC; rw [List.length_map]; exact root_len x i) (by omega) (fun j hj => by rw [show 0 + i * 4 + j = i * 4 + j by omega]; exact roots_get h hi j hj)
theorem Rd.ends {w : World} {b cap : Nat} {cur : Array Value} {t : TypeId} {fr : Nat × Nat} {n : Nat} (h : Row.ok (.some b cap cur) 1 n (intsC (endsTo n))) (hb : w.heap[b]? = some (.cells cur t fr)) {i : Nat} (hi : i < n) : Rd Tryd.prog w 3 ⟨b, 0 + i * 1, none⟩ (.int .i64 (22 * (i + 1 : Nat) : Int)) :=
  Rd.one ty3 (by rw [cell_of hb, Nat.zero_add, Nat.mul_one]; exact ends_get h hi)
theorem plain4_blk (c : Int) (hc : 0 ≤ c ∧ c ≤ 1000) {w : List Int} : ∀ v ∈ blk 0 c w, Plain4 v := by
  intro v hv
  rw [blk_eq] at hv
  rcases List.mem_append.1 hv with hv | hv
  · obtain ⟨t, ht, rfl⟩ := List.mem_map.1 hv
    have hk : ∀ t ∈ trips w, (t.1 = 1 ∨ t.1 = 2) ∧ t.2.1 < 8 := by
      intro t ht
      simp only [trips, List.mem_cons, List.not_mem_nil, or_false] at ht
      rcases ht with rfl | rfl | rfl | rfl | rfl | rfl | rfl | rfl | rfl
      · exact ⟨.inl rfl, Nat.le_of_ble_eq_true rfl⟩
      · exact ⟨.inl rfl, Nat.le_of_ble_eq_true rfl⟩
      · exact ⟨.inl rfl, Nat.le_of_ble_eq_true rfl⟩
      · exact ⟨.inl rfl, Nat.le_of_ble_eq_true rfl⟩
      · exact ⟨.inl rfl, Nat.le_of_ble_eq_true rfl⟩
      · exact ⟨.inl rfl, Nat.le_of_ble_eq_true rfl⟩
      · exact ⟨.inl rfl, Nat.le_of_ble_eq_true rfl⟩
      · exact ⟨.inl rfl, Nat.le_of_ble_eq_true rfl⟩
      · exact ⟨.inr rfl, Nat.le_of_ble_eq_true rfl⟩
    obtain ⟨h1, h2⟩ := hk t ht
    obtain ⟨k, i, z⟩ := t
    simp only at h1 h2
    rcases h1 with rfl | rfl
    · exact Plain4.put1 (8 * c + (i : Int)) z 0 (by omega) (by omega)
    · exact Plain4.put2 (8 * c + (i : Int)) z 0 (by omega) (by omega)
  · simp only [List.mem_cons, List.not_mem_nil, or_false] at hv
    rcases hv with rfl | rfl
    · exact Plain4.fl c
    · exact Plain4.fe
theorem plain4_evs (x : WV) : ∀ i, ∀ v ∈ x.evs i, Plain4 v
  | 0 => by
    intro v hv
    rcases List.mem_append.1 hv with hv | hv
    · exact plain4_blk 0 (by omega) v hv
    · exact plain4_blk 1 (by omega) v hv
  | i + 1 => by
    intro v hv
    rcases List.mem_append.1 (show v ∈ x.evs i ++ (blk 0 1 (rootW (x.root (i + 1))) ++ blk 0 0 (rootW (x.root (i + 1)))) from hv) with hv | hv
    · exact plain4_evs x i v hv
    · rcases List.mem_append.1 hv with hv | hv
      · exact plain4_blk 1 (by omega) v hv
      · exact plain4_blk 0 (by omega) v hv
theorem mem_len (x : WV) {w : World} (h : x.ok w) (i : Nat) : (x.mem i).ls.length = x.n := rs_len (by have := (WV.n_eq h).2; omega)
theorem mem_evs (x : WV) (i : Nat) : (x.mem i).evs = x.evs i := rfl
/-- What a failure leaves of the memory of such an input. -/
theorem WV.left {x : WV} {w : World} (h : x.ok w) {m : Nat} (hm : m ≤ 6) : ∃ j q : Nat, ptOf (x.evs m).length 22 x.at_ = 22 * (j + 1) + q ∧ q < 22 ∧ j ≤ m ∧ (j = m → q = 0) ∧
    ∃ a b, leftOf (runEv (PM.fresh (x.mem m).ls.length) ((x.mem m).evs.take (ptOf (x.mem m).evs.length 22 x.at_))) x.cut = RS x.n a b [] ∧ W8 a ∧ W8 b ∧
      ∃ r cp, pRead (RS x.n a b []) = (r, cp, 0) ∧ RootN x.n r ∧ ((cp = 0 ∧ a = rootW r) ∨ (cp = 1 ∧ b = rootW r)) ∧ (r = x.root j ∨ (0 < q ∧ r = x.root (j + 1))) := by
  have hlen : (x.evs m).length = 22 * (m + 1) := evsTo_len m
  have hp := ptOf_le (n := (x.evs m).length) (f := 22) (at_ := x.at_) (by omega)
  refine ⟨(ptOf (x.evs m).length 22 x.at_ - 22) / 22, (ptOf (x.evs m).length 22 x.at_ - 22) % 22, by omega, by omega, by omega, by omega, ?_⟩
  have := left_at (n := x.n) (cats := x.cats) (stamps := x.stamps) (k := x.cut) (m := m) (j := (ptOf (x.evs m).length 22 x.at_ - 22) / 22) (q := (ptOf (x.evs m).length 22 x.at_ - 22) % 22) (WV.n_eq h).2 (fun s hs => by have := h.str s hs; omega) (by omega) (by omega) (by omega) (by omega)
  rw [show 22 * ((ptOf (x.evs m).length 22 x.at_ - 22) / 22 + 1) + (ptOf (x.evs m).length 22 x.at_ - 22) % 22 = ptOf (x.evs m).length 22 x.at_ by omega] at this
  rw [mem_len x h]
  exact this
theorem WV.good {x : WV} {w : World} (h : x.ok w) {m : Nat} (hm : m ≤ 6) : goodEv (PM.fresh (x.mem m).ls.length) (x.mem m).evs := by
  rw [mem_len x h]
  exact (play_to (WV.n_eq h).2 (fun s hs => by have := h.str s hs; omega) m (by omega)).2
def flipsW (b0 b1 : Int) : Nat → List Int
  | 0 => zeros8
  | 1 => flipW zeros8 (b0 % 330).toNat
  | _ => flipW (flipW zeros8 (b0 % 330).toNat) (b1 % 330).toNat
def flipsC (b0 b1 : Int) : Nat → Int
  | 0 => 0
  | 1 => flipC 0 (b0 % 330).toNat
  | _ => flipC (flipC 0 (b0 % 330).toNat) (b1 % 330).toNat
theorem flipsW_succ (b0 b1 : Int) {i : Nat} (hi : i < 2) : flipsW b0 b1 (i + 1) = flipW (flipsW b0 b1 i) ((if i = 0 then b0 else b1) % 330).toNat ∧ flipsC b0 b1 (i + 1) = flipC (flipsC b0 b1 i) ((if i = 0 then b0 else b1) % 330).toNat := by
  have hi' : i = 0 ∨ i = 1 := by omega
  rcases hi' with rfl | rfl
  · exact ⟨rfl, rfl⟩
  · exact ⟨rfl, rfl⟩
theorem flipsW_len (b0 b1 : Int) : ∀ i, (flipsW b0 b1 i).length = 8 ∧ isWords (flipsW b0 b1 i) = true ∧ isCode (flipsC b0 b1 i) = true
  | 0 => ⟨rfl, rfl, rfl⟩
  | 1 => ⟨by show (flipW zeros8 _).length = 8; rw [flipW_len]; rfl, flipW_words rfl rfl, flipC_code rfl (by omega)⟩
  | _ + 2 => ⟨by show (flipW (flipW zeros8 _) _).length = 8; rw [flipW_len, flipW_len]; rfl, flipW_words (by rw [flipW_len]; rfl) (flipW_words rfl rfl), flipC_code (flipC_code rfl (by omega)) (by omega)⟩

theorem ishl1 {P : Program} {t : TypeId} {k' : IntKind} {m : Nat} (hm : m < 63) : BinV P .shl t (.int .i64 1) (.int k' (m : Int)) (.int .i64 ((2 ^ m : Nat) : Int)) := by
  have h2 : 2 ^ m < 2 ^ 63 := Nat.pow_lt_pow_right (by omega) hm
  have e : ((2 ^ m : Nat) : Int) = (2 : Int) ^ m := by norm_cast
  have := ishl (P := P) (t := t) (k' := k') (x := 1) (y := (m : Int)) (m := m) rfl (by omega) (by omega) (by rw [Int.one_mul, ← e]; omega)
  rw [Int.one_mul, ← e] at this
  exact this
theorem bits_get (b0 b1 : Int) {i : Nat} (hi : i < 2) : (#[Value.int .u16 b0, Value.int .u16 b1] : Array Value)[i]? = some (.int .u16 (if i = 0 then b0 else b1)) := by
  have hi' : i = 0 ∨ i = 1 := by omega
  rcases hi' with rfl | rfl <;> rfl

theorem flip_root_any {w0 w : World} {L : Hp} {R : RM} {p k : Nat} {M : PM} (c : Nat) (b0 b1 : Int) (h0 : 0 ≤ b0 ∧ b0 ≤ 65535) (h1 : 0 ≤ b1 ∧ b1 ≤ 65535) (hk : k < 536870912) (hI : Is R p M k) (H : St w0 [] w (L ++ R.hp)) (hL : L64 w0) : Calls Tryd.prog 88 #[ptr p, .int .i64 (c : Int), .agg #[.int .u16 b0, .int .u16 b1]] w fun e w' => ∃ R', e = .returned (.tuple #[]) ∧ Is R' p (M.rot c (flipW (flipW zeros8 (b0 % 330).toNat) (b1 % 330).toNat) (flipC (flipC 0 (b0 % 330).toNat) (b1 % 330).toNat)) (k + 1) ∧ St w0 [] w' (L ++ R'.hp) := by
  refine calls_walk_n (args := [ptr p, .int .i64 (c : Int), .agg #[.int .u16 b0, .int .u16 b1]]) Tryd.func88 rfl rfl rfl ?_
  replace H : St w0 [] w (([] ++ L) ++ R.hp) := H
  refine WC.seq ?_
  refine WC.region ?_
  refine WL.box (v := .agg #[.int .u16 b0, .int .u16 b1]) H rfl rfl ?_
  intro b5 wx hb5 hge5 H
  refine (WL.done (WX.next ?_))
  refine WC.seq ?_
  refine WC.region ?_
  refine WL.alloc H zer38 rfl ?_
  intro b6 wx hb6 hge6 H
  refine (WL.done (WX.next ?_))
  refine WC.seq ?_
  refine WC.region ?_
  refine WL.assign rfl rfl ?_
  refine (WL.done (WX.next ?_))
  refine WC.seq ?_
  refine WC.seq ?_
  refine WC.region ?_
  refine WL.assign rfl rfl ?_
  refine (WL.done (WX.next ?_))
  refine WC.block ?_
  -- loop 1: changed [7, 8] kept [0, 1, 5, 6]
  replace H : St w0 [] wx (((b6, .cells (arrC (flipsW b0 b1 0)) 38) :: (b5, .cells #[.int .u16 b0, .int .u16 b1] 68) :: L) ++ R.hp) := H
  refine WC.loop (Sub.cons (t := 0) rfl (Sub.cons (t := 1) rfl (Sub.cons (t := 5) rfl (Sub.cons (t := 6) rfl (Sub.nil _))))) (fun i : Nat => [(7, .int .i64 (flipsC b0 b1 i)), (8, .int .i64 (i : Int))]) (fun q i wx => q = 2 - i ∧ i ≤ 2 ∧ St w0 [] wx (((b6, .cells (arrC (flipsW b0 b1 i)) 38) :: (b5, .cells #[.int .u16 b0, .int .u16 b1] 68) :: L) ++ R.hp)) (2) (0) (Sub.cons (t := 7) (by rfl) (Sub.cons (t := 8) (by rfl) (Sub.nil _))) (⟨rfl, Nat.zero_le _, H⟩) ?_
  rintro q i wx hJ N hN
  clear H
  obtain ⟨rfl, hi, H⟩ := hJ
  refine WC.seq ?_
  refine WC.seq ?_
  refine WC.region ?_
  refine WL.move rfl rfl ?_
  refine WL.bin rfl rfl binv_lss rfl ?_
  refine (WL.done (WX.next ?_))
  refine WC.cond_dec rfl (fun c1 => ?_) (fun c1 => ?_)
  ·
    change (i : Int) < 2 at c1
    refine (WC.skip (WX.next ?_))
    refine WC.seq ?_
    refine WC.block ?_
    refine WC.seq ?_
    refine WC.region ?_
    obtain ⟨z, hz⟩ : ∃ z, (if i = 0 then b0 else b1) = z := ⟨_, rfl⟩
    have hzr : 0 ≤ z ∧ z ≤ 65535 := by rw [← hz]; split <;> assumption
    obtain ⟨y, hy⟩ : ∃ y : Nat, (z % 330).toNat = y := ⟨_, rfl⟩
    have hyz : z % 330 = (y : Int) := by omega
    have hfs := flipsW_succ b0 b1 (i := i) (by omega)
    rw [hz, hy] at hfs
    refine WL.move rfl rfl ?_
    refine WL.idxArr (k := i) arr68 rfl rfl (by rfl) (by omega) rfl ?_
    refine WL.load rfl (Rd.one (v := .int .u16 z) ty67 (by rw [cell_of (H.blk 1 rfl), ← hz, Nat.zero_add, Nat.mul_one]; exact bits_get b0 b1 (by omega))) rfl ?_
    refine WL.convert int67 int3 rfl (wrap_i64 (by omega) (by omega)) rfl ?_
    refine WL.bin rfl rfl (irem (by omega) (by omega)) rfl ?_
    refine WL.assign rfl rfl ?_
    refine (WL.done (WX.next ?_))
    refine WC.seq ?_
    refine WC.region ?_
    refine WL.move rfl rfl ?_
    refine WL.bin rfl rfl binv_lss rfl ?_
    refine (WL.done (WX.next ?_))
    refine WC.cond_dec rfl (fun c2 => ?_) (fun c2 => ?_)
    ·
      change z % 330 < 320 at c2
      have hy3 : y < 320 := by omega
      replace H := H.drew
      refine WC.held (SX (World.drew wx) [b6]) (by kernel_rfl) ?_
      generalize World.drew wx = wb at H ⊢
      have HB := H.single 0 rfl
      refine WH.take 0 rfl (by kernel_rfl) (by kernel_rfl) (by kernel_rfl) (fun _ _ _ h => h) ⟨_, HB⟩ (fun w' hS => EX.move rfl) rfl ?_
      refine WH.take 1 rfl (by kernel_rfl) (by kernel_rfl) (by kernel_rfl) (fun _ _ _ h => h) ⟨_, HB⟩ (fun w' hS => EX.bin rfl rfl ((by have h := iquo (P := Tryd.prog) (t := 3) (x := z % 330) (y := 40) (by omega) (by omega) (by omega); rw [show z % 330 / 40 = ((y / 40 : Nat) : Int) by omega] at h; exact h))) rfl ?_
      refine WH.take 2 rfl (by kernel_rfl) (by kernel_rfl) (by kernel_rfl) (fun _ _ _ h => h) ⟨_, HB⟩ (fun w' hS => EX.move rfl) rfl ?_
      refine WH.take 3 rfl (by kernel_rfl) (by kernel_rfl) (by kernel_rfl) (fun _ _ _ h => h) ⟨_, HB⟩ (fun w' hS => EX.bin rfl rfl ((by have h := iquo (P := Tryd.prog) (t := 3) (x := z % 330) (y := 40) (by omega) (by omega) (by omega); rw [show z % 330 / 40 = ((y / 40 : Nat) : Int) by omega] at h; exact h))) rfl ?_
      refine WH.take 4 rfl (by kernel_rfl) (by kernel_rfl) (by kernel_rfl) (fun _ _ _ h => h) ⟨_, HB⟩ (fun w' hS => EX.idxArr (k := y / 40) arr38 rfl rfl (by rfl) (by omega)) rfl ?_
      refine WH.take 6 rfl (by kernel_rfl) (by kernel_rfl) (by kernel_rfl) (fun _ _ _ h => h) ⟨_, HB⟩ (fun w' hS => EX.move rfl) rfl ?_
      refine WH.take 7 rfl (by kernel_rfl) (by kernel_rfl) (by kernel_rfl) (fun _ _ _ h => h) ⟨_, HB⟩ (fun w' hS => EX.bin rfl rfl ((by have h := irem (P := Tryd.prog) (t := 3) (x := z % 330) (y := 40) (by omega) (by omega); rw [show z % 330 % 40 = ((y % 40 : Nat) : Int) by omega] at h; exact h))) rfl ?_
      refine WH.take 8 rfl (by kernel_rfl) (by kernel_rfl) (by kernel_rfl) (fun _ _ _ h => h) ⟨_, HB⟩ (fun w' hS => EX.bin rfl rfl (ishl1 (m := y % 40) (by omega))) rfl ?_
      refine WH.hard 5 rfl (by kernel_rfl) ?_
      refine WL.load rfl ((by rw [Nat.zero_add, Nat.mul_one]; exact HB.rdElt ty3 0 rfl (by rw [(flipsW_len b0 b1 i).1]; omega))) rfl ?_
      refine WL.done (WX.heldOn ⟨_, HB⟩ ?_)
      refine WH.take 9 rfl (by kernel_rfl) (by kernel_rfl) (by kernel_rfl) (fun _ _ _ h => h) ⟨_, HB⟩ (fun w' hS => EX.bin rfl rfl (ixorN (a := ((flipsW b0 b1 i).getD (y / 40) 0).toNat) (b := 2 ^ (y % 40)) (by have := (isWords_get (flipsW_len b0 b1 i).2.1 (g := y / 40) (by rw [(flipsW_len b0 b1 i).1]; omega)).1; omega) (by norm_cast) (by have := (isWords_get (flipsW_len b0 b1 i).2.1 (g := y / 40) (by rw [(flipsW_len b0 b1 i).1]; omega)); omega) (by have : 2 ^ (y % 40) < 2 ^ 40 := Nat.pow_lt_pow_right (by omega) (Nat.mod_lt _ (by decide)); omega))) rfl ?_
      refine WH.take 10 rfl (by kernel_rfl) (by kernel_rfl) (by kernel_rfl) (fun _ _ _ h => h) ⟨_, HB⟩ (fun w' hS => EX.idxArr (k := y / 40) arr38 rfl rfl (by rfl) (by omega)) rfl ?_
      refine WH.hard 11 rfl (by kernel_rfl) ?_
      refine WL.storeElt (o := 0 + y / 40 * 1) HB ty3 0 rfl rfl rfl (by rw [(flipsW_len b0 b1 i).1]; omega) ?_
      intro wx HB
      rw [show 0 + y / 40 * 1 = y / 40 by omega] at HB
      refine WL.done (WX.heldOn ⟨_, HB⟩ ?_)
      refine WH.done (by kernel_rfl) ?_
      replace H := H.back (N := []) 0 rfl HB rfl
      refine (WX.block_normal (WX.next ?_))
      refine WC.region ?_
      refine WL.move rfl rfl ?_
      refine WL.bin rfl rfl (iadd (by omega) (by omega)) rfl ?_
      refine WL.assign rfl rfl ?_
      refine (WL.done (WX.round ?_))
      have e2 : flipC (flipsC b0 b1 i) y = flipsC b0 b1 i := by unfold flipC; rw [if_pos hy3]
      have e1 : flipW (flipsW b0 b1 i) y = (flipsW b0 b1 i).set (y / 40) ((((flipsW b0 b1 i).getD (y / 40) 0).toNat ^^^ 2 ^ (y % 40) : Nat) : Int) := by unfold flipW; rw [if_pos hy3]
      exact hN _ (i + 1) _ _ (by omega) ⟨rfl, by omega, by rw [hfs.1, e1]; exact H⟩ (Sub.cons (t := 7) (by rw [hfs.2, e2]; rfl) (Sub.cons (t := 8) rfl (Sub.nil _))) (Sub.cons (t := 0) rfl (Sub.cons (t := 1) rfl (Sub.cons (t := 5) rfl (Sub.cons (t := 6) rfl (Sub.nil _)))))
    ·
      change ¬ z % 330 < 320 at c2
      have hy3 : ¬ y < 320 := by omega
      refine WC.region ?_
      refine WL.move rfl rfl ?_
      refine WL.move rfl rfl ?_
      refine WL.bin rfl rfl ((by have h := isub (P := Tryd.prog) (t := 3) (x := z % 330) (y := 320) (by omega) (by omega); rw [show z % 330 - 320 = ((y - 320 : Nat) : Int) by omega] at h; exact h)) rfl ?_
      refine WL.bin rfl rfl (ishl1 (m := y - 320) (by omega)) rfl ?_
      refine WL.bin rfl rfl (ixorN (a := (flipsC b0 b1 i).toNat) (b := 2 ^ (y - 320)) (by have := isCode_iff.1 (flipsW_len b0 b1 i).2.2; omega) (by norm_cast) (by have := isCode_iff.1 (flipsW_len b0 b1 i).2.2; omega) (by have : 2 ^ (y - 320) < 2 ^ 10 := Nat.pow_lt_pow_right (by omega) (by omega); omega)) rfl ?_
      refine WL.assign rfl rfl ?_
      refine (WL.done (WX.block_normal (WX.next ?_)))
      refine WC.region ?_
      refine WL.move rfl rfl ?_
      refine WL.bin rfl rfl (iadd (by omega) (by omega)) rfl ?_
      refine WL.assign rfl rfl ?_
      refine (WL.done (WX.round ?_))
      have e2 : flipC (flipsC b0 b1 i) y = (((flipsC b0 b1 i).toNat ^^^ 2 ^ (y - 320) : Nat) : Int) := by unfold flipC; rw [if_neg hy3]
      have e1 : flipW (flipsW b0 b1 i) y = flipsW b0 b1 i := by unfold flipW; rw [if_neg hy3]
      exact hN _ (i + 1) _ _ (by omega) ⟨rfl, by omega, by rw [hfs.1, e1]; exact H⟩ (Sub.cons (t := 7) (by rw [hfs.2, e2]; rfl) (Sub.cons (t := 8) rfl (Sub.nil _))) (Sub.cons (t := 0) rfl (Sub.cons (t := 1) rfl (Sub.cons (t := 5) rfl (Sub.cons (t := 6) rfl (Sub.nil _)))))
  ·
    change ¬ (i : Int) < 2 at c1
    obtain rfl : i = 2 := by omega
    refine (WC.exit (WX.then_exit (WX.then_exit (WX.block_exit (WX.next ?_)))))
    refine WC.region ?_
    refine WL.move rfl rfl ?_
    refine WL.move rfl rfl ?_
    refine WL.load rfl (H.rdArr ty38 0 rfl (flipsW_len b0 b1 2).1) rfl ?_
    refine WL.move rfl rfl ?_
    refine WL.call call51 rfl rfl ?_
    refine Calls.mono (a_rot (L := (b6, .cells (arrC (flipsW b0 b1 2)) 38) :: (b5, .cells #[.int .u16 b0, .int .u16 b1] 68) :: L) (c : Int) (flipsW b0 b1 2) (flipsW_len b0 b1 2).1 (flipsC b0 b1 2) (by omega) hI H hL) ?_
    rintro _ wx ⟨R1, rfl, hI, H⟩
    refine ⟨_, rfl, ?_⟩
    refine (WL.done ?_)
    refine end_none rfl ?_
    exact ⟨R1, rfl, hI, H.tail.tail⟩

end Go.Proofs.YtkncbggnaobgeaaDoor

/- Walks of functions of the program; printed by a program of this session (walk.py) out of hand-written hints. -/
namespace Go.Proofs.YtkncbggnaobgeaaDoor
open Go.RowKit
set_option linter.unusedVariables false
set_option linter.unusedSimpArgs false
set_option maxRecDepth 100000

def dn (i j : Nat) : Nat := if i = 0 then 0 else min (i - 1) j
theorem Rd.ends0 {w : World} {b cap : Nat} {cur : Array Value} {t : TypeId} {fr : Nat × Nat} {n : Nat} (h : Row.ok (.some b cap cur) 1 n (intsC (endsTo n))) (hb : w.heap[b]? = some (.cells cur t fr)) (hi : 0 < n) : Rd Tryd.prog w 3 ⟨b, 0 + 0 * 1, none⟩ (.int .i64 ((22 : Nat) : Int)) :=
  Rd.ends h hb hi
theorem Rd.bits {w : World} {x : WV} {b : Nat} {t : TypeId} {fr : Nat × Nat} (h : w.heap[b]? = some (.cells x.cells t fr)) : Rd Tryd.prog w 68 ⟨b, 0 + 5, none⟩ (.agg #[.int .u16 x.b0, .int .u16 x.b1]) :=
  Rd.cellsAt (ys := [.int .u16 x.b0, .int .u16 x.b1]) ty68 h rfl (by omega) (fun j hj => by
    have hj' : j = 0 ∨ j = 1 := by omega
    rcases hj' with rfl | rfl <;> rfl)
theorem next_N {n : Nat} {r : List Int} (hn : 64 ≤ n ∧ n ≤ 4096) (hr : RootN n r) (hs : r.getD 0 0 ≤ 1000) (z : Int) {st : Int} (hst : 0 ≤ st ∧ st ≤ 65535) : RootN n [r.getD 0 0 + 1, catV z, st, (n : Int)] := by
  have h1 := (rootOk_word hr.2.1).2.2.1
  refine ⟨rfl, rootOk_iff.2 ⟨planOk_of hn, by omega, by omega, catV_right z, hst.1, by omega⟩, rfl⟩

theorem surv_any (x : WV) (w : World) (hx : x.ok w) (hG : GG w) : Calls Tryd.prog 21 #[.agg x.cells] w fun e w' => e = .returned (.bool true) ∧ St w [] w' [] := by
  refine calls_walk_n (args := [.agg x.cells]) Tryd.func21 rfl rfl rfl ?_
  have hL := hG.l
  have H := St.refl w
  have hnn := WV.n_eq hx
  refine WC.seq ?_
  refine WC.region ?_
  refine WL.box (v := .agg x.cells) H rfl rfl ?_
  intro b1 wx hb1 hge1 H
  replace H : St w [] wx [(b1, .cells x.cells 70)] := H
  refine WL.assign rfl rfl ?_
  refine (WL.done (WX.next ?_))
  refine WC.seq ?_
  refine WC.region ?_
  refine WL.call call46 rfl rfl ?_
  refine Calls.mono (sanity8_any _ (hG.of0 H)) ?_
  rintro _ wx ⟨rfl, Hc⟩
  refine ⟨_, rfl, ?_⟩
  replace H := H.call0 Hc
  refine WL.assign rfl rfl ?_
  refine (WL.done (WX.next ?_))
  refine WC.seq ?_
  refine WC.seq ?_
  refine WC.region ?_
  refine WL.fieldAddr fld70_1 rfl rfl ?_
  refine WL.load rfl (H.rd1 ty43 0 rfl rfl) rfl ?_
  refine WL.lenSlc isl43 rfl rfl ?_
  refine WL.bin rfl rfl binv_gtr rfl ?_
  refine (WL.done (WX.next ?_))
  refine WC.cond_dec rfl (fun c1 => ?_) (fun c1 => ?_)
  ·
    refine WC.seq ?_
    refine WC.region ?_
    refine WL.move rfl rfl ?_
    refine WL.assign rfl rfl ?_
    refine (WL.done (WX.next ?_))
    refine (WC.ret (WX.then_ret ?_))
    refine ret_one rfl rfl ?_
    refine ⟨congrArg (fun b => Ending.returned (Value.bool b)) (by rfl), H.weaken (List.nil_sublist _)⟩
  ·
    have hc6 : x.cats.length ≤ 6 := by omega
    refine (WC.skip (WX.next ?_))
    refine WC.seq ?_
    refine WC.region ?_
    refine WL.load rfl (H.rdAll ty70 0 rfl rfl) rfl ?_
    refine WL.call call47 rfl rfl ?_
    refine Calls.mono (wrote_any x (hx.keep H) hc6 (hG.of0 H)) ?_
    rintro _ wx ⟨p, R, rr, re, rfl, hI, hrr, hre, Hc⟩
    refine ⟨_, rfl, ?_⟩
    obtain ⟨br, capr, curr, rfl⟩ := Row.some_of hrr (by omega)
    obtain ⟨be, cape, cure, rfl⟩ := Row.some_of hre (by omega)
    replace H := H.call Hc
    replace H : St w [] wx ((([(br, .cells curr 77)] ++ [(be, .cells cure 3)]) ++ R.hp) ++ [(b1, .cells x.cells 70)]) := H
    replace H : St w [] wx (((b1, .cells x.cells 70) :: (br, .cells curr 77) :: [(be, .cells cure 3)]) ++ R.hp) := H.perm (by classical exact List.perm_iff_count.2 (fun q => by simp only [List.count_append, List.count_cons, List.count_nil, Nat.add_zero, Nat.zero_add]; ac_rfl))
    have hel : (x.mem x.cats.length).evs.length = 22 * (x.cats.length + 1) := evsTo_len _
    obtain ⟨j, q, hpt, hq, hjm, hjq, a, b, hleft, ha, hb, r, cp, hrd, hrN, hcp, hcase⟩ := WV.left hx (show x.cats.length ≤ 6 by omega)
    refine WL.move rfl rfl ?_
    refine WL.extract rfl rfl rfl ?_
    refine WL.extract rfl rfl rfl ?_
    refine WL.extract rfl rfl rfl ?_
    refine WL.assign rfl rfl ?_
    refine WL.assign rfl rfl ?_
    refine WL.assign rfl rfl ?_
    refine (WL.done (WX.next ?_))
    refine WC.seq ?_
    refine WC.seq ?_
    refine WC.region ?_
    refine WL.move rfl rfl ?_
    refine WL.bin rfl rfl (binv_ptr_eql (by kernel_rfl) _) rfl ?_
    refine (WL.done (WX.next ?_))
    refine WC.cond rfl (fun c2 => ?_) (fun c2 => ?_)
    ·
      refine WC.seq ?_
      refine WC.region ?_
      refine WL.assign rfl rfl ?_
      refine (WL.done (WX.next ?_))
      refine (WC.ret (WX.then_ret ?_))
      refine ret_one rfl rfl ?_
      refine ⟨congrArg (fun b => Ending.returned (Value.bool b)) (by exact decide_eq_true (by omega)), H.weaken (List.nil_sublist _)⟩
    ·
      refine (WC.skip (WX.next ?_))
      refine WC.seq ?_
      replace H := H.drew
      refine WC.held (SX (World.drew wx) []) (by kernel_rfl) ?_
      generalize World.drew wx = wb at H ⊢
      have HB := St.refl wb
      refine WH.take 0 rfl (by kernel_rfl) (by kernel_rfl) (by kernel_rfl) (fun _ _ _ h => h) ⟨_, HB⟩ (fun w' hS => EX.move rfl) rfl ?_
      refine WH.take 1 rfl (by kernel_rfl) (by kernel_rfl) (by kernel_rfl) (fun _ _ _ h => h) ⟨_, HB⟩ (fun w' hS => EX.move rfl) rfl ?_
      refine WH.take 2 rfl (by kernel_rfl) (by kernel_rfl) (by kernel_rfl) (fun _ _ _ h => h) ⟨_, HB⟩ (fun w' hS => EX.idxSlc (k := 0) slc43 rfl rfl (by rfl) (by omega)) rfl ?_
      refine WH.take 3 rfl (by kernel_rfl) (by kernel_rfl) (by kernel_rfl) (fun _ _ _ h => h) ⟨_, HB⟩ (fun w' hS => EX.load rfl (Rd.ends0 hre (hS.block (H.blk 2 rfl) (by simp)) (by omega))) rfl ?_
      refine WH.take 4 rfl (by kernel_rfl) (by kernel_rfl) (by kernel_rfl) (fun _ _ _ h => h) ⟨_, HB⟩ (fun w' hS => EX.fieldAddr fld70_3 rfl) rfl ?_
      refine WH.take 5 rfl (by kernel_rfl) (by kernel_rfl) (by kernel_rfl) (fun _ _ _ h => h) ⟨_, HB⟩ (fun w' hS => EX.load rfl (hS.rd1 ty3 (H.blk 0 rfl) (by simp) rfl)) rfl ?_
      refine WH.take 6 rfl (by kernel_rfl) (by kernel_rfl) (by kernel_rfl) (fun _ _ _ h => h) ⟨_, HB⟩ (fun w' hS => EX.fieldAddr fld70_4 rfl) rfl ?_
      refine WH.take 7 rfl (by kernel_rfl) (by kernel_rfl) (by kernel_rfl) (fun _ _ _ h => h) ⟨_, HB⟩ (fun w' hS => EX.load rfl (hS.rd1 ty3 (H.blk 0 rfl) (by simp) rfl)) rfl ?_
      refine WH.hard 8 rfl (by kernel_rfl) ?_
      refine WL.call call48 rfl rfl ?_
      refine Calls.mono (after_any 22 x.at_ x.cut (by omega) (by omega) hx.at_ hx.cut (WV.good hx (by omega)) (plain4_evs x _) (by omega) hI ((hI.mem H hL).old HB) ((hL.of0 H).of0 HB)) ?_
      rintro _ wx ⟨p2, R2, rfl, hI2, Hc⟩
      refine ⟨_, rfl, ?_⟩
      replace HB := HB.call Hc
      rw [hleft] at hI2
      rw [show ptOf (x.mem x.cats.length).evs.length 22 x.at_ = 22 * (j + 1) + q from hpt]
      refine WL.done (WX.heldOn ⟨_, HB⟩ ?_)
      refine WH.take 9 rfl (by kernel_rfl) (by kernel_rfl) (by kernel_rfl) (fun _ _ _ h => h) ⟨_, HB⟩ (fun w' hS => EX.move rfl) rfl ?_
      refine WH.take 10 rfl (by kernel_rfl) (by kernel_rfl) (by kernel_rfl) (fun _ _ _ h => h) ⟨_, HB⟩ (fun w' hS => EX.extract rfl rfl) rfl ?_
      refine WH.take 11 rfl (by kernel_rfl) (by kernel_rfl) (by kernel_rfl) (fun _ _ _ h => h) ⟨_, HB⟩ (fun w' hS => EX.extract rfl rfl) rfl ?_
      refine WH.take 12 rfl (by kernel_rfl) (by kernel_rfl) (by kernel_rfl) (fun _ _ _ h => h) ⟨_, HB⟩ (fun w' hS => EX.assign rfl) rfl ?_
      refine WH.take 13 rfl (by kernel_rfl) (by kernel_rfl) (by kernel_rfl) (fun _ _ _ h => h) ⟨_, HB⟩ (fun w' hS => EX.assign rfl) rfl ?_
      refine WH.done (by kernel_rfl) ?_
      replace H := H.call HB
      replace H : St w [] wx ((((b1, .cells x.cells 70) :: (br, .cells curr 77) :: [(be, .cells cure 3)]) ++ R.hp) ++ R2.hp) := H.perm (by classical exact List.perm_iff_count.2 (fun q => by simp only [List.count_append, List.count_cons, List.count_nil, Nat.add_zero, Nat.zero_add]; ac_rfl))
      refine WX.next ?_
      refine WC.seq ?_
      refine WC.seq ?_
      refine WC.region ?_
      refine WL.move rfl rfl ?_
      refine WL.bin rfl rfl (binv_ptr_eql (by kernel_rfl) _) rfl ?_
      refine (WL.done (WX.next ?_))
      refine WC.cond_false rfl (rfl) ?_
      refine (WC.skip (WX.next ?_))
      refine WC.seq ?_
      refine WC.region ?_
      refine WL.assign rfl rfl ?_
      refine (WL.done (WX.next ?_))
      refine WC.seq ?_
      refine WC.seq ?_
      refine WC.region ?_
      refine WL.assign rfl rfl ?_
      refine (WL.done (WX.next ?_))
      refine WC.block ?_
      -- loop 1: changed [9, 10] kept [3, 5, 6, 7, 8]
      refine WC.loop (Sub.cons (t := 3) rfl (Sub.cons (t := 5) rfl (Sub.cons (t := 6) rfl (Sub.cons (t := 7) rfl (Sub.cons (t := 8) rfl (Sub.nil _)))))) (fun i : Nat => [(9, .int .i64 ((dn i j : Nat) : Int)), (10, .int .i64 (i : Int))]) (fun q9 i wx => q9 = (x.cats.length + 1) - i ∧ i ≤ x.cats.length + 1 ∧ St w [] wx ((((b1, .cells x.cells 70) :: (br, .cells curr 77) :: [(be, .cells cure 3)]) ++ R.hp) ++ R2.hp)) (x.cats.length + 1) (0) (Sub.cons (t := 9) (by rfl) (Sub.cons (t := 10) (by rfl) (Sub.nil _))) (⟨rfl, Nat.zero_le _, H⟩) ?_
      rintro q9 i wx hJ N hN
      clear H
      obtain ⟨rfl, hi, H⟩ := hJ
      refine WC.seq ?_
      refine WC.seq ?_
      refine WC.region ?_
      refine WL.move rfl rfl ?_
      refine WL.move rfl rfl ?_
      refine WL.lenSlc isl43 rfl rfl ?_
      refine WL.bin rfl rfl binv_lss rfl ?_
      refine (WL.done (WX.next ?_))
      refine WC.cond_dec rfl (fun c4 => ?_) (fun c4 => ?_)
      ·
        change (i : Int) < ((x.cats.length + 1 : Nat) : Int) at c4
        refine (WC.skip (WX.next ?_))
        refine WC.seq ?_
        refine WC.block ?_
        refine WC.seq ?_
        refine WC.region ?_
        refine WL.move rfl rfl ?_
        refine WL.move rfl rfl ?_
        refine WL.idxSlc (k := i) slc43 rfl rfl (by rfl) (by omega) rfl ?_
        refine WL.load rfl (Rd.ends hre (H.blk 2 rfl) (by omega)) rfl ?_
        refine WL.move rfl rfl ?_
        refine WL.bin rfl rfl binv_leq rfl ?_
        refine (WL.done (WX.next ?_))
        refine WC.cond_dec rfl (fun c5 => ?_) (fun c5 => ?_)
        ·
          change 22 * ((i + 1 : Nat) : Int) ≤ ((22 * (j + 1) + q : Nat) : Int) at c5
          refine WC.region ?_
          refine WL.move rfl rfl ?_
          refine WL.assign rfl rfl ?_
          refine (WL.done (WX.block_normal (WX.next ?_)))
          refine WC.region ?_
          refine WL.move rfl rfl ?_
          refine WL.bin rfl rfl (iadd (by omega) (by omega)) rfl ?_
          refine WL.assign rfl rfl ?_
          refine (WL.done (WX.round ?_))
          exact hN _ (i + 1) _ _ (by omega) ⟨rfl, by omega, H⟩ (Sub.cons (t := 9) (congrArg (fun z : Nat => some (Value.int .i64 (z : Int))) (show i = dn (i + 1) j by unfold dn; rw [if_neg (by omega)]; omega)) (Sub.cons (t := 10) rfl (Sub.nil _))) (Sub.cons (t := 3) rfl (Sub.cons (t := 5) rfl (Sub.cons (t := 6) rfl (Sub.cons (t := 7) rfl (Sub.cons (t := 8) rfl (Sub.nil _))))))
        ·
          change ¬ 22 * ((i + 1 : Nat) : Int) ≤ ((22 * (j + 1) + q : Nat) : Int) at c5
          refine (WC.skip (WX.block_normal (WX.next ?_)))
          refine WC.region ?_
          refine WL.move rfl rfl ?_
          refine WL.bin rfl rfl (iadd (by omega) (by omega)) rfl ?_
          refine WL.assign rfl rfl ?_
          refine (WL.done (WX.round ?_))
          exact hN _ (i + 1) _ _ (by omega) ⟨rfl, by omega, H⟩ (Sub.cons (t := 9) (congrArg (fun z : Nat => some (Value.int .i64 (z : Int))) (show dn i j = dn (i + 1) j by unfold dn; rw [if_neg (by omega), if_neg (by omega)]; omega)) (Sub.cons (t := 10) rfl (Sub.nil _))) (Sub.cons (t := 3) rfl (Sub.cons (t := 5) rfl (Sub.cons (t := 6) rfl (Sub.cons (t := 7) rfl (Sub.cons (t := 8) rfl (Sub.nil _))))))
      ·
        change ¬ (i : Int) < ((x.cats.length + 1 : Nat) : Int) at c4
        obtain rfl : i = x.cats.length + 1 := by omega
        rw [show dn (x.cats.length + 1) j = j by unfold dn; rw [if_neg (by omega)]; omega]
        refine (WC.exit (WX.then_exit (WX.then_exit (WX.block_exit (WX.next ?_)))))
        refine WC.seq ?_
        refine WC.region ?_
        rcases hcase with hcase | hcase
        ·
          refine WL.move rfl rfl ?_
          refine WL.call call49 rfl rfl ?_
          refine Calls.mono (rread_any (L := ((b1, .cells x.cells 70) :: (br, .cells curr 77) :: [(be, .cells cure 3)]) ++ R.hp) hI2 H hG) ?_
          rintro _ wx ⟨rfl, H⟩
          refine ⟨_, rfl, ?_⟩
          rw [hrd]
          refine WL.move rfl rfl ?_
          refine WL.extract rfl rfl rfl ?_
          refine WL.extract rfl rfl rfl ?_
          refine WL.extract rfl rfl rfl ?_
          refine WL.alloc H zer77 rfl ?_
          intro b11 wx hb11 hge11 H
          refine WL.storeArr (ws' := r) H ty77 0 rfl rfl rfl rfl hrN.1 ?_
          intro wx H
          refine WL.assign rfl rfl ?_
          refine WL.assign rfl rfl ?_
          refine (WL.done (WX.next ?_))
          refine WC.seq ?_
          replace H := H.drew
          refine WC.held (SX (World.drew wx) []) (by kernel_rfl) ?_
          generalize World.drew wx = wb at H ⊢
          have HB := St.refl wb
          refine WH.take 0 rfl (by kernel_rfl) (by kernel_rfl) (by kernel_rfl) (fun _ _ _ h => h) ⟨_, HB⟩ (fun w' hS => EX.move rfl) rfl ?_
          refine WH.take 1 rfl (by kernel_rfl) (by kernel_rfl) (by kernel_rfl) (fun _ _ _ h => h) ⟨_, HB⟩ (fun w' hS => EX.bin rfl rfl (iadd (by omega) (by omega))) rfl ?_
          refine WH.take 2 rfl (by kernel_rfl) (by kernel_rfl) (by kernel_rfl) (fun _ _ _ h => h) ⟨_, HB⟩ (fun w' hS => EX.move rfl) rfl ?_
          refine WH.take 3 rfl (by kernel_rfl) (by kernel_rfl) (by kernel_rfl) (fun _ _ _ h => h) ⟨_, HB⟩ (fun w' hS => EX.lenSlc isl71 rfl) rfl ?_
          refine WH.take 4 rfl (by kernel_rfl) (by kernel_rfl) (by kernel_rfl) (fun _ _ _ h => h) ⟨_, HB⟩ (fun w' hS => EX.bin rfl rfl (binv_lss)) rfl ?_
          refine WH.take 5 rfl (by kernel_rfl) (by kernel_rfl) (by kernel_rfl) (fun _ _ _ h => h) ⟨_, HB⟩ (fun w' hS => EX.move rfl) rfl ?_
          refine WH.splitD (t := 67) rfl (fun g1 => ?_) (fun g1 => ?_)
          ·
            refine WH.takeYes 6 rfl (by kernel_rfl) (by kernel_rfl) (by kernel_rfl) (fun _ _ _ h => h) ⟨_, HB⟩ rfl rfl (fun w' hS => EX.load rfl (hS.rdArr ty77 (H.blk 0 rfl) (by simp) hrN.1)) rfl ?_
            refine WH.takeYes 7 rfl (by kernel_rfl) (by kernel_rfl) (by kernel_rfl) (fun _ _ _ h => h) ⟨_, HB⟩ rfl rfl (fun w' hS => EX.move rfl) rfl ?_
            refine WH.takeYes 8 rfl (by kernel_rfl) (by kernel_rfl) (by kernel_rfl) (fun _ _ _ h => h) ⟨_, HB⟩ rfl rfl (fun w' hS => EX.move rfl) rfl ?_
            refine WH.takeYes 9 rfl (by kernel_rfl) (by kernel_rfl) (by kernel_rfl) (fun _ _ _ h => h) ⟨_, HB⟩ rfl rfl (fun w' hS => EX.bin rfl rfl (iadd (by omega) (by omega))) rfl ?_
            refine WH.takeYes 10 rfl (by kernel_rfl) (by kernel_rfl) (by kernel_rfl) (fun _ _ _ h => h) ⟨_, HB⟩ rfl rfl (fun w' hS => EX.idxSlc (k := j + 1) slc71 rfl rfl (by rfl) (by omega)) rfl ?_
            refine WH.takeYes 11 rfl (by kernel_rfl) (by kernel_rfl) (by kernel_rfl) (fun _ _ _ h => h) ⟨_, HB⟩ rfl rfl (fun w' hS => EX.load rfl (Rd.root hrr (hS.block (H.blk 2 rfl) (by simp)) (by omega))) rfl ?_
            refine WH.takeYes 12 rfl (by kernel_rfl) (by kernel_rfl) (by kernel_rfl) (fun _ _ _ h => h) ⟨_, HB⟩ rfl rfl (fun w' hS => EX.bin rfl rfl (binv_agg_eql eqI77 (by kernel_rfl) hrN.1 (root_len x _))) rfl ?_
            refine WH.take 13 rfl (by kernel_rfl) (by kernel_rfl) (by kernel_rfl) (fun _ _ _ h => h) ⟨_, HB⟩ (fun w' hS => EX.pickT rfl rfl) rfl ?_
            refine WH.take 14 rfl (by kernel_rfl) (by kernel_rfl) (by kernel_rfl) (fun _ _ _ h => h) ⟨_, HB⟩ (fun w' hS => EX.move rfl) rfl ?_
            refine WH.split (t := 76) rfl (fun g2 => ?_) (fun g2 => ?_)
            ·
              refine WH.takeYes 15 rfl (by kernel_rfl) (by kernel_rfl) (by kernel_rfl) (fun _ _ _ h => h) ⟨_, HB⟩ rfl rfl (fun w' hS => EX.move rfl) rfl ?_
              refine WH.takeYes 16 rfl (by kernel_rfl) (by kernel_rfl) (by kernel_rfl) (fun _ _ _ h => h) ⟨_, HB⟩ rfl rfl (fun w' hS => EX.move rfl) rfl ?_
              refine WH.takeYes 17 rfl (by kernel_rfl) (by kernel_rfl) (by kernel_rfl) (fun _ _ _ h => h) ⟨_, HB⟩ rfl rfl (fun w' hS => EX.move rfl) rfl ?_
              refine WH.takeYes 18 rfl (by kernel_rfl) (by kernel_rfl) (by kernel_rfl) (fun _ _ _ h => h) ⟨_, HB⟩ rfl rfl (fun w' hS => EX.idxSlc (k := j) slc43 rfl rfl (by rfl) (by omega)) rfl ?_
              refine WH.takeYes 19 rfl (by kernel_rfl) (by kernel_rfl) (by kernel_rfl) (fun _ _ _ h => h) ⟨_, HB⟩ rfl rfl (fun w' hS => EX.load rfl (Rd.ends hre (hS.block (H.blk 3 rfl) (by simp)) (by omega))) rfl ?_
              refine WH.takeYes 20 rfl (by kernel_rfl) (by kernel_rfl) (by kernel_rfl) (fun _ _ _ h => h) ⟨_, HB⟩ rfl rfl (fun w' hS => EX.bin rfl rfl (binv_gtr)) rfl ?_
              refine WH.take 21 rfl (by kernel_rfl) (by kernel_rfl) (by kernel_rfl) (fun _ _ _ h => h) ⟨_, HB⟩ (fun w' hS => EX.pickT rfl rfl) rfl ?_
              refine WH.take 22 rfl (by kernel_rfl) (by kernel_rfl) (by kernel_rfl) (fun _ _ _ h => h) ⟨_, HB⟩ (fun w' hS => EX.assign rfl) rfl ?_
              refine WH.done (by kernel_rfl) ?_
              replace H := H.call HB
              refine WX.next ?_
              refine WC.seq ?_
              replace H := H.drew
              refine WC.held (SX (World.drew wb) []) (by kernel_rfl) ?_
              generalize World.drew wb = wb at H ⊢
              have HB := St.refl wb
              refine WH.take 0 rfl (by kernel_rfl) (by kernel_rfl) (by kernel_rfl) (fun _ _ _ h => h) ⟨_, HB⟩ (fun w' hS => EX.move rfl) rfl ?_
              refine WH.take 1 rfl (by kernel_rfl) (by kernel_rfl) (by kernel_rfl) (fun _ _ _ h => h) ⟨_, HB⟩ (fun w' hS => EX.move rfl) rfl ?_
              refine WH.split (t := 85) rfl (fun g3 => ?_) (fun g3 => ?_)
              ·
                refine WH.takeYes 2 rfl (by kernel_rfl) (by kernel_rfl) (by kernel_rfl) (fun _ _ _ h => h) ⟨_, HB⟩ rfl rfl (fun w' hS => EX.move rfl) rfl ?_
                refine WH.takeYes 3 rfl (by kernel_rfl) (by kernel_rfl) (by kernel_rfl) (fun _ _ _ h => h) ⟨_, HB⟩ rfl rfl (fun w' hS => EX.bin rfl rfl (binv_eql)) rfl ?_
                refine WH.take 4 rfl (by kernel_rfl) (by kernel_rfl) (by kernel_rfl) (fun _ _ _ h => h) ⟨_, HB⟩ (fun w' hS => EX.pickT rfl rfl) rfl ?_
                refine WH.take 5 rfl (by kernel_rfl) (by kernel_rfl) (by kernel_rfl) (fun _ _ _ h => h) ⟨_, HB⟩ (fun w' hS => EX.move rfl) rfl ?_
                refine WH.splitD (t := 89) rfl (fun g4 => ?_) (fun g4 => ?_)
                ·
                  refine WH.takeYes 6 rfl (by kernel_rfl) (by kernel_rfl) (by kernel_rfl) (fun _ _ _ h => h) ⟨_, HB⟩ rfl rfl (fun w' hS => EX.load rfl (hS.rdArr ty77 (H.blk 0 rfl) (by simp) hrN.1)) rfl ?_
                  refine WH.takeYes 7 rfl (by kernel_rfl) (by kernel_rfl) (by kernel_rfl) (fun _ _ _ h => h) ⟨_, HB⟩ rfl rfl (fun w' hS => EX.move rfl) rfl ?_
                  refine WH.takeYes 8 rfl (by kernel_rfl) (by kernel_rfl) (by kernel_rfl) (fun _ _ _ h => h) ⟨_, HB⟩ rfl rfl (fun w' hS => EX.move rfl) rfl ?_
                  refine WH.takeYes 9 rfl (by kernel_rfl) (by kernel_rfl) (by kernel_rfl) (fun _ _ _ h => h) ⟨_, HB⟩ rfl rfl (fun w' hS => EX.idxSlc (k := j) slc71 rfl rfl (by rfl) (by omega)) rfl ?_
                  refine WH.takeYes 10 rfl (by kernel_rfl) (by kernel_rfl) (by kernel_rfl) (fun _ _ _ h => h) ⟨_, HB⟩ rfl rfl (fun w' hS => EX.load rfl (Rd.root hrr (hS.block (H.blk 2 rfl) (by simp)) (by omega))) rfl ?_
                  refine WH.takeYes 11 rfl (by kernel_rfl) (by kernel_rfl) (by kernel_rfl) (fun _ _ _ h => h) ⟨_, HB⟩ rfl rfl (fun w' hS => EX.bin rfl rfl (binv_agg_eql eqI77 (by kernel_rfl) hrN.1 (root_len x _))) rfl ?_
                  refine WH.takeYes 12 rfl (by kernel_rfl) (by kernel_rfl) (by kernel_rfl) (fun _ _ _ h => h) ⟨_, HB⟩ rfl rfl (fun w' hS => EX.move rfl) rfl ?_
                  refine WH.split (t := 96) rfl (fun g5 => ?_) (fun g5 => ?_)
                  ·
                    refine WH.takeNo 13 rfl (by kernel_rfl) (by kernel_rfl) (by kernel_rfl) (fun _ _ _ h => h) ⟨_, HB⟩ rfl rfl rfl ?_
                    refine WH.takeYes 14 rfl (by kernel_rfl) (by kernel_rfl) (by kernel_rfl) (fun _ _ _ h => h) ⟨_, HB⟩ rfl rfl (fun w' hS => EX.pickT rfl rfl) rfl ?_
                    refine WH.take 15 rfl (by kernel_rfl) (by kernel_rfl) (by kernel_rfl) (fun _ _ _ h => h) ⟨_, HB⟩ (fun w' hS => EX.pickT rfl rfl) rfl ?_
                    refine WH.take 16 rfl (by kernel_rfl) (by kernel_rfl) (by kernel_rfl) (fun _ _ _ h => h) ⟨_, HB⟩ (fun w' hS => EX.assign rfl) rfl ?_
                    refine WH.done (by kernel_rfl) ?_
                    replace H := H.call HB
                    refine WX.next ?_
                    refine (WC.ret ?_)
                    refine ret_one rfl rfl ?_
                    refine ⟨congrArg (fun b => Ending.returned (Value.bool b)) (by rfl), H.weaken (List.nil_sublist _)⟩
                  ·
                    rw [hcase, beq_self_eq_true] at g5; cases g5
                ·
                  exact absurd rfl g4
              ·
                cases g3
            ·
              refine WH.takeNo 15 rfl (by kernel_rfl) (by kernel_rfl) (by kernel_rfl) (fun _ _ _ h => h) ⟨_, HB⟩ rfl rfl rfl ?_
              refine WH.takeNo 16 rfl (by kernel_rfl) (by kernel_rfl) (by kernel_rfl) (fun _ _ _ h => h) ⟨_, HB⟩ rfl rfl rfl ?_
              refine WH.takeNo 17 rfl (by kernel_rfl) (by kernel_rfl) (by kernel_rfl) (fun _ _ _ h => h) ⟨_, HB⟩ rfl rfl rfl ?_
              refine WH.takeNo 18 rfl (by kernel_rfl) (by kernel_rfl) (by kernel_rfl) (fun _ _ _ h => h) ⟨_, HB⟩ rfl rfl rfl ?_
              refine WH.takeNo 19 rfl (by kernel_rfl) (by kernel_rfl) (by kernel_rfl) (fun _ _ _ h => h) ⟨_, HB⟩ rfl rfl rfl ?_
              refine WH.takeNo 20 rfl (by kernel_rfl) (by kernel_rfl) (by kernel_rfl) (fun _ _ _ h => h) ⟨_, HB⟩ rfl rfl rfl ?_
              refine WH.take 21 rfl (by kernel_rfl) (by kernel_rfl) (by kernel_rfl) (fun _ _ _ h => h) ⟨_, HB⟩ (fun w' hS => EX.pickF rfl rfl) rfl ?_
              refine WH.take 22 rfl (by kernel_rfl) (by kernel_rfl) (by kernel_rfl) (fun _ _ _ h => h) ⟨_, HB⟩ (fun w' hS => EX.assign rfl) rfl ?_
              refine WH.done (by kernel_rfl) ?_
              replace H := H.call HB
              refine WX.next ?_
              refine WC.seq ?_
              replace H := H.drew
              refine WC.held (SX (World.drew wb) []) (by kernel_rfl) ?_
              generalize World.drew wb = wb at H ⊢
              have HB := St.refl wb
              refine WH.take 0 rfl (by kernel_rfl) (by kernel_rfl) (by kernel_rfl) (fun _ _ _ h => h) ⟨_, HB⟩ (fun w' hS => EX.move rfl) rfl ?_
              refine WH.take 1 rfl (by kernel_rfl) (by kernel_rfl) (by kernel_rfl) (fun _ _ _ h => h) ⟨_, HB⟩ (fun w' hS => EX.move rfl) rfl ?_
              refine WH.split (t := 85) rfl (fun g6 => ?_) (fun g6 => ?_)
              ·
                refine WH.takeYes 2 rfl (by kernel_rfl) (by kernel_rfl) (by kernel_rfl) (fun _ _ _ h => h) ⟨_, HB⟩ rfl rfl (fun w' hS => EX.move rfl) rfl ?_
                refine WH.takeYes 3 rfl (by kernel_rfl) (by kernel_rfl) (by kernel_rfl) (fun _ _ _ h => h) ⟨_, HB⟩ rfl rfl (fun w' hS => EX.bin rfl rfl (binv_eql)) rfl ?_
                refine WH.take 4 rfl (by kernel_rfl) (by kernel_rfl) (by kernel_rfl) (fun _ _ _ h => h) ⟨_, HB⟩ (fun w' hS => EX.pickT rfl rfl) rfl ?_
                refine WH.take 5 rfl (by kernel_rfl) (by kernel_rfl) (by kernel_rfl) (fun _ _ _ h => h) ⟨_, HB⟩ (fun w' hS => EX.move rfl) rfl ?_
                refine WH.splitD (t := 89) rfl (fun g7 => ?_) (fun g7 => ?_)
                ·
                  refine WH.takeYes 6 rfl (by kernel_rfl) (by kernel_rfl) (by kernel_rfl) (fun _ _ _ h => h) ⟨_, HB⟩ rfl rfl (fun w' hS => EX.load rfl (hS.rdArr ty77 (H.blk 0 rfl) (by simp) hrN.1)) rfl ?_
                  refine WH.takeYes 7 rfl (by kernel_rfl) (by kernel_rfl) (by kernel_rfl) (fun _ _ _ h => h) ⟨_, HB⟩ rfl rfl (fun w' hS => EX.move rfl) rfl ?_
                  refine WH.takeYes 8 rfl (by kernel_rfl) (by kernel_rfl) (by kernel_rfl) (fun _ _ _ h => h) ⟨_, HB⟩ rfl rfl (fun w' hS => EX.move rfl) rfl ?_
                  refine WH.takeYes 9 rfl (by kernel_rfl) (by kernel_rfl) (by kernel_rfl) (fun _ _ _ h => h) ⟨_, HB⟩ rfl rfl (fun w' hS => EX.idxSlc (k := j) slc71 rfl rfl (by rfl) (by omega)) rfl ?_
                  refine WH.takeYes 10 rfl (by kernel_rfl) (by kernel_rfl) (by kernel_rfl) (fun _ _ _ h => h) ⟨_, HB⟩ rfl rfl (fun w' hS => EX.load rfl (Rd.root hrr (hS.block (H.blk 2 rfl) (by simp)) (by omega))) rfl ?_
                  refine WH.takeYes 11 rfl (by kernel_rfl) (by kernel_rfl) (by kernel_rfl) (fun _ _ _ h => h) ⟨_, HB⟩ rfl rfl (fun w' hS => EX.bin rfl rfl (binv_agg_eql eqI77 (by kernel_rfl) hrN.1 (root_len x _))) rfl ?_
                  refine WH.takeYes 12 rfl (by kernel_rfl) (by kernel_rfl) (by kernel_rfl) (fun _ _ _ h => h) ⟨_, HB⟩ rfl rfl (fun w' hS => EX.move rfl) rfl ?_
                  refine WH.split (t := 96) rfl (fun g8 => ?_) (fun g8 => ?_)
                  ·
                    refine WH.takeNo 13 rfl (by kernel_rfl) (by kernel_rfl) (by kernel_rfl) (fun _ _ _ h => h) ⟨_, HB⟩ rfl rfl rfl ?_
                    refine WH.takeYes 14 rfl (by kernel_rfl) (by kernel_rfl) (by kernel_rfl) (fun _ _ _ h => h) ⟨_, HB⟩ rfl rfl (fun w' hS => EX.pickT rfl rfl) rfl ?_
                    refine WH.take 15 rfl (by kernel_rfl) (by kernel_rfl) (by kernel_rfl) (fun _ _ _ h => h) ⟨_, HB⟩ (fun w' hS => EX.pickT rfl rfl) rfl ?_
                    refine WH.take 16 rfl (by kernel_rfl) (by kernel_rfl) (by kernel_rfl) (fun _ _ _ h => h) ⟨_, HB⟩ (fun w' hS => EX.assign rfl) rfl ?_
                    refine WH.done (by kernel_rfl) ?_
                    replace H := H.call HB
                    refine WX.next ?_
                    refine (WC.ret ?_)
                    refine ret_one rfl rfl ?_
                    refine ⟨congrArg (fun b => Ending.returned (Value.bool b)) (by rfl), H.weaken (List.nil_sublist _)⟩
                  ·
                    rw [hcase, beq_self_eq_true] at g8; cases g8
                ·
                  exact absurd rfl g7
              ·
                cases g6
          ·
            refine WH.takeNo 6 rfl (by kernel_rfl) (by kernel_rfl) (by kernel_rfl) (fun _ _ _ h => h) ⟨_, HB⟩ rfl rfl rfl ?_
            refine WH.takeNo 7 rfl (by kernel_rfl) (by kernel_rfl) (by kernel_rfl) (fun _ _ _ h => h) ⟨_, HB⟩ rfl rfl rfl ?_
            refine WH.takeNo 8 rfl (by kernel_rfl) (by kernel_rfl) (by kernel_rfl) (fun _ _ _ h => h) ⟨_, HB⟩ rfl rfl rfl ?_
            refine WH.takeNo 9 rfl (by kernel_rfl) (by kernel_rfl) (by kernel_rfl) (fun _ _ _ h => h) ⟨_, HB⟩ rfl rfl rfl ?_
            refine WH.takeNo 10 rfl (by kernel_rfl) (by kernel_rfl) (by kernel_rfl) (fun _ _ _ h => h) ⟨_, HB⟩ rfl rfl rfl ?_
            refine WH.takeNo 11 rfl (by kernel_rfl) (by kernel_rfl) (by kernel_rfl) (fun _ _ _ h => h) ⟨_, HB⟩ rfl rfl rfl ?_
            refine WH.takeNo 12 rfl (by kernel_rfl) (by kernel_rfl) (by kernel_rfl) (fun _ _ _ h => h) ⟨_, HB⟩ rfl rfl rfl ?_
            refine WH.take 13 rfl (by kernel_rfl) (by kernel_rfl) (by kernel_rfl) (fun _ _ _ h => h) ⟨_, HB⟩ (fun w' hS => EX.pickF rfl rfl) rfl ?_
            refine WH.take 14 rfl (by kernel_rfl) (by kernel_rfl) (by kernel_rfl) (fun _ _ _ h => h) ⟨_, HB⟩ (fun w' hS => EX.move rfl) rfl ?_
            refine WH.takeNo 15 rfl (by kernel_rfl) (by kernel_rfl) (by kernel_rfl) (fun _ _ _ h => h) ⟨_, HB⟩ rfl rfl rfl ?_
            refine WH.takeNo 16 rfl (by kernel_rfl) (by kernel_rfl) (by kernel_rfl) (fun _ _ _ h => h) ⟨_, HB⟩ rfl rfl rfl ?_
            refine WH.takeNo 17 rfl (by kernel_rfl) (by kernel_rfl) (by kernel_rfl) (fun _ _ _ h => h) ⟨_, HB⟩ rfl rfl rfl ?_
            refine WH.takeNo 18 rfl (by kernel_rfl) (by kernel_rfl) (by kernel_rfl) (fun _ _ _ h => h) ⟨_, HB⟩ rfl rfl rfl ?_
            refine WH.takeNo 19 rfl (by kernel_rfl) (by kernel_rfl) (by kernel_rfl) (fun _ _ _ h => h) ⟨_, HB⟩ rfl rfl rfl ?_
            refine WH.takeNo 20 rfl (by kernel_rfl) (by kernel_rfl) (by kernel_rfl) (fun _ _ _ h => h) ⟨_, HB⟩ rfl rfl rfl ?_
            refine WH.take 21 rfl (by kernel_rfl) (by kernel_rfl) (by kernel_rfl) (fun _ _ _ h => h) ⟨_, HB⟩ (fun w' hS => EX.pickF rfl rfl) rfl ?_
            refine WH.take 22 rfl (by kernel_rfl) (by kernel_rfl) (by kernel_rfl) (fun _ _ _ h => h) ⟨_, HB⟩ (fun w' hS => EX.assign rfl) rfl ?_
            refine WH.done (by kernel_rfl) ?_
            replace H := H.call HB
            refine WX.next ?_
            refine WC.seq ?_
            replace H := H.drew
            refine WC.held (SX (World.drew wb) []) (by kernel_rfl) ?_
            generalize World.drew wb = wb at H ⊢
            have HB := St.refl wb
            refine WH.take 0 rfl (by kernel_rfl) (by kernel_rfl) (by kernel_rfl) (fun _ _ _ h => h) ⟨_, HB⟩ (fun w' hS => EX.move rfl) rfl ?_
            refine WH.take 1 rfl (by kernel_rfl) (by kernel_rfl) (by kernel_rfl) (fun _ _ _ h => h) ⟨_, HB⟩ (fun w' hS => EX.move rfl) rfl ?_
            refine WH.split (t := 85) rfl (fun g9 => ?_) (fun g9 => ?_)
            ·
              refine WH.takeYes 2 rfl (by kernel_rfl) (by kernel_rfl) (by kernel_rfl) (fun _ _ _ h => h) ⟨_, HB⟩ rfl rfl (fun w' hS => EX.move rfl) rfl ?_
              refine WH.takeYes 3 rfl (by kernel_rfl) (by kernel_rfl) (by kernel_rfl) (fun _ _ _ h => h) ⟨_, HB⟩ rfl rfl (fun w' hS => EX.bin rfl rfl (binv_eql)) rfl ?_
              refine WH.take 4 rfl (by kernel_rfl) (by kernel_rfl) (by kernel_rfl) (fun _ _ _ h => h) ⟨_, HB⟩ (fun w' hS => EX.pickT rfl rfl) rfl ?_
              refine WH.take 5 rfl (by kernel_rfl) (by kernel_rfl) (by kernel_rfl) (fun _ _ _ h => h) ⟨_, HB⟩ (fun w' hS => EX.move rfl) rfl ?_
              refine WH.splitD (t := 89) rfl (fun g10 => ?_) (fun g10 => ?_)
              ·
                refine WH.takeYes 6 rfl (by kernel_rfl) (by kernel_rfl) (by kernel_rfl) (fun _ _ _ h => h) ⟨_, HB⟩ rfl rfl (fun w' hS => EX.load rfl (hS.rdArr ty77 (H.blk 0 rfl) (by simp) hrN.1)) rfl ?_
                refine WH.takeYes 7 rfl (by kernel_rfl) (by kernel_rfl) (by kernel_rfl) (fun _ _ _ h => h) ⟨_, HB⟩ rfl rfl (fun w' hS => EX.move rfl) rfl ?_
                refine WH.takeYes 8 rfl (by kernel_rfl) (by kernel_rfl) (by kernel_rfl) (fun _ _ _ h => h) ⟨_, HB⟩ rfl rfl (fun w' hS => EX.move rfl) rfl ?_
                refine WH.takeYes 9 rfl (by kernel_rfl) (by kernel_rfl) (by kernel_rfl) (fun _ _ _ h => h) ⟨_, HB⟩ rfl rfl (fun w' hS => EX.idxSlc (k := j) slc71 rfl rfl (by rfl) (by omega)) rfl ?_
                refine WH.takeYes 10 rfl (by kernel_rfl) (by kernel_rfl) (by kernel_rfl) (fun _ _ _ h => h) ⟨_, HB⟩ rfl rfl (fun w' hS => EX.load rfl (Rd.root hrr (hS.block (H.blk 2 rfl) (by simp)) (by omega))) rfl ?_
                refine WH.takeYes 11 rfl (by kernel_rfl) (by kernel_rfl) (by kernel_rfl) (fun _ _ _ h => h) ⟨_, HB⟩ rfl rfl (fun w' hS => EX.bin rfl rfl (binv_agg_eql eqI77 (by kernel_rfl) hrN.1 (root_len x _))) rfl ?_
                refine WH.takeYes 12 rfl (by kernel_rfl) (by kernel_rfl) (by kernel_rfl) (fun _ _ _ h => h) ⟨_, HB⟩ rfl rfl (fun w' hS => EX.move rfl) rfl ?_
                refine WH.split (t := 96) rfl (fun g11 => ?_) (fun g11 => ?_)
                ·
                  refine WH.takeNo 13 rfl (by kernel_rfl) (by kernel_rfl) (by kernel_rfl) (fun _ _ _ h => h) ⟨_, HB⟩ rfl rfl rfl ?_
                  refine WH.takeYes 14 rfl (by kernel_rfl) (by kernel_rfl) (by kernel_rfl) (fun _ _ _ h => h) ⟨_, HB⟩ rfl rfl (fun w' hS => EX.pickT rfl rfl) rfl ?_
                  refine WH.take 15 rfl (by kernel_rfl) (by kernel_rfl) (by kernel_rfl) (fun _ _ _ h => h) ⟨_, HB⟩ (fun w' hS => EX.pickT rfl rfl) rfl ?_
                  refine WH.take 16 rfl (by kernel_rfl) (by kernel_rfl) (by kernel_rfl) (fun _ _ _ h => h) ⟨_, HB⟩ (fun w' hS => EX.assign rfl) rfl ?_
                  refine WH.done (by kernel_rfl) ?_
                  replace H := H.call HB
                  refine WX.next ?_
                  refine (WC.ret ?_)
                  refine ret_one rfl rfl ?_
                  refine ⟨congrArg (fun b => Ending.returned (Value.bool b)) (by rfl), H.weaken (List.nil_sublist _)⟩
                ·
                  rw [hcase, beq_self_eq_true] at g11; cases g11
              ·
                exact absurd rfl g10
            ·
              cases g9
        ·
          refine WL.move rfl rfl ?_
          refine WL.call call49 rfl rfl ?_
          refine Calls.mono (rread_any (L := ((b1, .cells x.cells 70) :: (br, .cells curr 77) :: [(be, .cells cure 3)]) ++ R.hp) hI2 H hG) ?_
          rintro _ wx ⟨rfl, H⟩
          refine ⟨_, rfl, ?_⟩
          rw [hrd]
          refine WL.move rfl rfl ?_
          refine WL.extract rfl rfl rfl ?_
          refine WL.extract rfl rfl rfl ?_
          refine WL.extract rfl rfl rfl ?_
          refine WL.alloc H zer77 rfl ?_
          intro b11 wx hb11 hge11 H
          refine WL.storeArr (ws' := r) H ty77 0 rfl rfl rfl rfl hrN.1 ?_
          intro wx H
          refine WL.assign rfl rfl ?_
          refine WL.assign rfl rfl ?_
          refine (WL.done (WX.next ?_))
          refine WC.seq ?_
          replace H := H.drew
          refine WC.held (SX (World.drew wx) []) (by kernel_rfl) ?_
          generalize World.drew wx = wb at H ⊢
          have HB := St.refl wb
          refine WH.take 0 rfl (by kernel_rfl) (by kernel_rfl) (by kernel_rfl) (fun _ _ _ h => h) ⟨_, HB⟩ (fun w' hS => EX.move rfl) rfl ?_
          refine WH.take 1 rfl (by kernel_rfl) (by kernel_rfl) (by kernel_rfl) (fun _ _ _ h => h) ⟨_, HB⟩ (fun w' hS => EX.bin rfl rfl (iadd (by omega) (by omega))) rfl ?_
          refine WH.take 2 rfl (by kernel_rfl) (by kernel_rfl) (by kernel_rfl) (fun _ _ _ h => h) ⟨_, HB⟩ (fun w' hS => EX.move rfl) rfl ?_
          refine WH.take 3 rfl (by kernel_rfl) (by kernel_rfl) (by kernel_rfl) (fun _ _ _ h => h) ⟨_, HB⟩ (fun w' hS => EX.lenSlc isl71 rfl) rfl ?_
          refine WH.take 4 rfl (by kernel_rfl) (by kernel_rfl) (by kernel_rfl) (fun _ _ _ h => h) ⟨_, HB⟩ (fun w' hS => EX.bin rfl rfl (binv_lss)) rfl ?_
          refine WH.take 5 rfl (by kernel_rfl) (by kernel_rfl) (by kernel_rfl) (fun _ _ _ h => h) ⟨_, HB⟩ (fun w' hS => EX.move rfl) rfl ?_
          refine WH.splitD (t := 67) rfl (fun g12 => ?_) (fun g12 => ?_)
          ·
            refine WH.takeYes 6 rfl (by kernel_rfl) (by kernel_rfl) (by kernel_rfl) (fun _ _ _ h => h) ⟨_, HB⟩ rfl rfl (fun w' hS => EX.load rfl (hS.rdArr ty77 (H.blk 0 rfl) (by simp) hrN.1)) rfl ?_
            refine WH.takeYes 7 rfl (by kernel_rfl) (by kernel_rfl) (by kernel_rfl) (fun _ _ _ h => h) ⟨_, HB⟩ rfl rfl (fun w' hS => EX.move rfl) rfl ?_
            refine WH.takeYes 8 rfl (by kernel_rfl) (by kernel_rfl) (by kernel_rfl) (fun _ _ _ h => h) ⟨_, HB⟩ rfl rfl (fun w' hS => EX.move rfl) rfl ?_
            refine WH.takeYes 9 rfl (by kernel_rfl) (by kernel_rfl) (by kernel_rfl) (fun _ _ _ h => h) ⟨_, HB⟩ rfl rfl (fun w' hS => EX.bin rfl rfl (iadd (by omega) (by omega))) rfl ?_
            refine WH.takeYes 10 rfl (by kernel_rfl) (by kernel_rfl) (by kernel_rfl) (fun _ _ _ h => h) ⟨_, HB⟩ rfl rfl (fun w' hS => EX.idxSlc (k := j + 1) slc71 rfl rfl (by rfl) (by omega)) rfl ?_
            refine WH.takeYes 11 rfl (by kernel_rfl) (by kernel_rfl) (by kernel_rfl) (fun _ _ _ h => h) ⟨_, HB⟩ rfl rfl (fun w' hS => EX.load rfl (Rd.root hrr (hS.block (H.blk 2 rfl) (by simp)) (by omega))) rfl ?_
            refine WH.takeYes 12 rfl (by kernel_rfl) (by kernel_rfl) (by kernel_rfl) (fun _ _ _ h => h) ⟨_, HB⟩ rfl rfl (fun w' hS => EX.bin rfl rfl (binv_agg_eql eqI77 (by kernel_rfl) hrN.1 (root_len x _))) rfl ?_
            refine WH.take 13 rfl (by kernel_rfl) (by kernel_rfl) (by kernel_rfl) (fun _ _ _ h => h) ⟨_, HB⟩ (fun w' hS => EX.pickT rfl rfl) rfl ?_
            refine WH.take 14 rfl (by kernel_rfl) (by kernel_rfl) (by kernel_rfl) (fun _ _ _ h => h) ⟨_, HB⟩ (fun w' hS => EX.move rfl) rfl ?_
            refine WH.split (t := 76) rfl (fun g13 => ?_) (fun g13 => ?_)
            ·
              refine WH.takeYes 15 rfl (by kernel_rfl) (by kernel_rfl) (by kernel_rfl) (fun _ _ _ h => h) ⟨_, HB⟩ rfl rfl (fun w' hS => EX.move rfl) rfl ?_
              refine WH.takeYes 16 rfl (by kernel_rfl) (by kernel_rfl) (by kernel_rfl) (fun _ _ _ h => h) ⟨_, HB⟩ rfl rfl (fun w' hS => EX.move rfl) rfl ?_
              refine WH.takeYes 17 rfl (by kernel_rfl) (by kernel_rfl) (by kernel_rfl) (fun _ _ _ h => h) ⟨_, HB⟩ rfl rfl (fun w' hS => EX.move rfl) rfl ?_
              refine WH.takeYes 18 rfl (by kernel_rfl) (by kernel_rfl) (by kernel_rfl) (fun _ _ _ h => h) ⟨_, HB⟩ rfl rfl (fun w' hS => EX.idxSlc (k := j) slc43 rfl rfl (by rfl) (by omega)) rfl ?_
              refine WH.takeYes 19 rfl (by kernel_rfl) (by kernel_rfl) (by kernel_rfl) (fun _ _ _ h => h) ⟨_, HB⟩ rfl rfl (fun w' hS => EX.load rfl (Rd.ends hre (hS.block (H.blk 3 rfl) (by simp)) (by omega))) rfl ?_
              refine WH.takeYes 20 rfl (by kernel_rfl) (by kernel_rfl) (by kernel_rfl) (fun _ _ _ h => h) ⟨_, HB⟩ rfl rfl (fun w' hS => EX.bin rfl rfl (binv_gtr)) rfl ?_
              refine WH.take 21 rfl (by kernel_rfl) (by kernel_rfl) (by kernel_rfl) (fun _ _ _ h => h) ⟨_, HB⟩ (fun w' hS => EX.pickT rfl rfl) rfl ?_
              refine WH.take 22 rfl (by kernel_rfl) (by kernel_rfl) (by kernel_rfl) (fun _ _ _ h => h) ⟨_, HB⟩ (fun w' hS => EX.assign rfl) rfl ?_
              refine WH.done (by kernel_rfl) ?_
              replace H := H.call HB
              refine WX.next ?_
              refine WC.seq ?_
              replace H := H.drew
              refine WC.held (SX (World.drew wb) []) (by kernel_rfl) ?_
              generalize World.drew wb = wb at H ⊢
              have HB := St.refl wb
              refine WH.take 0 rfl (by kernel_rfl) (by kernel_rfl) (by kernel_rfl) (fun _ _ _ h => h) ⟨_, HB⟩ (fun w' hS => EX.move rfl) rfl ?_
              refine WH.take 1 rfl (by kernel_rfl) (by kernel_rfl) (by kernel_rfl) (fun _ _ _ h => h) ⟨_, HB⟩ (fun w' hS => EX.move rfl) rfl ?_
              refine WH.split (t := 85) rfl (fun g14 => ?_) (fun g14 => ?_)
              ·
                refine WH.takeYes 2 rfl (by kernel_rfl) (by kernel_rfl) (by kernel_rfl) (fun _ _ _ h => h) ⟨_, HB⟩ rfl rfl (fun w' hS => EX.move rfl) rfl ?_
                refine WH.takeYes 3 rfl (by kernel_rfl) (by kernel_rfl) (by kernel_rfl) (fun _ _ _ h => h) ⟨_, HB⟩ rfl rfl (fun w' hS => EX.bin rfl rfl (binv_eql)) rfl ?_
                refine WH.take 4 rfl (by kernel_rfl) (by kernel_rfl) (by kernel_rfl) (fun _ _ _ h => h) ⟨_, HB⟩ (fun w' hS => EX.pickT rfl rfl) rfl ?_
                refine WH.take 5 rfl (by kernel_rfl) (by kernel_rfl) (by kernel_rfl) (fun _ _ _ h => h) ⟨_, HB⟩ (fun w' hS => EX.move rfl) rfl ?_
                refine WH.splitD (t := 89) rfl (fun g15 => ?_) (fun g15 => ?_)
                ·
                  refine WH.takeYes 6 rfl (by kernel_rfl) (by kernel_rfl) (by kernel_rfl) (fun _ _ _ h => h) ⟨_, HB⟩ rfl rfl (fun w' hS => EX.load rfl (hS.rdArr ty77 (H.blk 0 rfl) (by simp) hrN.1)) rfl ?_
                  refine WH.takeYes 7 rfl (by kernel_rfl) (by kernel_rfl) (by kernel_rfl) (fun _ _ _ h => h) ⟨_, HB⟩ rfl rfl (fun w' hS => EX.move rfl) rfl ?_
                  refine WH.takeYes 8 rfl (by kernel_rfl) (by kernel_rfl) (by kernel_rfl) (fun _ _ _ h => h) ⟨_, HB⟩ rfl rfl (fun w' hS => EX.move rfl) rfl ?_
                  refine WH.takeYes 9 rfl (by kernel_rfl) (by kernel_rfl) (by kernel_rfl) (fun _ _ _ h => h) ⟨_, HB⟩ rfl rfl (fun w' hS => EX.idxSlc (k := j) slc71 rfl rfl (by rfl) (by omega)) rfl ?_
                  refine WH.takeYes 10 rfl (by kernel_rfl) (by kernel_rfl) (by kernel_rfl) (fun _ _ _ h => h) ⟨_, HB⟩ rfl rfl (fun w' hS => EX.load rfl (Rd.root hrr (hS.block (H.blk 2 rfl) (by simp)) (by omega))) rfl ?_
                  refine WH.takeYes 11 rfl (by kernel_rfl) (by kernel_rfl) (by kernel_rfl) (fun _ _ _ h => h) ⟨_, HB⟩ rfl rfl (fun w' hS => EX.bin rfl rfl (binv_agg_eql eqI77 (by kernel_rfl) hrN.1 (root_len x _))) rfl ?_
                  refine WH.takeYes 12 rfl (by kernel_rfl) (by kernel_rfl) (by kernel_rfl) (fun _ _ _ h => h) ⟨_, HB⟩ rfl rfl (fun w' hS => EX.move rfl) rfl ?_
                  refine WH.split (t := 96) rfl (fun g16 => ?_) (fun g16 => ?_)
                  ·
                    refine WH.takeNo 13 rfl (by kernel_rfl) (by kernel_rfl) (by kernel_rfl) (fun _ _ _ h => h) ⟨_, HB⟩ rfl rfl rfl ?_
                    refine WH.takeYes 14 rfl (by kernel_rfl) (by kernel_rfl) (by kernel_rfl) (fun _ _ _ h => h) ⟨_, HB⟩ rfl rfl (fun w' hS => EX.pickT rfl rfl) rfl ?_
                    refine WH.take 15 rfl (by kernel_rfl) (by kernel_rfl) (by kernel_rfl) (fun _ _ _ h => h) ⟨_, HB⟩ (fun w' hS => EX.pickT rfl rfl) rfl ?_
                    refine WH.take 16 rfl (by kernel_rfl) (by kernel_rfl) (by kernel_rfl) (fun _ _ _ h => h) ⟨_, HB⟩ (fun w' hS => EX.assign rfl) rfl ?_
                    refine WH.done (by kernel_rfl) ?_
                    replace H := H.call HB
                    refine WX.next ?_
                    refine (WC.ret ?_)
                    refine ret_one rfl rfl ?_
                    refine ⟨congrArg (fun b => Ending.returned (Value.bool b)) (by rfl), H.weaken (List.nil_sublist _)⟩
                  ·
                    refine WH.takeYes 13 rfl (by kernel_rfl) (by kernel_rfl) (by kernel_rfl) (fun _ _ _ h => h) ⟨_, HB⟩ rfl rfl (fun w' hS => EX.move rfl) rfl ?_
                    refine WH.takeYes 14 rfl (by kernel_rfl) (by kernel_rfl) (by kernel_rfl) (fun _ _ _ h => h) ⟨_, HB⟩ rfl rfl (fun w' hS => EX.pickF rfl rfl) rfl ?_
                    refine WH.take 15 rfl (by kernel_rfl) (by kernel_rfl) (by kernel_rfl) (fun _ _ _ h => h) ⟨_, HB⟩ (fun w' hS => EX.pickT rfl rfl) rfl ?_
                    refine WH.take 16 rfl (by kernel_rfl) (by kernel_rfl) (by kernel_rfl) (fun _ _ _ h => h) ⟨_, HB⟩ (fun w' hS => EX.assign rfl) rfl ?_
                    refine WH.done (by kernel_rfl) ?_
                    replace H := H.call HB
                    refine WX.next ?_
                    refine (WC.ret ?_)
                    refine ret_one rfl rfl ?_
                    refine ⟨congrArg (fun b => Ending.returned (Value.bool b)) (by exact decide_eq_true (by omega)), H.weaken (List.nil_sublist _)⟩
                ·
                  exact absurd rfl g15
              ·
                cases g14
            ·
              rw [hcase.2, beq_self_eq_true] at g13; cases g13
          ·
            exfalso; have := hjq (by omega); omega

end Go.Proofs.YtkncbggnaobgeaaDoor

/- The input of a statement that makes writes, among a law's arguments. -/
namespace Go.Proofs.YtkncbggnaobgeaaDoor
open Go.ChangeShapes Go.WideShapes Go.ChangeAt Go.WideMaps Go.WideElems Go.RowKit
set_option linter.unusedVariables false
set_option linter.unusedSimpArgs false
set_option linter.unusedSectionVars false
set_option maxRecDepth 100000

section
variable {H : Type} {enc : TypeId × Value → H} {w : World} {base b0 : Nat} {spare : Nat → Bool} {held : Bool} {rr : Reach}
theorem wf_u8 {z : Int} (h : (Lit.int .u8 z).wf = true) : 0 ≤ z ∧ z ≤ 255 := by
  simp only [Lit.wf, Bool.and_eq_true, decide_eq_true_eq] at h
  have h1 : IntKind.min .u8 = 0 := by decide
  have h2 : IntKind.max .u8 = 255 := by decide
  omega
theorem ints_openC {fuel : Nat} {vs : List Value} {x : DataW H × List MemPlace} (h : DataW.trod enc Tryd.prog w base spare held fuel 43 vs = some x) :
    ∃ A cap xs, vs = [.slice A (List.length xs) cap] ∧ xs.length ≤ 9223372036854775807 ∧ IntsIn w A xs := by
  obtain ⟨A, len, cap, Y, rfl, _, hm, hY, hc⟩ := open_slcC Tryd.underlying43 (s := 1) (by kernel_rfl) (by omega) h
  obtain ⟨rows, hlen, hr, hYr⟩ := rows_of (f := 1) (by kernel_rfl) hY
  have hin := rows_in (by omega) hlen (fun r hr' => (hr r hr').1) hYr hc
  have hfl : rows.flatten.length = len := by
    have := (flatten_get (s := 1) (by omega) rows (fun r hr' => (hr r hr').1)).1
    rw [this, hlen, Nat.mul_one]
  exact ⟨A, cap, rows.flatten, by rw [hfl], by omega, hin⟩
theorem u16_openC {fuel : Nat} {vs : List Value} {x : DataW H × List MemPlace} (h : DataW.trod enc Tryd.prog w base spare held fuel 66 vs = some x) :
    ∃ A cap xs, vs = [.slice A (List.length xs) cap] ∧ xs.length ≤ 9223372036854775807 ∧ U16In w A xs ∧ ∀ s ∈ xs, 0 ≤ s ∧ s ≤ 65535 := by
  obtain ⟨A, len, cap, Y, rfl, _, hm, hY, hc⟩ := open_slcC Tryd.underlying66 (s := 1) (by kernel_rfl) (by omega) h
  have key : ∀ i, ∃ z : Int, i < len → Y i = [.int .u16 z] ∧ 0 ≤ z ∧ z ≤ 65535 := fun i => by
    by_cases hi : i < len
    · obtain ⟨_, n, x, hx⟩ := hY i hi
      obtain ⟨z, h1, _, h2⟩ := DataW.trod_int Tryd.underlying67 hx
      exact ⟨z, fun _ => ⟨h1, wf_u16 h2⟩⟩
    · exact ⟨0, fun h => absurd h hi⟩
  obtain ⟨Z, hZ⟩ := Classical.axiomOfChoice key
  refine ⟨A, cap, (List.range len).map Z, by simp, by simpa using hm, ?_, ?_⟩
  · rcases hc with h | ⟨b, o, cs, t, fr, h1, h2, h3⟩
    · left
      have : len = 0 := by omega
      rw [this]; rfl
    · refine .inr ⟨b, o, cs, t, fr, h1, h2, fun j u hj => ?_⟩
      have hjl : j < len := by
        have := lt_len hj
        simpa using this
      have e0 := h3 j (by omega)
      simp only [Nat.div_one, Nat.mod_one, (hZ j hjl).1] at e0
      rw [List.getElem?_map, List.getElem?_range hjl] at hj
      cases hj
      rw [e0]; rfl
  · intro s hs
    obtain ⟨i, hi, rfl⟩ := List.mem_map.1 hs
    exact (hZ i (List.mem_range.1 hi)).2
theorem len8' {cs : List Value} (h : cs.length = 8) : ∃ v0 v1 v2 v3 v4 v5 v6 v7, cs = [v0, v1, v2, v3, v4, v5, v6, v7] := by
  match cs, h with
  | [v0, v1, v2, v3, v4, v5, v6, v7], _ => exact ⟨v0, v1, v2, v3, v4, v5, v6, v7, rfl⟩
theorem wv_open {v : Value} {d : DataW H} {ps : List MemPlace} (hval : Value.okWide Tryd.prog w rr b0 70 v) (h : DataW.Trod enc Tryd.prog w base spare held 70 v d ps) : ∃ x : WV, v = .agg x.cells ∧ x.ok w := by
  obtain ⟨cs, rfl, _⟩ := okWide_struct Tryd.underlying70 hval
  obtain ⟨fuel, hf0⟩ := h
  obtain ⟨xs, n, _, _, hlen, hxs, hf⟩ := DataW.trod_struct Tryd.underlying70 hf0
  have hxs7 : xs.length = 7 := hxs
  have c70 : Tryd.prog.cellsOf 70 = 8 := by kernel_rfl
  have c5 : Tryd.prog.cellsOf 5 = 1 := by kernel_rfl
  have c43 : Tryd.prog.cellsOf 43 = 1 := by kernel_rfl
  have c66 : Tryd.prog.cellsOf 66 = 1 := by kernel_rfl
  have c3 : Tryd.prog.cellsOf 3 = 1 := by kernel_rfl
  have c68 : Tryd.prog.cellsOf 68 = 2 := by kernel_rfl
  have c4 : Tryd.prog.cellsOf 4 = 1 := by kernel_rfl
  have hcl : (Value.agg cs).cells.toList = cs.toList := rfl
  rw [hcl] at hlen hf
  rw [c70] at hlen
  obtain ⟨v0, v1, v2, v3, v4, v5, v6, v7, hcs⟩ := len8' hlen
  rw [hcs] at hf
  have f0 : DataW.trod enc Tryd.prog w base spare held n 5 (([v0, v1, v2, v3, v4, v5, v6, v7].drop 0).take (Tryd.prog.cellsOf 5)) = xs[0]? := hf 0 _ rfl
  have f1 : DataW.trod enc Tryd.prog w base spare held n 43 (([v0, v1, v2, v3, v4, v5, v6, v7].drop 1).take (Tryd.prog.cellsOf 43)) = xs[1]? := hf 1 _ rfl
  have f2 : DataW.trod enc Tryd.prog w base spare held n 66 (([v0, v1, v2, v3, v4, v5, v6, v7].drop 2).take (Tryd.prog.cellsOf 66)) = xs[2]? := hf 2 _ rfl
  have f3 : DataW.trod enc Tryd.prog w base spare held n 3 (([v0, v1, v2, v3, v4, v5, v6, v7].drop 3).take (Tryd.prog.cellsOf 3)) = xs[3]? := hf 3 _ rfl
  have f4 : DataW.trod enc Tryd.prog w base spare held n 3 (([v0, v1, v2, v3, v4, v5, v6, v7].drop 4).take (Tryd.prog.cellsOf 3)) = xs[4]? := hf 4 _ rfl
  have f5 : DataW.trod enc Tryd.prog w base spare held n 68 (([v0, v1, v2, v3, v4, v5, v6, v7].drop 5).take (Tryd.prog.cellsOf 68)) = xs[5]? := hf 5 _ rfl
  have f6 : DataW.trod enc Tryd.prog w base spare held n 4 (([v0, v1, v2, v3, v4, v5, v6, v7].drop 7).take (Tryd.prog.cellsOf 4)) = xs[6]? := hf 6 _ rfl
  rw [c5] at f0
  rw [c43] at f1
  rw [c66] at f2
  rw [c3] at f3 f4
  rw [c68] at f5
  rw [c4] at f6
  simp only [List.drop_zero, List.take_succ_cons, List.take_zero, List.drop_succ_cons] at f0 f1 f2 f3 f4 f5 f6
  rw [List.getElem?_eq_getElem (by omega)] at f0 f1 f2 f3 f4 f5 f6
  obtain ⟨z0, e0, _, w0⟩ := DataW.trod_int Tryd.underlying5 f0
  obtain ⟨A1, cap1, cats, e1, l1, h1⟩ := ints_openC f1
  obtain ⟨A2, cap2, stamps, e2, l2, h2, r2⟩ := u16_openC f2
  obtain ⟨z3, e3, _, w3⟩ := DataW.trod_int Tryd.underlying3 f3
  obtain ⟨z4, e4, _, w4⟩ := DataW.trod_int Tryd.underlying3 f4
  obtain ⟨e5, w5, _⟩ := leaf_open (k := .u16) 2 68 (by kernel_rfl) f5
  obtain ⟨z6, e6, _⟩ := DataW.trod_bool Tryd.underlying4 f6
  generalize flatZ 2 (xs[5]).1 = bs at e5 w5
  have hb2 : ∃ a b, bs = [a, b] := by
    have := congrArg List.length e5
    rw [List.length_map] at this
    match bs, this with
    | [a, b], _ => exact ⟨a, b, rfl⟩
  obtain ⟨a, b, rfl⟩ := hb2
  cases e0; cases e1; cases e2; cases e3; cases e4; cases e6
  simp only [List.map_cons, List.map_nil] at e5
  cases e5
  refine ⟨{ lines := z0, A1 := A1, cap1 := cap1, cats := cats, A2 := A2, cap2 := cap2, stamps := stamps, at_ := z3, cut := z4, b0 := a, b1 := b, line := z6 }, ?_, ⟨wf_u8 w0, h1, l1, h2, l2, r2, wf_i64' w3, wf_i64' w4, wf_u16 (w5 a (by simp)), wf_u16 (w5 b (by simp))⟩⟩
  unfold WV.cells
  have : cs = cs.toList.toArray := rfl
  rw [this, hcs]
end
end Go.Proofs.YtkncbggnaobgeaaDoor
