/- The calls of the memory as plain functions, and what the statements of layer 4 say of them. No Go in sight. -/
import Derived.Test.YtkncbggnaobgeaaDoorMem16
namespace Go.Proofs.YtkncbggnaobgeaaDoor
set_option linter.unusedVariables false
set_option linter.unusedSimpArgs false
set_option maxRecDepth 100000

def PM.load (M : PM) (at_ : Int) : Int × Int :=
  if at_ < 0 then (0, 40) else if M.has (at_ / 8) then
    (if (pShow (M.line (at_ / 8)) (M.line (at_ / 8)).ps.length).2 = 0 then ((pShow (M.line (at_ / 8)) (M.line (at_ / 8)).ps.length).1.getD (at_ % 8).toNat 0, 0) else (0, 9))
  else (0, 40)
theorem abs_hasline {R : RM} {n : Int} (h : pHas R n = true) : ∃ x, R.X[n.toNat]? = some x ∧ R.abs.line n = x.1 := by
  obtain ⟨h0, h1⟩ := pHas_iff.1 h
  have hl : n.toNat < R.X.length := by omega
  refine ⟨_, List.getElem?_eq_getElem hl, ?_⟩
  simp [PM.line, RM.abs, List.getElem?_eq_getElem hl]
theorem load_abs (R : RM) (at_ : Int) : pLoad R at_ = R.abs.load at_ := by
  unfold pLoad PM.load
  rw [abs_has]
  split
  · rfl
  · split
    · rename_i h
      obtain ⟨x, hx, he⟩ := abs_hasline h
      rw [hx, he]
    · rfl
def PM.state (M : PM) (n : Int) : Int := if M.has n then (chk (M.line n).ws (M.line n).c).1 else -1
theorem state_abs (R : RM) (n : Int) : (if pHas R n then (match R.X[n.toNat]? with | some x => (chk x.1.ws x.1.c).1 | none => 0) else -1) = R.abs.state n := by
  unfold PM.state
  rw [abs_has]
  split
  · rename_i h
    obtain ⟨x, hx, he⟩ := abs_hasline h
    rw [hx, he]
  · rfl
/-- What a line shows. -/
def shown (l : PL) : List Int := (pShow l l.ps.length).1

/-- A call of a script. -/
structure POp where
  kind : Int
  a : Int
  b : Int
  ws : List Int
  cuts : List (Int × Int)
def PM.do (M : PM) (x : POp) : PM :=
  if x.kind = 0 then M.put 1 x.a x.b else if x.kind = 1 then M.put 2 x.a x.b else if x.kind = 2 then { M with span := if 0 > x.a then 0 else x.a } else if x.kind = 3 then M.flush x.a
  else if x.kind = 4 then M.fence else if x.kind = 5 then M.evict x.a x.b else if x.kind = 6 then M.heal x.a x.ws else if x.kind = 7 then M.rot x.a x.ws x.b else if x.kind = 8 then M.crash x.cuts
  else if x.kind = 9 then { M with evs := [] } else M
/-- What it returns: a value, an errno. -/
def PM.res (M : PM) (x : POp) : Int × Int :=
  if x.kind = 0 then (0, M.putErr x.a x.b) else if x.kind = 1 then (0, M.putErr x.a x.b) else if x.kind = 2 then (0, 0) else if x.kind = 3 then (0, if M.has x.a then 0 else 40)
  else if x.kind = 4 then (0, 0) else if x.kind = 5 then (0, M.evictErr x.a x.b) else if x.kind = 6 then (0, M.healErr x.a x.ws) else if x.kind = 7 then (0, M.rotErr x.a x.ws x.b) else if x.kind = 8 then (0, if M.cutsOk x.cuts then 0 else 1)
  else if x.kind = 9 then (0, 0) else M.load x.a

/-! ### Lists of lines -/
theorem has_iff {M : PM} {n : Int} : M.has n = true ↔ 0 ≤ n ∧ n < M.ls.length := by simp [PM.has]
theorem line_mem {M : PM} {n : Int} (h : M.has n = true) : M.line n ∈ M.ls := by
  obtain ⟨h0, h1⟩ := has_iff.1 h
  have hl : n.toNat < M.ls.length := by omega
  simp [PM.line, List.getD, List.getElem?_eq_getElem hl]
theorem set_all {α : Type} {p : α → Prop} {ls : List α} {k : Nat} {x : α} (h : ∀ l ∈ ls, p l) (hx : p x) : ∀ l ∈ ls.set k x, p l := by
  intro l hl
  rcases List.mem_or_eq_of_mem_set hl with hl | rfl
  · exact h l hl
  · exact hx
/-- A property of lines that every call keeps. -/
structure Kept (p : PL → Prop) : Prop where
  put : ∀ l i v, l.ok → p l → isWord v = true → (chk l.ws l.c).1 ≠ 2 → p { l with ps := l.ps ++ [(i, v)] }
  mark : ∀ l, l.ok → p l → p { l with mark := l.ps.length }
  settle : ∀ l k, l.ok → p l → p (pSettle l k)
  heal : ∀ ws, isWords ws = true → p { ws := ws, c := enc ws, ps := [], mark := 0 }
  drop : ∀ l, l.ok → p l → p (drop0 l)
  rot : ∀ l ws c, l.ok → p l → l.ps = [] → p { l with ws := ws, c := c }
theorem foldl_cut_all {p : PL → Prop} (hp : ∀ l k, p l → p (pSettle l k)) : ∀ (cuts : List (Int × Int)) (ls : List PL), (∀ l ∈ ls, p l) → ∀ l ∈ cuts.foldl cutStep ls, p l
  | [], ls, h => h
  | c :: cuts, ls, h => by
    rw [List.foldl_cons]
    refine foldl_cut_all hp cuts _ ?_
    intro l hl
    unfold cutStep at hl
    rcases Nat.lt_or_ge c.1.toNat ls.length with hlt | hge
    · rcases List.mem_or_eq_of_mem_set hl with hl | rfl
      · exact h l hl
      · refine hp _ _ (h _ ?_)
        simp [List.getD, List.getElem?_eq_getElem hlt]
    · rw [List.set_eq_of_length_le hge] at hl
      exact h l hl
theorem Kept.do {p : PL → Prop} (hk : Kept p) {M : PM} (h : ∀ l ∈ M.ls, l.ok ∧ p l) (x : POp) : ∀ l ∈ (M.do x).ls, p l := by
  have h' : ∀ l ∈ M.ls, p l := fun l hl => (h l hl).2
  have hput : ∀ kind, ∀ l ∈ (M.put kind x.a x.b).ls, p l := by
    intro kind
    unfold PM.put
    split
    · rename_i he
      unfold PM.putErr at he
      split at he
      · cases he
      · split at he
        · rename_i hh
          split at he
          · rename_i hw
            split at he
            · cases he
            · rename_i hc
              exact set_all h' (hk.put _ _ _ (h _ (line_mem hh)).1 (h' _ (line_mem hh)) hw hc)
          · cases he
        · cases he
    · exact h'
  unfold PM.do
  split
  · exact hput 1
  split
  · exact hput 2
  split
  · exact h'
  split
  · unfold PM.flush
    split
    · rename_i hh; exact set_all h' (hk.mark _ (h _ (line_mem hh)).1 (h' _ (line_mem hh)))
    · exact h'
  split
  · unfold PM.fence
    intro l hl
    obtain ⟨y, hy, rfl⟩ := List.mem_map.1 hl
    exact hk.settle _ _ (h y hy).1 (h' y hy)
  split
  · unfold PM.evict
    split
    · rename_i he
      unfold PM.evictErr at he
      split at he
      · rename_i hh; exact set_all h' (hk.settle _ _ (h _ (line_mem hh)).1 (h' _ (line_mem hh)))
      · cases he
    · exact h'
  split
  · unfold PM.heal
    split
    · rename_i he
      unfold PM.healErr at he
      split at he
      · split at he
        · rename_i hw; exact set_all h' (hk.heal _ hw)
        · cases he
      · cases he
    · exact h'
  split
  · unfold PM.rot
    split
    · rename_i he
      unfold PM.rotErr at he
      split at he
      · rename_i hh
        split at he
        · split at he
          · rename_i hps; exact set_all h' (hk.rot _ _ _ (h _ (line_mem hh)).1 (h' _ (line_mem hh)) hps)
          · cases he
        · cases he
      · cases he
    · exact h'
  split
  · unfold PM.crash
    split
    · intro l hl
      obtain ⟨y, hy, rfl⟩ := List.mem_map.1 hl
      have hy' := foldl_cut_all (p := fun l => l.ok ∧ p l) (fun l k hl => ⟨pSettle_ok hl.1, hk.settle l k hl.1 hl.2⟩) x.cuts M.ls h y hy
      exact hk.drop _ hy'.1 hy'.2
    · exact h'
  split
  · exact h'
  · exact h'
/-- Whoever has something pending is not rotten. -/
def PL.sound (l : PL) : Prop := l.ps ≠ [] → (chk l.ws l.c).1 ≠ 2
theorem settle_clean {l : PL} {k : Nat} (h : l.ok) (hk : k ≠ 0) : chk (pSettle l k).ws (pSettle l k).c = (0, 0, 0) := by
  unfold pSettle
  rw [if_neg hk]
  exact chk_enc (pShow_words h)
theorem PL.sound_kept : Kept PL.sound := by
  refine ⟨?_, ?_, ?_, ?_, ?_, ?_⟩
  · intro l i v _ _ _ hc _; exact hc
  · intro l _ h; exact h
  · intro l k hok h
    rcases Nat.eq_zero_or_pos k with rfl | hk
    · exact h
    · intro _
      rw [settle_clean hok (by omega)]
      decide
  · intro ws hw h; exact absurd rfl h
  · intro l _ _ h; exact absurd rfl h
  · intro l ws c _ _ hps h; exact absurd hps h
/-- How much there is at most. -/
structure PM.small (M : PM) (k : Nat) : Prop where
  ev : M.evs.length ≤ k
  ps : ∀ l ∈ M.ls, l.ps.length ≤ k
theorem PM.small.mono {M : PM} {k k' : Nat} (h : M.small k) (hk : k ≤ k') : M.small k' := ⟨Nat.le_trans h.ev hk, fun l hl => Nat.le_trans (h.ps l hl) hk⟩
theorem settle_le (l : PL) (k : Nat) : (pSettle l k).ps.length ≤ l.ps.length := by
  unfold pSettle
  split
  · exact Nat.le_refl _
  · simp
theorem PM.small.put {M : PM} {k : Nat} (h : M.small k) (kind a v : Int) : (M.put kind a v).small (k + 1) := by
  unfold PM.put
  split
  · rename_i he
    unfold PM.putErr at he
    split at he
    · cases he
    · split at he
      · rename_i hh
        exact ⟨by simpa using h.ev, set_all (fun l hl => Nat.le_succ_of_le (h.ps l hl)) (by simpa using h.ps _ (line_mem hh))⟩
      · cases he
  · exact h.mono (Nat.le_succ k)
theorem PM.small.flush {M : PM} {k : Nat} (h : M.small k) (n : Int) : (M.flush n).small (k + 1) := by
  unfold PM.flush
  split
  · rename_i hh
    exact ⟨by simpa using h.ev, set_all (fun l hl => Nat.le_succ_of_le (h.ps l hl)) (show (M.line n).ps.length ≤ k + 1 from Nat.le_succ_of_le (h.ps _ (line_mem hh)))⟩
  · exact h.mono (Nat.le_succ k)
theorem PM.small.fence {M : PM} {k : Nat} (h : M.small k) : M.fence.small (k + 1) := by
  refine ⟨by simpa [PM.fence] using h.ev, fun l hl => ?_⟩
  obtain ⟨y, hy, rfl⟩ := List.mem_map.1 hl
  exact Nat.le_succ_of_le (Nat.le_trans (settle_le _ _) (h.ps y hy))
theorem PM.small.evict {M : PM} {k : Nat} (h : M.small k) (n j : Int) : (M.evict n j).small (k + 1) := by
  unfold PM.evict
  split
  · rename_i he
    unfold PM.evictErr at he
    split at he
    · rename_i hh
      exact ⟨by simpa using h.ev, set_all (fun l hl => Nat.le_succ_of_le (h.ps l hl)) (Nat.le_succ_of_le (Nat.le_trans (settle_le _ _) (h.ps _ (line_mem hh))))⟩
    · cases he
  · exact h.mono (Nat.le_succ k)
theorem PM.small.heal {M : PM} {k : Nat} (h : M.small k) (n : Int) (ws : List Int) : (M.heal n ws).small (k + 1) := by
  unfold PM.heal
  split
  · exact ⟨by simpa using h.ev, set_all (fun l hl => Nat.le_succ_of_le (h.ps l hl)) (Nat.zero_le _)⟩
  · exact h.mono (Nat.le_succ k)
theorem PM.small.rot {M : PM} {k : Nat} (h : M.small k) (n : Int) (ws : List Int) (b : Int) : (M.rot n ws b).small (k + 1) := by
  unfold PM.rot
  split
  · rename_i he
    unfold PM.rotErr at he
    split at he
    · rename_i hh
      exact ⟨by simpa using h.ev, set_all (fun l hl => Nat.le_succ_of_le (h.ps l hl)) (show (M.line n).ps.length ≤ k + 1 from Nat.le_succ_of_le (h.ps _ (line_mem hh)))⟩
    · cases he
  · exact h.mono (Nat.le_succ k)
theorem PM.small.crash {M : PM} {k : Nat} (h : M.small k) (cuts : List (Int × Int)) : (M.crash cuts).small k := by
  unfold PM.crash
  split
  · refine ⟨Nat.zero_le _, fun l hl => ?_⟩
    obtain ⟨y, _, rfl⟩ := List.mem_map.1 hl
    exact Nat.zero_le _
  · exact h
theorem PM.small.do {M : PM} {k : Nat} (h : M.small k) (x : POp) : (M.do x).small (k + 1) := by
  unfold PM.do
  split
  · exact h.put _ _ _
  split
  · exact h.put _ _ _
  split
  · exact ⟨Nat.le_succ_of_le h.ev, fun l hl => Nat.le_succ_of_le (h.ps l hl)⟩
  split
  · exact h.flush _
  split
  · exact h.fence
  split
  · exact h.evict _ _
  split
  · exact h.heal _ _
  split
  · exact h.rot _ _ _
  split
  · exact (h.crash _).mono (Nat.le_succ k)
  split
  · exact ⟨Nat.zero_le _, fun l hl => Nat.le_succ_of_le (h.ps l hl)⟩
  · exact h.mono (Nat.le_succ k)
theorem do_len (M : PM) (x : POp) : (M.do x).ls.length = M.ls.length := by
  unfold PM.do
  repeat' split
  all_goals (first | rfl | (unfold PM.put; split <;> simp) | (unfold PM.flush; split <;> simp) | (unfold PM.fence; simp) | (unfold PM.evict; split <;> simp) | (unfold PM.heal; split <;> simp) | (unfold PM.rot; split <;> simp) | (unfold PM.crash; split <;> simp [foldl_len]))
/-- A memory just made. -/
def PM.fresh (n : Nat) : PM := { ls := List.replicate n pl0, span := 0, evs := [] }
/-- A script. -/
def PM.run (M : PM) (xs : List POp) : PM := xs.foldl PM.do M
theorem run_succ (M : PM) (xs : List POp) {i : Nat} (hi : i < xs.length) : M.run (xs.take (i + 1)) = (M.run (xs.take i)).do xs[i] := by
  unfold PM.run
  rw [List.take_add_one, List.getElem?_eq_getElem hi, List.foldl_append]; rfl
theorem run_len (xs : List POp) : ∀ M : PM, (M.run xs).ls.length = M.ls.length := by
  unfold PM.run
  induction xs with
  | nil => intro M; rfl
  | cons x xs ih => intro M; rw [List.foldl_cons, ih, do_len]
theorem run_small (xs : List POp) : ∀ (M : PM) (k : Nat), M.small k → (M.run xs).small (k + xs.length) := by
  unfold PM.run
  induction xs with
  | nil => intro M k h; exact h
  | cons x xs ih => intro M k h; rw [List.foldl_cons, List.length_cons, show k + (xs.length + 1) = k + 1 + xs.length from by omega]; exact ih _ _ (h.do x)
theorem fresh_small (n : Nat) : (PM.fresh n).small 0 := ⟨Nat.le_refl _, fun l hl => by rw [List.eq_of_mem_replicate hl]; exact Nat.le_refl _⟩

/-! ### Lines one by one -/
theorem line_of {M : PM} {k : Nat} (h : k < M.ls.length) : M.line (k : Int) = M.ls[k] := by simp [PM.line, List.getD, List.getElem?_eq_getElem h]
theorem has_of {M : PM} {k : Nat} (h : k < M.ls.length) : M.has (k : Int) = true := has_iff.2 ⟨by omega, by omega⟩
theorem set_getD {α : Type} {ls : List α} {k j : Nat} {x d : α} : (ls.set k x).getD j d = if k = j ∧ k < ls.length then x else ls.getD j d := by
  simp only [List.getD, List.getElem?_set]
  by_cases h : k = j
  · subst h
    by_cases hl : k < ls.length
    · simp [hl]
    · simp [hl, List.getElem?_eq_none (Nat.not_lt.1 hl)]
  · simp [h]
theorem cutStep_eq (ls : List PL) (c : Int × Int) : cutStep ls c = ls.set c.1.toNat (pSettle (ls.getD c.1.toNat default) c.2.toNat) := rfl
theorem cut_other (cuts : List (Int × Int)) {j : Nat} {d : PL} : ∀ ls : List PL, (∀ c ∈ cuts, c.1.toNat ≠ j) → (cuts.foldl cutStep ls).getD j d = ls.getD j d := by
  induction cuts with
  | nil => intro ls _; rfl
  | cons c cuts ih =>
    intro ls h
    rw [List.foldl_cons, ih _ (fun c hc => h c (List.mem_cons_of_mem _ hc))]
    rw [cutStep_eq, set_getD, if_neg (fun hh => h c List.mem_cons_self hh.1)]
theorem cut_at {a b : List (Int × Int)} {c : Int × Int} {j : Nat} (hc : c.1.toNat = j) (ha : ∀ c ∈ a, c.1.toNat ≠ j) (hb : ∀ c ∈ b, c.1.toNat ≠ j) {ls : List PL} (hj : j < ls.length) :
    ((a ++ c :: b).foldl cutStep ls).getD j default = pSettle (ls.getD j default) c.2.toNat := by
  rw [List.foldl_append, List.foldl_cons, cut_other b _ hb]
  rw [cutStep_eq, hc, set_getD, if_pos ⟨rfl, by rw [foldl_len]; exact hj⟩, cut_other a _ ha]
/-- What a line shows survives its settling. -/
theorem shown_all {l : PL} (h : l.ok) : shown (drop0 (pSettle l l.ps.length)) = shown l := by
  rcases Nat.eq_zero_or_pos l.ps.length with h0 | hp
  · have hps : l.ps = [] := List.eq_nil_of_length_eq_zero h0
    unfold pSettle
    rw [if_pos h0]
    unfold shown drop0 pShow
    rw [hps]
  · unfold pSettle
    rw [if_neg (by omega)]
    unfold shown drop0
    simp only []
    unfold pShow
    simp only [fix_enc (pShow_words h), List.length_nil, List.take_nil]
    have e1 : fix (if (fix l.ws l.c).2.2 = 0 then (putAll (fix l.ws l.c).1 (l.ps.take l.ps.length), (0 : Int)) else (zeros8, (fix l.ws l.c).2.2)).1 (enc (if (fix l.ws l.c).2.2 = 0 then (putAll (fix l.ws l.c).1 (l.ps.take l.ps.length), (0 : Int)) else (zeros8, (fix l.ws l.c).2.2)).1) = _ := fix_enc (pShow_words (l := l) (k := l.ps.length) h)
    rw [e1]
    simp [putAll]
end Go.Proofs.YtkncbggnaobgeaaDoor
