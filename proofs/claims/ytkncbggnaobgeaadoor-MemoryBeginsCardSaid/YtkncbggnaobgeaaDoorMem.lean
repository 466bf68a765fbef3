/- An engine for walking a Go function, second part: the blocks of memory that a call knows. Plain theorems over any program. -/
import Derived.Test.YtkncbggnaobgeaaDoorEng
namespace Go.Proofs.YtkncbggnaobgeaaDoor
open Go.RowKit
set_option linter.unusedVariables false
set_option linter.unusedSimpArgs false
set_option maxRecDepth 100000

abbrev Hp := List (Nat × Obj)

/-- 'w' was reached from 'w0'; of what lay there only the blocks of S may have changed; the blocks of H are as H says. -/
structure St (w0 : World) (S : List Nat) (w : World) (H : Hp) : Prop where
  os : w.os = w0.os
  tape : w.tape = w0.tape
  output : w.output = w0.output
  size : w0.heap.size ≤ w.heap.size
  old : ∀ k, k < w0.heap.size → k ∉ S → w.heap[k]? = w0.heap[k]?
  nd : (H.map Prod.fst).Nodup
  sat : ∀ p ∈ H, w.heap[p.1]? = some p.2
  own : ∀ p ∈ H, p.1 ∈ S ∨ w0.heap.size ≤ p.1

/-- Block b holds o now; all else is as it was. -/
structure Upd (w w' : World) (b : Nat) (o : Obj) : Prop where
  os : w'.os = w.os
  tape : w'.tape = w.tape
  output : w'.output = w.output
  size : w'.heap.size = w.heap.size
  at_ : w'.heap[b]? = some o
  far : ∀ k, k ≠ b → w'.heap[k]? = w.heap[k]?

theorem lt_of_some {w : World} {b : Nat} {o : Obj} (h : w.heap[b]? = some o) : b < w.heap.size := by
  rcases Nat.lt_or_ge b w.heap.size with hl | hg
  · exact hl
  · rw [Array.getElem?_eq_none hg] at h; cases h

theorem fst_ne : ∀ {H : Hp} {i j : Nat} {p q : Nat × Obj}, (H.map Prod.fst).Nodup → H[i]? = some p → H[j]? = some q → i ≠ j → p.1 ≠ q.1
  | [], i, j, p, q, _, hi, _, _ => by simp at hi
  | x :: H, 0, 0, p, q, _, _, _, hij => absurd rfl hij
  | x :: H, 0, j + 1, p, q, hn, hi, hj, _ => by
    simp only [List.map_cons, List.nodup_cons] at hn
    simp only [List.getElem?_cons_zero, Option.some.injEq] at hi
    simp only [List.getElem?_cons_succ] at hj
    subst hi
    intro he
    exact hn.1 (he ▸ List.mem_map_of_mem (List.mem_of_getElem? hj))
  | x :: H, i + 1, 0, p, q, hn, hi, hj, _ => by
    simp only [List.map_cons, List.nodup_cons] at hn
    simp only [List.getElem?_cons_zero, Option.some.injEq] at hj
    simp only [List.getElem?_cons_succ] at hi
    subst hj
    intro he
    exact hn.1 (he ▸ List.mem_map_of_mem (List.mem_of_getElem? hi))
  | x :: H, i + 1, j + 1, p, q, hn, hi, hj, hij => by
    simp only [List.map_cons, List.nodup_cons] at hn
    exact fst_ne hn.2 (by simpa using hi) (by simpa using hj) (by omega)

section
variable {w0 w w' : World} {S : List Nat} {H : Hp}

theorem St.refl (w : World) : St w [] w [] := ⟨rfl, rfl, rfl, Nat.le_refl _, fun _ _ _ => rfl, by simp, by simp, by simp⟩
theorem St.start {w : World} {H : Hp} (hnd : (H.map Prod.fst).Nodup) (hs : ∀ p ∈ H, w.heap[p.1]? = some p.2) : St w (H.map Prod.fst) w H :=
  ⟨rfl, rfl, rfl, Nat.le_refl _, fun _ _ _ => rfl, hnd, hs, fun p hp => .inl (List.mem_map_of_mem hp)⟩
theorem St.lt (h : St w0 S w H) {p : Nat × Obj} (hp : p ∈ H) : p.1 < w.heap.size := lt_of_some (h.sat p hp)
theorem St.below (h : St w0 [] w H) : Below w0.heap.size w0 w := ⟨h.os, h.tape, h.output, h.size, fun k hk => h.old k hk (by simp)⟩
theorem St.of_below (h : Below w0.heap.size w0 w) : St w0 [] w [] := ⟨h.os, h.tape, h.output, h.size, fun k hk _ => h.block k hk, by simp, by simp, by simp⟩
theorem St.drew (h : St w0 S w H) : St w0 S w.drew H := ⟨h.os, h.tape, h.output, h.size, h.old, h.nd, h.sat, h.own⟩
theorem St.drawn (h : St w0 S w H) (k : Nat) : St w0 S { w with drawn := k } H := ⟨h.os, h.tape, h.output, h.size, h.old, h.nd, h.sat, h.own⟩

theorem heap_push_lt (w : World) (o : Obj) {k : Nat} (hk : k < w.heap.size) : (w.alloc o).heap[k]? = w.heap[k]? := by
  show (w.heap.push o)[k]? = _
  rw [Array.getElem?_push, if_neg (by omega)]
theorem heap_push_new (w : World) (o : Obj) : (w.alloc o).heap[w.heap.size]? = some o := by
  show (w.heap.push o)[w.heap.size]? = _
  rw [Array.getElem?_push, if_pos rfl]

theorem St.alloc (h : St w0 S w H) (o : Obj) : St w0 S (w.alloc o) ((w.heap.size, o) :: H) := by
  refine ⟨h.os, h.tape, h.output, by have := h.size; simp; omega, fun k hk hS => ?_, ?_, ?_, ?_⟩
  · rw [heap_push_lt _ _ (by have := h.size; omega)]; exact h.old k hk hS
  · simp only [List.map_cons, List.nodup_cons]
    refine ⟨fun hm => ?_, h.nd⟩
    obtain ⟨p, hp, he⟩ := List.mem_map.1 hm
    have := h.lt hp
    omega
  · intro p hp
    rcases List.mem_cons.1 hp with rfl | hp
    · exact heap_push_new _ _
    · rw [heap_push_lt _ _ (h.lt hp)]; exact h.sat p hp
  · intro p hp
    rcases List.mem_cons.1 hp with rfl | hp
    · exact .inr h.size
    · exact h.own p hp

/-- Fewer blocks are known. -/
theorem St.weaken {H' : Hp} (h : St w0 S w H) (hs : H'.Sublist H) : St w0 S w H' :=
  ⟨h.os, h.tape, h.output, h.size, h.old, h.nd.sublist (hs.map _), fun p hp => h.sat p (hs.subset hp), fun p hp => h.own p (hs.subset hp)⟩
theorem St.tail {p : Nat × Obj} (h : St w0 S w (p :: H)) : St w0 S w H := h.weaken (List.sublist_cons_self _ _)
/-- In another order. -/
theorem St.perm {H' : Hp} (h : St w0 S w H) (hs : H.Perm H') : St w0 S w H' :=
  ⟨h.os, h.tape, h.output, h.size, h.old, (hs.map _).nodup_iff.1 h.nd, fun p hp => h.sat p (hs.mem_iff.2 hp), fun p hp => h.own p (hs.mem_iff.2 hp)⟩
theorem St.moreS {S' : List Nat} (h : St w0 S w H) (hs : ∀ k ∈ S, k ∈ S') : St w0 S' w H :=
  ⟨h.os, h.tape, h.output, h.size, fun k hk hn => h.old k hk (fun hh => hn (hs k hh)), h.nd, h.sat, fun p hp => (h.own p hp).imp (hs _) id⟩

theorem St.upd (h : St w0 S w H) {i b : Nat} {o o' : Obj} (hi : H[i]? = some (b, o)) (hu : Upd w w' b o') : St w0 S w' (H.set i (b, o')) := by
  have hmem : (b, o) ∈ H := List.mem_of_getElem? hi
  have hil : i < H.length := by
    rcases Nat.lt_or_ge i H.length with hl | hg
    · exact hl
    · rw [List.getElem?_eq_none hg] at hi; cases hi
  have hmap : (H.set i (b, o')).map Prod.fst = H.map Prod.fst := by
    rw [List.map_set]
    apply List.ext_getElem?
    intro j
    rw [List.getElem?_set]
    split
    · rename_i hij
      subst hij
      simp only [List.length_map, hil, if_true, List.getElem?_map, hi, Option.map]
    · rfl
  refine ⟨hu.os.trans h.os, hu.tape.trans h.tape, hu.output.trans h.output, by rw [hu.size]; exact h.size, fun k hk hS => ?_, by rw [hmap]; exact h.nd, ?_, ?_⟩
  · by_cases hkb : k = b
    · subst hkb
      rcases h.own _ hmem with hS' | hge
      · exact absurd hS' hS
      · simp only at hge; omega
    · rw [hu.far k hkb]; exact h.old k hk hS
  · intro p hp
    obtain ⟨j, hj⟩ := List.getElem?_of_mem hp
    rw [List.getElem?_set] at hj
    split at hj
    · rename_i hij
      cases hj
      exact hu.at_
    · rename_i hij
      have hpm : p ∈ H := List.mem_of_getElem? hj
      rw [hu.far _ (fst_ne h.nd hj hi (Ne.symm hij))]; exact h.sat p hpm
  · intro p hp
    rcases List.mem_or_eq_of_mem_set hp with hp | rfl
    · exact h.own p hp
    · exact h.own (b, o) hmem

/-- Behind a call that has changed no old block. -/
theorem St.call (h : St w0 S w H) {H' : Hp} (hc : St w [] w' H') : St w0 S w' (H' ++ H) := by
  refine ⟨hc.os.trans h.os, hc.tape.trans h.tape, hc.output.trans h.output, Nat.le_trans h.size hc.size, fun k hk hS => ?_, ?_, ?_, ?_⟩
  · rw [hc.old k (Nat.lt_of_lt_of_le hk h.size) (by simp)]; exact h.old k hk hS
  · rw [List.map_append, List.nodup_append]
    refine ⟨hc.nd, h.nd, ?_⟩
    intro x hx y hy hxy
    obtain ⟨p, hp, rfl⟩ := List.mem_map.1 hx
    obtain ⟨q, hq, rfl⟩ := List.mem_map.1 hy
    rcases hc.own p hp with hh | hh
    · simp at hh
    · have := h.lt hq; omega
  · intro p hp
    rcases List.mem_append.1 hp with hp | hp
    · exact hc.sat p hp
    · rw [hc.old _ (h.lt hp) (by simp)]; exact h.sat p hp
  · intro p hp
    rcases List.mem_append.1 hp with hp | hp
    · rcases hc.own p hp with hh | hh
      · simp at hh
      · exact .inr (Nat.le_trans h.size hh)
    · exact h.own p hp
theorem St.call0 (h : St w0 S w H) (hc : St w [] w' []) : St w0 S w' H := h.call hc

/-- Behind a call that was handed the blocks M. -/
theorem St.callM {L M M' : Hp} (h : St w0 S w (L ++ M)) (hc : St w (M.map Prod.fst) w' M') : St w0 S w' (L ++ M') := by
  have hndL : (L.map Prod.fst).Nodup ∧ (M.map Prod.fst).Nodup ∧ ∀ x ∈ L.map Prod.fst, ∀ y ∈ M.map Prod.fst, x ≠ y := by
    have := h.nd; rw [List.map_append, List.nodup_append] at this; exact this
  have hLM : ∀ p ∈ L, p.1 ∉ M.map Prod.fst := fun p hp hm => hndL.2.2 _ (List.mem_map_of_mem hp) _ hm rfl
  refine ⟨hc.os.trans h.os, hc.tape.trans h.tape, hc.output.trans h.output, Nat.le_trans h.size hc.size, fun k hk hS => ?_, ?_, ?_, ?_⟩
  · rw [hc.old k (Nat.lt_of_lt_of_le hk h.size) ?_]
    · exact h.old k hk hS
    · intro hm
      obtain ⟨p, hp, rfl⟩ := List.mem_map.1 hm
      rcases h.own p (List.mem_append_right _ hp) with hh | hh
      · exact hS hh
      · omega
  · rw [List.map_append, List.nodup_append]
    refine ⟨hndL.1, hc.nd, ?_⟩
    intro x hx y hy hxy
    obtain ⟨p, hp, rfl⟩ := List.mem_map.1 hx
    obtain ⟨q, hq, rfl⟩ := List.mem_map.1 hy
    rcases hc.own q hq with hh | hh
    · exact hLM p hp (hxy ▸ hh)
    · have := h.lt (List.mem_append_left M hp); omega
  · intro p hp
    rcases List.mem_append.1 hp with hp | hp
    · rw [hc.old _ (h.lt (List.mem_append_left M hp)) (hLM p hp)]; exact h.sat p (List.mem_append_left M hp)
    · exact hc.sat p hp
  · intro p hp
    rcases List.mem_append.1 hp with hp | hp
    · exact h.own p (List.mem_append_left M hp)
    · rcases hc.own p hp with hh | hh
      · obtain ⟨q, hq, hqp⟩ := List.mem_map.1 hh
        rw [← hqp]; exact h.own q (List.mem_append_right _ hq)
      · exact .inr (Nat.le_trans h.size hh)

/-- An old block that the call leaves alone. -/
theorem St.oldBlock (h : St w0 S w H) {b : Nat} {o : Obj} (hb : w0.heap[b]? = some o) (hS : b ∉ S) : w.heap[b]? = some o :=
  (h.old b (lt_of_some hb) hS).trans hb
end

/-! ### Cells -/
section
variable {P : Program} {w w' : World} {b : Nat} {cs : Array Value} {t : TypeId}

theorem cell_of {fr : Nat × Nat} (h : w.heap[b]? = some (.cells cs t fr)) (i : Nat) : w.cell? ⟨b, i, none⟩ = cs[i]? := by
  simp [World.cell?, h]

theorem addr_add (b o j : Nat) : (⟨b, o, none⟩ : Addr).add j = ⟨b, o + j, none⟩ := by
  unfold Addr.add; split <;> simp_all

/-- What a variable of type T at that place reads as. -/
def Rd (P : Program) (w : World) (T : TypeId) (a : Addr) (v : Value) : Prop := (loadVar T a).run P w = .ok v w

/-- A type: is it a struct or an array? how many cells? -/
def tyB (P : Program) (T : TypeId) (agg : Bool) (k : Nat) : Bool :=
  (match P.underlying T with
    | some (.struct _) | some (.array _ _) => agg
    | some _ => !agg
    | none => false) &&
  (match P.info? T with
    | some i => i.size == k
    | none => false)

theorem tyB_isAgg {T : TypeId} {agg : Bool} {k : Nat} (h : tyB P T agg k = true) (w : World) : (isAgg T).run P w = .ok agg w := by
  simp only [tyB, Bool.and_eq_true] at h
  have h1 := h.1
  cases hu : P.underlying T with
  | none => simp [hu] at h1
  | some d =>
    simp only [isAgg, Sem.run_bind, run_underlying hu, Result.andThen_ok]
    rw [hu] at h1
    cases d <;> simp_all

theorem tyB_size {T : TypeId} {agg : Bool} {k : Nat} (h : tyB P T agg k = true) (w : World) : (sizeOf T).run P w = .ok k w := by
  simp only [tyB, Bool.and_eq_true] at h
  have h2 := h.2
  cases hi : P.info? T with
  | none => simp [hi] at h2
  | some i =>
    rw [hi] at h2
    simp only [beq_iff_eq] at h2
    simp [sizeOf, typeInfo, hi, h2]

theorem Rd.one {T : TypeId} {k : Nat} (hT : tyB P T false k = true) {a : Addr} {v : Value} (h : w.cell? a = some v) : Rd P w T a v := by
  unfold Rd loadVar
  simp [tyB_isAgg hT, h]

theorem Rd.agg {T : TypeId} {k : Nat} (hT : tyB P T true k = true) {o : Nat} {fr : Nat × Nat} (h : w.heap[b]? = some (.cells cs t fr)) (hk : o + k ≤ cs.size) : Rd P w T ⟨b, o, none⟩ (.agg (cs.extract o (o + k))) := by
  unfold Rd loadVar
  have hl : ((cs.extract o (o + k)).toList).length = k := by simp; omega
  have hrun := run_loadCells_list (P := P) w ⟨b, o, none⟩ (cs.extract o (o + k)).toList (by
    intro j v hj
    rw [addr_add, cell_of h]
    rw [Array.getElem?_toList] at hj
    have hjl : j < (cs.extract o (o + k)).size := by
      rcases Nat.lt_or_ge j (cs.extract o (o + k)).size with h1 | h1
      · exact h1
      · rw [Array.getElem?_eq_none h1] at hj; cases hj
    rw [← hj, Array.getElem?_extract]
    simp at hjl
    rw [if_pos (by omega)])
  rw [hl] at hrun
  simp only [tyB_isAgg hT, tyB_size hT, hrun, Sem.run_bind, Result.andThen_ok, if_true, Sem.run_pure]

/-- Cells written from place o on. -/
def wr (cs : Array Value) (o : Nat) : List Value → Array Value
  | [] => cs
  | v :: vs => wr (cs.setIfInBounds o v) (o + 1) vs

theorem wr_size : ∀ (vs : List Value) (cs : Array Value) (o : Nat), (wr cs o vs).size = cs.size
  | [], _, _ => rfl
  | v :: vs, cs, o => by rw [wr, wr_size vs]; simp

theorem wr_get : ∀ (vs : List Value) (cs : Array Value) (o i : Nat), o + vs.length ≤ cs.size → (wr cs o vs)[i]? = if o ≤ i ∧ i < o + vs.length then vs[i - o]? else cs[i]?
  | [], cs, o, i, _ => by simp [wr]; intro h1 h2; omega
  | v :: vs, cs, o, i, h => by
    simp only [List.length_cons] at h
    rw [wr, wr_get vs _ _ _ (by simp; omega)]
    by_cases h1 : o + 1 ≤ i ∧ i < o + 1 + vs.length
    · rw [if_pos h1, if_pos (by simp; omega)]
      have : i - o = (i - (o + 1)) + 1 := by omega
      rw [this]; simp
    · rw [if_neg h1]
      by_cases h2 : o ≤ i ∧ i < o + (v :: vs).length
      · rw [if_pos h2]
        simp only [List.length_cons] at h2
        have : i = o := by omega
        subst this
        simp [Array.getElem?_setIfInBounds]; omega
      · rw [if_neg h2]
        simp only [List.length_cons] at h2
        rw [Array.getElem?_setIfInBounds, if_neg (by omega)]

theorem Upd.setCell (h : w.heap[b]? = some (.cells cs t)) (i : Nat) (v : Value) : Upd w (w.setCell ⟨b, i, none⟩ v) b (.cells (cs.setIfInBounds i v) t) := by
  refine ⟨rfl, rfl, rfl, by simp, ?_, fun k hk => Below.heap_setCell _ _ _ _ hk⟩
  simp [World.setCell, Array.getElem?_modify, h]

theorem Upd.trans {w'' : World} {o o' : Obj} (h : Upd w w' b o) (h' : Upd w' w'' b o') : Upd w w'' b o' :=
  ⟨h'.os.trans h.os, h'.tape.trans h.tape, h'.output.trans h.output, h'.size.trans h.size, h'.at_, fun k hk => (h'.far k hk).trans (h.far k hk)⟩

theorem run_storeCells : ∀ (vs : List Value) (i : Nat) (w : World) (cs : Array Value) (o : Nat), w.heap[b]? = some (.cells cs t) → (∀ v ∈ vs, v.oneCell' = true) → o + i + vs.length ≤ cs.size →
    ∃ w', (storeCells ⟨b, o, none⟩ vs i).run P w = .ok () w' ∧ Upd w w' b (.cells (wr cs (o + i) vs) t)
  | [], i, w, cs, o, h, _, _ => ⟨w, rfl, ⟨rfl, rfl, rfl, rfl, h, fun _ _ => rfl⟩⟩
  | v :: vs, i, w, cs, o, h, h1, hl => by
    simp only [List.length_cons] at hl
    have hc : w.cell? ⟨b, o + i, none⟩ = some (cs[o + i]'(by omega)) := by rw [cell_of h]; simp
    have hf : w.frozen? ⟨b, o + i, none⟩ = false := by simp [World.frozen?, h]
    have hU := Upd.setCell h (o + i) v
    obtain ⟨w', hrun, hU'⟩ := run_storeCells vs (i + 1) _ _ o hU.at_ (fun u hu => h1 u (by simp [hu])) (by simp; omega)
    refine ⟨w', ?_, ?_⟩
    · simp only [storeCells, Sem.run_bind, addr_add, run_store _ _ _ _ _ (h1 v (by simp)), hc, hf, Bool.false_eq_true, if_false, Result.andThen_ok]
      exact hrun
    · have := hU.trans hU'
      rw [wr]; rw [Nat.add_assoc]; exact this

/-- What a store to a variable makes of the world. -/
def Wrt (P : Program) (w : World) (T : TypeId) (a : Addr) (v : Value) (w' : World) : Prop := (storeVar T a v).run P w = .ok () w'

theorem storeVar_blk {T : TypeId} {agg : Bool} {k o : Nat} {v : Value} (hT : tyB P T agg k = true) (hv : v.cells.size = k) (h1 : ∀ u ∈ v.cells.toList, u.oneCell' = true) (h : w.heap[b]? = some (.cells cs t)) (hk : o + k ≤ cs.size) :
    ∃ w', Wrt P w T ⟨b, o, none⟩ v w' ∧ Upd w w' b (.cells (wr cs o v.cells.toList) t) := by
  obtain ⟨w', hrun, hU⟩ := run_storeCells (P := P) v.cells.toList 0 w cs o h h1 (by simp; omega)
  refine ⟨w', ?_, by simpa using hU⟩
  unfold Wrt storeVar
  simp [tyB_size hT, hv, hrun]
end
end Go.Proofs.YtkncbggnaobgeaaDoor
