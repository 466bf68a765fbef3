/- Texts of this session, laid together: Open, Card0, Head, Rowk. -/
import Derived.Test.YtkncbggnaobgeaaDoorGa
import Derived.ProofKit
import Derived.LaidMore
import Derived.OpenShut
import Derived.Stop.Joined
import Derived.Carry
import Derived.Deep.Slices
import Derived.Test.YtkncbggnaobgeaaDoorRows
import Derived.Test.YtkncbggnaobgeaaDoorGf
import Derived.JoinedOf
import Derived.SevenTiedAt

/- Opening the arguments of a law: from what the form says of them to the cells that the walks speak of; the law's end. Plain theorems over any program. -/
namespace Go.Proofs.YtkncbggnaobgeaaDoor
open Go.ChangeShapes Go.WideShapes Go.ChangeAt Go.WideMaps Go.WideElems Go.RowKit
set_option linter.unusedVariables false
set_option linter.unusedSimpArgs false
set_option linter.unusedSectionVars false
set_option maxRecDepth 100000

/-! ### Types whose every leaf is an integer of one kind -/
def leafFs (g : TypeId → Bool) (sz : TypeId → Nat) : List Field → Nat → Nat → Bool
  | [], off, tot => off == tot
  | x :: xs, off, tot => x.offset == off && g x.type && leafFs g sz xs (off + sz x.type) tot
def leafB (P : Program) (k : IntKind) : Nat → TypeId → Bool
  | 0, _ => false
  | n + 1, t => match P.underlying t with
    | some (.int k') => k' == k && P.cellsOf t == 1
    | some (.array m e) => leafB P k n e && P.cellsOf t == m * P.cellsOf e
    | some (.struct fs) => leafFs (leafB P k n) P.cellsOf fs.toList 0 (P.cellsOf t)
    | _ => false
def flatZ {H : Type} : Nat → DataW H → List Int
  | 0, _ => []
  | n + 1, d => match d with
    | .lit (.int _ z) => [z]
    | .agg xs => xs.flatMap (flatZ n)
    | _ => []
section
variable {H : Type} {enc : TypeId × Value → H} {P : Program} {w : World} {base : Nat} {spare : Nat → Bool} {held : Bool}
theorem leafFs_open {n : Nat} {k : IntKind} {fuel : Nat} {cs : List Value}
    (ih : ∀ t, leafB P k fuel t = true → ∀ {cs : List Value} {x : DataW H × List MemPlace}, DataW.trod enc P w base spare held n t cs = some x → cs = (flatZ fuel x.1).map (.int k) ∧ (∀ z ∈ flatZ fuel x.1, (Lit.int k z).wf = true) ∧ cs.length = P.cellsOf t) :
    ∀ (gs : List Field) (ys : List (DataW H × List MemPlace)) (off tot : Nat), leafFs (leafB P k fuel) P.cellsOf gs off tot = true → ys.length = gs.length → cs.length = tot →
    (∀ (i : Nat) (f : Field), gs[i]? = some f → DataW.trod enc P w base spare held n f.type ((cs.drop f.offset).take (P.cellsOf f.type)) = ys[i]?) →
    cs.drop off = ((ys.map (·.1)).flatMap (flatZ fuel)).map (.int k) ∧ ∀ z ∈ (ys.map (·.1)).flatMap (flatZ fuel), (Lit.int k z).wf = true
  | [], ys, off, tot, hl, hy, hc, h => by
    have : ys = [] := List.eq_nil_of_length_eq_zero (by simpa using hy)
    subst this
    simp only [leafFs, beq_iff_eq] at hl
    refine ⟨?_, by simp⟩
    rw [List.drop_eq_nil_of_le (by omega)]; rfl
  | g :: gs, ys, off, tot, hl, hy, hc, h => by
    cases ys with
    | nil => simp at hy
    | cons y ys =>
      simp only [leafFs, Bool.and_eq_true, beq_iff_eq] at hl
      obtain ⟨⟨h1, h2⟩, h3⟩ := hl
      have h0 := h 0 g rfl
      rw [h1] at h0
      obtain ⟨e1, e2, e3⟩ := ih g.type h2 h0
      obtain ⟨r1, r2⟩ := leafFs_open ih gs ys (off + P.cellsOf g.type) tot h3 (by simpa using hy) hc (fun i f hf => by have := h (i + 1) f (by simpa using hf); simpa using this)
      refine ⟨?_, ?_⟩
      · rw [List.map_cons, List.flatMap_cons, List.map_append, ← e1, ← r1, ← List.drop_drop, List.take_append_drop]
      · intro z hz
        rw [List.map_cons, List.flatMap_cons, List.mem_append] at hz
        exact hz.elim (e2 z) (r2 z)
theorem leafArr_open {n s : Nat} {k : IntKind} {fuel : Nat} {cs : List Value} {e : TypeId} (hs : P.cellsOf e = s)
    (ih : ∀ {cs : List Value} {x : DataW H × List MemPlace}, DataW.trod enc P w base spare held n e cs = some x → cs = (flatZ fuel x.1).map (.int k) ∧ (∀ z ∈ flatZ fuel x.1, (Lit.int k z).wf = true) ∧ cs.length = P.cellsOf e) :
    ∀ (m off : Nat) (ys : List (DataW H × List MemPlace)), ys.length = m → cs.length = (off + m) * s →
    (∀ i, i < m → DataW.trod enc P w base spare held n e ((cs.drop ((off + i) * s)).take s) = ys[i]?) →
    cs.drop (off * s) = ((ys.map (·.1)).flatMap (flatZ fuel)).map (.int k) ∧ ∀ z ∈ (ys.map (·.1)).flatMap (flatZ fuel), (Lit.int k z).wf = true
  | 0, off, ys, hy, hc, h => by
    have : ys = [] := List.eq_nil_of_length_eq_zero hy
    subst this
    refine ⟨?_, by simp⟩
    rw [List.drop_eq_nil_of_le (by rw [hc, Nat.add_zero]; exact Nat.le_refl _)]; rfl
  | m + 1, off, ys, hy, hc, h => by
    cases ys with
    | nil => simp at hy
    | cons y ys =>
      have h0 := h 0 (by omega)
      rw [Nat.add_zero] at h0
      obtain ⟨e1, e2, e3⟩ := ih h0
      obtain ⟨r1, r2⟩ := leafArr_open hs ih m (off + 1) ys (by simpa using hy) (by rw [hc]; congr 1; omega) (fun i hi => by have := h (i + 1) (by omega); rw [show off + 1 + i = off + (i + 1) from by omega]; simpa using this)
      refine ⟨?_, ?_⟩
      · rw [List.map_cons, List.flatMap_cons, List.map_append, ← e1, ← r1, Nat.add_mul, Nat.one_mul, ← List.drop_drop, List.take_append_drop]
      · intro z hz
        rw [List.map_cons, List.flatMap_cons, List.mem_append] at hz
        exact hz.elim (e2 z) (r2 z)
theorem leaf_open {k : IntKind} : ∀ (fuel : Nat) (t : TypeId), leafB P k fuel t = true → ∀ {n : Nat} {cs : List Value} {x : DataW H × List MemPlace}, DataW.trod enc P w base spare held n t cs = some x →
    cs = (flatZ fuel x.1).map (.int k) ∧ (∀ z ∈ flatZ fuel x.1, (Lit.int k z).wf = true) ∧ cs.length = P.cellsOf t
  | 0, t, h, n, cs, x, hx => by simp [leafB] at h
  | fuel + 1, t, h, n, cs, x, hx => by
    unfold leafB at h
    cases hu : P.underlying t with
    | none => simp [hu] at h
    | some d =>
      rw [hu] at h
      cases d with
      | int k' =>
        simp only [Bool.and_eq_true, beq_iff_eq] at h
        obtain ⟨rfl, h2⟩ := h
        obtain ⟨z, rfl, rfl, hw⟩ := DataW.trod_int hu hx
        refine ⟨rfl, ?_, by simp [h2]⟩
        intro y hy
        simp [flatZ] at hy
        subst hy; exact hw
      | array m e =>
        simp only [Bool.and_eq_true, beq_iff_eq] at h
        obtain ⟨xs, n', rfl, rfl, hc, hl, hel⟩ := DataW.trod_array hu hx
        have := leafArr_open (s := P.cellsOf e) rfl (fun hx => leaf_open fuel e h.1 hx) m 0 xs hl (by rw [hc, h.2, Nat.zero_add]) (fun i hi => by rw [Nat.zero_add]; exact hel i hi)
        rw [Nat.zero_mul, List.drop_zero] at this
        exact ⟨this.1, this.2, hc⟩
      | struct fs =>
        simp only at h
        obtain ⟨xs, n', rfl, rfl, hc, hl, hel⟩ := DataW.trod_struct hu hx
        have := leafFs_open (fun t ht {cs x} hx => leaf_open fuel t ht hx) fs.toList xs 0 (P.cellsOf t) h (by simpa using hl) hc (fun i f hf => hel i f (by simpa using hf))
        rw [List.drop_zero] at this
        exact ⟨this.1, this.2, hc⟩
      | _ => simp at h
theorem wf_i64' {z : Int} (h : (Lit.int .i64 z).wf = true) : -9223372036854775808 ≤ z ∧ z ≤ 9223372036854775807 := by
  simp only [Lit.wf, Bool.and_eq_true, decide_eq_true_eq] at h
  have h1 : IntKind.min .i64 = -9223372036854775808 := by decide
  have h2 : IntKind.max .i64 = 9223372036854775807 := by decide
  omega

/-! ### Slices in memory -/
/-- Where a slice's cells lie: n of them, each a value that is said. -/
def CellsAt (w : World) (A : Option Addr) (n : Nat) (f : Nat → Option Value) : Prop := n = 0 ∨ ∃ b o cs t fr, A = some ⟨b, o, none⟩ ∧ w.heap[b]? = some (.cells cs t fr) ∧ ∀ j, j < n → cs[o + j]? = f j
theorem addr_add' (b o j : Nat) : (⟨b, o, none⟩ : Addr).add j = ⟨b, o + j, none⟩ := by
  unfold Addr.add; split <;> simp_all
theorem cell_some {a : Addr} {v : Value} (h : w.cell? a = some v) : ∃ cs t fr, w.heap[a.block]? = some (.cells cs t fr) ∧ a.spot = none ∧ cs[a.off]? = some v := by
  unfold World.cell? at h
  split at h
  · rename_i c t fr hb
    split at h
    · cases h
    · rename_i hs
      exact ⟨c, t, fr, hb, by simpa using hs, h⟩
  · cases h
/-- The cells of a slice's elements, s to an element. -/
theorem slice_cells {a : Addr} {len s : Nat} (hs : 0 < s) {Y : Nat → List Value} (h : ∀ i, i < len → w.cells? base (a.add (i * s)) s = some (Y i)) :
    (∀ i, i < len → (Y i).length = s) ∧ CellsAt w (some a) (len * s) (fun j => (Y (j / s))[j % s]?) := by
  have h1 : ∀ i, i < len → (Y i).length = s := fun i hi => (World.cells?_some (h i hi)).2.1
  refine ⟨h1, ?_⟩
  rcases Nat.eq_zero_or_pos len with h0 | hp
  · left; rw [h0, Nat.zero_mul]
  right
  have hc := (World.cells?_some (h 0 hp)).2.2 0 hs
  rw [Nat.zero_mul, addr_add0, addr_add0] at hc
  rw [List.getElem?_eq_getElem (show 0 < (Y 0).length by rw [h1 0 hp]; exact hs)] at hc
  obtain ⟨cs, t, fr, hb, hsp, _⟩ := cell_some hc
  obtain ⟨b, o, sp⟩ := a
  simp only at hsp hb
  subst hsp
  refine ⟨b, o, cs, t, fr, rfl, hb, fun j hj => ?_⟩
  have hi : j / s < len := Nat.div_lt_of_lt_mul (by rw [Nat.mul_comm]; exact hj)
  have := (World.cells?_some (h (j / s) hi)).2.2 (j % s) (Nat.mod_lt _ hs)
  rw [addr_add', addr_add'] at this
  show cs[o + j]? = (Y (j / s))[j % s]?
  rw [← this]
  have e1 : o + j / s * s + j % s = o + j := by rw [Nat.mul_comm, Nat.add_assoc, Nat.div_add_mod]
  rw [e1]
  simp [World.cell?, hb]
theorem open_slcC {t e : TypeId} {s : Nat} {fuel : Nat} {vs : List Value} {x : DataW H × List MemPlace} (ht : P.underlying t = some (.slice e)) (hs : P.cellsOf e = s) (hs0 : 0 < s) (hf : DataW.trod enc P w base spare held fuel t vs = some x) :
    ∃ (A : Option Addr) (len cap : Nat) (Y : Nat → List Value), vs = [.slice A len cap] ∧ len ≤ cap ∧ len ≤ 9223372036854775807 ∧ (∀ i, i < len → (Y i).length = s ∧ ∃ n x, DataW.trod enc P w base spare held n e (Y i) = some x) ∧ CellsAt w A (len * s) (fun j => (Y (j / s))[j % s]?) := by
  rcases Go.Deep.open_slice ht hf with ⟨h1, _⟩ | ⟨a, len, cap, m, n, D, Pl, h1, _, hlc, hcm, hm, _, hel⟩
  · exact ⟨none, 0, 0, fun _ => [], h1, Nat.le_refl _, Nat.zero_le _, fun i hi => by omega, .inl (Nat.zero_mul _)⟩
  · have hml : len ≤ m := by rw [hm]; split <;> omega
    rw [hs] at hel
    have hY : ∀ i, ∃ y : List Value, i < len → w.cells? base (a.add (i * s)) s = some y ∧ DataW.trod enc P w base spare held n e y = some (D i, Pl i) := fun i => by
      by_cases hi : i < len
      · obtain ⟨y, h2, h3⟩ := hel i (by omega)
        exact ⟨y, fun _ => ⟨h2, h3⟩⟩
      · exact ⟨[], fun h => absurd h hi⟩
    obtain ⟨Y, hY⟩ := Classical.axiomOfChoice hY
    obtain ⟨k1, k2⟩ := slice_cells hs0 (fun i hi => (hY i hi).1)
    exact ⟨some a, len, cap, Y, h1, hlc, by unfold maxLen at hcm; omega, fun i hi => ⟨k1 i hi, n, _, (hY i hi).2⟩, k2⟩
theorem open_slc {t e : TypeId} {s : Nat} {r : Reach} {b0 : Nat} {v : Value} {d : DataW H} {ps : List MemPlace} (ht : P.underlying t = some (.slice e)) (hs : P.cellsOf e = s) (hs0 : 0 < s) (hval : Value.okWide P w r b0 t v) (h : DataW.Trod enc P w base spare held t v d ps) :
    ∃ (A : Option Addr) (len cap : Nat) (Y : Nat → List Value), v = .slice A len cap ∧ len ≤ cap ∧ len ≤ 9223372036854775807 ∧ (∀ i, i < len → (Y i).length = s ∧ ∃ n x, DataW.trod enc P w base spare held n e (Y i) = some x) ∧ CellsAt w A (len * s) (fun j => (Y (j / s))[j % s]?) := by
  obtain ⟨A, len, cap, rfl⟩ := okWide_slice ht hval
  obtain ⟨fuel, hf⟩ := h
  obtain ⟨A', len', cap', Y, h1, h2, h3, h4, h5⟩ := open_slcC ht hs hs0 hf
  have h1' : Value.slice A len cap = .slice A' len' cap' := by simpa [Value.cells] using h1
  cases h1'
  exact ⟨A, len, cap, Y, rfl, h2, h3, h4, h5⟩

/-! ### Rows of integers -/
def unI : Value → Int
  | .int _ z => z
  | _ => 0
theorem map_unI (zs : List Int) : (zs.map (Value.int .i64)).map unI = zs := by
  rw [List.map_map]
  have : (unI ∘ Value.int .i64) = id := by funext z; rfl
  rw [this, List.map_id]
/-- Integers handed over in a slice. -/
def IntsIn (w : World) (A : Option Addr) (xs : List Int) : Prop := xs = [] ∨ ∃ b o cs t fr, A = some ⟨b, o, none⟩ ∧ w.heap[b]? = some (.cells cs t fr) ∧ ∀ j u, xs[j]? = some u → cs[o + j]? = some (.int .i64 u)
theorem IntsIn.keep {w0 w : World} {L : Hp} {A : Option Addr} {xs : List Int} (h : IntsIn w0 A xs) (H : St w0 [] w L) : IntsIn w A xs := by
  rcases h with h | ⟨b, o, cs, t, fr, h1, h2, h3⟩
  · exact .inl h
  · exact .inr ⟨b, o, cs, t, fr, h1, H.oldBlock h2 (by simp), h3⟩
theorem flatten_get {s : Nat} (hs : 0 < s) : ∀ (rows : List (List Int)), (∀ r ∈ rows, r.length = s) → rows.flatten.length = rows.length * s ∧ ∀ j, j < rows.length * s → rows.flatten[j]? = (rows[j / s]?.getD [])[j % s]?
  | [], _ => ⟨by simp, fun j hj => by simp at hj⟩
  | r :: rows, h => by
    obtain ⟨h1, h2⟩ := flatten_get hs rows (fun x hx => h x (List.mem_cons_of_mem _ hx))
    have hr := h r List.mem_cons_self
    refine ⟨by rw [List.flatten_cons, List.length_append, h1, hr, List.length_cons, Nat.add_mul, Nat.one_mul, Nat.add_comm], fun j hj => ?_⟩
    rw [List.flatten_cons]
    by_cases hlt : j < s
    · rw [List.getElem?_append_left (by omega), Nat.div_eq_of_lt hlt, Nat.mod_eq_of_lt hlt]; rfl
    · rw [List.getElem?_append_right (by omega), hr]
      rw [List.length_cons, Nat.add_mul, Nat.one_mul] at hj
      rw [h2 (j - s) (by omega)]
      have e1 : j / s = (j - s) / s + 1 := by rw [← Nat.div_eq_sub_div hs (by omega)]
      have e2 : j % s = (j - s) % s := by rw [← Nat.mod_eq_sub_mod (by omega)]
      rw [e1, e2]
      simp
theorem rows_of {s f e : Nat} (hl : leafB P .i64 f e = true) {len : Nat} {Y : Nat → List Value} (h : ∀ i, i < len → (Y i).length = s ∧ ∃ n x, DataW.trod enc P w base spare held n e (Y i) = some x) :
    ∃ rows : List (List Int), rows.length = len ∧ (∀ r ∈ rows, r.length = s ∧ ∀ z ∈ r, -9223372036854775808 ≤ z ∧ z ≤ 9223372036854775807) ∧ ∀ i (hi : i < rows.length), Y i = (rows[i]).map (.int .i64) := by
  have key : ∀ i, i < len → ∃ zs : List Int, Y i = zs.map (.int .i64) ∧ ∀ z ∈ zs, -9223372036854775808 ≤ z ∧ z ≤ 9223372036854775807 := fun i hi => by
    obtain ⟨_, n, x, hx⟩ := h i hi
    obtain ⟨h1, h2, _⟩ := leaf_open f e hl hx
    exact ⟨_, h1, fun z hz => wf_i64' (h2 z hz)⟩
  refine ⟨(List.range len).map fun i => (Y i).map unI, by simp, ?_, ?_⟩
  · intro r hr
    obtain ⟨i, hi, rfl⟩ := List.mem_map.1 hr
    have hi' := List.mem_range.1 hi
    obtain ⟨zs, h1, h2⟩ := key i hi'
    refine ⟨by rw [List.length_map]; exact (h i hi').1, ?_⟩
    rw [h1, map_unI]
    exact h2
  · intro i hi
    have hi' : i < len := by simpa using hi
    obtain ⟨zs, h1, _⟩ := key i hi'
    rw [List.getElem_map, List.getElem_range, h1, map_unI]
theorem rows_in {s len : Nat} (hs : 0 < s) {A : Option Addr} {Y : Nat → List Value} {rows : List (List Int)} (hlen : rows.length = len) (h8 : ∀ r ∈ rows, r.length = s) (hY : ∀ i (hi : i < rows.length), Y i = (rows[i]).map (.int .i64)) (h : CellsAt w A (len * s) (fun j => (Y (j / s))[j % s]?)) : IntsIn w A rows.flatten := by
  obtain ⟨f1, f2⟩ := flatten_get hs rows h8
  rcases h with h | ⟨b, o, cs, t, fr, h1, h2, h3⟩
  · left
    exact List.eq_nil_of_length_eq_zero (by rw [f1, hlen]; exact h)
  · right
    refine ⟨b, o, cs, t, fr, h1, h2, fun j u hj => ?_⟩
    have hjl : j < rows.length * s := by
      rw [← f1]
      rcases Nat.lt_or_ge j rows.flatten.length with hl | hg
      · exact hl
      · rw [List.getElem?_eq_none hg] at hj; cases hj
    have hi : j / s < rows.length := Nat.div_lt_of_lt_mul (by rw [Nat.mul_comm]; exact hjl)
    rw [f2 j hjl, List.getElem?_eq_getElem hi] at hj
    rw [h3 j (by rw [← hlen]; exact hjl)]
    show (Y (j / s))[j % s]? = _
    rw [hY _ hi, List.getElem?_map]
    simp only [Option.getD_some] at hj
    rw [hj]; rfl
end

/-! ### The end of a law -/
section
variable {H : Type} {enc : TypeId × Value → H} {P : Program}
theorem trodAll_keep (hl : laidOutB P = true) {W W' : World} (hb : Below W.heap.size W W') : ∀ {ts : List TypeId} {vs : List Value} {ds : List (DataW H)} {p : List MemPlace}, (ts.all fun t => P.readableRec t && decide (t < P.types.size)) = true →
    DataW.TrodAll enc P W 0 (fun _ => true) true ts vs ds p → (∀ x ∈ p, x.block < W.heap.size) → DataW.TrodAll enc P W' 0 (fun b => decide (b < W.heap.size)) true ts vs ds p
  | [], vs, ds, p, _, h, _ => by
    obtain ⟨rfl, rfl, rfl⟩ := trodAll_nil h
    exact trodAll_mk0
  | t :: ts, vs, ds, p, ht, h, hp => by
    obtain ⟨v, vs', d, ds', p', q', rfl, rfl, rfl, h1, h2⟩ := trodAll_cons h
    rw [List.all_cons, Bool.and_eq_true, Bool.and_eq_true] at ht
    exact trodAll_cons_mk (Below.trod hl ht.1.1 (of_decide_eq_true ht.1.2) h1 hb (fun x hx => hp x (by simp [hx]))) (trodAll_keep hl hb ht.2 h2 (fun x hx => hp x (by simp [hx])))
theorem post_law {s : ChangeSpec} {f : Func} {W W' : World} {args : Array Value} {ds gs : List (DataW H)} {p : List MemPlace} {b : TypeId} (hl : laidOutB P = true) (hub : P.underlying b = some .bool) (hres : f.resultTypes = #[b]) (hv : s.vars = [])
    (hspec : s.fn H (ds ++ gs) = { results := [.lit (.bool true)], args := ds }) (hts : (f.params.toList.all fun t => P.readableRec t && decide (t < P.types.size)) = true)
    (hW : DataW.Whole enc P f.params.toList s.vars false W args.toList ds gs p) (st : St W [] W' []) : s.post enc P f false true false false W args (.bool true) W' := by
  have hlt := hW.lt
  have hW' := hW
  obtain ⟨p', q', hA, hV, rfl, _, _⟩ := hW
  have bel := st.below
  rw [hv] at hV
  obtain ⟨rfl, rfl⟩ := trodVars_none hV
  refine ⟨ds, [], p' ++ [], [], p', [], hW', ?_, ?_, ?_, bel.frame _, fun h => by cases h⟩
  · rw [hspec, hres]
    exact trodAll_mk1 (shut_bool hub _)
  · rw [hspec]
    exact trodAll_keep hl bel hts hA (fun x hx => hlt x (by simp [hx]))
  · rw [hspec, hv]; exact rfl
end
end Go.Proofs.YtkncbggnaobgeaaDoor

/- What the laid variables give the walks; images among a law's arguments. -/
namespace Go.Proofs.YtkncbggnaobgeaaDoor
open Go.ChangeShapes Go.WideShapes Go.ChangeAt Go.WideMaps Go.WideElems Go.RowKit
set_option linter.unusedVariables false
set_option linter.unusedSimpArgs false
set_option linter.unusedSectionVars false
set_option maxRecDepth 100000

theorem laid_get {P : Program} {w : World} : ∀ {laid : List (String × DataW Unit)} {ps : List MemPlace}, DataW.LaidVars P w laid ps → ∀ {n : String} {d : DataW Unit}, (n, d) ∈ laid →
    ∃ g t cs fuel p, P.globalNamed n = some g ∧ (P.globals[g]?).map (·.type) = some t ∧ w.var? P n = some cs ∧ DataW.trod (fun _ => ()) P w 0 (fun _ => true) false fuel t cs.toList = some (d, p)
  | [], _, _, _, _, hm => by cases hm
  | (n0, d0) :: r, ps, h, n, d, hm => by
    obtain ⟨g, t, cs, fuel, p, q, h1, h2, h3, h4, h5, _⟩ := h
    rcases List.mem_cons.1 hm with he | hm
    · cases he
      exact ⟨g, t, cs, fuel, p, h1, h2, h3, h4⟩
    · exact laid_get h5 hm
/-- A table of integers among the laid variables: its block's cells. -/
theorem laid_ints {P : Program} {w : World} {laid : List (String × DataW Unit)} (h : laidMet P laid w) {n : String} {d : DataW Unit} (hm : (n, d) ∈ laid) {g : Nat} {t : TypeId} {k : IntKind} {f : Nat} (hg : P.globalNamed n = some g) (ht : (P.globals[g]?).map (·.type) = some t) (hl : leafB P k f t = true) :
    ∃ t' fr, w.heap[g]? = some (.cells ((flatZ f d).map (Value.int k)).toArray t' fr) := by
  obtain ⟨ps, hv, _⟩ := h
  obtain ⟨g', t', cs, fuel, p, h1, h2, h3, h4⟩ := laid_get hv hm
  obtain rfl := Option.some.inj (hg.symm.trans h1)
  obtain rfl := Option.some.inj (ht.symm.trans h2)
  obtain ⟨e1, _⟩ := leaf_open f t hl h4
  simp only at e1
  simp only [World.var?, hg, Option.bind_some] at h3
  split at h3
  · rename_i c ty fr hc
    cases h3
    refine ⟨ty, fr, ?_⟩
    rw [hc]
    have : cs = ((flatZ f d).map (Value.int k)).toArray := by rw [← e1]
    rw [this]
  · cases h3
theorem laidOut : laidOutB Tryd.prog = true := by kernel_rfl
theorem own : ownKnob Tryd.prog.godebug = none := by kernel_rfl
theorem g64 : Tryd.prog.globalNamed "math/bits.deBruijn64tab" = some 3 := by kernel_rfl
theorem L64.laid {w : World} {laid : List (String × DataW Unit)} (h : laidMet Tryd.prog laid w) (hm : ("math/bits.deBruijn64tab", Rows.laid_math_bits_deBruijn64tab) ∈ laid) : L64 w := by
  obtain ⟨t', fr, hb⟩ := laid_ints (k := .u8) (f := 2) (t := (Tryd.prog.globals[3]?.map (·.type)).getD 0) h hm g64 (by kernel_rfl) (by kernel_rfl)
  exact ⟨t', fr, hb.trans (by kernel_rfl)⟩
/-- Images. -/
theorem imgs_open {H : Type} {enc : TypeId × Value → H} {w : World} {base b0 : Nat} {spare : Nat → Bool} {held : Bool} {r : Reach} {v : Value} {d : DataW H} {ps : List MemPlace} (hval : Value.okWide Tryd.prog w r b0 23 v) (h : DataW.Trod enc Tryd.prog w base spare held 23 v d ps) :
    ∃ A cap imgs, v = .slice A (List.length imgs) cap ∧ (∀ x ∈ imgs, x.1.length = 8) ∧ ImgIn w A imgs := by
  obtain ⟨A, len, cap, Y, rfl, _, _, hY, hc⟩ := open_slc Tryd.underlying23 (s := 9) (by kernel_rfl) (by omega) hval h
  obtain ⟨rows, hlen, hr, hYr⟩ := rows_of (f := 3) (by kernel_rfl) hY
  have hin := rows_in (by omega) hlen (fun r hr' => (hr r hr').1) hYr hc
  refine ⟨A, cap, rows.map fun r => (r.take 8, r.getD 8 0), by rw [List.length_map, hlen], ?_, ?_⟩
  · intro x hx
    obtain ⟨r, hr', rfl⟩ := List.mem_map.1 hx
    simp [(hr r hr').1]
  · have hflat : flatI (rows.map fun r => (r.take 8, r.getD 8 0)) = rows.flatten := by
      unfold flatI
      rw [List.flatMap_map, ← List.flatMap_id, List.flatMap_def, List.flatMap_def]
      congr 1
      refine List.map_congr_left fun r hr' => ?_
      have h9 := (hr r hr').1
      match r, h9 with
      | [_, _, _, _, _, _, _, _, _], _ => rfl
    rcases hin with h | ⟨b, o, cs, t, fr, h1, h2, h3⟩
    · left
      have : rows = [] := by
        cases rows with
        | nil => rfl
        | cons r rs =>
          have h9 := (hr r List.mem_cons_self).1
          rw [List.flatten_cons, List.append_eq_nil_iff] at h
          rw [h.1] at h9; simp at h9
      rw [this]; rfl
    · exact .inr ⟨b, o, cs, t, fr, h1, h2, fun j u hj => h3 j u (by rw [← hflat]; exact hj)⟩
end Go.Proofs.YtkncbggnaobgeaaDoor

/- Facts on the program's own head, each shown once. -/
namespace Go.Proofs.YtkncbggnaobgeaaDoor
open Go
set_option maxRecDepth 100000

/-- The signs of the program's first row, by their numbers. -/
def headSigns : List Char := ([104, 97, 114, 110, 101, 115, 115, 32, 100, 97, 100, 56, 54, 101, 49, 48, 99, 48, 99, 57, 56, 55, 53, 48, 57, 56, 102, 49, 52, 54, 51, 57, 52, 53, 55, 99, 55, 100, 97, 57, 54, 49, 53, 51, 98, 99, 53, 49, 100, 48, 55, 100, 98, 49, 52, 55, 51, 49, 100, 53, 102, 53, 57, 51, 56, 101, 56, 100, 52, 101, 52, 55, 32, 99, 117, 116, 32, 97, 116, 32, 97, 108, 117, 109, 47, 97, 108, 117, 109, 108, 97, 119, 48, 52, 46, 77, 101, 109, 111, 114, 121, 66, 101, 103, 105, 110, 115, 32, 97, 108, 117, 109, 47, 97, 108, 117, 109, 108, 97, 119, 48, 52, 46, 77, 101, 109, 111, 114, 121, 67, 111, 100, 101, 115, 32, 97, 108, 117, 109, 47, 97, 108, 117, 109, 108, 97, 119, 48, 52, 46, 77, 101, 109, 111, 114, 121, 70, 101, 110, 99, 101, 75, 101, 101, 112, 115, 32, 97, 108, 117, 109, 47, 97, 108, 117, 109, 108, 97, 119, 48, 52, 46, 77, 101, 109, 111, 114, 121, 69, 118, 105, 99, 116, 115, 76, 105, 107, 101, 70, 101, 110, 99, 101, 115, 32, 97, 108, 117, 109, 47, 97, 108, 117, 109, 108, 97, 119, 48, 52, 46, 77, 101, 109, 111, 114, 121, 76, 105, 110, 101, 115, 65, 114, 101, 65, 112, 97, 114, 116, 32, 97, 108, 117, 109, 47, 97, 108, 117, 109, 108, 97, 119, 48, 56, 46, 82, 111, 111, 116, 71, 111, 101, 115, 79, 110, 32, 97, 108, 117, 109, 47, 97, 108, 117, 109, 108, 97, 119, 48, 52, 46, 77, 101, 109, 111, 114, 121, 77, 97, 116, 99, 104, 101, 115, 83, 112, 101, 99, 32, 97, 108, 117, 109, 47, 97, 108, 117, 109, 108, 97, 119, 48, 57, 46, 76, 111, 103, 79, 114, 100, 101, 114, 32, 97, 108, 117, 109, 47, 97, 108, 117, 109, 108, 97, 119, 48, 52, 46, 77, 101, 109, 111, 114, 121, 75, 101, 101, 112, 115, 80, 114, 101, 102, 105, 120, 101, 115, 32, 97, 108, 117, 109, 47, 97, 108, 117, 109, 108, 97, 119, 48, 56, 46, 82, 111, 111, 116, 80, 108, 97, 110, 77, 97, 116, 99, 104, 101, 115, 83, 112, 101, 99, 32, 97, 108, 117, 109, 47, 97, 108, 117, 109, 108, 97, 119, 48, 56, 46, 82, 111, 111, 116, 82, 101, 103, 105, 111, 110, 115, 65, 114, 101, 65, 112, 97, 114, 116, 32, 97, 108, 117, 109, 47, 97, 108, 117, 109, 108, 97, 119, 48, 56, 46, 82, 111, 111, 116, 87, 111, 114, 100, 115, 77, 97, 116, 99, 104, 83, 112, 101, 99, 32, 97, 108, 117, 109, 47, 97, 108, 117, 109, 108, 97, 119, 48, 56, 46, 82, 111, 111, 116, 80, 97, 114, 115, 101, 77, 97, 116, 99, 104, 101, 115, 83, 112, 101, 99, 32, 97, 108, 117, 109, 47, 97, 108, 117, 109, 108, 97, 119, 48, 57, 46, 76, 111, 103, 87, 111, 114, 100, 115, 77, 97, 116, 99, 104, 83, 112, 101, 99, 32, 97, 108, 117, 109, 47, 97, 108, 117, 109, 108, 97, 119, 48, 57, 46, 76, 111, 103, 68, 101, 99, 111, 100, 101, 115, 87, 104, 97, 116, 73, 116, 69, 110, 99, 111, 100, 101, 115, 32, 97, 108, 117, 109, 47, 97, 108, 117, 109, 108, 97, 119, 48, 56, 46, 82, 111, 111, 116, 83, 117, 114, 118, 105, 118, 101, 115, 82, 111, 116, 32, 97, 108, 117, 109, 47, 97, 108, 117, 109, 108, 97, 119, 48, 57, 46, 76, 111, 103, 77, 97, 116, 99, 104, 101, 115, 83, 112, 101, 99, 32, 97, 108, 117, 109, 47, 97, 108, 117, 109, 108, 97, 119, 48, 57, 46, 76, 111, 103, 70, 105, 110, 100, 115, 82, 111, 116, 32, 97, 108, 117, 109, 47, 97, 108, 117, 109, 108, 97, 119, 48, 56, 46, 82, 111, 111, 116, 83, 117, 114, 118, 105, 118, 101, 115, 70, 97, 105, 108, 117, 114, 101, 115] : List Nat).map Char.ofNat
theorem head_signs : Tryd.prog.initOrder.toList = headSigns := by
  have h : Tryd.prog.initOrder = String.ofList headSigns := by kernel_rfl
  rw [h]
  exact String.toList_ofList
def headWords : List (List Char) := ([[99, 117, 116], [97, 116], [97, 108, 117, 109, 47, 97, 108, 117, 109, 108, 97, 119, 48, 52, 46, 77, 101, 109, 111, 114, 121, 66, 101, 103, 105, 110, 115], [97, 108, 117, 109, 47, 97, 108, 117, 109, 108, 97, 119, 48, 52, 46, 77, 101, 109, 111, 114, 121, 67, 111, 100, 101, 115], [97, 108, 117, 109, 47, 97, 108, 117, 109, 108, 97, 119, 48, 52, 46, 77, 101, 109, 111, 114, 121, 70, 101, 110, 99, 101, 75, 101, 101, 112, 115], [97, 108, 117, 109, 47, 97, 108, 117, 109, 108, 97, 119, 48, 52, 46, 77, 101, 109, 111, 114, 121, 69, 118, 105, 99, 116, 115, 76, 105, 107, 101, 70, 101, 110, 99, 101, 115], [97, 108, 117, 109, 47, 97, 108, 117, 109, 108, 97, 119, 48, 52, 46, 77, 101, 109, 111, 114, 121, 76, 105, 110, 101, 115, 65, 114, 101, 65, 112, 97, 114, 116], [97, 108, 117, 109, 47, 97, 108, 117, 109, 108, 97, 119, 48, 56, 46, 82, 111, 111, 116, 71, 111, 101, 115, 79, 110], [97, 108, 117, 109, 47, 97, 108, 117, 109, 108, 97, 119, 48, 52, 46, 77, 101, 109, 111, 114, 121, 77, 97, 116, 99, 104, 101, 115, 83, 112, 101, 99], [97, 108, 117, 109, 47, 97, 108, 117, 109, 108, 97, 119, 48, 57, 46, 76, 111, 103, 79, 114, 100, 101, 114], [97, 108, 117, 109, 47, 97, 108, 117, 109, 108, 97, 119, 48, 52, 46, 77, 101, 109, 111, 114, 121, 75, 101, 101, 112, 115, 80, 114, 101, 102, 105, 120, 101, 115], [97, 108, 117, 109, 47, 97, 108, 117, 109, 108, 97, 119, 48, 56, 46, 82, 111, 111, 116, 80, 108, 97, 110, 77, 97, 116, 99, 104, 101, 115, 83, 112, 101, 99], [97, 108, 117, 109, 47, 97, 108, 117, 109, 108, 97, 119, 48, 56, 46, 82, 111, 111, 116, 82, 101, 103, 105, 111, 110, 115, 65, 114, 101, 65, 112, 97, 114, 116], [97, 108, 117, 109, 47, 97, 108, 117, 109, 108, 97, 119, 48, 56, 46, 82, 111, 111, 116, 87, 111, 114, 100, 115, 77, 97, 116, 99, 104, 83, 112, 101, 99], [97, 108, 117, 109, 47, 97, 108, 117, 109, 108, 97, 119, 48, 56, 46, 82, 111, 111, 116, 80, 97, 114, 115, 101, 77, 97, 116, 99, 104, 101, 115, 83, 112, 101, 99], [97, 108, 117, 109, 47, 97, 108, 117, 109, 108, 97, 119, 48, 57, 46, 76, 111, 103, 87, 111, 114, 100, 115, 77, 97, 116, 99, 104, 83, 112, 101, 99], [97, 108, 117, 109, 47, 97, 108, 117, 109, 108, 97, 119, 48, 57, 46, 76, 111, 103, 68, 101, 99, 111, 100, 101, 115, 87, 104, 97, 116, 73, 116, 69, 110, 99, 111, 100, 101, 115], [97, 108, 117, 109, 47, 97, 108, 117, 109, 108, 97, 119, 48, 56, 46, 82, 111, 111, 116, 83, 117, 114, 118, 105, 118, 101, 115, 82, 111, 116], [97, 108, 117, 109, 47, 97, 108, 117, 109, 108, 97, 119, 48, 57, 46, 76, 111, 103, 77, 97, 116, 99, 104, 101, 115, 83, 112, 101, 99], [97, 108, 117, 109, 47, 97, 108, 117, 109, 108, 97, 119, 48, 57, 46, 76, 111, 103, 70, 105, 110, 100, 115, 82, 111, 116], [97, 108, 117, 109, 47, 97, 108, 117, 109, 108, 97, 119, 48, 56, 46, 82, 111, 111, 116, 83, 117, 114, 118, 105, 118, 101, 115, 70, 97, 105, 108, 117, 114, 101, 115]] : List (List Nat)).map (·.map Char.ofNat)
theorem head_words : behindMainWord (wordsSigns headSigns) = headWords := by kernel_rfl
theorem head_lifts : Tryd.prog.headLifts = (stripLifts liftWords headWords).1 := by
  have h : ((stripLifts liftWords headWords).2.head? == some "cut".toList) = true := by kernel_rfl
  unfold Program.headLifts
  simp only [head_signs, head_words]
  rw [if_pos h]
theorem head_final : Tryd.prog.liftsFinal = false := by
  unfold Program.liftsFinal
  simp only [head_signs, head_words, head_lifts]
  kernel_rfl
theorem head_make : Tryd.prog.make = some .cut := by
  rw [Program.make.eq_1, head_signs, head_words]
  kernel_rfl
def doorRows0 : List (List UInt8) := ([[41, 49, 49, 32, 107, 111, 111, 108, 40, 32, 97, 116, 97, 100, 32, 110, 105, 97, 108, 112, 32, 44, 114, 101, 115, 105, 108, 97, 105, 116, 105, 110, 105, 32, 110, 119, 111, 32, 115, 116, 105, 32, 121, 98, 32, 100, 105, 97, 108, 32, 115, 105, 32, 115, 101, 108, 98, 98, 105, 110, 46, 104, 115, 97, 104, 47, 109, 117, 108, 97, 32, 58, 114, 111, 111, 100, 32, 115, 39, 114, 97, 118], [41, 49, 49, 32, 107, 111, 111, 108, 40, 32, 97, 116, 97, 100, 32, 110, 105, 97, 108, 112, 32, 44, 114, 101, 115, 105, 108, 97, 105, 116, 105, 110, 105, 32, 110, 119, 111, 32, 115, 116, 105, 32, 121, 98, 32, 100, 105, 97, 108, 32, 115, 105, 32, 115, 114, 101, 116, 110, 105, 111, 112, 46, 114, 101, 116, 110, 105, 111, 112, 47, 109, 117, 108, 97, 32, 58, 114, 111, 111, 100, 32, 115, 39, 114, 97, 118], [41, 111, 111, 116, 32, 115, 101, 108, 105, 102, 32, 116, 115, 101, 116, 32, 44, 49, 49, 32, 107, 111, 111, 108, 40, 32, 100, 114, 111, 119, 115, 114, 97, 118, 116, 117, 99, 32, 119, 111, 114, 32, 115, 39, 116, 115, 101, 102, 105, 110, 97, 109, 32, 101, 104, 116, 32, 101, 101, 115, 32, 59, 101, 110, 111, 108, 97, 32, 115, 114, 101, 115, 105, 108, 97, 105, 116, 105, 110, 105, 32, 115, 100, 108, 111, 104, 32, 115, 114, 97, 118, 46, 116, 117, 99, 46, 109, 101, 115, 111, 103, 32, 58, 114, 111, 111, 100, 32, 115, 39, 114, 97, 118], [41, 49, 49, 32, 107, 111, 111, 108, 40, 32, 97, 116, 97, 100, 32, 110, 105, 97, 108, 112, 32, 44, 114, 101, 115, 105, 108, 97, 105, 116, 105, 110, 105, 32, 110, 119, 111, 32, 115, 116, 105, 32, 121, 98, 32, 100, 105, 97, 108, 32, 115, 105, 32, 98, 97, 116, 50, 51, 110, 106, 105, 117, 114, 66, 101, 100, 46, 115, 116, 105, 98, 47, 104, 116, 97, 109, 32, 58, 114, 111, 111, 100, 32, 115, 39, 114, 97, 118], [41, 49, 49, 32, 107, 111, 111, 108, 40, 32, 97, 116, 97, 100, 32, 110, 105, 97, 108, 112, 32, 44, 114, 101, 115, 105, 108, 97, 105, 116, 105, 110, 105, 32, 110, 119, 111, 32, 115, 116, 105, 32, 121, 98, 32, 100, 105, 97, 108, 32, 115, 105, 32, 98, 97, 116, 52, 54, 110, 106, 105, 117, 114, 66, 101, 100, 46, 115, 116, 105, 98, 47, 104, 116, 97, 109, 32, 58, 114, 111, 111, 100, 32, 115, 39, 114, 97, 118], [41, 49, 49, 32, 107, 111, 111, 108, 40, 32, 116, 111, 111, 114, 32, 115, 39, 121, 114, 111, 116, 105, 115, 111, 112, 101, 114, 32, 101, 104, 116, 32, 115, 97, 32, 100, 101, 109, 97, 110, 32, 114, 101, 108, 108, 97, 99, 32, 101, 104, 116, 32, 116, 97, 104, 116, 32, 114, 101, 100, 108, 111, 102, 32, 101, 104, 116, 32, 114, 101, 118, 111, 32, 116, 110, 101, 119, 32, 115, 114, 97, 118, 46, 116, 117, 99, 46, 109, 101, 115, 111, 103, 32, 102, 111, 32, 107, 111, 111, 108, 32, 101, 104, 116, 32, 58, 114, 111, 111, 100, 32, 115, 39, 114, 97, 118]] : List (List Nat)).map (·.map UInt8.ofNat)
theorem door_rows : Tryd.prog.doorRows = doorRows0 := by kernel_rfl
theorem no_reflect : Tryd.prog.bearsReflect = false := by kernel_rfl
theorem no_later : Tryd.prog.laysLater = false := by kernel_rfl
theorem door_fits : Tryd.prog.doorFits (stripLifts liftWords headWords).1 = true := by
  rw [Program.doorFits.eq_1, door_rows]
  kernel_rfl
theorem head_may : Tryd.prog.mayEnter = true := by
  have h1 : ((stripLifts liftWords headWords).2.head? == some "cut".toList) = true := by kernel_rfl
  have h2 : (stripLifts liftWords headWords).1.contains "leanrows" = false := by kernel_rfl
  have h3 : headWords = headWords.head! :: headWords.tail := by kernel_rfl
  rw [Program.mayEnter.eq_1, head_signs, head_words, h3]
  show (_ || _ || (_ && _ && _ && _ && _)) = true
  rw [← h3, h1, h2, no_reflect, no_later, door_fits]
  simp
theorem head_sum : "dad86e10c0c9875098f14639457c7da96153bc51d07db14731d5f5938e8d4e47".toList = ([100, 97, 100, 56, 54, 101, 49, 48, 99, 48, 99, 57, 56, 55, 53, 48, 57, 56, 102, 49, 52, 54, 51, 57, 52, 53, 55, 99, 55, 100, 97, 57, 54, 49, 53, 51, 98, 99, 53, 49, 100, 48, 55, 100, 98, 49, 52, 55, 51, 49, 100, 53, 102, 53, 57, 51, 56, 101, 56, 100, 52, 101, 52, 55] : List Nat).map Char.ofNat := by
  have h : "dad86e10c0c9875098f14639457c7da96153bc51d07db14731d5f5938e8d4e47" = String.ofList (([100, 97, 100, 56, 54, 101, 49, 48, 99, 48, 99, 57, 56, 55, 53, 48, 57, 56, 102, 49, 52, 54, 51, 57, 52, 53, 55, 99, 55, 100, 97, 57, 54, 49, 53, 51, 98, 99, 53, 49, 100, 48, 55, 100, 98, 49, 52, 55, 51, 49, 100, 53, 102, 53, 57, 51, 56, 101, 56, 100, 52, 101, 52, 55] : List Nat).map Char.ofNat) := by kernel_rfl
  rw [h]
  exact String.toList_ofList
theorem head_main : Tryd.prog.mainIs = some (true, "dad86e10c0c9875098f14639457c7da96153bc51d07db14731d5f5938e8d4e47".toList) := by
  rw [Program.mainIs.eq_1, head_signs, head_sum]
  kernel_rfl
end Go.Proofs.YtkncbggnaobgeaaDoor

/- The closed facts of a row, taken apart: each is shown by itself. -/
namespace Go.Proofs.YtkncbggnaobgeaaDoor
open Go
set_option linter.unusedVariables false
set_option maxRecDepth 100000

theorem andT {a b : Bool} (h : a = true) (k : b = true) : (a && b) = true := by rw [h, k]; rfl
theorem joined_mk (P : Program) (f : FuncId) (fn : Func) (s : ChangeSpec) (c : OpenClaim)
    (a0 : (c.wf (OpenSpec.ofChange s)) = true)
    (a1 : (laidOutB P) = true)
    (a2 : (mapsRowed P) = true)
    (a3 : (fn.params.all (P.readableRec ·)) = true)
    (a4 : (namedTie P c.named s.vars) = true)
    (a5 : (c.stops == []) = true)
    (a6 : (P.stops == []) = true)
    (a7 : (c.knobs == []) = true)
    (a8 : (P.stopKnobs == []) = true)
    (a9 : (c.inPlace == P.inPlace f) = true)
    (a10 : (c.unfollowed == P.unfollowed f) = true)
    (a11 : (c.recurses == P.recurses f) = true)
    (a12 : (c.named == P.varsNamed f) = true)
    (a13 : (c.maps == (fn.params.toList ++ s.plain.varTypes P).any (P.mapsRec ·)) = true)
    (a14 : (c.ifaces == (fn.params.toList ++ s.plain.varTypes P).any (P.ifacesRec ·)) = true)
    (a15 : (c.mapsOut == P.mapsAmong fn.resultTypes.toList) = true)
    (a16 : (c.loops == (fn.params.toList ++ s.plain.varTypes P).any (P.loopsFrom ·)) = true)
    (a17 : (c.wideKeys == (fn.params.toList ++ s.plain.varTypes P ++ fn.resultTypes.toList).any (P.wideKeysFrom ·)) = true)
    (a18 : (s.vars.all (P.varReadable ·)) = true)
    (a19 : (fn.resultTypes.all (fun t => P.readableRec t && decide (t < P.types.size))) = true)
    (a20 : (c.ifacesOut == fn.resultTypes.toList.any (P.ifacesRec ·)) = true)
    (a21 : (c.loopsOut == fn.resultTypes.toList.any (P.loopsFrom ·)) = true)
    (a22 : (c.plainKeys == P.plainKeys) = true)
    (a23 : (c.shortTexts.isNone) = true)
    (a24 : (P.stopsHeard) = true)
    (a25 : (P.mayEnter) = true)
    (a26 : (c.lifted == P.liftsFinal) = true)
    (a27 : (P.make == some c.make) = true)
    (a28 : (c.kinds == (if c.domain.isEmpty then [] else fn.params.toList.map fun t => match P.underlying t with | some (.int k) => some k | _ => none)) = true)
    (a29 : (c.pinned == c.pinnedBy) = true)
    (a30 : (c.veiled == (fn.params.toList ++ s.plain.varTypes P ++ fn.resultTypes.toList).any (P.veiledRec ·)) = true)
    (a31 : (c.veiledFits P fn.params.toList (fn.params.toList ++ s.plain.varTypes P ++ fn.resultTypes.toList)) = true)
    : joinedFacts P f fn s c = true :=
  andT (andT (andT (andT (andT (andT (andT (andT (andT (andT (andT (andT (andT (andT (andT (andT (andT (andT (andT (andT (andT (andT (andT (andT (andT (andT (andT (andT (andT (andT (andT a0 a1) a2) a3) a4) a5) a6) a7) a8) a9) a10) a11) a12) a13) a14) a15) a16) a17) a18) a19) a20) a21) a22) a23) a24) a25) a26) a27) a28) a29) a30) a31
theorem k_laid : laidOutB Tryd.prog = true := by kernel_rfl
theorem k_maps : mapsRowed Tryd.prog = true := by kernel_rfl
theorem k_stops : (Tryd.prog.stops == []) = true := by kernel_rfl
theorem k_knobs : (Tryd.prog.stopKnobs == []) = true := by kernel_rfl
theorem k_keys : Tryd.prog.plainKeys = true := by kernel_rfl
theorem k_looks : false = Tryd.prog.looks [] := by kernel_rfl
theorem k_heard : Tryd.prog.stopsHeard = true := by kernel_rfl
end Go.Proofs.YtkncbggnaobgeaaDoor
