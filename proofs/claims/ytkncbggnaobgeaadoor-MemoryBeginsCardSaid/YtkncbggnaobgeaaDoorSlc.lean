/- An engine for walking a Go function: slices that grow, maps of int keys. Plain theorems over any program. -/
import Derived.Test.YtkncbggnaobgeaaDoorArr
import Derived.Laws.AppendOwn
import Derived.ArgAppend
import Derived.Maps.RangeRun
import Derived.Laws.Slices
import Derived.Laws.OwnMore
import Derived.MapKept
namespace Go.Proofs.YtkncbggnaobgeaaDoor
open Go.RowKit
open Go.ChangeMaps (setBlock)
open Go.MapKept (run_findKey)
set_option linter.unusedVariables false
set_option linter.unusedSimpArgs false
set_option linter.unusedSectionVars false
set_option maxRecDepth 100000

/-! ### A row that grows -/
/-- Where the elements of a slice lie: nowhere; or in a block, with so much room, with these cells. -/
inductive Row where
  | none
  | some (g cap : Nat) (cur : Array Value)
def Row.val : Row → Nat → Value
  | .none, n => .slice .none n 0
  | .some g cap _, n => .slice (.some ⟨g, 0, .none⟩) n cap
def Row.hp : Row → TypeId → Hp
  | .none, _ => []
  | .some g _ cur, T => [(g, .cells cur T)]
/-- n elements of sz cells each: xs. -/
def Row.ok : Row → Nat → Nat → List Value → Prop
  | .none, sz, n, xs => n = 0 ∧ xs = []
  | .some _ cap cur, sz, n, xs => xs.length = n * sz ∧ n ≤ cap ∧ cap ≤ maxLen ∧ cur.size = cap * sz ∧ cur.toList.take (n * sz) = xs

section
variable {P : Program} {w0 w w' : World} {S : List Nat} {H : Hp} {r : Row} {sz n : Nat} {xs : List Value} {el : TypeId}
theorem Row.ok_len (h : r.ok sz n xs) : xs.length = n * sz := by
  cases r with
  | none => obtain ⟨rfl, rfl⟩ := h; simp
  | some g cap cur => exact h.1
theorem Row.ok_get {g cap : Nat} {cur : Array Value} (h : Row.ok (.some g cap cur) sz n xs) {j : Nat} {u : Value} (hj : xs[j]? = .some u) : cur[j]? = .some u := by
  obtain ⟨h1, h2, h3, h4, h5⟩ := h
  rw [← h5, List.getElem?_take] at hj
  split at hj
  · simpa using hj
  · cases hj
theorem St.grew (hS : St w0 S w H) {v : Value} (ho : w'.ownsRow w.heap.size el sz v n xs) (hg : w.grownBy w' .none) : ∃ r : Row, v = r.val n ∧ r.ok sz n xs ∧ St w0 S w' (r.hp el ++ H) := by
  have hS' : St w0 S w' H := ⟨hg.os.trans hS.os, hg.tape.trans hS.tape, hg.output.trans hS.output, Nat.le_trans hS.size hg.size,
    fun k hk hn => (hg.block k (Nat.lt_of_lt_of_le hk hS.size) (by simp)).trans (hS.old k hk hn), hS.nd, fun p hp => (hg.block p.1 (lt_of_some (hS.sat p hp)) (by simp)).trans (hS.sat p hp), hS.own⟩
  obtain ⟨hl, ⟨rfl, rfl⟩ | ⟨g, cap, cur, rfl, hb, hgb, h1, h2, h3, h4⟩⟩ := ho
  · refine ⟨.none, rfl, ⟨rfl, List.eq_nil_of_length_eq_zero (by omega)⟩, hS'⟩
  · refine ⟨.some g cap cur, rfl, ⟨hl, h1, h2, h3, h4⟩, ?_⟩
    refine ⟨hS'.os, hS'.tape, hS'.output, hS'.size, hS'.old, ?_, ?_, ?_⟩
    · simp only [Row.hp, List.cons_append, List.nil_append, List.map_cons, List.nodup_cons]
      refine ⟨fun hm => ?_, hS'.nd⟩
      obtain ⟨p, hp, he⟩ := List.mem_map.1 hm
      have := lt_of_some (hS.sat p hp)
      omega
    · intro p hp
      simp only [Row.hp, List.cons_append, List.nil_append, List.mem_cons] at hp
      rcases hp with rfl | hp
      · exact hgb
      · exact hS'.sat p hp
    · intro p hp
      simp only [Row.hp, List.cons_append, List.nil_append, List.mem_cons] at hp
      rcases hp with rfl | hp
      · exact .inr (Nat.le_trans hS.size hb)
      · exact hS'.own p hp
/-- An append, whatever the room. -/
theorem run_append_row (hS : St w0 S w (r.hp el ++ H)) (hok : r.ok sz n xs) {t ty : TypeId} {i : TypeInfo} {z : Value} {bytes : Nat} (ht : P.underlying t = .some (.slice el)) (hi : P.info? el = .some i) (hz : i.zero = .some z)
    (hsize : i.size = sz) (hby : i.bytes = bytes) (hzs : z.cells.size = sz) (hsz : 0 < sz) {a : Addr} {m c : Nat} {news : List Value} (hl : news.length = m * sz) (hnews : ∀ j u, news[j]? = .some u → w.cell? (a.add j) = .some u) (h1 : ∀ u ∈ news, u.oneCell' = true)
    (h63 : n + m ≤ maxLen) (hbytes : (n + m) * bytes ≤ 140737488355328) :
    ∃ (r' : Row) (w' : World), (Builtin.append_ #[t, t] ty #[r.val n, .slice (.some a) m c]).run P w = .ok (r'.val (n + m)) w' ∧ r'.ok sz (n + m) (xs ++ news) ∧ St w0 S w' (r'.hp el ++ H) := by
  cases r with
  | none =>
    obtain ⟨rfl, rfl⟩ := hok
    obtain ⟨v', w', hrun, ho, hg, _⟩ := run_append_own (P := P) (w := w) w.heap.size t ty el i z sz bytes ht hi hz hsize hby hzs hsz (.slice .none 0 0) 0 [] ⟨by simp, .inl ⟨rfl, rfl⟩⟩ a m c news hl hnews h1 h63 hbytes (Nat.le_refl _)
    obtain ⟨r', rfl, hok', hS'⟩ := St.grew (el := el) hS ho hg
    exact ⟨r', w', hrun, hok', hS'⟩
  | some g cap cur =>
    have hg : w.heap[g]? = .some (.cells cur el) := hS.sat _ List.mem_cons_self
    obtain ⟨k1, k2, k3, k4, k5⟩ := hok
    by_cases hroom : n + m ≤ cap
    · obtain ⟨w', hrun, ho, hgr⟩ := run_append_fits (P := P) (w := w) 0 t ty el i sz ht hi hsize g n cap xs ⟨k1, .inr ⟨g, cap, cur, rfl, Nat.zero_le _, hg, k2, k3, k4, k5⟩⟩ a m c news hl hnews h1 hroom
      obtain ⟨l1, ⟨hv, hn⟩ | ⟨g', cap', cur', hv, _, hg', l2, l3, l4, l5⟩⟩ := ho
      · cases hv
      · obtain ⟨rfl, rfl⟩ : g = g' ∧ cap = cap' := by simp at hv; exact hv
        refine ⟨.some g cap cur', w', hrun, ⟨l1, l2, l3, l4, l5⟩, ?_⟩
        have hne : ∀ p ∈ H, p.1 ≠ g := fun p hp he => by
          have := hS.nd
          simp only [Row.hp, List.cons_append, List.nil_append, List.map_cons, List.nodup_cons] at this
          exact this.1 (List.mem_map.2 ⟨p, hp, he⟩)
        refine ⟨hgr.os.trans hS.os, hgr.tape.trans hS.tape, hgr.output.trans hS.output, Nat.le_trans hS.size hgr.size, fun k hk hn => ?_, hS.nd, ?_, fun p hp => ?_⟩
        · have hkg : k ≠ g := fun he => by
            subst he
            rcases hS.own (k, .cells cur el) List.mem_cons_self with h | h
            · exact hn h
            · exact absurd hk (Nat.not_lt.2 h)
          exact (hgr.block k (Nat.lt_of_lt_of_le hk hS.size) (by simpa using hkg)).trans (hS.old k hk hn)
        · intro p hp
          simp only [Row.hp, List.cons_append, List.nil_append, List.mem_cons] at hp
          rcases hp with rfl | hp
          · exact hg'
          · have hs := hS.sat p (List.mem_cons_of_mem _ hp)
            exact (hgr.block p.1 (lt_of_some hs) (by simpa using hne p hp)).trans hs
        · simp only [Row.hp, List.cons_append, List.nil_append, List.mem_cons] at hp
          rcases hp with rfl | hp
          · exact hS.own (g, .cells cur el) List.mem_cons_self
          · exact hS.own p (List.mem_cons_of_mem _ hp)
    · obtain ⟨v', w', hrun, ho, hgr⟩ := run_append_arg_grows (P := P) w t ty el i z sz bytes ht hi hz hsize hby hzs hsz ⟨g, 0, .none⟩ n cap xs k1 (fun j u hj => by
        rw [Addr.add_lit, Nat.zero_add, cell_of hg]; exact Row.ok_get (g := g) (cap := cap) (cur := cur) (n := n) (xs := xs) (sz := sz) ⟨k1, k2, k3, k4, k5⟩ hj) a m c news hl hnews (by omega) h63 hbytes
      have hS1 : St w0 S w H := hS.tail
      obtain ⟨r', rfl, hok', hS'⟩ := St.grew (el := el) hS1 ho hgr
      exact ⟨r', w', hrun, hok', hS'⟩
end

/-- What an append needs of a slice's type. -/
def AppT (P : Program) (t el : TypeId) (sz bytes : Nat) : Prop := ∃ i z, P.underlying t = some (.slice el) ∧ P.info? el = some i ∧ i.zero = some z ∧ i.size = sz ∧ i.bytes = bytes ∧ z.cells.size = sz ∧ 0 < sz
def appB (P : Program) (t el : TypeId) (sz bytes : Nat) : Bool :=
  (match P.underlying t with | some (.slice e) => e == el | _ => false) && (match P.info? el with | some i => i.size == sz && i.bytes == bytes && (match i.zero with | some z => z.cells.size == sz | none => false) | none => false) && Nat.blt 0 sz
theorem appT_of {P : Program} {t el : TypeId} {sz bytes : Nat} (h : appB P t el sz bytes = true) : AppT P t el sz bytes := by
  unfold appB at h
  simp only [Bool.and_eq_true] at h
  obtain ⟨⟨h1, h2⟩, h3⟩ := h
  cases hu : P.underlying t with
  | none => simp [hu] at h1
  | some d =>
    rw [hu] at h1
    cases d with
    | slice e =>
      cases hi : P.info? el with
      | none => simp [hi] at h2
      | some i =>
        rw [hi] at h2
        cases hz : i.zero with
        | none => simp [hz] at h2
        | some z =>
          simp [hz] at h1 h2 h3
          subst h1
          exact ⟨i, z, hu, hi, hz, h2.1.1, h2.1.2, h2.2, h3⟩
    | _ => simp at h1

section
variable {P : Program} {ops : Array Oper} {Q : Exit → Act → World → Prop} {n : Nat} {ds : List Deferred} {e e' : Env} {w w' w0 : World} {rest : List Oper} {S : List Nat} {H : Hp}
variable {d : Nat} {v : Value} {ty : TypeId} {pos : String} {af : Array Edge}

theorem WL.append {x y : Operand} {t el : TypeId} {sz bytes k m c : Nat} {r : Row} {xs news : List Value} {a : Addr} (hT : AppT P t el sz bytes) (hS : St w0 S w (r.hp el ++ H)) (hok : r.ok sz k xs)
    (hx : ev e x = some (r.val k)) (hy : ev e y = some (.slice (some a) m c)) (hl : news.length = m * sz) (hnews : ∀ j u, news[j]? = some u → w.cell? (a.add j) = some u) (h1 : ∀ u ∈ news, u.oneCell' = true)
    (h63 : k + m ≤ maxLen) (hbytes : (k + m) * bytes ≤ 140737488355328) (hdn : Nat.blt d n = true)
    (h : ∀ (r' : Row) w', r'.ok sz (k + m) (xs ++ news) → St w0 S w' (r'.hp el ++ H) → WL P ops Q n ds rest ((d, r'.val (k + m)) :: e) w') :
    WL P ops Q n ds ({ dst := some d, op := .call { callee := .builtin .append, args := #[x, y], argTypes := #[t, t] }, type := ty, pos, after := af, guard := none } :: rest) e w := by
  obtain ⟨i, z, t1, t2, t3, t4, t5, t6, t7⟩ := hT
  obtain ⟨r', w', hrun, hok', hS'⟩ := run_append_row (P := P) (ty := ty) hS hok t1 t2 t3 t4 t5 t6 t7 (c := c) hl hnews h1 h63 hbytes
  refine WL.builtin (xs := [x, y]) (vs := [r.val k, .slice (some a) m c]) (w' := w') (v := r'.val (k + m)) (by simp [evs, hx, hy]) hdn (fun cs => ?_) (h r' w' hok' hS')
  have e1 : #[r.val k, Value.slice (some a) m c] = [r.val k, Value.slice (some a) m c].toArray := rfl
  rw [e1] at hrun
  unfold Go.builtin
  rw [Sem.run_bind, hrun]; rfl

/-! ### Parts of a slice -/
theorem addr_add0 (a : Addr) : a.add 0 = a := by cases a; simp [Addr.add]
theorem WL.sliceHi {T : TypeId} {sz k len cap : Nat} {A : Option Addr} {x y : Operand} {kd : IntKind} {z : Int} (hT : slcB P T sz = true) (hx : ev e x = some (.slice A len cap)) (hy : ev e y = some (.int kd z)) (hz : z = (k : Int)) (hk : k ≤ cap) (hdn : Nat.blt d n = true)
    (h : WL P ops Q n ds rest ((d, .slice A k cap) :: e) w) : WL P ops Q n ds ({ dst := some d, op := .slice T x none (some y) none, type := ty, pos, after := af, guard := none } :: rest) e w := by
  subst hz
  obtain ⟨el, i, hu, hi, hs⟩ := slcB_out hT
  refine WL.op rfl rfl hdn (fun a ha => ?_) h
  have hb := run_sliceBound (P := P) (w := w) kd (k : Int) cap .sliceAcap (by omega) (by omega)
  by_cases hc : cap = 0
  · subst hc
    simp [execOp, Option.map, ha.ev hx, ha.ev hy, Instr.sliceAt, Instr.slice, Instr.sliceBounds, hb, Sem.run_bind, run_underlying hu, sizeOf, typeInfo, hi, hs]
  · cases A <;> simp [execOp, Option.map, ha.ev hx, ha.ev hy, Instr.sliceAt, Instr.slice, Instr.sliceBounds, hb, Sem.run_bind, run_underlying hu, sizeOf, typeInfo, hi, hs, hc, addr_add0]
theorem WL.sliceLo {T : TypeId} {sz k len cap b o : Nat} {x y : Operand} {kd : IntKind} {z : Int} (hT : slcB P T sz = true) (hx : ev e x = some (.slice (some ⟨b, o, none⟩) len cap)) (hy : ev e y = some (.int kd z)) (hz : z = (k : Int)) (hk : k ≤ len) (hdn : Nat.blt d n = true)
    (h : WL P ops Q n ds rest ((d, .slice (some (if cap = k then ⟨b, o, none⟩ else ⟨b, o + k * sz, none⟩)) (len - k) (cap - k)) :: e) w) : WL P ops Q n ds ({ dst := some d, op := .slice T x (some y) none none, type := ty, pos, after := af, guard := none } :: rest) e w := by
  subst hz
  obtain ⟨el, i, hu, hi, hs⟩ := slcB_out hT
  refine WL.op rfl rfl hdn (fun a ha => ?_) h
  have hb := run_sliceBound (P := P) (w := w) kd (k : Int) len .sliceB (by omega) (by omega)
  by_cases hc : cap = k
  · subst hc
    simp [execOp, Option.map, ha.ev hx, ha.ev hy, Instr.sliceAt, Instr.slice, Instr.sliceBounds, hb, Sem.run_bind, run_underlying hu, sizeOf, typeInfo, hi, hs, addr_add]
  · simp [execOp, Option.map, ha.ev hx, ha.ev hy, Instr.sliceAt, Instr.slice, Instr.sliceBounds, hb, Sem.run_bind, run_underlying hu, sizeOf, typeInfo, hi, hs, hc, addr_add]
theorem WL.sliceArr {T : TypeId} {len sz b o : Nat} {x : Operand} (hT : arrB P T len sz = true) (hx : ev e x = some (.pointer (some ⟨b, o, none⟩))) (hlen : len ≠ 0) (hdn : Nat.blt d n = true)
    (h : WL P ops Q n ds rest ((d, .slice (some ⟨b, o, none⟩) len len) :: e) w) : WL P ops Q n ds ({ dst := some d, op := .slice T x none none none, type := ty, pos, after := af, guard := none } :: rest) e w := by
  obtain ⟨el, i, hu, hi, hs⟩ := arrB_out hT
  refine WL.op rfl rfl hdn (fun a ha => ?_) h
  simp [execOp, Option.map, ha.ev hx, Instr.sliceAt, Instr.sureAddr, Instr.sliceBounds, Sem.run_bind, run_underlying hu, sizeOf, typeInfo, hi, hs, hlen, addr_add, Ne.symm hlen]

/-! ### New slices -/
theorem WL.makeSlice (hS : St w0 S w H) {T el : TypeId} {sz bytes k : Nat} {x y : Operand} {kl kc : IntKind} {a b : Int} {i : TypeInfo} {z : Value} (hu : P.underlying T = some (.slice el)) (hi : P.info? el = some i) (hz : i.zero = some z) (hsz : i.size = sz) (hs0 : 0 < sz) (hby : i.bytes = bytes)
    (hx : ev e x = some (.int kl a)) (hy : ev e y = some (.int kc b)) (ha : a = (k : Int)) (hb : b = (k : Int)) (h16 : k * sz ≤ 16777216) (hbytes : bytes * k ≤ 281474976710656) (hdn : Nat.blt d n = true)
    (h : ∀ g w', w.heap.size = g → w0.heap.size ≤ g → St w0 S w' ((g, .cells (madeCells z.cells (k * sz)) el) :: H) → WL P ops Q n ds rest ((d, .slice (some ⟨g, 0, none⟩) k k) :: e) w') : WL P ops Q n ds ({ dst := some d, op := .makeSlice T x y, type := ty, pos, after := af, guard := none } :: rest) e w := by
  subst ha; subst hb; subst hsz; subst hby
  refine WL.op (w' := w.alloc (.cells (madeCells z.cells (k * i.size)) el)) (v := .slice (some ⟨w.heap.size, 0, none⟩) k k) rfl rfl hdn (fun act hact => ?_) (h _ _ rfl hS.size (hS.alloc _))
  have hb63 : (k : Int) ≤ 9223372036854775807 := by
    have : k * 1 ≤ k * i.size := Nat.mul_le_mul_left k hs0
    omega
  have := run_makeSlice (P := P) (w := w) T el i z hu hi hz kl kc (k : Int) (k : Int) (by omega) (Int.le_refl _) (by simpa using h16) (by rw [← Int.natCast_mul]; exact Int.ofNat_le.2 hbytes) hb63
  simp only [execOp, hact.ev hx, hact.ev hy, Sem.run_bind, this, Result.andThen_ok, Sem.run_pure, Int.toNat_natCast]
theorem WL.buildSlice0 (hS : St w0 S w H) {T el : TypeId} {sz : Nat} {i : TypeInfo} {z : Value} (hu : P.underlying T = some (.slice el)) (hi : P.info? el = some i) (hz : i.zero = some z) (hdn : Nat.blt d n = true)
    (h : ∀ g w', w.heap.size = g → w0.heap.size ≤ g → St w0 S w' ((g, .cells #[] el) :: H) → WL P ops Q n ds rest ((d, .slice (some ⟨g, 0, none⟩) 0 0) :: e) w') : WL P ops Q n ds ({ dst := some d, op := .buildSlice T 0 #[], type := ty, pos, after := af, guard := none } :: rest) e w := by
  refine WL.op (w' := w.alloc (.cells #[] el)) (v := .slice (some ⟨w.heap.size, 0, none⟩) 0 0) rfl rfl hdn (fun act hact => ?_) (h _ _ rfl hS.size (hS.alloc _))
  simp [execOp, Instr.buildSlice, run_underlying hu, sizeOf, typeInfo, hi, zeroValue, hz, Instr.fill, newRow]
  congr 2
  apply Array.eq_empty_of_size_eq_zero
  simp

theorem WL.buildS0 (hS : St w0 S w H) {T el : TypeId} {sz bytes : Nat} (hT : AppT P T el sz bytes) (hdn : Nat.blt d n = true)
    (h : ∀ g w', w.heap.size = g → w0.heap.size ≤ g → St w0 S w' ((g, .cells #[] el) :: H) → WL P ops Q n ds rest ((d, .slice (some ⟨g, 0, none⟩) 0 0) :: e) w') : WL P ops Q n ds ({ dst := some d, op := .buildSlice T 0 #[], type := ty, pos, after := af, guard := none } :: rest) e w := by
  obtain ⟨i, z, t1, t2, t3, t4, t5, t6, t7⟩ := hT
  exact WL.buildSlice0 hS (sz := sz) t1 t2 t3 hdn h
theorem WL.makeS (hS : St w0 S w H) {T el : TypeId} {sz bytes k : Nat} {x y : Operand} {kl kc : IntKind} {a b : Int} {zc : Array Value} (hT : AppT P T el sz bytes) (hz : ZeroIs P el zc)
    (hx : ev e x = some (.int kl a)) (hy : ev e y = some (.int kc b)) (ha : a = (k : Int)) (hb : b = (k : Int)) (h16 : k * sz ≤ 16777216) (hbytes : bytes * k ≤ 281474976710656) (hdn : Nat.blt d n = true)
    (h : ∀ g w', w.heap.size = g → w0.heap.size ≤ g → St w0 S w' ((g, .cells (madeCells zc (k * sz)) el) :: H) → WL P ops Q n ds rest ((d, .slice (some ⟨g, 0, none⟩) k k) :: e) w') : WL P ops Q n ds ({ dst := some d, op := .makeSlice T x y, type := ty, pos, after := af, guard := none } :: rest) e w := by
  obtain ⟨i, z, t1, t2, t3, t4, t5, t6, t7⟩ := hT
  obtain ⟨u, hu, hrun⟩ := hz
  have hzu : z = u := by
    have h1 := hrun w
    simp [zeroValue, typeInfo, t2, t3] at h1
    exact h1
  subst hzu
  subst hu
  exact WL.makeSlice hS t1 t2 t3 t4 t7 t5 hx hy ha hb h16 hbytes hdn h

/-! ### Maps from int to bool that hold 'true' -/
def mE (l : List (Int × Nat)) : Array MapEntry := (l.map fun x => { key := .int .i64 x.1, val := .bool true, born := x.2 }).toArray
def mO (l : List (Int × Nat)) (c : Nat) : Obj := .map (mE l) c
theorem findNow_int {T : IntKind} : ∀ (l : List (Int × Nat)) (k : Int) (i : Nat), Instr.findNow (.int T) (.int .i64 k) (l.map fun x => ({ key := .int .i64 x.1, val := .bool true, born := x.2 } : MapEntry)) i = some ((l.findIdx? fun x => k == x.1).map fun j => (i + j, .bool true))
  | [], k, i => rfl
  | x :: l, k, i => by
    simp only [List.map_cons, Instr.findNow, Instr.sameNow, if_true]
    by_cases h : k = x.1
    · simp [h, List.findIdx?_cons]
    · have : (k == x.1) = false := by simpa using h
      rw [this]
      simp only []
      rw [findNow_int l k (i + 1), List.findIdx?_cons, this]
      simp only [Bool.false_eq_true, if_false, Option.map_map]
      congr 1
      cases List.findIdx? (fun x => k == x.1) l <;> simp; omega
/-- What a map's type is, where its keys are ints. -/
def mapB (P : Program) (t : TypeId) : Bool := match P.underlying t with | some (.map k _) => (match P.underlying k with | some (.int .i64) => true | _ => false) | _ => false
theorem mapB_out {t : TypeId} (h : mapB P t = true) : ∃ k el, P.underlying t = some (.map k el) ∧ P.underlying k = some (.int .i64) := by
  unfold mapB at h
  cases hu : P.underlying t with
  | none => simp [hu] at h
  | some dsc =>
    rw [hu] at h
    cases dsc with
    | map k el =>
      refine ⟨k, el, rfl, ?_⟩
      cases hk : P.underlying k with
      | none => simp [hk] at h
      | some dk =>
        simp only [hk] at h
        cases dk with
        | int t => cases t <;> simp at h ⊢
        | _ => simp at h
    | _ => simp at h
theorem run_checkKey_int {k : TypeId} (hk : P.underlying k = some (.int .i64)) (b : Bool) (z : Int) : (Instr.checkKey b 10000 k (.int .i64 z)).run P w = .ok () w := by
  have key : ∀ m : Nat, (Instr.checkKey b (m + 1) k (.int .i64 z)).run P w = .ok () w := by
    intro m
    unfold Instr.checkKey
    simp only [Sem.run_bind, run_underlying hk, Result.andThen_ok, Sem.run_pure]
  exact key 9999
def mIns (l : List (Int × Nat)) (c : Nat) (k : Int) : List (Int × Nat) := if l.any (fun x => k == x.1) then l else l ++ [(k, c)]
def mClk (l : List (Int × Nat)) (c : Nat) (k : Int) : Nat := if l.any (fun x => k == x.1) then c else c + 1
def mDel (l : List (Int × Nat)) (k : Int) : List (Int × Nat) := match l.findIdx? fun x => k == x.1 with | some i => l.eraseIdx i | none => l
theorem updObj {w : World} {b : Nat} {o o' : Obj} (hb : w.heap[b]? = some o) : Upd w (setBlock w b o') b o' :=
  ⟨rfl, rfl, rfl, by simp [setBlock], by simp [setBlock, lt_of_some hb], fun j hj => by simp [setBlock, Array.getElem?_setIfInBounds, Ne.symm hj]⟩
theorem run_setObj {w : World} {b : Nat} {es : Array MapEntry} {c : Nat} {o' : Obj} (hb : w.heap[b]? = some (.map es c)) : (setObj b o').run P w = .ok () (setBlock w b o') := by
  simp [setObj, Sem.run, hb, setBlock]
theorem run_getObj_at {w : World} {b : Nat} {es : Array MapEntry} {c : Nat} (hb : w.heap[b]? = some (.map es c)) : (getObj b).run P w = .ok (.map es c) w := by
  simp [getObj, Sem.run, hb]
theorem run_getObj_it {w : World} {b : Nat} {m : Option Nat} {s c : Nat} {seen : Array Nat} (hb : w.heap[b]? = some (.mapIter m s seen c)) : (getObj b).run P w = .ok (.mapIter m s seen c) w := by
  simp [getObj, Sem.run, hb]

theorem WL.makeMap (hS : St w0 S w H) {T : TypeId} (hdn : Nat.blt d n = true)
    (h : ∀ g w', w.heap.size = g → w0.heap.size ≤ g → St w0 S w' ((g, mO [] 0) :: H) → WL P ops Q n ds rest ((d, .map (some g)) :: e) w') : WL P ops Q n ds ({ dst := some d, op := .makeMap T none, type := ty, pos, after := af, guard := none } :: rest) e w := by
  refine WL.op (w' := w.alloc (mO [] 0)) (v := .map (some w.heap.size)) rfl rfl hdn (fun act hact => ?_) (h _ _ rfl hS.size (hS.alloc _))
  simp [execOp, Instr.makeMap, mO, mE]
theorem run_mapUpdate_int {t : TypeId} {b c : Nat} {k : Int} {l : List (Int × Nat)} (hT : mapB P t = true) (hb : w.heap[b]? = some (mO l c)) :
    ∃ w', (Instr.mapUpdate t (.map (some b)) (.int .i64 k) (.bool true)).run P w = .ok () w' ∧ Upd w w' b (mO (mIns l c k) (mClk l c k)) := by
  obtain ⟨kt, el, hu, hk⟩ := mapB_out hT
  have hfind : (Instr.findKey kt (.int .i64 k) (mE l).toList).run P w = .ok ((l.findIdx? fun x => k == x.1).map fun j => (0 + j, .bool true)) w := run_findKey hk (findNow_int l k 0)
  have hb' : w.heap[b]? = some (.map (mE l) c) := hb
  simp only [Instr.mapUpdate, Sem.run_bind, run_underlying hu, Result.andThen_ok, run_getObj_at hb', mO, run_checkKey_int hk, hfind]
  cases hf : l.findIdx? fun x => k == x.1 with
  | none =>
    have ha : l.any (fun x => k == x.1) = false := by
      rw [List.any_eq_false]; intro x hx; exact by simpa using List.findIdx?_eq_none_iff.1 hf x hx
    refine ⟨_, by simp only [Option.map_none]; exact run_setObj hb, ?_⟩
    simp only [mIns, mClk, ha, Bool.false_eq_true, if_false]
    have : (mE l).push { key := .int .i64 k, val := .bool true, born := c } = mE (l ++ [(k, c)]) := by simp [mE]
    rw [this]
    exact updObj hb
  | some i =>
    obtain ⟨hi, hki, _⟩ := List.findIdx?_eq_some_iff_getElem.1 hf
    have hke : k = (l[i]).1 := by simpa using hki
    have ha : l.any (fun x => k == x.1) = true := List.any_eq_true.2 ⟨_, List.getElem_mem hi, hki⟩
    have hg : (mE l)[0 + i]? = some { key := .int .i64 k, val := .bool true, born := (l[i]).2 } := by simp [mE, List.getElem?_eq_getElem hi, hke]
    have hmod : (mE l).modify (0 + i) (fun e => { e with key := .int .i64 k, val := .bool true }) = mE l := by
      apply Array.ext_getElem?
      intro j
      rw [Array.getElem?_modify]
      split
      · rename_i hj; subst hj; rw [hg]; rfl
      · rfl
    have hstay : (Instr.keyThatStays (.int .i64 k) (.int .i64 k)).run P w = .ok (.int .i64 k) w := by
      simp [Instr.keyThatStays, Instr.sameBits]
    refine ⟨_, by
      simp only [Option.map_some, Sem.run_bind, hg, Option.map_some, Option.getD_some, hstay, Result.andThen_ok]
      exact run_setObj hb, ?_⟩
    simp only [mIns, mClk, ha, if_true, hmod]
    exact updObj hb
theorem WL.mapUpdate (hS : St w0 S w H) {t : TypeId} {b c : Nat} {k : Int} {l : List (Int × Nat)} {x y z : Operand} (hT : mapB P t = true) (i : Nat) (hx : ev e x = some (.map (some b))) (hy : ev e y = some (.int .i64 k)) (hz : ev e z = some (.bool true))
    (hi : H[i]? = some (b, mO l c)) (h : ∀ w', St w0 S w' (H.set i (b, mO (mIns l c k) (mClk l c k))) → WL P ops Q n ds rest e w') : WL P ops Q n ds ({ dst := none, op := .mapUpdate t x y z, type := ty, pos, after := af, guard := none } :: rest) e w := by
  obtain ⟨w', hrun, hU⟩ := run_mapUpdate_int (P := P) (k := k) hT (hS.sat _ (List.mem_of_getElem? hi))
  refine WL.opSkip rfl rfl (fun act hact => ?_) (h w' (hS.upd hi hU))
  simp [execOp, hact.ev hx, hact.ev hy, hact.ev hz, Sem.run_bind, hrun]
theorem WL.delete (hS : St w0 S w H) {t kt : TypeId} {b c : Nat} {k : Int} {l : List (Int × Nat)} {x y : Operand} (hT : mapB P t = true) (i : Nat) (hx : ev e x = some (.map (some b))) (hy : ev e y = some (.int .i64 k))
    (hi : H[i]? = some (b, mO l c)) (h : ∀ w', St w0 S w' (H.set i (b, mO (mDel l k) c)) → WL P ops Q n ds rest e w') : WL P ops Q n ds ({ dst := none, op := .call { callee := .builtin .delete, args := #[x, y], argTypes := #[t, kt] }, type := ty, pos, after := af, guard := none } :: rest) e w := by
  obtain ⟨kt', el, hu, hk⟩ := mapB_out hT
  have hb := hS.sat _ (List.mem_of_getElem? hi)
  have hfind : (Instr.findKey kt' (.int .i64 k) (mE l).toList).run P w = .ok ((l.findIdx? fun x => k == x.1).map fun j => (0 + j, .bool true)) w := run_findKey hk (findNow_int l k 0)
  have hrun : (Builtin.delete_ #[t, kt] ty #[.map (some b), .int .i64 k]).run P w = .ok (.tuple #[]) (setBlock w b (mO (mDel l k) c)) := by
    have hb' : w.heap[b]? = some (.map (mE l) c) := hb
    simp only [Builtin.delete_, Sem.run_bind, List.getElem?_toArray, List.getElem?_cons_zero, List.getElem?_cons_succ, run_underlying hu, Result.andThen_ok, run_getObj_at hb', run_checkKey_int hk, hfind]
    cases hf : l.findIdx? fun x => k == x.1 with
    | none => simp [run_setObj hb', mDel, hf, mO]
    | some j =>
      have : (mE l).eraseIdxIfInBounds j = mE (l.eraseIdx j) := by
        obtain ⟨hj, _⟩ := List.findIdx?_eq_some_iff_getElem.1 hf
        simp [mE, Array.eraseIdxIfInBounds, hj, List.eraseIdx_toArray, ChangeMaps.map_eraseIdx]
      simp [run_setObj hb', mDel, hf, mO, this]
  refine WL.opNone (v := .tuple #[]) (w' := _) rfl rfl (fun act hact => ?_) (h _ (hS.upd hi (updObj hb)))
  rw [BigFrame.execOp_builtin]
  simp only [List.map_toArray, List.map_cons, List.map_nil, hact.ev hx, hact.ev hy]
  unfold Go.builtin
  rw [Sem.run_bind, hrun]; rfl
theorem WL.clearMap (hS : St w0 S w H) {t : TypeId} {b c : Nat} {l : List (Int × Nat)} {x : Operand} (hT : mapB P t = true) (i : Nat) (hx : ev e x = some (.map (some b)))
    (hi : H[i]? = some (b, mO l c)) (h : ∀ w', St w0 S w' (H.set i (b, mO [] c)) → WL P ops Q n ds rest e w') : WL P ops Q n ds ({ dst := none, op := .call { callee := .builtin .clear, args := #[x], argTypes := #[t] }, type := ty, pos, after := af, guard := none } :: rest) e w := by
  obtain ⟨kt', el, hu, hk⟩ := mapB_out hT
  have hb := hS.sat _ (List.mem_of_getElem? hi)
  have hrun : (Builtin.clear_ #[t] ty #[.map (some b)]).run P w = .ok (.tuple #[]) (setBlock w b (mO [] c)) := by
    have hb' : w.heap[b]? = some (.map (mE l) c) := hb
    simp [Builtin.clear_, Sem.run_bind, run_underlying hu, run_getObj_at hb', run_setObj hb', mO, mE]
  refine WL.opNone (v := .tuple #[]) (w' := _) rfl rfl (fun act hact => ?_) (h _ (hS.upd hi (updObj hb)))
  rw [BigFrame.execOp_builtin]
  simp only [List.map_toArray, List.map_cons, List.map_nil, hact.ev hx]
  unfold Go.builtin
  rw [Sem.run_bind, hrun]; rfl
theorem WL.rangeMap (hS : St w0 S w H) {t : TypeId} {b c : Nat} {l : List (Int × Nat)} {x : Operand} (hT : mapB P t = true) (hx : ev e x = some (.map (some b))) (hb : w.heap[b]? = some (mO l c)) (hdn : Nat.blt d n = true)
    (h : ∀ g w', w.heap.size = g → w0.heap.size ≤ g → St w0 S w' ((g, .mapIter (some b) c #[] c) :: H) → WL P ops Q n ds rest ((d, .pointer (some ⟨g, 0, none⟩)) :: e) w') : WL P ops Q n ds ({ dst := some d, op := .range t x, type := ty, pos, after := af, guard := none } :: rest) e w := by
  obtain ⟨kt', el, hu, hk⟩ := mapB_out hT
  refine WL.op (w' := w.alloc (.mapIter (some b) c #[] c)) (v := .pointer (some ⟨w.heap.size, 0, none⟩)) rfl rfl hdn (fun act hact => ?_) (h _ _ rfl hS.size (hS.alloc _))
  have hb' : w.heap[b]? = some (.map (mE l) c) := hb
  simp [execOp, hact.ev hx, Instr.range, run_underlying hu, run_getObj_at hb']
theorem WL.next (hS : St w0 S w H) {bm since c0 clock g : Nat} {seen : Array Nat} {l : List (Int × Nat)} {x : Operand} {et : TypeId} (i : Nat) (hx : ev e x = some (.pointer (some ⟨g, 0, none⟩)))
    (hi : H[i]? = some (g, .mapIter (some bm) since seen c0)) (hb : w.heap[bm]? = some (mO l clock)) (hold : ∀ x ∈ l, x.2 < since) (hsc : since ≤ c0) (hdn : Nat.blt d n = true)
    (h0 : (∀ x ∈ l, x.2 ∈ seen) → WL P ops Q n ds rest ((d, .tuple #[.bool false]) :: e) w)
    (h1 : ∀ k bn w', (k, bn) ∈ l → bn ∉ seen → St w0 S w' (H.set i (g, .mapIter (some bm) since (seen.push bn) clock)) → WL P ops Q n ds rest ((d, .tuple #[.bool true, .int .i64 k, .bool true]) :: e) w') :
    WL P ops Q n ds ({ dst := some d, op := .next x false, type := ty, pos, after := af, guard := none } :: rest) e w := by
  have hr := hS.sat _ (List.mem_of_getElem? hi)
  rcases run_next_at (P := P) w ty g bm since c0 seen (mE l) clock hr hb (fun y hy => by
    simp only [mE, List.mem_map] at hy; obtain ⟨x, hx, rfl⟩ := hy; exact hold x hx) hsc with ⟨hl, hrun⟩ | ⟨en, hen, w1, hw1, hrun⟩
  · refine WL.op (w' := w) (v := .tuple #[.bool false]) rfl rfl hdn (fun act hact => ?_) (h0 fun y hy => ?_)
    · simp only [execOp, hact.ev hx, Sem.run_bind, hrun, Result.andThen_ok, Sem.run_pure]
    · by_cases hc : y.2 ∈ seen
      · exact hc
      · exfalso
        have : ({ key := .int .i64 y.1, val := .bool true, born := y.2 } : MapEntry) ∈ leftOf (mE l) seen := by
          unfold leftOf
          rw [Array.mem_filter]
          exact ⟨by simp only [mE, List.mem_toArray, List.mem_map]; exact ⟨y, hy, rfl⟩, by simpa using hc⟩
        rw [Array.eq_empty_of_size_eq_zero hl] at this
        simp at this
  · have hen' : en ∈ leftOf (mE l) seen := by simpa using hen
    unfold leftOf at hen'
    rw [Array.mem_filter] at hen'
    obtain ⟨hm, hns⟩ := hen'
    simp only [mE, List.mem_toArray, List.mem_map] at hm
    obtain ⟨y, hy, rfl⟩ := hm
    have hS1 : St w0 S w1 H := hw1.elim (fun h => h ▸ hS) (fun h => h ▸ hS.drew)
    refine WL.op (w' := setBlock w1 g (.mapIter (some bm) since (seen.push y.2) clock)) (v := .tuple #[.bool true, .int .i64 y.1, .bool true]) rfl rfl hdn (fun act hact => ?_) (h1 y.1 y.2 _ hy (by simpa using hns) (hS1.upd hi (updObj (hS1.sat _ (List.mem_of_getElem? hi)))))
    simp only [execOp, hact.ev hx, Sem.run_bind, hrun, Result.andThen_ok, Sem.run_pure]
theorem WL.entry {bm since clock g bn : Nat} {k : Int} {seen : Array Nat} {l : List (Int × Nat)} {x : Operand} (hx : ev e x = some (.pointer (some ⟨g, 0, none⟩)))
    (hi : w.heap[g]? = some (.mapIter (some bm) since (seen.push bn) clock)) (hb : w.heap[bm]? = some (mO l clock)) (hf : l.find? (fun x => x.2 == bn) = some (k, bn)) (hdn : Nat.blt d n = true)
    (h : WL P ops Q n ds rest ((d, .tuple #[.int .i64 k, .bool true]) :: e) w) :
    WL P ops Q n ds ({ dst := some d, op := .entry x, type := ty, pos, after := af, guard := none } :: rest) e w := by
  refine WL.op (w' := w) (v := .tuple #[.int .i64 k, .bool true]) rfl rfl hdn (fun act hact => ?_) h
  have hb' : w.heap[bm]? = some (.map (mE l) clock) := hb
  have hfind : (mE l).find? (fun x => x.born == bn) = some { key := .int .i64 k, val := .bool true, born := bn } := by
    simp only [mE, List.find?_toArray, List.find?_map]
    have : ((fun x : MapEntry => x.born == bn) ∘ fun x : Int × Nat => ({ key := .int .i64 x.1, val := .bool true, born := x.2 } : MapEntry)) = fun x : Int × Nat => x.2 == bn := rfl
    rw [this, hf]; rfl
  simp [execOp, hact.ev hx, Instr.entry, run_getObj_it hi, run_getObj_at hb', hfind]
end
end Go.Proofs.YtkncbggnaobgeaaDoor
