/- Texts of this session, laid together: Logm, Lg4, Lg5, Rfx, Logw, Lg6, Lg7, Logs, Lg8. -/
import Derived.Test.YtkncbggnaobgeaaDoorGq
import Derived.Test.YtkncbggnaobgeaaDoorGu
import Derived.Test.YtkncbggnaobgeaaDoorGc

/- What the log's calls do to a memory, in plain Lean. -/
namespace Go.Proofs.YtkncbggnaobgeaaDoor
open Go.RowKit
set_option linter.unusedVariables false
set_option linter.unusedSimpArgs false
set_option maxRecDepth 100000

/-- The head: epoch, count, error. -/
def lHead (M : PM) (ls : List Int) : Int × Int × Int := if (M.load (8 * ls.getD 1 0)).2 = 0 then (hdE (M.load (8 * ls.getD 1 0)).1, hdC (M.load (8 * ls.getD 1 0)).1, 0) else (0, 0, (M.load (8 * ls.getD 1 0)).2)
def lCap (ls : List Int) : Int := 8 * (ls.getD 2 0 - 1)
def lRoom (M : PM) (ls : List Int) : Int × Int := if (lHead M ls).2.2 ≠ 0 then (0, (lHead M ls).2.2) else if (lHead M ls).2.1 > lCap ls then (0, 3) else (lCap ls - (lHead M ls).2.1, 0)
theorem lHead_bd (M : PM) (ls : List Int) : (0 ≤ (lHead M ls).1 ∧ (lHead M ls).1 ≤ 1048575) ∧ (0 ≤ (lHead M ls).2.1 ∧ (lHead M ls).2.1 ≤ 1048575) := by
  unfold lHead
  split
  · exact ⟨hdE_bd _, hdC_bd _⟩
  · exact ⟨⟨Int.le_refl _, (by decide : (0 : Int) ≤ 1048575)⟩, ⟨Int.le_refl _, (by decide : (0 : Int) ≤ 1048575)⟩⟩
def flushTo (M : PM) (f : Int) : Nat → PM
  | 0 => M
  | i + 1 => (flushTo M f i).flush (f + i)
def lDur (M : PM) (f : Int) (n : Nat) : PM := (flushTo M f n).fence
def lPub (M : PM) (ls : List Int) (ep cnt : Int) : PM := lDur (M.put 2 (8 * ls.getD 1 0) (cnt * 1048576 + ep)) (ls.getD 1 0) 1
def lEmpty (M : PM) (ls : List Int) : PM := if (lHead M ls).2.2 ≠ 0 then M else lPub M ls (((lHead M ls).1 + 1) % 1048576) 0
/-- The words from a place on. -/
def lWords (M : PM) (a : Int) (n : Nat) : List Int := (List.range n).map fun k => (M.load (a + (k : Nat))).1
/-- The first error among their loads. -/
def lErr (M : PM) (a : Int) (n : Nat) : Int := match (List.range n).find? (fun k => !decide ((M.load (a + (k : Nat))).2 = 0)) with
  | some k => (M.load (a + (k : Nat))).2
  | none => 0
theorem lWords_len (M : PM) (a : Int) (n : Nat) : (lWords M a n).length = n := by simp [lWords]
theorem lWords_succ (M : PM) (a : Int) (n : Nat) : lWords M a (n + 1) = lWords M a n ++ [(M.load (a + (n : Nat))).1] := by simp [lWords, List.range_succ]
theorem lErr_none {M : PM} {a : Int} {n : Nat} (h : ∀ k, k < n → (M.load (a + (k : Nat))).2 = 0) : lErr M a n = 0 := by
  unfold lErr
  rw [List.find?_eq_none.2 (fun k hk => by simp [h k (List.mem_range.1 hk)])]
theorem lErr_at {M : PM} {a : Int} {n i : Nat} (hi : i < n) (h : ∀ k, k < i → (M.load (a + (k : Nat))).2 = 0) (he : (M.load (a + (i : Nat))).2 ≠ 0) : lErr M a n = (M.load (a + (i : Nat))).2 := by
  unfold lErr
  have : (List.range n).find? (fun k => !decide ((M.load (a + (k : Nat))).2 = 0)) = some i := by
    rw [List.find?_range_eq_some]
    refine ⟨by simpa using he, List.mem_range.2 hi, fun j hj => by simp [h j hj]⟩
  rw [this]
/-- Records, one behind the other. -/
def decAcc (ep : Int) : Nat → List Rc → List Int → List Rc × Int
  | 0, acc, ws => (acc, 0)
  | f + 1, acc, ws => if ws.length = 0 then (acc, 0) else if decOk ws ep then decAcc ep f (acc ++ [decR ws]) (ws.drop (decN ws)) else ([], 3)
def lRead (M : PM) (ls : List Int) : List Rc × Int :=
  if (lHead M ls).2.2 ≠ 0 then ([], (lHead M ls).2.2) else
  let n := (min (lHead M ls).2.1 (lCap ls)).toNat
  if lErr M (8 * ls.getD 1 0 + 8) n ≠ 0 then ([], lErr M (8 * ls.getD 1 0 + 8) n) else
  if (lHead M ls).2.1 > lCap ls then ([], 3) else decAcc (lHead M ls).1 (n + 1) [] (lWords M (8 * ls.getD 1 0 + 8) n)
theorem dec_ok {ws : List Int} {ep : Int} (h : ¬ (decV ws ep).2.2 ≠ 0) : decOk ws ep = true := by
  cases hd : decOk ws ep with
  | true => rfl
  | false => rw [dec_no hd] at h; exact absurd (by decide) h
theorem dec_bad {ws : List Int} {ep : Int} (h : (decV ws ep).2.2 ≠ 0) : decOk ws ep = false := by
  cases hd : decOk ws ep with
  | true => rw [dec_yes hd] at h; exact absurd rfl h
  | false => rfl

/-! ### Lists of records that were made -/
def Row.adr : Row → Option Addr
  | .none => Option.none
  | .some g _ _ => Option.some ⟨g, 0, Option.none⟩
  | .nul a => Option.some a
def Row.cp : Row → Nat
  | .none => 0
  | .some _ c _ => c
  | .nul _ => 0
theorem Row.val_adr (r : Row) (n : Nat) : r.val n = .slice r.adr n r.cp := by cases r <;> rfl
theorem RowsIn.adr {w : World} {r : Row} {s n : Nat} {T : TypeId} {xs : List (List Int)} (h8 : ∀ v ∈ xs, v.length = s) (hn : n = xs.length) (hr : r.ok s n (intsC xs.flatten)) (hs : ∀ q ∈ r.hp T, w.heap[q.1]? = Option.some q.2) : RowsIn w r.adr s xs := by
  obtain ⟨A, cap, h1, h2⟩ := RowsIn.row h8 hn hr hs
  rw [Row.val_adr] at h1
  injection h1 with h1
  rw [h1]; exact h2
/-- These cells are records, if those blocks lie there. -/
def RecCs (K : Hp) (cells : List Value) (rs : List Rc) : Prop := cells.length = rs.length * 2 ∧ ∀ j r, rs[j]? = some r → cells[j * 2]? = some (.int .i64 r.1) ∧
  ∃ A cap, cells[j * 2 + 1]? = some (.slice A r.2.length cap) ∧ ∀ w : World, (∀ q ∈ K, w.heap[q.1]? = some q.2) → RowsIn w A 2 r.2
theorem RecCs.nil : RecCs [] [] [] := ⟨rfl, fun j r h => by cases h⟩
theorem RecCs.push {K : Hp} {cells : List Value} {rs : List Rc} {r : Row} {rc : Rc} (h : RecCs K cells rs) (h2 : ∀ e ∈ rc.2, e.length = 2) (hr : r.ok 2 rc.2.length (intsC rc.2.flatten)) : RecCs (r.hp 189 ++ K) (cells ++ [.int .i64 rc.1, r.val rc.2.length]) (rs ++ [rc]) := by
  obtain ⟨hl, hc⟩ := h
  refine ⟨by simp [hl]; omega, fun j x hj => ?_⟩
  rcases Nat.lt_or_ge j rs.length with hlt | hge
  · rw [List.getElem?_append_left hlt] at hj
    obtain ⟨k1, A, cap, k2, k3⟩ := hc j x hj
    have l1 : j * 2 < cells.length := by omega
    have l2 : j * 2 + 1 < cells.length := by omega
    exact ⟨by rw [List.getElem?_append_left l1]; exact k1, A, cap, by rw [List.getElem?_append_left l2]; exact k2, fun w hw => k3 w (fun q hq => hw q (List.mem_append_right _ hq))⟩
  · rw [List.getElem?_append_right hge] at hj
    have hj0 : j - rs.length = 0 := by
      rcases Nat.eq_zero_or_pos (j - rs.length) with h0 | h0
      · exact h0
      · rw [List.getElem?_eq_none (by simp; omega)] at hj; cases hj
    rw [hj0] at hj
    cases hj
    have e1 : j = rs.length := by omega
    subst e1
    refine ⟨by rw [List.getElem?_append_right (by omega), hl, Nat.sub_self]; rfl, r.adr, r.cp, ?_, fun w hw => RowsIn.adr h2 rfl hr (T := 189) (fun q hq => hw q (List.mem_append_left _ hq))⟩
    rw [List.getElem?_append_right (by omega), hl, show rs.length * 2 + 1 - rs.length * 2 = 1 by omega, ← Row.val_adr]
    rfl
theorem RecCs.recs {K : Hp} {cells : List Value} {rs : List Rc} {ro : Row} {T : TypeId} (h : RecCs K cells rs) (hr : ro.ok 2 rs.length cells) {w : World} (hK : ∀ q ∈ K, w.heap[q.1]? = some q.2) (hs : ∀ q ∈ ro.hp T, w.heap[q.1]? = some q.2) : RecsIn w ro.adr rs := by
  obtain ⟨hl, hc⟩ := h
  cases ro with
  | none => exact .inl (List.eq_nil_of_length_eq_zero hr.1)
  | nul a => exact .inl (List.eq_nil_of_length_eq_zero hr.1)
  | some g cap cur =>
    refine .inr ⟨g, 0, cur, T, _, rfl, hs _ List.mem_cons_self, fun j r hj => ?_⟩
    obtain ⟨k1, A, c', k2, k3⟩ := hc j r hj
    rw [Nat.zero_add]
    exact ⟨Row.ok_get hr k1, A, c', Row.ok_get hr k2, k3 w hK⟩
/-- What a call hands back: records that lie in those blocks. -/
def RecsK (H : Hp) (A : Option Addr) (rs : List Rc) : Prop := ∀ w : World, (∀ q ∈ H, w.heap[q.1]? = some q.2) → RecsIn w A rs
theorem EX.sliceLo {P : Program} {nn : Nat} {ds : List Deferred} {e : Env} {ty : TypeId} {w : World} {T : TypeId} {sz k len cap b o : Nat} {x y : Operand} {kd : IntKind} {z : Int} (hT : slcB P T sz = true) (hx : ev e x = some (.slice (some ⟨b, o, none⟩) len cap)) (hy : ev e y = some (.int kd z)) (hz : z = (k : Int)) (hk : k ≤ len) :
    EX P nn ds e (.slice T x (some y) none none) ty (.slice (some (if cap = k then ⟨b, o, none⟩ else ⟨b, o + k * sz, none⟩)) (len - k) (cap - k)) w := by
  subst hz
  obtain ⟨el, i, hu, hi, hs⟩ := slcB_out hT
  intro a ha _ _ _ _
  have hb := run_sliceBound (P := P) (w := w) kd (k : Int) len .sliceB (by omega) (by omega)
  by_cases hc : cap = k
  · subst hc
    simp [execOp, Option.map, ha.ev hx, ha.ev hy, Instr.sliceAt, Instr.slice, Instr.sliceBounds, hb, Sem.run_bind, run_underlying hu, sizeOf, typeInfo, hi, hs, addr_add]
  · simp [execOp, Option.map, ha.ev hx, ha.ev hy, Instr.sliceAt, Instr.slice, Instr.sliceBounds, hb, Sem.run_bind, run_underlying hu, sizeOf, typeInfo, hi, hs, hc, addr_add]
/-- What a round of Read has. -/
structure RZ where
  ro : Row
  acc : List Rc
  A : Option Addr
  cap : Nat
  ws : List Int
  K : Hp
  cells : List Value
  fuel : Nat
theorem decN_ge (ws : List Int) : 3 ≤ decN ws := by unfold decN; omega
theorem decAcc_end {ep : Int} {f : Nat} {acc : List Rc} {ws : List Int} (h : ws.length = 0) : decAcc ep f acc ws = (acc, 0) := by
  cases f with
  | zero => rfl
  | succ f => unfold decAcc; rw [if_pos h]
theorem decAcc_no {ep : Int} {f : Nat} {acc : List Rc} {ws : List Int} (hf : ws.length < f) (h : 0 < ws.length) (hd : decOk ws ep = false) : decAcc ep f acc ws = ([], 3) := by
  cases f with
  | zero => omega
  | succ f => unfold decAcc; rw [if_neg (by omega), hd, if_neg (by decide)]
theorem decAcc_yes {ep : Int} {f : Nat} {acc : List Rc} {ws : List Int} (hf : ws.length < f) (h : 0 < ws.length) (hd : decOk ws ep = true) : decAcc ep f acc ws = decAcc ep (f - 1) (acc ++ [decR ws]) (ws.drop (decN ws)) := by
  cases f with
  | zero => omega
  | succ f => rw [decAcc, if_neg (by omega), if_pos hd, Nat.add_sub_cancel]
end Go.Proofs.YtkncbggnaobgeaaDoor

/- Walks of functions of the program; printed by a program of this session (walk.py) out of hand-written hints. -/
namespace Go.Proofs.YtkncbggnaobgeaaDoor
open Go.RowKit
set_option linter.unusedVariables false
set_option linter.unusedSimpArgs false
set_option maxRecDepth 100000

theorem lhead_any {w0 w : World} {L : Hp} {R : RM} {p k : Nat} {M : PM} (ls : List Int) (hR : LR ls) (hI : Is R p M k) (H : St w0 [] w (L ++ R.hp)) (hL : L64 w0) : Calls Tryd.prog 137 #[ptr p, arr ls] w fun e w' => e = .returned (.tuple #[.int .i64 (lHead M ls).1, .int .i64 (lHead M ls).2.1, .int .i64 (lHead M ls).2.2]) ∧ St w0 [] w' (L ++ R.hp) := by
  have hR1 := hR.a0
  have hR2 := hR.b2
  have hR3 := hR.n
  have hR4 := hR.ab
  refine calls_walk_n (args := [ptr p, arr ls]) Tryd.func137 rfl rfl rfl ?_
  
  refine WC.seq ?_
  refine WC.region ?_
  refine WL.boxArr H rfl rfl ?_
  intro b3 wx hb3 hge3 H
  refine WL.assign rfl rfl ?_
  refine WL.assign rfl rfl ?_
  refine WL.assign rfl rfl ?_
  refine (WL.done (WX.next ?_))
  refine WC.seq ?_
  refine WC.region ?_
  refine WL.move rfl rfl ?_
  refine WL.load rfl (H.rdArr ty95 0 rfl hR.len) rfl ?_
  refine WL.call call155 rfl rfl ?_
  refine Calls.mono (headAt_any ls hR _) ?_
  rintro _ wx ⟨rfl, Hc⟩
  refine ⟨_, rfl, ?_⟩
  replace H := H.call0 Hc
  refine WL.call call96 rfl rfl ?_
  refine Calls.mono (a_load (L := (b3, .cells (arrC ls) 95) :: L) (8 * ls.getD 1 0) (by omega) hI H hL) ?_
  rintro _ wx ⟨rfl, H⟩
  refine ⟨_, rfl, ?_⟩
  refine WL.move rfl rfl ?_
  refine WL.extract rfl rfl rfl ?_
  refine WL.extract rfl rfl rfl ?_
  refine WL.assign rfl rfl ?_
  refine WL.assign rfl rfl ?_
  refine (WL.done (WX.next ?_))
  refine WC.seq ?_
  refine WC.seq ?_
  refine WC.region ?_
  refine WL.move rfl rfl ?_
  refine WL.bin rfl rfl binv_neq rfl ?_
  refine (WL.done (WX.next ?_))
  first | refine WC.cond_dec rfl (fun c1 => ?_) (fun c1 => ?_) | refine WC.cond rfl (fun c1 => ?_) (fun c1 => ?_)
  ·
    refine WC.seq ?_
    refine WC.region ?_
    refine WL.move rfl rfl ?_
    refine WL.assign rfl rfl ?_
    refine WL.assign rfl rfl ?_
    refine WL.assign rfl rfl ?_
    refine (WL.done (WX.next ?_))
    refine (WC.ret (WX.then_ret ?_))
    refine ret_three rfl rfl rfl rfl ?_
    refine ⟨?_, H.tail⟩
    unfold lHead
    rw [if_neg (by omega)]
  ·
    refine (WC.skip (WX.next ?_))
    refine WC.seq ?_
    refine WC.region ?_
    refine WL.move rfl rfl ?_
    refine WL.call call72 rfl rfl ?_
    refine Calls.mono (head_any _ _) ?_
    rintro _ wx ⟨rfl, Hc⟩
    refine ⟨_, rfl, ?_⟩
    replace H := H.call0 Hc
    refine WL.move rfl rfl ?_
    refine WL.extract rfl rfl rfl ?_
    refine WL.extract rfl rfl rfl ?_
    refine WL.assign rfl rfl ?_
    refine WL.assign rfl rfl ?_
    refine (WL.done (WX.next ?_))
    refine WC.seq ?_
    refine WC.region ?_
    refine WL.move rfl rfl ?_
    refine WL.move rfl rfl ?_
    refine WL.assign rfl rfl ?_
    refine WL.assign rfl rfl ?_
    refine WL.assign rfl rfl ?_
    refine (WL.done (WX.next ?_))
    refine (WC.ret ?_)
    refine ret_three rfl rfl rfl rfl ?_
    refine ⟨?_, H.tail⟩
    unfold lHead
    rw [if_pos (by omega)]

theorem lroom_any {w0 w : World} {L : Hp} {R : RM} {p k : Nat} {M : PM} (ls : List Int) (hR : LR ls) (hI : Is R p M k) (H : St w0 [] w (L ++ R.hp)) (hL : L64 w0) : Calls Tryd.prog 92 #[ptr p, arr ls] w fun e w' => e = .returned (.tuple #[.int .i64 (lRoom M ls).1, .int .i64 (lRoom M ls).2]) ∧ St w0 [] w' (L ++ R.hp) := by
  have hR1 := hR.a0
  have hR2 := hR.b2
  have hR3 := hR.n
  have hR4 := hR.ab
  have hB := lHead_bd M ls
  refine calls_walk_n (args := [ptr p, arr ls]) Tryd.func92 rfl rfl rfl ?_
  
  refine WC.seq ?_
  refine WC.region ?_
  refine WL.boxArr H rfl rfl ?_
  intro b3 wx hb3 hge3 H
  refine WL.assign rfl rfl ?_
  refine WL.assign rfl rfl ?_
  refine (WL.done (WX.next ?_))
  refine WC.seq ?_
  refine WC.region ?_
  refine WL.move rfl rfl ?_
  first | refine WL.load rfl (H.rdArr ty95 0 rfl hR.len) rfl ?_ | refine WL.load rfl (H.rd1 ty95 0 rfl rfl) rfl ?_ | refine WL.load rfl (H.rdA ty95 0 rfl (by first | decide | exact Nat.le_refl _)) rfl ?_
  refine WL.call call137 rfl rfl ?_
  refine Calls.mono (lhead_any (L := (b3, .cells (arrC ls) 95) :: L) ls hR hI H hL) ?_
  rintro _ wx ⟨rfl, H⟩
  refine ⟨_, rfl, ?_⟩
  refine WL.move rfl rfl ?_
  refine WL.extract rfl rfl rfl ?_
  refine WL.extract rfl rfl rfl ?_
  refine WL.extract rfl rfl rfl ?_
  refine WL.assign rfl rfl ?_
  refine WL.assign rfl rfl ?_
  refine WL.assign rfl rfl ?_
  refine (WL.done (WX.next ?_))
  refine WC.seq ?_
  refine WC.seq ?_
  refine WC.region ?_
  refine WL.move rfl rfl ?_
  refine WL.bin rfl rfl binv_eql rfl ?_
  refine WL.move rfl rfl ?_
  first | refine WL.splitD (t := 18) rfl (fun g1 => ?_) (fun g1 => ?_) | refine WL.split (t := 18) rfl (fun g1 => ?_) (fun g1 => ?_)
  ·
    refine WL.yes rfl rfl ?_
    refine WL.move rfl rfl ?_
    refine WL.yes rfl rfl ?_
    first | refine WL.load rfl (H.rdArr ty95 0 rfl hR.len) rfl ?_ | refine WL.load rfl (H.rd1 ty95 0 rfl rfl) rfl ?_ | refine WL.load rfl (H.rdA ty95 0 rfl (by first | decide | exact Nat.le_refl _)) rfl ?_
    refine WL.yes rfl rfl ?_
    refine WL.call call81 rfl rfl ?_
    refine Calls.mono (capacity_any ls hR _) ?_
    rintro _ wx ⟨rfl, Hc⟩
    refine ⟨_, rfl, ?_⟩
    replace H := H.call0 Hc
    refine WL.yes rfl rfl ?_
    refine WL.bin rfl rfl binv_gtr rfl ?_
    refine WL.pickT rfl rfl rfl ?_
    refine (WL.done (WX.next ?_))
    first | refine WC.cond_dec rfl (fun c1 => ?_) (fun c1 => ?_) | refine WC.cond rfl (fun c1 => ?_) (fun c1 => ?_)
    ·
      refine WC.region ?_
      refine WL.assign rfl rfl ?_
      refine (WL.done (WX.next ?_))
      refine WC.seq ?_
      refine WC.seq ?_
      refine WC.region ?_
      refine WL.move rfl rfl ?_
      refine WL.bin rfl rfl binv_neq rfl ?_
      refine (WL.done (WX.next ?_))
      first | refine WC.cond_dec rfl (fun c2 => ?_) (fun c2 => ?_) | refine WC.cond rfl (fun c2 => ?_) (fun c2 => ?_)
      ·
        refine WC.seq ?_
        refine WC.region ?_
        refine WL.move rfl rfl ?_
        refine WL.assign rfl rfl ?_
        refine WL.assign rfl rfl ?_
        refine (WL.done (WX.next ?_))
        refine (WC.ret (WX.then_ret ?_))
        refine ret_two rfl rfl rfl ?_
        refine ⟨?_, H.tail⟩
        unfold lRoom lCap
        first | (rw [if_pos (by omega)]; done) | (rw [if_neg (by omega), if_pos (by omega)]; done) | (rw [if_neg (by omega), if_neg (by omega)]; done)
      ·
        refine (WC.skip (WX.next ?_))
        refine WC.seq ?_
        refine WC.region ?_
        first | refine WL.load rfl (H.rdArr ty95 0 rfl hR.len) rfl ?_ | refine WL.load rfl (H.rd1 ty95 0 rfl rfl) rfl ?_ | refine WL.load rfl (H.rdA ty95 0 rfl (by first | decide | exact Nat.le_refl _)) rfl ?_
        refine WL.call call81 rfl rfl ?_
        refine Calls.mono (capacity_any ls hR _) ?_
        rintro _ wx ⟨rfl, Hc⟩
        refine ⟨_, rfl, ?_⟩
        replace H := H.call0 Hc
        refine WL.move rfl rfl ?_
        refine WL.bin rfl rfl (isub (by omega) (by omega)) rfl ?_
        refine WL.assign rfl rfl ?_
        refine WL.assign rfl rfl ?_
        refine (WL.done (WX.next ?_))
        refine (WC.ret ?_)
        refine ret_two rfl rfl rfl ?_
        refine ⟨?_, H.tail⟩
        unfold lRoom lCap
        first | (rw [if_pos (by omega)]; done) | (rw [if_neg (by omega), if_pos (by omega)]; done) | (rw [if_neg (by omega), if_neg (by omega)]; done)
    ·
      refine (WC.skip (WX.next ?_))
      refine WC.seq ?_
      refine WC.seq ?_
      refine WC.region ?_
      refine WL.move rfl rfl ?_
      refine WL.bin rfl rfl binv_neq rfl ?_
      refine (WL.done (WX.next ?_))
      first | refine WC.cond_dec rfl (fun c3 => ?_) (fun c3 => ?_) | refine WC.cond rfl (fun c3 => ?_) (fun c3 => ?_)
      ·
        refine WC.seq ?_
        refine WC.region ?_
        refine WL.move rfl rfl ?_
        refine WL.assign rfl rfl ?_
        refine WL.assign rfl rfl ?_
        refine (WL.done (WX.next ?_))
        refine (WC.ret (WX.then_ret ?_))
        refine ret_two rfl rfl rfl ?_
        refine ⟨?_, H.tail⟩
        unfold lRoom lCap
        first | (rw [if_pos (by omega)]; done) | (rw [if_neg (by omega), if_pos (by omega)]; done) | (rw [if_neg (by omega), if_neg (by omega)]; done)
      ·
        refine (WC.skip (WX.next ?_))
        refine WC.seq ?_
        refine WC.region ?_
        first | refine WL.load rfl (H.rdArr ty95 0 rfl hR.len) rfl ?_ | refine WL.load rfl (H.rd1 ty95 0 rfl rfl) rfl ?_ | refine WL.load rfl (H.rdA ty95 0 rfl (by first | decide | exact Nat.le_refl _)) rfl ?_
        refine WL.call call81 rfl rfl ?_
        refine Calls.mono (capacity_any ls hR _) ?_
        rintro _ wx ⟨rfl, Hc⟩
        refine ⟨_, rfl, ?_⟩
        replace H := H.call0 Hc
        refine WL.move rfl rfl ?_
        refine WL.bin rfl rfl (isub (by omega) (by omega)) rfl ?_
        refine WL.assign rfl rfl ?_
        refine WL.assign rfl rfl ?_
        refine (WL.done (WX.next ?_))
        refine (WC.ret ?_)
        refine ret_two rfl rfl rfl ?_
        refine ⟨?_, H.tail⟩
        unfold lRoom lCap
        first | (rw [if_pos (by omega)]; done) | (rw [if_neg (by omega), if_pos (by omega)]; done) | (rw [if_neg (by omega), if_neg (by omega)]; done)
  ·
    refine WL.no rfl rfl rfl ?_
    refine WL.no rfl rfl rfl ?_
    refine WL.no rfl rfl rfl ?_
    refine WL.no rfl rfl rfl ?_
    refine WL.pickF rfl rfl rfl ?_
    refine (WL.done (WX.next ?_))
    refine WC.cond_false rfl (rfl) ?_
    refine (WC.skip (WX.next ?_))
    refine WC.seq ?_
    refine WC.seq ?_
    refine WC.region ?_
    refine WL.move rfl rfl ?_
    refine WL.bin rfl rfl binv_neq rfl ?_
    refine (WL.done (WX.next ?_))
    first | refine WC.cond_dec rfl (fun c5 => ?_) (fun c5 => ?_) | refine WC.cond rfl (fun c5 => ?_) (fun c5 => ?_)
    ·
      refine WC.seq ?_
      refine WC.region ?_
      refine WL.move rfl rfl ?_
      refine WL.assign rfl rfl ?_
      refine WL.assign rfl rfl ?_
      refine (WL.done (WX.next ?_))
      refine (WC.ret (WX.then_ret ?_))
      refine ret_two rfl rfl rfl ?_
      refine ⟨?_, H.tail⟩
      unfold lRoom lCap
      first | (rw [if_pos (by omega)]; done) | (rw [if_neg (by omega), if_pos (by omega)]; done) | (rw [if_neg (by omega), if_neg (by omega)]; done)
    ·
      refine (WC.skip (WX.next ?_))
      refine WC.seq ?_
      refine WC.region ?_
      first | refine WL.load rfl (H.rdArr ty95 0 rfl hR.len) rfl ?_ | refine WL.load rfl (H.rd1 ty95 0 rfl rfl) rfl ?_ | refine WL.load rfl (H.rdA ty95 0 rfl (by first | decide | exact Nat.le_refl _)) rfl ?_
      refine WL.call call81 rfl rfl ?_
      refine Calls.mono (capacity_any ls hR _) ?_
      rintro _ wx ⟨rfl, Hc⟩
      refine ⟨_, rfl, ?_⟩
      replace H := H.call0 Hc
      refine WL.move rfl rfl ?_
      refine WL.bin rfl rfl (isub (by omega) (by omega)) rfl ?_
      refine WL.assign rfl rfl ?_
      refine WL.assign rfl rfl ?_
      refine (WL.done (WX.next ?_))
      refine (WC.ret ?_)
      refine ret_two rfl rfl rfl ?_
      refine ⟨?_, H.tail⟩
      unfold lRoom lCap
      first | (rw [if_pos (by omega)]; done) | (rw [if_neg (by omega), if_pos (by omega)]; done) | (rw [if_neg (by omega), if_neg (by omega)]; done)

theorem ldurable_any {w0 w : World} {L : Hp} {R : RM} {p k : Nat} {M : PM} (f l : Int) (n : Nat) (hf : 0 ≤ f ∧ f ≤ 100000) (hn : n ≤ 100000) (hl : l = f + n - 1) (hk : k < 536870912) (hI : Is R p M k) (H : St w0 [] w (L ++ R.hp)) (hL : L64 w0) : Calls Tryd.prog 141 #[ptr p, .int .i64 f, .int .i64 l] w fun e w' => ∃ R', e = .returned (.tuple #[]) ∧ Is R' p (lDur M f n) (k + n + 1) ∧ St w0 [] w' (L ++ R'.hp) := by
  refine calls_walk_d (args := [ptr p, .int .i64 f, .int .i64 l]) Tryd.func141 rfl rfl rfl ?_
  
  refine WC.seq ?_
  refine WC.region ?_
  refine WL.move rfl rfl ?_
  refine WL.defer (vs := [ptr p]) rfl ?_
  refine (WL.done (WX.next ?_))
  refine WC.seq ?_
  refine WC.region ?_
  refine WL.move rfl rfl ?_
  refine WL.assign rfl rfl ?_
  refine (WL.done (WX.next ?_))
  refine WC.block ?_
  refine WC.loop (Sub.cons (t := 0) rfl (Sub.cons (t := 2) rfl (Sub.nil _))) (fun z : RM × Nat => [(6, .int .i64 (f + (z.2 : Int)))]) (fun q z wx => q = n - z.2 ∧ z.2 ≤ n ∧ Is z.1 p (flushTo M f z.2) (k + z.2) ∧ St w0 [] wx (L ++ z.1.hp)) (n) ((R, 0)) (Sub.cons (t := 6) (by show _ = some (Value.int .i64 (f + ((0 : Nat) : Int))); rw [show f + ((0 : Nat) : Int) = f from Int.add_zero f]; rfl) (Sub.nil _)) (⟨rfl, Nat.zero_le _, hI, H⟩) ?_
  rintro q z wx hJ N hN
  clear hI H
  obtain ⟨R3, i⟩ := z
  obtain ⟨rfl, hi, hI, H⟩ := hJ
  change i ≤ n at hi
  change Is R3 p (flushTo M f i) (k + i) at hI
  change St w0 [] wx (L ++ R3.hp) at H
  refine WC.seq ?_
  refine WC.seq ?_
  refine WC.region ?_
  refine WL.move rfl rfl ?_
  refine WL.move rfl rfl ?_
  refine WL.bin rfl rfl binv_leq rfl ?_
  refine (WL.done (WX.next ?_))
  first | refine WC.cond_dec rfl (fun c1 => ?_) (fun c1 => ?_) | refine WC.cond rfl (fun c1 => ?_) (fun c1 => ?_)
  ·
    refine (WC.skip (WX.next ?_))
    refine WC.seq ?_
    refine WC.block ?_
    refine WC.region ?_
    refine WL.move rfl rfl ?_
    refine WL.move rfl rfl ?_
    refine WL.call call35 rfl rfl ?_
    refine Calls.mono ((a_flush_w (f + (i : Int)) (by omega) hI H hL).calls) ?_
    rintro _ wx ⟨R1, rfl, hI, H⟩
    refine ⟨_, rfl, ?_⟩
    refine (WL.done (WX.block_normal (WX.next ?_)))
    refine WC.region ?_
    refine WL.move rfl rfl ?_
    refine WL.bin rfl rfl ((by have := iadd (P := Tryd.prog) (t := 3) (x := f + (i : Int)) (y := 1) (by omega) (by omega); rw [show f + (i : Int) + 1 = f + ((i + 1 : Nat) : Int) by omega] at this; exact this)) rfl ?_
    refine WL.assign rfl rfl ?_
    refine (WL.done (WX.round ?_))
    exact hN _ (R1, i + 1) _ _ (by show n - (i + 1) < n - i; omega) ⟨rfl, by show i + 1 ≤ n; omega, hI, H⟩ (Sub.cons (t := 6) (by first | rfl | simp) (Sub.nil _)) (Sub.cons (t := 0) rfl (Sub.cons (t := 2) rfl (Sub.nil _)))
  ·
    obtain rfl : i = n := by omega
    refine (WC.exit (WX.then_exit (WX.then_exit (WX.block_exit ?_))))
    refine end_d (fun tmps => ?_)
    refine leaves_fn call36 (CallsW.mono (a_fence_w (by omega) hI H hL) ?_)
    rintro _ w2 ⟨R5, rfl, hI, H⟩
    refine ⟨⟨_, rfl⟩, ?_⟩
    exact leaves_none rfl ⟨R5, rfl, hI, H⟩

theorem lpublish_any {w0 w : World} {L : Hp} {R : RM} {p k : Nat} {M : PM} (ls : List Int) (hR : LR ls) (ep cnt : Int) (hep : 0 ≤ ep ∧ ep < 1048576) (hcnt : 0 ≤ cnt ∧ cnt ≤ 1048575) (hk : k < 268435456) (hI : Is R p M k) (H : St w0 [] w (L ++ R.hp)) (hL : L64 w0) : Calls Tryd.prog 138 #[ptr p, arr ls, .int .i64 ep, .int .i64 cnt] w fun e w' => ∃ R', e = .returned (.tuple #[]) ∧ Is R' p (lPub M ls ep cnt) (k + 3) ∧ St w0 [] w' (L ++ R'.hp) := by
  have hR1 := hR.a0
  have hR2 := hR.b2
  have hR3 := hR.n
  have hR4 := hR.ab
  refine calls_walk_n (args := [ptr p, arr ls, .int .i64 ep, .int .i64 cnt]) Tryd.func138 rfl rfl rfl ?_
  
  refine WC.seq ?_
  refine WC.region ?_
  refine WL.boxArr H rfl rfl ?_
  intro b5 wx hb5 hge5 H
  refine (WL.done (WX.next ?_))
  refine WC.seq ?_
  refine WC.region ?_
  refine WL.move rfl rfl ?_
  refine WL.load rfl (H.rdArr ty95 0 rfl hR.len) rfl ?_
  refine WL.call call155 rfl rfl ?_
  refine Calls.mono (headAt_any ls hR _) ?_
  rintro _ wx ⟨rfl, Hc⟩
  refine ⟨_, rfl, ?_⟩
  replace H := H.call0 Hc
  refine WL.move rfl rfl ?_
  refine WL.bin rfl rfl (ishl (m := 20) rfl (by decide) (by omega) (by omega)) rfl ?_
  refine WL.move rfl rfl ?_
  refine WL.bin rfl rfl (bor hcnt hep) rfl ?_
  refine WL.call call110 rfl rfl ?_
  refine Calls.mono (a_publish (L := (b5, .cells (arrC ls) 95) :: L) (8 * ls.getD 1 0) (cnt * 1048576 + ep) (by omega) (by omega) hI H hL) ?_
  rintro _ wx ⟨R1, rfl, hI, H⟩
  refine ⟨_, rfl, ?_⟩
  refine (WL.done (WX.next ?_))
  refine WC.region ?_
  refine WL.move rfl rfl ?_
  refine WL.fieldAddr fld95_1 rfl rfl ?_
  refine WL.load rfl (H.rdElt (o := 1) ty3 0 rfl (by rw [hR.len]; decide)) rfl ?_
  refine WL.fieldAddr fld95_1 rfl rfl ?_
  refine WL.load rfl (H.rdElt (o := 1) ty3 0 rfl (by rw [hR.len]; decide)) rfl ?_
  refine WL.call call141 rfl rfl ?_
  refine Calls.mono (ldurable_any (L := (b5, .cells (arrC ls) 95) :: L) (ls.getD 1 0) (ls.getD 1 0) 1 (by omega) (by omega) (by omega) (by omega) hI H hL) ?_
  rintro _ wx ⟨R2, rfl, hI, H⟩
  refine ⟨_, rfl, ?_⟩
  refine (WL.done ?_)
  refine end_none rfl ?_
  exact ⟨R2, rfl, hI.mono (by omega), H.tail⟩

theorem lempty_any {w0 w : World} {L : Hp} {R : RM} {p k : Nat} {M : PM} (ls : List Int) (hR : LR ls) (hk : k < 268435456) (hI : Is R p M k) (H : St w0 [] w (L ++ R.hp)) (hL : L64 w0) : Calls Tryd.prog 62 #[ptr p, arr ls] w fun e w' => ∃ R', e = .returned (.int .i64 (lHead M ls).2.2) ∧ Is R' p (lEmpty M ls) (k + 3) ∧ St w0 [] w' (L ++ R'.hp) := by
  have hR1 := hR.a0
  have hR2 := hR.b2
  have hR3 := hR.n
  have hR4 := hR.ab
  have hB := lHead_bd M ls
  refine calls_walk_n (args := [ptr p, arr ls]) Tryd.func62 rfl rfl rfl ?_
  
  refine WC.seq ?_
  refine WC.region ?_
  refine WL.boxArr H rfl rfl ?_
  intro b3 wx hb3 hge3 H
  refine WL.assign rfl rfl ?_
  refine (WL.done (WX.next ?_))
  refine WC.seq ?_
  refine WC.region ?_
  refine WL.move rfl rfl ?_
  first | refine WL.load rfl (H.rdArr ty95 0 rfl hR.len) rfl ?_ | refine WL.load rfl (H.rd1 ty95 0 rfl rfl) rfl ?_ | refine WL.load rfl (H.rdA ty95 0 rfl (by first | decide | exact Nat.le_refl _)) rfl ?_
  refine WL.call call137 rfl rfl ?_
  refine Calls.mono (lhead_any (L := (b3, .cells (arrC ls) 95) :: L) ls hR hI H hL) ?_
  rintro _ wx ⟨rfl, H⟩
  refine ⟨_, rfl, ?_⟩
  refine WL.move rfl rfl ?_
  refine WL.extract rfl rfl rfl ?_
  refine WL.extract rfl rfl rfl ?_
  refine WL.extract rfl rfl rfl ?_
  refine WL.assign rfl rfl ?_
  refine WL.assign rfl rfl ?_
  refine WL.assign rfl rfl ?_
  refine (WL.done (WX.next ?_))
  refine WC.seq ?_
  refine WC.seq ?_
  refine WC.region ?_
  refine WL.move rfl rfl ?_
  refine WL.bin rfl rfl binv_neq rfl ?_
  refine (WL.done (WX.next ?_))
  first | refine WC.cond_dec rfl (fun c1 => ?_) (fun c1 => ?_) | refine WC.cond rfl (fun c1 => ?_) (fun c1 => ?_)
  ·
    refine WC.seq ?_
    refine WC.region ?_
    refine WL.move rfl rfl ?_
    refine WL.assign rfl rfl ?_
    refine (WL.done (WX.next ?_))
    refine (WC.ret (WX.then_ret ?_))
    refine ret_one rfl rfl ?_
    refine ⟨R, rfl, ?_, H.tail⟩
    unfold lEmpty
    rw [if_pos (by omega)]
    exact hI.mono (by omega)
  ·
    refine (WC.skip (WX.next ?_))
    refine WC.seq ?_
    refine WC.region ?_
    refine WL.move rfl rfl ?_
    first | refine WL.load rfl (H.rdArr ty95 0 rfl hR.len) rfl ?_ | refine WL.load rfl (H.rd1 ty95 0 rfl rfl) rfl ?_ | refine WL.load rfl (H.rdA ty95 0 rfl (by first | decide | exact Nat.le_refl _)) rfl ?_
    refine WL.move rfl rfl ?_
    refine WL.bin rfl rfl (iadd (by omega) (by omega)) rfl ?_
    refine WL.bin rfl rfl (iandm (k := 20) (by decide) rfl) rfl ?_
    refine WL.call call138 rfl rfl ?_
    refine Calls.mono (lpublish_any (L := (b3, .cells (arrC ls) 95) :: L) ls hR (((lHead M ls).1 + 1) % 1048576) 0 (by omega) (by omega) hk hI H hL) ?_
    rintro _ wx ⟨R1, rfl, hI, H⟩
    refine ⟨_, rfl, ?_⟩
    refine (WL.done (WX.next ?_))
    refine WC.seq ?_
    refine WC.region ?_
    refine WL.assign rfl rfl ?_
    refine (WL.done (WX.next ?_))
    refine (WC.ret ?_)
    refine ret_one rfl rfl ?_
    refine ⟨R1, ?_, ?_, H.tail⟩
    · rw [show (lHead M ls).2.2 = 0 by omega]
    · unfold lEmpty
      rw [if_neg (by omega)]
      exact hI

end Go.Proofs.YtkncbggnaobgeaaDoor

/- Walks of functions of the program; printed by a program of this session (walk.py) out of hand-written hints. -/
namespace Go.Proofs.YtkncbggnaobgeaaDoor
open Go.RowKit
set_option linter.unusedVariables false
set_option linter.unusedSimpArgs false
set_option maxRecDepth 100000

theorem app98 : AppT Tryd.prog 98 125 2 32 := appT_of (by kernel_rfl)
theorem rcell_one (x : Int) (r : Row) (n : Nat) : ∀ u ∈ [Value.int .i64 x, r.val n], u.oneCell' = true := recv_one x r n

theorem lread_any {w0 w : World} {L : Hp} {R : RM} {p k : Nat} {M : PM} (ls : List Int) (hR : LR ls) (hG : GN w0) (hI : Is R p M k) (H : St w0 [] w (L ++ R.hp)) (hL : L64 w0) : Calls Tryd.prog 90 #[ptr p, arr ls] w fun e w' => ∃ A cap H', e = .returned (.tuple #[.slice A (lRead M ls).1.length cap, .int .i64 (lRead M ls).2]) ∧ RecsK H' A (lRead M ls).1 ∧ St w0 [] w' ((H' ++ L) ++ R.hp) := by
  have hR1 := hR.a0
  have hR2 := hR.b2
  have hR3 := hR.n
  have hR4 := hR.ab
  have hB := lHead_bd M ls
  obtain ⟨n, hn⟩ : ∃ n : Nat, (min (lHead M ls).2.1 (lCap ls)).toNat = n := ⟨_, rfl⟩
  have hmin : (if 8 * (ls.getD 2 0 - 1) < (lHead M ls).2.1 then 8 * (ls.getD 2 0 - 1) else (lHead M ls).2.1) = (n : Int) := by
    subst hn; unfold lCap; split <;> omega
  have hnb : n ≤ 1048575 := by
    split at hmin <;> omega
  have hcp : lCap ls = 8 * (ls.getD 2 0 - 1) := rfl
  refine calls_walk_n (args := [ptr p, arr ls]) Tryd.func90 rfl rfl rfl ?_
  
  refine WC.seq ?_
  refine WC.region ?_
  refine WL.boxArr H rfl rfl ?_
  intro b3 wx hb3 hge3 H
  refine WL.assign rfl rfl ?_
  refine WL.assign rfl rfl ?_
  refine (WL.done (WX.next ?_))
  refine WC.seq ?_
  refine WC.region ?_
  refine WL.move rfl rfl ?_
  refine WL.load rfl (H.rdArr ty95 0 rfl hR.len) rfl ?_
  refine WL.call call137 rfl rfl ?_
  refine Calls.mono (lhead_any (L := (b3, .cells (arrC ls) 95) :: L) ls hR hI H hL) ?_
  rintro _ wx ⟨rfl, H⟩
  refine ⟨_, rfl, ?_⟩
  refine WL.move rfl rfl ?_
  refine WL.extract rfl rfl rfl ?_
  refine WL.extract rfl rfl rfl ?_
  refine WL.extract rfl rfl rfl ?_
  refine WL.assign rfl rfl ?_
  refine WL.assign rfl rfl ?_
  refine WL.assign rfl rfl ?_
  refine (WL.done (WX.next ?_))
  refine WC.seq ?_
  refine WC.seq ?_
  refine WC.region ?_
  refine WL.move rfl rfl ?_
  refine WL.bin rfl rfl binv_neq rfl ?_
  refine (WL.done (WX.next ?_))
  first | refine WC.cond_dec rfl (fun c1 => ?_) (fun c1 => ?_) | refine WC.cond rfl (fun c1 => ?_) (fun c1 => ?_)
  ·
    refine WC.seq ?_
    refine WC.region ?_
    refine WL.move rfl rfl ?_
    refine WL.assign rfl rfl ?_
    refine WL.assign rfl rfl ?_
    refine (WL.done (WX.next ?_))
    refine (WC.ret (WX.then_ret ?_))
    refine ret_two rfl rfl rfl ?_
    have e0 : lRead M ls = ([], (lHead M ls).2.2) := by unfold lRead; rw [if_pos (by omega)]
    rw [e0]
    exact ⟨none, 0, [], rfl, fun w hw => .inl rfl, H.tail⟩
  ·
    refine (WC.skip (WX.next ?_))
    refine WC.seq ?_
    refine WC.region ?_
    refine WL.assign rfl rfl ?_
    refine (WL.done (WX.next ?_))
    refine WC.seq ?_
    refine WC.seq ?_
    refine WC.region ?_
    refine WL.move rfl rfl ?_
    refine WL.load rfl (H.rdArr ty95 0 rfl hR.len) rfl ?_
    refine WL.call call81 rfl rfl ?_
    refine Calls.mono (capacity_any ls hR _) ?_
    rintro _ wx ⟨rfl, Hc⟩
    refine ⟨_, rfl, ?_⟩
    replace H := H.call0 Hc
    refine WL.minTo rfl rfl rfl hmin ?_
    refine WL.move rfl rfl ?_
    refine (WL.done (WX.next ?_))
    refine WC.block ?_
    refine WC.loop (Sub.cons (t := 0) rfl (Sub.cons (t := 3) rfl (Sub.cons (t := 6) rfl (Sub.cons (t := 7) rfl (Sub.cons (t := 30) rfl (Sub.nil _)))))) (fun z : Row × Nat => [(9, z.1.val z.2), (31, .int .i64 (z.2 : Int))]) (fun q z wx => q = n - z.2 ∧ z.2 ≤ n ∧ z.1.ok 1 z.2 (intsC (lWords M (8 * ls.getD 1 0 + 8) z.2)) ∧ (∀ k, k < z.2 → (M.load ((8 * ls.getD 1 0 + 8) + (k : Nat))).2 = 0) ∧ St w0 [] wx ((z.1.hp 3 ++ ((b3, .cells (arrC ls) 95) :: L)) ++ R.hp)) (n) ((Row.none, 0)) (Sub.cons (t := 9) (by first | rfl | simp) (Sub.cons (t := 31) (by first | rfl | simp) (Sub.nil _))) (⟨rfl, Nat.zero_le _, ⟨rfl, rfl⟩, fun k hk => absurd hk (Nat.not_lt_zero _), H⟩) ?_
    rintro q z wx hJ N hN
    clear H
    obtain ⟨r, i⟩ := z
    obtain ⟨rfl, hi, hr, hall, H⟩ := hJ
    change i ≤ n at hi
    change r.ok 1 i (intsC (lWords M (8 * ls.getD 1 0 + 8) i)) at hr
    change ∀ k, k < i → _ at hall
    change St w0 [] wx ((r.hp 3 ++ _) ++ R.hp) at H
    refine WC.seq ?_
    refine WC.region ?_
    refine WL.bin rfl rfl binv_lss rfl ?_
    refine (WL.done (WX.next ?_))
    refine WC.seq ?_
    first | refine WC.cond_dec rfl (fun c2 => ?_) (fun c2 => ?_) | refine WC.cond rfl (fun c2 => ?_) (fun c2 => ?_)
    ·
      replace hi2 : i < n := by omega
      refine (WC.skip (WX.next ?_))
      refine WC.seq ?_
      refine WC.block ?_
      refine WC.seq ?_
      refine WC.region ?_
      refine WL.move rfl rfl ?_
      refine WL.assign rfl rfl ?_
      refine (WL.done (WX.next ?_))
      refine WC.seq ?_
      refine WC.region ?_
      refine WL.move rfl rfl ?_
      refine WL.load rfl (Rd.arr ty95 (H.sat (b3, .cells (arrC ls) 95) (List.mem_append_left _ (List.mem_append_right _ List.mem_cons_self))) hR.len) rfl ?_
      refine WL.move rfl rfl ?_
      refine WL.call call139 rfl rfl ?_
      refine Calls.mono (at_any ls hR (i : Int) (by omega) _) ?_
      rintro _ wx ⟨rfl, Hc⟩
      refine ⟨_, rfl, ?_⟩
      replace H := H.call0 Hc
      refine WL.call call96 rfl rfl ?_
      refine Calls.mono (a_load (L := r.hp 3 ++ ((b3, .cells (arrC ls) 95) :: L)) (8 * ls.getD 1 0 + 8 + (i : Int)) (by omega) hI H hL) ?_
      rintro _ wx ⟨rfl, H⟩
      refine ⟨_, rfl, ?_⟩
      refine WL.move rfl rfl ?_
      refine WL.extract rfl rfl rfl ?_
      refine WL.extract rfl rfl rfl ?_
      refine WL.assign rfl rfl ?_
      refine WL.assign rfl rfl ?_
      refine (WL.done (WX.next ?_))
      refine WC.seq ?_
      refine WC.seq ?_
      refine WC.region ?_
      refine WL.move rfl rfl ?_
      refine WL.bin rfl rfl binv_neq rfl ?_
      refine (WL.done (WX.next ?_))
      first | refine WC.cond_dec rfl (fun c3 => ?_) (fun c3 => ?_) | refine WC.cond rfl (fun c3 => ?_) (fun c3 => ?_)
      ·
        have he : (M.load (8 * ls.getD 1 0 + 8 + (i : Int))).2 ≠ 0 := by omega
        refine WC.seq ?_
        refine WC.region ?_
        refine WL.move rfl rfl ?_
        refine WL.assign rfl rfl ?_
        refine WL.assign rfl rfl ?_
        refine (WL.done (WX.next ?_))
        refine (WC.ret (WX.then_ret (WX.block_ret (WX.then_ret (WX.then_ret (WX.block_ret (WX.then_ret ?_)))))))
        refine ret_two rfl rfl rfl ?_
        have e0 : lRead M ls = ([], (M.load (8 * ls.getD 1 0 + 8 + (i : Int))).2) := by
          unfold lRead
          rw [if_neg (by omega)]
          simp only [hn]
          rw [lErr_at hi2 hall he, if_pos he]
        rw [e0]
        exact ⟨none, 0, [], rfl, fun w hw => .inl rfl, H.weaken (((List.sublist_cons_self _ _).trans (List.sublist_append_right (r.hp 3) _)).append (List.Sublist.refl _))⟩
      ·
        have he : (M.load (8 * ls.getD 1 0 + 8 + (i : Int))).2 = 0 := by omega
        refine (WC.skip (WX.next ?_))
        refine WC.region ?_
        refine WL.move rfl rfl ?_
        refine WL.move rfl rfl ?_
        refine WL.buildSliceN (cells := arrC [(M.load (8 * ls.getD 1 0 + 8 + (i : Int))).1]) H Tryd.underlying43 ty3 zer3 rfl (by omega) rfl (by kernel_rfl) ?_
        intro g2 wx hg hgg H
        replace H : St w0 [] _ (r.hp 3 ++ ((g2, .cells (arrC [(M.load (8 * ls.getD 1 0 + 8 + (i : Int))).1]) 3) :: (((b3, .cells (arrC ls) 95) :: L) ++ R.hp))) := H.perm ((List.Perm.of_eq (by simp [List.append_assoc])).trans List.perm_middle.symm)
        refine WL.append (m := 1) (k := i) (news := intsC [(M.load (8 * ls.getD 1 0 + 8 + (i : Int))).1]) app43L H hr rfl rfl rfl (fun j u hj => by rw [addr_add, cell_of (H.sat _ (List.mem_append_right _ List.mem_cons_self)), Nat.zero_add]; simpa [intsC, Value.cells, arrC] using hj) (intsC_one _) (by simp only [maxLen]; omega) (by omega) rfl ?_
        intro r1 wx hr1 H
        replace hr1 : r1.ok 1 (i + 1) (intsC (lWords M (8 * ls.getD 1 0 + 8) (i + 1))) := by rw [lWords_succ, intsC_append]; exact hr1
        replace H : St w0 [] wx ((r1.hp 3 ++ ((b3, .cells (arrC ls) 95) :: L)) ++ R.hp) := (H.weaken ((List.Sublist.refl _).append (List.sublist_cons_self _ _))).perm (List.Perm.of_eq (by simp [List.append_assoc]))
        refine WL.assign rfl rfl ?_
        refine (WL.done (WX.block_normal (WX.next ?_)))
        refine WC.region ?_
        refine WL.bin rfl rfl (iadd (by omega) (by omega)) rfl ?_
        refine WL.move rfl rfl ?_
        refine (WL.done (WX.round ?_))
        exact hN _ (r1, i + 1) _ _ (by show n - (i + 1) < n - i; omega) ⟨rfl, by show i + 1 ≤ n; omega, hr1, fun k hk => by rcases Nat.lt_or_ge k i with h | h; exact hall k h; rw [show k = i by omega]; exact he, H⟩ (Sub.cons (t := 9) (by first | rfl | simp) (Sub.cons (t := 31) (by first | rfl | simp) (Sub.nil _))) (Sub.cons (t := 0) rfl (Sub.cons (t := 3) rfl (Sub.cons (t := 6) rfl (Sub.cons (t := 7) rfl (Sub.cons (t := 30) rfl (Sub.nil _))))))
    ·
      obtain rfl : i = n := by omega
      refine (WC.exit (WX.then_exit (WX.then_exit (WX.block_exit (WX.next ?_)))))
      refine WC.seq ?_
      refine WC.seq ?_
      refine WC.region ?_
      refine WL.move rfl rfl ?_
      refine WL.load rfl (Rd.arr ty95 (H.sat (b3, .cells (arrC ls) 95) (List.mem_append_left _ (List.mem_append_right _ List.mem_cons_self))) hR.len) rfl ?_
      refine WL.call call81 rfl rfl ?_
      refine Calls.mono (capacity_any ls hR _) ?_
      rintro _ wx ⟨rfl, Hc⟩
      refine ⟨_, rfl, ?_⟩
      replace H := H.call0 Hc
      refine WL.bin rfl rfl binv_gtr rfl ?_
      refine (WL.done (WX.next ?_))
      first | refine WC.cond_dec rfl (fun c4 => ?_) (fun c4 => ?_) | refine WC.cond rfl (fun c4 => ?_) (fun c4 => ?_)
      ·
        refine WC.seq ?_
        refine WC.region ?_
        refine WL.assign rfl rfl ?_
        refine WL.assign rfl rfl ?_
        refine (WL.done (WX.next ?_))
        refine (WC.ret (WX.then_ret ?_))
        refine ret_two rfl rfl rfl ?_
        have e0 : lRead M ls = ([], 3) := by
          unfold lRead
          rw [if_neg (by omega)]
          simp only [hn]
          rw [lErr_none hall, if_neg (by decide), if_pos (by omega)]
        rw [e0]
        exact ⟨none, 0, [], rfl, fun w hw => .inl rfl, H.weaken (((List.sublist_cons_self _ _).trans (List.sublist_append_right (r.hp 3) _)).append (List.Sublist.refl _))⟩
      ·
        refine (WC.skip (WX.next ?_))
        refine WC.seq ?_
        refine WC.region ?_
        refine WL.assign rfl rfl ?_
        refine (WL.done (WX.next ?_))
        refine WC.seq ?_
        refine WC.block ?_
        obtain ⟨rw1, hrw⟩ : ∃ rw1, rw1 = r := ⟨r, rfl⟩
        subst hrw
        have hwl := lWords_len M (8 * ls.getD 1 0 + 8) i
        have hra : ∀ w2 : World, (∀ q ∈ rw1.hp 3, w2.heap[q.1]? = some q.2) → IntsIn w2 rw1.adr (lWords M (8 * ls.getD 1 0 + 8) i) ∧ i ≤ rw1.cp := fun w2 hw2 => by
          obtain ⟨A, cap, h1, h2, h3⟩ := IntsIn.row (T := 3) hr hw2
          rw [Row.val_adr] at h1
          injection h1 with h1 h4 h5
          rw [h1, h5]; exact ⟨h2, h3⟩
        have hrc := (hra _ (fun q hq => H.sat q (by simp [hq]))).2
        refine WC.loop (Sub.cons (t := 6) rfl (Sub.nil _)) (fun z : RZ => [(13, z.ro.val z.acc.length), (9, .slice z.A z.ws.length z.cap)]) (fun q z wx => q = z.ws.length ∧ z.ws.length ≤ z.cap ∧ z.acc.length + z.ws.length ≤ i ∧ z.ws.length < z.fuel ∧ decAcc (lHead M ls).1 z.fuel z.acc z.ws = decAcc (lHead M ls).1 (i + 1) [] (lWords M (8 * ls.getD 1 0 + 8) i) ∧ RecCs z.K z.cells z.acc ∧ z.ro.ok 2 z.acc.length z.cells ∧ (∀ w2 : World, (∀ q ∈ rw1.hp 3, w2.heap[q.1]? = some q.2) → IntsIn w2 z.A z.ws) ∧ St w0 [] wx (((rw1.hp 3 ++ ((b3, .cells (arrC ls) 95) :: L)) ++ R.hp) ++ (z.K ++ z.ro.hp 125))) ((lWords M (8 * ls.getD 1 0 + 8) i).length) ((⟨Row.none, [], rw1.adr, rw1.cp, lWords M (8 * ls.getD 1 0 + 8) i, [], [], i + 1⟩ : RZ)) (Sub.cons (t := 13) rfl (Sub.cons (t := 9) (by show _ = some (Value.slice rw1.adr (lWords M (8 * ls.getD 1 0 + 8) i).length rw1.cp); rw [lWords_len, ← Row.val_adr]; rfl) (Sub.nil _))) (⟨rfl, by rw [hwl]; exact hrc, by show 0 + (lWords M (8 * ls.getD 1 0 + 8) i).length ≤ i; omega, by show (lWords M (8 * ls.getD 1 0 + 8) i).length < i + 1; omega, rfl, RecCs.nil, ⟨rfl, rfl⟩, fun w2 hw2 => (hra w2 hw2).1, H.perm (List.Perm.of_eq (by simp [Row.hp]))⟩) ?_
        rintro q z wx hJ N2 hN2
        clear H
        obtain ⟨ro, acc, A, cap, ws, K, cells, fuel⟩ := z
        obtain ⟨rfl, hwc, hal, hfu, hda, hrk, hro, hx, H⟩ := hJ
        change ws.length ≤ cap at hwc
        change acc.length + ws.length ≤ i at hal
        change ws.length < fuel at hfu
        change decAcc (lHead M ls).1 fuel acc ws = _ at hda
        change RecCs K cells acc at hrk
        change ro.ok 2 acc.length cells at hro
        change ∀ w2 : World, _ → IntsIn w2 A ws at hx
        change St w0 [] wx (((rw1.hp 3 ++ ((b3, .cells (arrC ls) 95) :: L)) ++ R.hp) ++ (K ++ ro.hp 125)) at H
        refine WC.seq ?_
        refine WC.seq ?_
        refine WC.region ?_
        refine WL.move rfl rfl ?_
        refine WL.lenSlc isl43 rfl rfl ?_
        refine WL.bin rfl rfl binv_gtr rfl ?_
        refine (WL.done (WX.next ?_))
        first | refine WC.cond_dec rfl (fun c5 => ?_) (fun c5 => ?_) | refine WC.cond rfl (fun c5 => ?_) (fun c5 => ?_)
        ·
          change (ws.length : Int) > 0 at c5
          obtain ⟨b, o, cs, t, fr, rfl, hb, hcs⟩ := (hx _ (fun q hq => H.sat q (by simp [hq]))).blk (by omega)
          refine (WC.skip (WX.next ?_))
          refine WC.block ?_
          refine WC.seq ?_
          refine WC.region ?_
          refine WL.move rfl rfl ?_
          refine WL.move rfl rfl ?_
          refine WL.call call74 rfl rfl ?_
          refine Calls.mono (decode_log_any _ _ cap ws rfl hwc (by omega) (lHead M ls).1 _ (hG.of0 H) (hx _ (fun q hq => H.sat q (by simp [hq])))) ?_
          rintro _ wx ⟨r, rfl, hr, Hc⟩
          refine ⟨_, rfl, ?_⟩
          replace H := H.call Hc
          refine WL.move rfl rfl ?_
          refine WL.extract rfl rfl rfl ?_
          refine WL.extract rfl rfl rfl ?_
          refine WL.extract rfl rfl rfl ?_
          refine WL.alloc H zer125 rfl ?_
          intro b14 wx hb14 hge14 H
          refine WL.storeTo (cs' := #[.int .i64 (decV ws (lHead M ls).1).1.1, r.val (decV ws (lHead M ls).1).1.2.length]) H ty125 0 rfl rfl rfl rfl (recv_one _ _ _) (Nat.le_of_ble_eq_true rfl) rfl ?_
          intro wx H
          refine WL.assign rfl rfl ?_
          refine WL.assign rfl rfl ?_
          refine (WL.done (WX.next ?_))
          refine WC.seq ?_
          refine WC.seq ?_
          refine WC.region ?_
          refine WL.move rfl rfl ?_
          refine WL.bin rfl rfl binv_neq rfl ?_
          refine (WL.done (WX.next ?_))
          first | refine WC.cond_dec rfl (fun c6 => ?_) (fun c6 => ?_) | refine WC.cond rfl (fun c6 => ?_) (fun c6 => ?_)
          ·
            have hd := dec_bad c6
            rw [decAcc_no (by omega) (by omega) hd] at hda
            have e3 : (decV ws (lHead M ls).1).2.2 = 3 := by rw [dec_no hd]
            refine WC.seq ?_
            refine WC.region ?_
            refine WL.move rfl rfl ?_
            refine WL.assign rfl rfl ?_
            refine WL.assign rfl rfl ?_
            refine (WL.done (WX.next ?_))
            refine (WC.ret (WX.then_ret (WX.block_ret (WX.then_ret (WX.block_ret (WX.then_ret ?_))))))
            refine ret_two rfl rfl rfl ?_
            have e0 : lRead M ls = decAcc (lHead M ls).1 (i + 1) [] (lWords M (8 * ls.getD 1 0 + 8) i) := by
              unfold lRead
              rw [if_neg (by omega)]
              simp only [hn]
              rw [lErr_none hall, if_neg (by decide), if_neg (by omega)]
            rw [e0, ← hda, e3]
            exact ⟨none, 0, [], rfl, fun w hw => .inl rfl, H.weaken (((((List.sublist_cons_self _ _).trans (List.sublist_append_right (rw1.hp 3) _)).append (List.Sublist.refl R.hp)).trans (List.sublist_append_left _ (K ++ ro.hp 125))).trans ((List.sublist_append_right (r.hp 189) _).trans (List.sublist_cons_self _ _)))⟩
          ·
            have hd := dec_ok c6
            obtain ⟨e1, e2⟩ : (decV ws (lHead M ls).1).1 = decR ws ∧ (decV ws (lHead M ls).1).2.1 = (decN ws : Int) := by rw [dec_yes hd]; exact ⟨rfl, rfl⟩
            rw [decAcc_yes (by omega) (by omega) hd] at hda
            have hdl : decN ws ≤ ws.length := (decOk_iff.1 hd).2.2.2.1
            have hdg := decN_ge ws
            replace H : St w0 [] wx (((b14, .cells #[.int .i64 (decV ws (lHead M ls).1).1.1, r.val (decV ws (lHead M ls).1).1.2.length] 125) :: (r.hp 189 ++ (((rw1.hp 3 ++ ((b3, .cells (arrC ls) 95) :: L)) ++ R.hp) ++ K))) ++ ro.hp 125) := H.perm (List.Perm.of_eq (by simp [List.append_assoc]))
            have hb14X := H.notL (p := (b14, _)) List.mem_cons_self
            replace H := H.drew
            refine (WC.skip (WX.next ?_))
            
            refine WC.held (SX (World.drew wx) ((ro.hp 125).map Prod.fst)) (by kernel_rfl) ?_
            generalize World.drew wx = wb at H ⊢
            have HB : St wb ((ro.hp 125).map Prod.fst) wb (ro.hp 125) := St.start (H.weaken (List.sublist_append_right _ _)).nd (H.weaken (List.sublist_append_right _ _)).sat
            refine WH.take 0 rfl (by kernel_rfl) (by kernel_rfl) (by kernel_rfl) (fun _ _ _ h => h) ⟨_, HB⟩ (fun w' hS => EX.move rfl) rfl ?_
            refine WH.take 1 rfl (by kernel_rfl) (by kernel_rfl) (by kernel_rfl) (fun _ _ _ h => h) ⟨_, HB⟩ (fun w' hS => EX.load rfl (Rd.all ty125 (hS.block (H.sat (b14, _) List.mem_cons_self) hb14X) rfl)) rfl ?_
            refine WH.take 4 rfl (by kernel_rfl) (by kernel_rfl) (by kernel_rfl) (fun _ _ _ h => h) ⟨_, HB⟩ (fun w' hS => EX.move rfl) rfl ?_
            refine WH.take 5 rfl (by kernel_rfl) (by kernel_rfl) (by kernel_rfl) (fun _ _ _ h => h) ⟨_, HB⟩ (fun w' hS => EX.move rfl) rfl ?_
            refine WH.take 6 rfl (by kernel_rfl) (by kernel_rfl) (by kernel_rfl) (fun _ _ _ h => h) ⟨_, HB⟩ (fun w' hS => EX.sliceLo (k := decN ws) slc43 rfl rfl e2 hdl) rfl ?_
            refine WH.hard 2 rfl (by kernel_rfl) ?_
            refine WL.buildSlice1 HB Tryd.underlying98 (sz := 2) (by simp only [Tryd.underlying125]; exact ty125) (by omega) zer125 rfl rfl rfl rfl ?_
            intro g2 wx hg2 hgg2 HB
            replace HB := HB.perm (List.perm_append_comm (l₁ := [(g2, _)]) (l₂ := ro.hp 125))
            refine WL.done (WX.heldOn ⟨_, HB⟩ ?_)
            refine WH.hard 3 rfl (by kernel_rfl) ?_
            refine WL.append (m := 1) (k := acc.length) (news := [.int .i64 (decV ws (lHead M ls).1).1.1, r.val (decV ws (lHead M ls).1).1.2.length]) app98 HB hro rfl rfl rfl (fun j u hj => by rw [addr_add, cell_of (HB.sat _ (List.mem_append_right _ List.mem_cons_self)), Nat.zero_add]; simpa [Value.cells] using hj) (rcell_one _ _ _) (by simp only [maxLen]; omega) (by omega) rfl ?_
            intro r1 wx hr1 HB
            refine WL.done (WX.heldOn ⟨_, HB⟩ ?_)
            refine WH.take 7 rfl (by kernel_rfl) (by kernel_rfl) (by kernel_rfl) (fun _ _ _ h => h) ⟨_, HB⟩ (fun w' hS => EX.assign rfl) rfl ?_
            refine WH.take 8 rfl (by kernel_rfl) (by kernel_rfl) (by kernel_rfl) (fun _ _ _ h => h) ⟨_, HB⟩ (fun w' hS => EX.assign rfl) rfl ?_
            refine WH.done (by kernel_rfl) ?_
            replace H := H.callM (HB.weaken (List.sublist_append_left _ _))
            refine (WX.block_normal (WX.round ?_))
            exact hN2 _ (⟨r1, acc ++ [(decV ws (lHead M ls).1).1], _, cap - decN ws, ws.drop (decN ws), r.hp 189 ++ K, _, fuel - 1⟩ : RZ) _ _ (by show (ws.drop (decN ws)).length < ws.length; rw [List.length_drop]; omega)
              ⟨rfl, by show (ws.drop (decN ws)).length ≤ cap - decN ws; rw [List.length_drop]; omega, by show (acc ++ [_]).length + (ws.drop (decN ws)).length ≤ i; rw [List.length_append, List.length_drop, List.length_singleton]; omega, by show (ws.drop (decN ws)).length < fuel - 1; rw [List.length_drop]; omega, by show decAcc _ (fuel - 1) (acc ++ [_]) (ws.drop _) = _; rw [e1]; exact hda,
               hrk.push (by rw [e1]; exact pairs_two _ _) hr, by show r1.ok 2 (acc ++ [_]).length _; rw [List.length_append]; exact hr1, fun w2 hw2 => (hx w2 hw2).drop _ hwc hdl, (H.weaken ((List.sublist_cons_self _ _).append (List.Sublist.refl _))).perm (by classical exact List.perm_iff_count.2 (fun q => by simp only [List.count_append]; omega))⟩ (Sub.cons (t := 13) (by show _ = some (r1.val (acc ++ [_]).length); rw [List.length_append]; rfl) (Sub.cons (t := 9) (by show _ = some (Value.slice _ (ws.drop (decN ws)).length (cap - decN ws)); rw [List.length_drop]; rfl) (Sub.nil _))) (Sub.cons (t := 6) rfl (Sub.nil _))
        ·
          change ¬ (ws.length : Int) > 0 at c5
          have hw0 : ws.length = 0 := by omega
          rw [decAcc_end hw0] at hda
          refine (WC.exit (WX.then_exit (WX.then_exit (WX.block_exit (WX.next ?_)))))
          refine WC.seq ?_
          refine WC.region ?_
          refine WL.move rfl rfl ?_
          refine WL.assign rfl rfl ?_
          refine WL.assign rfl rfl ?_
          refine (WL.done (WX.next ?_))
          refine (WC.ret ?_)
          refine ret_two rfl rfl rfl ?_
          have e0 : lRead M ls = decAcc (lHead M ls).1 (i + 1) [] (lWords M (8 * ls.getD 1 0 + 8) i) := by
            unfold lRead
            rw [if_neg (by omega)]
            simp only [hn]
            rw [lErr_none hall, if_neg (by decide), if_neg (by omega)]
          rw [e0, ← hda]
          refine ⟨ro.adr, ro.cp, K ++ ro.hp 125, by rw [← Row.val_adr], fun w2 hw2 => hrk.recs (T := 125) hro (fun q hq => hw2 q (List.mem_append_left _ hq)) (fun q hq => hw2 q (List.mem_append_right _ hq)), ?_⟩
          refine (H.perm (show List.Perm _ ((rw1.hp 3 ++ [(b3, .cells (arrC ls) 95)]) ++ (((K ++ ro.hp 125) ++ L) ++ R.hp)) by classical exact List.perm_iff_count.2 (fun q => by simp only [List.count_append, List.count_cons, List.count_nil]; omega))).weaken (List.sublist_append_right _ _)

end Go.Proofs.YtkncbggnaobgeaaDoor

/- A range over a function whose iterator keeps variables of its own: the rounds go to their end. Plain theorems over any program. -/
namespace Go.Proofs.YtkncbggnaobgeaaDoor
open Go.RowKit
set_option linter.unusedVariables false
set_option linter.unusedSimpArgs false
set_option linter.unusedSectionVars false
set_option maxRecDepth 100000

section
variable {F : Fence} {n : Nat} {P : Program}
theorem wpIn_rangeFunc_x {β : Type} {g : Operand} {ps : Array Tmp} {assign body : Code} {Q : Exit → Act → World → Prop} {a : Act} {w : World}
    (hro : F.round = none) (h1 : 1 ≤ n) {gf : Nat} {lb : Array Value} (hg : a.eval g = .func (.func gf) #[] lb) (hFg : F.fn gf) (eg : ∀ args w, (callFunc gf args).run P w = .ok (.enter gf args) w)
    {encs : β → Array Value} (hps : ∀ x, (encs x).size = ps.size)
    (Pre Post : β → Obj → World → Prop) (Fin I0 : Obj → World → Prop)
    (hpre : ∀ x o W, Pre x o W → W.heap[w.heap.size + 1]? = some o) (hpre' : ∀ x o o' W, Pre x o W → Pre x o' (W.putObj (w.heap.size + 1) o'))
    (hpost : ∀ x o W, Post x o W → W.heap[w.heap.size + 1]? = some o) (hpost' : ∀ x o o' W, Post x o W → Post x o' (W.putObj (w.heap.size + 1) o'))
    (hfin : ∀ o W, Fin o W → W.heap[w.heap.size + 1]? = some o) (hfin' : ∀ o o' W, Fin o W → Fin o' (W.putObj (w.heap.size + 1) o'))
    (h0 : ∀ o, I0 o ((w.alloc (.deferred (some []))).alloc o))
    (hseq : ∀ o W, I0 o W → (∀ x W1, Pre x o W1 → YieldAt F (n - 1 - 1) P (w.heap.size + 1) (encs x) W1 fun e W' => e = .returned (.bool true) ∧ Post x o W') →
      CallsIn F (n - 1) P gf (#[.func (.yield (w.heap.size + 1)) #[] #[]] ++ lb) W fun e W' => (∃ v, e = .returned v) ∧ Fin o W')
    (Ax : β → Act → Prop)
    (hassign : ∀ (l : Nat) (x : β) (W : World) (K : Act → World → Prop), (∀ a', Ax x a' → K a' W) →
      assign.wpIn (F.inRound l) (n - 1 - 1) P (Exit.then K (fun _ _ _ => False)) { tmps := (ps.zip (encs x)).foldl (fun t (p, v) => t.setIfInBounds p v) a.tmps, defers := [] } W)
    (hbody : ∀ (l : Nat) (x : β) (a' : Act) (o : Obj) (W : World), Ax x a' → Pre x o W → body.wpIn (F.inRound l) (n - 1 - 1) P (fun ex _ W' => match ex with | .normal => Post x o W' | _ => False) a' W)
    (hdone : ∀ o W, Fin o W → Q .normal { a with defers := { target := .collected w.heap.size, args := #[] } :: a.defers } W) :
    (Code.rangeFunc g ps assign body).wpIn F n P Q a w := by
  refine wpIn_rangeFunc ?_
  intro fn hfn
  rw [hro]
  obtain ⟨rec, hrec⟩ : ∃ rec : LoopState → Option Code → Loop, rec = fun st pe => { state := st, pending := pe, fn, tmps := a.tmps, params := ps, assign, body, defers := w.heap.size } := ⟨_, rfl⟩
  obtain ⟨W1, hW1⟩ : ∃ W1, (w.alloc (.deferred (some []))).alloc (.loop (rec .ready none)) = W1 := ⟨_, rfl⟩
  refine ⟨w.heap.size + 1, [{ target := .collected w.heap.size, args := #[] }], W1, { target := .fn (.func gf) lb, args := #[.func (.yield (w.heap.size + 1)) #[] #[]] }, W1, gf,
    #[.func (.yield (w.heap.size + 1)) #[] #[]] ++ lb, W1, ?_, ?_, ?_, ?_, fun _ => h1, ?_⟩
  · rw [← hW1, hrec]; exact run_enterLoop_outer _ _ _ _ _
  · simp only [resolve, hg]
    simp [go_sem]
  · intro f' hf'; simp [Target.leads] at hf'; subst hf'; exact hFg
  · simp [invoke, go_sem, eg]
  · refine (hseq (.loop (rec .ready none)) W1 (by rw [← hW1]; exact h0 _) ?_).mono ?_
    · rintro x W hp
      have hl := hpre _ _ _ hp
      have hy := run_yield (P := P) (args := encs x) hl (by rw [hrec]; exact hps x)
      rw [hrec] at hy
      refine ⟨fn, _, assign, body, hy, roundIn_of_wpIn hfn (hassign _ x W _ (fun a' ha' => ⟨_, run_beginRound hl (by rw [hrec]), ?_⟩))⟩
      have hp2 := hpre' x _ (.loop { rec .ready none with state := .busy }) W hp
      refine wpIn_mono (hbody _ x a' _ _ ha' hp2) ?_
      rintro e a3 W3 hq
      cases e with
      | normal =>
        have hl3 := hpost _ _ _ hq
        have hr := run_endRound (P := P) none hl3
        have hq' := hpost' _ _ (.loop (rec .ready none)) _ hq
        rw [hrec] at hr hq' ⊢
        exact ⟨_, _, hr, rfl, hq'⟩
      | _ => exact hq.elim
    · rintro e W2 ⟨⟨v, rfl⟩, hf⟩
      have hl := hfin _ _ hf
      exact ⟨none, _, by have := run_endLoop (P := P) hl (by rw [hrec]; simp); rw [hrec] at this; exact this, hdone _ _ (hfin' _ _ _ hf)⟩
end
theorem Upd.putObj {W : World} {b : Nat} {o o' : Obj} (h : W.heap[b]? = some o) : Upd W (W.putObj b o') b o' :=
  ⟨rfl, rfl, rfl, by simp, World.putObj_heap_same (lt_of_some h), fun j hj => World.putObj_heap_other hj⟩
theorem St.putObj {w0 W : World} {S : List Nat} {b : Nat} {o o' : Obj} {H : Hp} (h : St w0 S W ((b, o) :: H)) : St w0 S (W.putObj b o') ((b, o') :: H) :=
  h.upd (i := 0) (o := o) rfl (Upd.putObj (h.sat _ List.mem_cons_self))

section
variable {P : Program}
/-- The record of a loop and the block of its deferred calls, ahead of what else is known. -/
abbrev lpH (B : Nat) (o : Obj) (H : Hp) : Hp := (B + 1, o) :: (B, .deferred (some [])) :: H
theorem WC.rangeFuncX {β γ δ : Type} {g : Operand} {ps : List Tmp} {assign body : Code} {Q : Exit → Act → World → Prop} {n : Nat} {ds : List Deferred} {e : Env} {w w0 : World} {S : List Nat} {H : Hp}
    {gf : Nat} {lb : Array Value} {fg : Func} {encs : β → List Value}
    (hS : St w0 S w H) (hg : ev e g = some (.func (.func gf) #[] lb)) (hfg : P.funcs[gf]? = some fg) (hfn : (fg.name == "runtime.NumGoroutine") = false) {cg : Code} (hfb : fg.body = some cg)
    (hps : ∀ x, (encs x).length = ps.length) (hpn : ∀ p ∈ ps, p < n)
    (Cx : β → Prop) (Hx : β → Hp) (Cy : β → γ → Prop) (Hy : β → γ → Hp) (Cz : δ → Prop) (Hz : δ → Hp) (fA : β → Env) {e₀ : Env} (hs₀ : Sub e e₀)
    (hseq : ∀ (o : Obj) W, St w0 S W (lpH w.heap.size o H) →
      (∀ x W1, Cx x → St w0 S W1 (lpH w.heap.size o (Hx x)) → YieldAt Fence.wide 7 P (w.heap.size + 1) (encs x).toArray W1 fun e W' => e = .returned (.bool true) ∧ ∃ y, Cy x y ∧ St w0 S W' (lpH w.heap.size o (Hy x y))) →
      CallsIn Fence.wide 8 P gf (#[.func (.yield (w.heap.size + 1)) #[] #[]] ++ lb) W fun e W' => (∃ v, e = .returned v) ∧ ∃ z, Cz z ∧ St w0 S W' (lpH w.heap.size o (Hz z)))
    (hassign : ∀ (l : Nat) x W (N : Act → World → Prop), (∀ e', Sub e' (fA x) → Sub e' e₀ → WX (fun _ => N) .normal n [] e' W) →
      I.WC (Fence.wide.inRound l) 7 P assign (Exit.then N (fun _ _ _ => False)) n [] (envPs ps (encs x) e) W)
    (hbody : ∀ (l : Nat) x o W, Cx x → St w0 S W (lpH w.heap.size o (Hx x)) →
      I.WC (Fence.wide.inRound l) 7 P body (fun ex _ W' => match ex with | .normal => ∃ y, Cy x y ∧ St w0 S W' (lpH w.heap.size o (Hy x y)) | _ => False) n [] (fA x ++ e₀) W)
    (hdone : ∀ z o W, Cz z → St w0 S W (lpH w.heap.size o (Hz z)) → WX Q .normal n ({ target := .collected w.heap.size, args := #[] } :: ds) e W) :
    WC P (.rangeFunc g ps.toArray assign body) Q n ds e w := by
  intro a ha
  refine (wpIn_wide (n := 9)).1 ?_
  have hgv : a.eval g = .func (.func gf) #[] lb := ha.ev hg
  have eg : ∀ args w, (callFunc gf args).run P w = .ok (.enter gf args) w := fun args w => by
    have h1 : fg.name ≠ "runtime.NumGoroutine" := by simpa using hfn
    simp [callFunc, hfg, h1, hfb, mark]
  refine wpIn_rangeFunc_x (F := Fence.wide) (n := 9) rfl (by omega) hgv trivial eg (encs := fun x => (encs x).toArray) (fun x => by simp [hps x])
    (fun x o W => Cx x ∧ St w0 S W (lpH w.heap.size o (Hx x))) (fun x o W => ∃ y, Cy x y ∧ St w0 S W (lpH w.heap.size o (Hy x y)))
    (fun o W => ∃ z, Cz z ∧ St w0 S W (lpH w.heap.size o (Hz z))) (fun o W => St w0 S W (lpH w.heap.size o H))
    (fun x o W h => h.2.sat _ List.mem_cons_self) (fun x o o' W h => ⟨h.1, h.2.putObj⟩)
    (fun x o W ⟨y, _, h⟩ => h.sat _ List.mem_cons_self) (fun x o o' W ⟨y, h, h'⟩ => ⟨y, h, h'.putObj⟩)
    (fun o W ⟨z, _, h⟩ => h.sat _ List.mem_cons_self) (fun o o' W ⟨z, h, h'⟩ => ⟨z, h, h'.putObj⟩)
    (fun o => by
      have h2 := (hS.alloc (.deferred (some []))).alloc o
      rwa [show (w.alloc (.deferred (some []))).heap.size = w.heap.size + 1 by simp] at h2)
    (fun o W h hy => hseq o W h (fun x W1 hc h1 => hy x W1 ⟨hc, h1⟩))
    (fun x a' => Holds a' n [] (fA x ++ e₀)) ?avs ?bo ?dn
  case avs =>
    intro l x W K hK
    have hp := holds_params ps (encs x) { a with defers := [] } e ⟨ha.size, rfl, ha.get⟩ hpn
    have := hassign l x W K (fun e' hs1 hs2 a' ha' => hK a' (ha'.sub (hs1.append hs2))) _ hp
    simpa using this
  case bo =>
    rintro l x a' o W hA ⟨hc, h1⟩
    exact hbody l x o W hc h1 a' hA
  case dn =>
    rintro o W ⟨z, hc, h1⟩
    exact hdone z o W hc h1 _ ⟨ha.size, by rw [ha.defers], ha.get⟩
end
end Go.Proofs.YtkncbggnaobgeaaDoor

/- The words that Append stores, in plain Lean. -/
namespace Go.Proofs.YtkncbggnaobgeaaDoor
open Go.RowKit
set_option linter.unusedVariables false
set_option linter.unusedSimpArgs false
set_option maxRecDepth 100000

def encAll (rs : List Rc) (ep : Int) : List Int := (rs.map fun r => lenc r ep).flatten
/-- How many words the records ahead of the i-th have. -/
def off (rs : List Rc) (i : Nat) : Nat := (rs.take i).foldl (fun n r => n + rsize r) 0
def stTo (M : PM) (a : Int) (ws : List Int) : Nat → PM
  | 0 => M
  | i + 1 => (stTo M a ws i).put 1 (a + (i : Nat)) (ws.getD i 0)
theorem off_succ {rs : List Rc} {i : Nat} (h : i < rs.length) : off rs (i + 1) = off rs i + rsize rs[i] := by
  unfold off
  rw [List.take_succ_eq_append_getElem h, List.foldl_append]
  rfl
/-- Records whose entries are pairs. -/
def Two (rs : List Rc) : Prop := ∀ r ∈ rs, ∀ e ∈ r.2, e.length = 2
theorem encAll_len {rs : List Rc} {ep : Int} (h : Two rs) : ∀ i, i ≤ rs.length → (encAll (rs.take i) ep).length = off rs i
  | 0, _ => rfl
  | i + 1, hi => by
    have ih := encAll_len (ep := ep) h i (by omega)
    rw [off_succ (by omega), ← ih]
    unfold encAll
    rw [List.take_succ_eq_append_getElem (show i < rs.length by omega), List.map_append, List.flatten_append, List.length_append]
    simp only [List.map_cons, List.map_nil, List.flatten_cons, List.flatten_nil, List.append_nil]
    rw [lenc_len (h _ (List.getElem_mem _))]
theorem encAll_at {rs : List Rc} {ep : Int} (h : Two rs) {i j : Nat} (hi : i < rs.length) (hj : j < rsize rs[i]) : off rs i + j < (encAll rs ep).length ∧ (encAll rs ep).getD (off rs i + j) 0 = (lenc rs[i] ep).getD j 0 := by
  have h1 := encAll_len (ep := ep) h i (by omega)
  have hl := lenc_len (ep := ep) (h _ (List.getElem_mem hi))
  have e1 : encAll rs ep = encAll (rs.take i) ep ++ (lenc rs[i] ep ++ encAll (rs.drop (i + 1)) ep) := by
    unfold encAll
    rw [← List.flatten_cons, ← List.map_cons (f := fun r => lenc r ep), ← List.flatten_append, ← List.map_append, ← List.drop_eq_getElem_cons hi, List.take_append_drop]
  rw [e1]
  constructor
  · rw [List.length_append, List.length_append]; omega
  · rw [List.getD, List.getD, List.getElem?_append_right (by omega), h1, Nat.add_sub_cancel_left, List.getElem?_append_left (by omega)]
theorem encAll_all {rs : List Rc} {ep : Int} (h : Two rs) : (encAll rs ep).length = off rs rs.length := by
  have := encAll_len (ep := ep) h rs.length (Nat.le_refl _)
  rwa [List.take_length] at this
/-- A record in a list that lies in memory, as a value. -/
theorem RecsIn.rd {w : World} {A : Option Addr} {rs : List Rc} (h : RecsIn w A rs) {g : Nat} (hg : g < rs.length) : ∃ b o A' c', A = some ⟨b, o, none⟩ ∧ Rd Tryd.prog w 125 ⟨b, o + g * 2, none⟩ (.agg #[.int .i64 (rs[g]).1, .slice A' (rs[g]).2.length c']) ∧ RowsIn w A' 2 (rs[g]).2 := by
  obtain ⟨b, o, cs, t, fr, h1, h2, h3, A', c', h4, h5⟩ := h.at hg
  refine ⟨b, o, A', c', h1, ?_, h5⟩
  exact Rd.cellsAt (ys := [.int .i64 (rs[g]).1, .slice A' (rs[g]).2.length c']) ty125 h2 rfl (by omega) (fun j hj => by
    have hj' : j = 0 ∨ j = 1 := by omega
    rcases hj' with rfl | rfl
    · exact h3
    · exact h4)
/-- A list of records that stays where it is while those blocks stay. -/
def RecsS (w0 : World) (L : Hp) (A : Option Addr) (rs : List Rc) : Prop := rs = [] ∨ ∃ b o, A = some ⟨b, o, none⟩ ∧ ∀ j r, rs[j]? = some r → ∃ A' c', ∀ w', St w0 [] w' L →
  Rd Tryd.prog w' 125 ⟨b, o + j * 2, none⟩ (.agg #[.int .i64 r.1, .slice A' r.2.length c']) ∧ RowsIn w' A' 2 r.2
theorem RecsS.at {w0 : World} {L : Hp} {A : Option Addr} {rs : List Rc} (h : RecsS w0 L A rs) {g : Nat} (hg : g < rs.length) : ∃ b o, A = some ⟨b, o, none⟩ ∧ ∃ A' c', ∀ w', St w0 [] w' L →
    Rd Tryd.prog w' 125 ⟨b, o + g * 2, none⟩ (.agg #[.int .i64 (rs[g]).1, .slice A' (rs[g]).2.length c']) ∧ RowsIn w' A' 2 (rs[g]).2 := by
  rcases h with h | ⟨b, o, h1, h2⟩
  · subst h; cases hg
  · exact ⟨b, o, h1, h2 g _ (List.getElem?_eq_getElem hg)⟩
theorem RecsS.more {w0 : World} {L L' : Hp} {A : Option Addr} {rs : List Rc} (h : RecsS w0 L A rs) (hs : L.Sublist L') : RecsS w0 L' A rs := by
  rcases h with h | ⟨b, o, h1, h2⟩
  · exact .inl h
  · refine .inr ⟨b, o, h1, fun j r hj => ?_⟩
    obtain ⟨A', c', h3⟩ := h2 j r hj
    exact ⟨A', c', fun w' H => h3 w' (H.weaken hs)⟩
/-- Handed over with the arguments. -/
theorem RecsIn.stay {w0 : World} {A : Option Addr} {rs : List Rc} (h : RecsIn w0 A rs) (L : Hp) : RecsS w0 L A rs := by
  rcases h with h | ⟨b, o, cs, t, fr, h1, h2, h3⟩
  · exact .inl h
  · refine .inr ⟨b, o, h1, fun j r hj => ?_⟩
    obtain ⟨k1, A', c', k2, k3⟩ := h3 j r hj
    refine ⟨A', c', fun w' H => ⟨?_, k3.keep H⟩⟩
    exact Rd.cellsAt (ys := [.int .i64 r.1, .slice A' r.2.length c']) ty125 (H.oldBlock h2 (by simp)) rfl (by omega) (fun j hj => by
      have hj' : j = 0 ∨ j = 1 := by omega
      rcases hj' with rfl | rfl
      · exact k1
      · exact k2)
theorem off_le {rs : List Rc} (h : ∀ r ∈ rs, r.2.length ≤ 1048575) : ∀ i, i ≤ rs.length → off rs i ≤ i * 2097153
  | 0, _ => by simp [off]
  | i + 1, hi => by
    have ih := off_le h i (by omega)
    have := h _ (List.getElem_mem (show i < rs.length by omega))
    rw [off_succ (by omega)]
    unfold rsize
    omega
/-- The first and the last line that Append writes. -/
def lFst (ls : List Int) (cnt : Int) : Int := (8 * ls.getD 1 0 + 8 + cnt) / 8
def lLst (ls : List Int) (cnt : Int) (n : Nat) : Int := (8 * ls.getD 1 0 + 8 + (cnt + n - 1)) / 8
def lLines (ls : List Int) (cnt : Int) (n : Nat) : Nat := (lLst ls cnt n - lFst ls cnt + 1).toNat
def lPut (M : PM) (ls : List Int) (rs : List Rc) : PM :=
  lPub (lDur (stTo M (8 * ls.getD 1 0 + 8 + (lHead M ls).2.1) (encAll rs (lHead M ls).1) (encAll rs (lHead M ls).1).length) (lFst ls (lHead M ls).2.1) (lLines ls (lHead M ls).2.1 (off rs rs.length))) ls (lHead M ls).1 ((lHead M ls).2.1 + (off rs rs.length : Nat))
def lAppend (M : PM) (ls : List Int) (rs : List Rc) : PM × Int :=
  if (lRoom M ls).2 ≠ 0 then (M, (lRoom M ls).2) else
  if rs.all (rOk ls) = false then (M, 1) else
  if (off rs rs.length : Int) > (lRoom M ls).1 then (M, 8) else
  if off rs rs.length = 0 then (M, 0) else
  if ∃ j, j < lLines ls (lHead M ls).2.1 (off rs rs.length) ∧ M.state (lFst ls (lHead M ls).2.1 + (j : Nat)) = 2 then (M, 9) else (lPut M ls rs, 0)
theorem lRoom_ok {M : PM} {ls : List Int} (h : (lRoom M ls).2 = 0) : (lHead M ls).2.2 = 0 ∧ (lHead M ls).2.1 ≤ lCap ls ∧ (lRoom M ls).1 = lCap ls - (lHead M ls).2.1 := by
  unfold lRoom at h ⊢
  split at h
  · rename_i h1; exact absurd h h1
  · rename_i h1
    split at h
    · exact absurd h (by decide)
    · rename_i h2
      rw [if_neg h1, if_neg h2]
      exact ⟨by omega, by omega, rfl⟩
end Go.Proofs.YtkncbggnaobgeaaDoor

/- Walks of functions of the program; printed by a program of this session (walk.py) out of hand-written hints. -/
namespace Go.Proofs.YtkncbggnaobgeaaDoor
open Go.RowKit
set_option linter.unusedVariables false
set_option linter.unusedSimpArgs false
set_option maxRecDepth 100000

theorem I.WL.storeTo {F : Fence} {mm : Nat} [AnyF F] {P : Program} {ops : Array Oper} {Q : Exit → Act → World → Prop} {n : Nat} {ds : List Deferred} {e : Env} {w0 w : World} {S : List Nat} {H : Hp} {rest : List Oper} {v : Value} {ty : TypeId} {pos : String} {af : Array Edge}
    (hS : St w0 S w H) {T : TypeId} {agg : Bool} {k : Nat} (hT : tyB P T agg k = true) (i : Nat) {b o : Nat} {cs cs' : Array Value} {t : TypeId} {x y : Operand} (hx : ev e x = some (.pointer (some ⟨b, o, none⟩))) (hy : ev e y = some v)
    (hi : H[i]? = some (b, .cells cs t)) (hv : v.cells.size = k) (h1 : ∀ u ∈ v.cells.toList, u.oneCell' = true) (hk : o + k ≤ cs.size) (hc : wr cs o v.cells.toList = cs')
    (h : ∀ w', St w0 S w' (H.set i (b, .cells cs' t)) → I.WL F mm P ops Q n ds rest e w') : I.WL F mm P ops Q n ds ({ dst := none, op := .store T x y, type := ty, pos, after := af, guard := none } :: rest) e w := by
  subst hc
  exact I.WL.storeAt hS hT i hx hy hi hv h1 hk h
theorem intsC_get {xs : List Int} {j : Nat} (h : j < xs.length) : (intsC xs)[j]? = some (.int .i64 (xs.getD j 0)) := by
  unfold intsC
  rw [List.getElem?_map, List.getElem?_eq_getElem h, List.getD, List.getElem?_eq_getElem h]; rfl
theorem Row.some_ofL {r : Row} {sz n : Nat} {xs : List Value} (h : r.ok sz n xs) (hn : 0 < n) : ∃ b cap cur, r = Row.some b cap cur := by
  cases r with
  | none => have := h.1; omega
  | nul a => have := h.1; omega
  | some b cap cur => exact ⟨b, cap, cur, rfl⟩

theorem I.written_seq {w0 W : World} {L : Hp} {ep : Int} {R : RM} {p k : Nat} {M : PM} (ls : List Int) (hR : LR ls) (hG : GN w0) (recs : List Rc) (A : Option Addr) (m cap : Nat) (hm : m = recs.length) (hm63 : m ≤ 1048576) (h2 : Two recs) (hes : ∀ r ∈ recs, r.2.length ≤ 1048575) (hwl : (encAll recs ep).length ≤ 1048576)
    (hrec : RecsS w0 L A recs) (hep : 0 ≤ ep ∧ ep < 1048576) (cnt : Int) (hcnt : 0 ≤ cnt ∧ cnt ≤ 1048576) (a0 : Int) (ha0 : a0 = 8 * ls.getD 1 0 + 8) (B bm k1 k2 k3 k4 : Nat) (o : Obj)
    (hI : Is R p M k) (H : St w0 [] W (lpH B o ((bm, .cells #[ptr p] 25) :: ((k4, .cells #[.int .i64 (cnt)] 3) :: (k3, .cells (arrC ls) 95) :: (k2, .cells #[.int .i64 ep] 3) :: (k1, .cells #[.slice A m cap] 98) :: ([] ++ L))) ++ R.hp))
    (hY : ∀ (x : Nat × Hp × RM) W1, (x.1 < (encAll recs ep).length ∧ Is x.2.2 p (stTo M (a0 + cnt) (encAll recs ep) x.1) (k + x.1)) → St w0 [] W1 (lpH B o ((bm, .cells #[ptr p] 25) :: x.2.1) ++ x.2.2.hp) →
      YieldAt Fence.wide 7 Tryd.prog (B + 1) [Value.int .i64 (a0 + cnt + (x.1 : Int)), .int .i64 ((encAll recs ep).getD x.1 0)].toArray W1 fun e W' => e = .returned (.bool true) ∧ ∃ R' : RM, Is R' p (stTo M (a0 + cnt) (encAll recs ep) (x.1 + 1)) (k + (x.1 + 1)) ∧ St w0 [] W' (lpH B o ((bm, .cells #[ptr p] 25) :: x.2.1) ++ R'.hp)) :
    CallsIn Fence.wide 8 Tryd.prog 182 (#[.func (.yield (B + 1)) #[] #[], ptr k1, ptr k2, ptr k3, ptr k4]) W fun e W' => (∃ v, e = .returned v) ∧ ∃ R' : RM, Is R' p (stTo M (a0 + cnt) (encAll recs ep) (encAll recs ep).length) (k + (encAll recs ep).length) ∧ St w0 [] W' (lpH B o ((bm, .cells #[ptr p] 25) :: L) ++ R'.hp) := by
  refine I.callsIn_walk_n (args := [.func (.yield (B + 1)) #[] #[], ptr k1, ptr k2, ptr k3, ptr k4]) Tryd.func182 rfl rfl rfl trivial rfl ?_
  have hR1 := hR.a0
  have hR2 := hR.b2
  have hR3 := hR.n
  have hR4 := hR.ab
  refine I.WC.seq ?_
  refine I.WC.region ?_
  refine I.WL.load rfl (H.rd1 ty98 6 rfl rfl) rfl ?_
  refine I.WL.lenSlc isl98 rfl rfl ?_
  refine I.WL.move rfl rfl ?_
  refine (I.WL.done (I.WX.next ?_))
  refine I.WC.block ?_
  refine I.WC.loop (Sub.cons (t := 0) rfl (Sub.cons (t := 2) rfl (Sub.cons (t := 3) rfl (Sub.cons (t := 4) rfl (Sub.cons (t := 10) rfl (Sub.cons (t := 11) rfl (Sub.nil _))))))) (fun z : Nat × RM => [(12, .int .i64 (z.1 : Int))]) (fun q z wx => q = m - z.1 ∧ z.1 ≤ m ∧ Is z.2 p (stTo M (a0 + cnt) (encAll recs ep) (off recs z.1)) (k + off recs z.1) ∧ St w0 [] wx (lpH B o ((bm, .cells #[ptr p] 25) :: ((k4, .cells #[.int .i64 (cnt + (off recs z.1 : Int))] 3) :: (k3, .cells (arrC ls) 95) :: (k2, .cells #[.int .i64 ep] 3) :: (k1, .cells #[.slice A m cap] 98) :: ([] ++ L))) ++ z.2.hp)) (m) ((0, R)) (Sub.cons (t := 12) (by first | rfl | simp) (Sub.nil _)) (⟨rfl, Nat.zero_le _, hI, by rw [show cnt + ((off recs ((0, R) : Nat × RM).1 : Nat) : Int) = cnt from Int.add_zero cnt]; exact H⟩) ?_
  rintro q z wx hJ N hN
  clear hI H
  obtain ⟨i, R2⟩ := z
  obtain ⟨rfl, hi, hI, H⟩ := hJ
  change i ≤ m at hi
  change Is R2 p (stTo M (a0 + cnt) (encAll recs ep) (off recs i)) (k + off recs i) at hI
  change St w0 [] wx (lpH B o ((bm, .cells #[ptr p] 25) :: ((k4, .cells #[.int .i64 (cnt + (off recs i : Int))] 3) :: (k3, .cells (arrC ls) 95) :: (k2, .cells #[.int .i64 ep] 3) :: (k1, .cells #[.slice A m cap] 98) :: ([] ++ L))) ++ R2.hp) at H
  refine I.WC.seq ?_
  refine I.WC.region ?_
  refine I.WL.bin rfl rfl binv_lss rfl ?_
  refine (I.WL.done (I.WX.next ?_))
  refine I.WC.seq ?_
  first | refine I.WC.cond_dec rfl (fun c1 => ?_) (fun c1 => ?_) | refine I.WC.cond rfl (fun c1 => ?_) (fun c1 => ?_)
  ·
    replace hi2 : i < m := by omega
    have hlt : i < recs.length := by omega
    obtain ⟨b, ob, rfl, A', c', hrs⟩ := hrec.at hlt
    have hel := hes _ (List.getElem_mem hlt)
    refine (I.WC.skip (I.WX.next ?_))
    refine I.WC.seq ?_
    refine I.WC.block ?_
    refine I.WC.seq ?_
    refine I.WC.region ?_
    refine I.WL.idxSlc (k := i) slc98 rfl rfl (by first | rfl | omega) (by omega) rfl ?_
    refine I.WL.load rfl ((hrs _ (H.weaken ((List.sublist_append_right [_, _, _, _, _, _, _] L).trans (List.sublist_append_left _ _)))).1) rfl ?_
    refine I.WL.alloc H zer125 rfl ?_
    intro b7 wx hb7 hge7 H
    refine I.WL.storeTo (cs' := #[.int .i64 (recs[i]).1, .slice A' (recs[i]).2.length c']) H ty125 0 rfl rfl rfl rfl (fun u hu => by have hu : u ∈ [Value.int .i64 (recs[i]).1, .slice A' (recs[i]).2.length c'] := hu; rcases List.mem_cons.1 hu with rfl | hu; rfl; rw [List.mem_singleton.1 hu]; rfl) (Nat.le_of_ble_eq_true rfl) rfl ?_
    intro wx H
    refine (I.WL.done (I.WX.next ?_))
    refine I.WC.seq ?_
    refine I.WC.region ?_
    refine I.WL.load rfl (St.rdAll H ty125 0 rfl rfl) rfl ?_
    refine I.WL.load rfl (H.rd1 ty3 6 rfl rfl) rfl ?_
    refine I.WL.call call86 rfl rfl ?_
    refine Calls.mono (encode_log_any (recs[i]).1 (recs[i]).2 A' (recs[i]).2.length c' rfl hel ep hep _ (hG.of0 H) (hrs _ (H.weaken ((List.sublist_append_right [_, _, _, _, _, _, _, _] L).trans (List.sublist_append_left _ _)))).2) ?_
    rintro _ wx ⟨r, rfl, hr, Hc⟩
    refine ⟨_, rfl, ?_⟩
    replace H := H.call Hc
    obtain ⟨g, capg, cur, rfl⟩ := Row.some_ofL hr (by omega)
    refine I.WL.lenSlc isl43 rfl rfl ?_
    refine I.WL.move rfl rfl ?_
    refine (I.WL.done (I.WX.next ?_))
    refine I.WC.block ?_
    replace H : St w0 [] wx (lpH B o ((bm, .cells #[ptr p] 25) :: ((k4, .cells #[.int .i64 (cnt + ((off recs i + 0 : Nat) : Int))] 3) :: (k3, .cells (arrC ls) 95) :: (k2, .cells #[.int .i64 ep] 3) :: (k1, .cells #[.slice (some ⟨b, ob, none⟩) m cap] 98) :: (((g, .cells cur 3) :: []) ++ L))) ++ R2.hp) := (H.weaken (List.Sublist.cons_cons _ (List.sublist_cons_self _ _))).perm (List.perm_middle (a := (g, .cells cur 3)) (l₁ := [_, _, _, _, _, _, _]) (l₂ := L ++ R2.hp)).symm
    refine I.WC.loop (Sub.cons (t := 0) rfl (Sub.cons (t := 2) rfl (Sub.cons (t := 3) rfl (Sub.cons (t := 4) rfl (Sub.cons (t := 10) rfl (Sub.cons (t := 11) rfl (Sub.cons (t := 12) rfl (Sub.cons (t := 18) rfl (Sub.cons (t := 19) rfl (Sub.nil _)))))))))) (fun z : Nat × RM => [(20, .int .i64 (z.1 : Int))]) (fun q z wx => q = 3 + 2 * (recs[i]).2.length - z.1 ∧ z.1 ≤ 3 + 2 * (recs[i]).2.length ∧ Is z.2 p (stTo M (a0 + cnt) (encAll recs ep) (off recs i + z.1)) (k + (off recs i + z.1)) ∧ St w0 [] wx (lpH B o ((bm, .cells #[ptr p] 25) :: ((k4, .cells #[.int .i64 (cnt + ((off recs i + z.1 : Nat) : Int))] 3) :: (k3, .cells (arrC ls) 95) :: (k2, .cells #[.int .i64 ep] 3) :: (k1, .cells #[.slice (some ⟨b, ob, none⟩) m cap] 98) :: (((g, .cells cur 3) :: []) ++ L))) ++ z.2.hp)) (3 + 2 * (recs[i]).2.length) ((0, R2)) (Sub.cons (t := 20) (by first | rfl | simp) (Sub.nil _)) (⟨rfl, Nat.zero_le _, hI, H⟩) ?_
    rintro q z wx hJ N2 hN2
    clear hI H
    obtain ⟨j, R2⟩ := z
    obtain ⟨rfl, hj, hI, H⟩ := hJ
    change j ≤ 3 + 2 * (recs[i]).2.length at hj
    change Is R2 p (stTo M (a0 + cnt) (encAll recs ep) (off recs i + j)) (k + (off recs i + j)) at hI
    change St w0 [] wx (lpH B o ((bm, .cells #[ptr p] 25) :: ((k4, .cells #[.int .i64 (cnt + ((off recs i + j : Nat) : Int))] 3) :: (k3, .cells (arrC ls) 95) :: (k2, .cells #[.int .i64 ep] 3) :: (k1, .cells #[.slice (some ⟨b, ob, none⟩) m cap] 98) :: (((g, .cells cur 3) :: []) ++ L))) ++ R2.hp) at H
    have hmem : (g, Obj.cells cur 3) ∈ lpH B o ((bm, .cells #[ptr p] 25) :: ((k4, .cells #[.int .i64 (cnt + ((off recs i + j : Nat) : Int))] 3) :: (k3, .cells (arrC ls) 95) :: (k2, .cells #[.int .i64 ep] 3) :: (k1, .cells #[.slice (some ⟨b, ob, none⟩) m cap] 98) :: ([(g, .cells cur 3)] ++ L))) := by simp [lpH]
    refine I.WC.seq ?_
    refine I.WC.region ?_
    refine I.WL.bin rfl rfl binv_lss rfl ?_
    refine (I.WL.done (I.WX.next ?_))
    refine I.WC.seq ?_
    first | refine I.WC.cond_dec rfl (fun c2 => ?_) (fun c2 => ?_) | refine I.WC.cond rfl (fun c2 => ?_) (fun c2 => ?_)
    ·
      replace hj2 : j < 3 + 2 * (recs[i]).2.length := by omega
      obtain ⟨e3, e4⟩ := encAll_at (ep := ep) h2 hlt (j := j) (by unfold rsize; exact hj2)
      have hw1 := Row.ok_get hr (intsC_get (show j < (lenc recs[i] ep).length by rw [lenc_len (h2 _ (List.getElem_mem hlt))]; exact hj2))
      rw [← e4] at hw1
      refine (I.WC.skip (I.WX.next ?_))
      refine I.WC.seq ?_
      refine I.WC.block ?_
      refine I.WC.seq ?_
      refine I.WC.region ?_
      refine I.WL.idxSlc (k := j) slc43 rfl rfl (by first | rfl | omega) (by omega) rfl ?_
      refine I.WL.load rfl (Rd.one ty3 (by rw [cell_of (H.sat (g, .cells cur 3) (List.mem_append_left _ hmem)), Nat.mul_one, Nat.zero_add]; exact hw1)) rfl ?_
      refine I.WL.assign rfl rfl ?_
      refine (I.WL.done (I.WX.next ?_))
      refine I.WC.seq ?_
      refine I.WC.seq ?_
      refine I.WC.region ?_
      refine I.WL.move rfl rfl ?_
      refine I.WL.load rfl (H.rdArr ty95 4 rfl hR.len) rfl ?_
      refine I.WL.load rfl (H.rd1 ty3 3 rfl rfl) rfl ?_
      refine I.WL.call call139 rfl rfl ?_
      refine Calls.mono ((by have h139 := at_any ls hR (cnt + ((off recs i + j : Nat) : Int)) (by omega) wx; rw [show 8 * ls.getD 1 0 + 8 + (cnt + ((off recs i + j : Nat) : Int)) = a0 + cnt + ((off recs i + j : Nat) : Int) by omega] at h139; exact h139)) ?_
      rintro _ wx ⟨rfl, Hc⟩
      refine ⟨_, rfl, ?_⟩
      replace H := H.call0 Hc
      refine I.WL.move rfl rfl ?_
      refine I.WL.yield (vs := [Value.int .i64 (a0 + cnt + ((off recs i + j : Nat) : Int)), .int .i64 ((encAll recs ep).getD (off recs i + j) 0)]) rfl rfl rfl (hY (off recs i + j, _, R2) _ ⟨e3, hI⟩ H) ?_
      rintro _ wy ⟨rfl, R3, hI3, H3⟩
      refine ⟨_, rfl, ?_⟩
      refine I.WL.notOp rfl rfl ?_
      refine (I.WL.done (I.WX.next ?_))
      refine I.WC.cond_false rfl (rfl) ?_
      refine (I.WC.skip (I.WX.next ?_))
      refine I.WC.region ?_
      refine I.WL.load rfl (H3.rd1 ty3 3 rfl rfl) rfl ?_
      refine I.WL.bin rfl rfl (iadd (by omega) (by omega)) rfl ?_
      refine I.WL.storeTo (cs' := #[.int .i64 (cnt + ((off recs i + (j + 1) : Nat) : Int))]) H3 ty3 3 rfl rfl rfl rfl (by simp [Value.cells, Value.oneCell']) (Nat.le_of_ble_eq_true rfl) (by rw [show cnt + ((off recs i + (j + 1) : Nat) : Int) = cnt + ((off recs i + j : Nat) : Int) + 1 by omega]; rfl) ?_
      intro wx H
      refine (I.WL.done (WX.block_normal (I.WX.next ?_)))
      refine I.WC.region ?_
      refine I.WL.bin rfl rfl (iadd (by omega) (by omega)) rfl ?_
      refine I.WL.move rfl rfl ?_
      refine (I.WL.done (WX.round ?_))
      exact hN2 _ (j + 1, R3) _ _ (by show 3 + 2 * (recs[i]).2.length - (j + 1) < 3 + 2 * (recs[i]).2.length - j; omega) ⟨rfl, by show j + 1 ≤ 3 + 2 * (recs[i]).2.length; omega, hI3, H⟩ (Sub.cons (t := 20) (by first | rfl | simp) (Sub.nil _)) (Sub.cons (t := 0) rfl (Sub.cons (t := 2) rfl (Sub.cons (t := 3) rfl (Sub.cons (t := 4) rfl (Sub.cons (t := 10) rfl (Sub.cons (t := 11) rfl (Sub.cons (t := 12) rfl (Sub.cons (t := 18) rfl (Sub.cons (t := 19) rfl (Sub.nil _))))))))))
    ·
      obtain rfl : j = 3 + 2 * (recs[i]).2.length := by omega
      refine (I.WC.exit (WX.then_exit (WX.then_exit (WX.block_exit (WX.block_normal (I.WX.next ?_))))))
      refine I.WC.region ?_
      refine I.WL.bin rfl rfl (iadd (by omega) (by omega)) rfl ?_
      refine I.WL.move rfl rfl ?_
      refine (I.WL.done (WX.round ?_))
      have e5 := off_succ hlt
      unfold rsize at e5
      rw [← e5] at hI H
      exact hN _ (i + 1, R2) _ _ (by show m - (i + 1) < m - i; omega) ⟨rfl, by show i + 1 ≤ m; omega, hI, H.weaken (((List.Sublist.refl [_, _, _, _, _, _, _]).append (List.sublist_cons_self _ L)).append (List.Sublist.refl _))⟩ (Sub.cons (t := 12) (by first | rfl | simp) (Sub.nil _)) (Sub.cons (t := 0) rfl (Sub.cons (t := 2) rfl (Sub.cons (t := 3) rfl (Sub.cons (t := 4) rfl (Sub.cons (t := 10) rfl (Sub.cons (t := 11) rfl (Sub.nil _)))))))
  ·
    obtain rfl : i = m := by omega
    refine (I.WC.exit (WX.then_exit (WX.then_exit (WX.block_exit ?_))))
    refine end_none rfl ?_
    refine ⟨⟨_, rfl⟩, R2, ?_, H.weaken (((List.Sublist.refl [_, _, _]).append (List.sublist_append_right [_, _, _, _] L)).append (List.Sublist.refl _))⟩
    rw [hm] at hI
    rw [encAll_all h2]
    exact hI

end Go.Proofs.YtkncbggnaobgeaaDoor

/- Walks of functions of the program; printed by a program of this session (walk.py) out of hand-written hints. -/
namespace Go.Proofs.YtkncbggnaobgeaaDoor
open Go.RowKit
set_option linter.unusedVariables false
set_option linter.unusedSimpArgs false
set_option maxRecDepth 100000

/-- How a body ends that holds a range over a function and cannot panic. -/
def bodyPostN (P : Program) (fn : Func) (R : Ending → World → Prop) : Exit → Act → World → Prop
  | .panic _, _, _ => False
  | x, a, w => bodyPostM Fence.wide 9 P fn R x a w
theorem calls_walk_marksN {P : Program} {f k : Nat} {fn : Func} {c : Code} {args : List Value} {w : World} {R : Ending → World → Prop} (hf : P.funcs[f]? = some fn) (hn : fn.ntmps = k) (hb : fn.body = some c) (hk : Nat.ble args.length k = true)
    (h : WC P c (bodyPostN P fn R) k [] (envFrom 0 args) w) : Calls P f args.toArray w R :=
  calls_walk_marks hf hn hb hk (fun a ha => Code.wp_mono (Q := bodyPostN P fn R) (fun x a w hx => by cases x <;> first | exact hx | exact hx.elim) (h a ha))
theorem WX.retMN {P : Program} {fn : Func} {R : Ending → World → Prop} {n : Nat} {e : Env} {w : World} (h : WX (bodyPost P fn R) .ret n [] e w) : WX (bodyPostN P fn R) .ret n [] e w := WX.retM h
theorem WX.retDN {P : Program} {fn : Func} {R : Ending → World → Prop} {n : Nat} {e : Env} {w w0 : World} {S : List Nat} {H : Hp} {D : Nat} (hS : St w0 S w ((D, .deferred (some [])) :: H)) (h : ∀ w', St w0 S w' H → WX (bodyPost P fn R) .ret n [] e w') : WX (bodyPostN P fn R) .ret n [{ target := .collected D, args := #[] }] e w := WX.retD hS h

theorem written_any (ls : List Int) (A : Option Addr) (m cap : Nat) (ep from_ : Int) (w : World) : Calls Tryd.prog 140 #[arr ls, .slice A m cap, .int .i64 ep, .int .i64 from_] w fun e w' => ∃ k1 k2 k3 k4, e = .returned (.func (.func 182) #[] #[ptr k1, ptr k2, ptr k3, ptr k4]) ∧ St w [] w' [(k4, .cells #[.int .i64 from_] 3), (k3, .cells (arrC ls) 95), (k2, .cells #[.int .i64 ep] 3), (k1, .cells #[.slice A m cap] 98)] := by
  refine calls_walk_n (args := [arr ls, .slice A m cap, .int .i64 ep, .int .i64 from_]) Tryd.func140 rfl rfl rfl ?_
  have H := St.refl w
  refine WC.seq ?_
  refine WC.region ?_
  refine WL.boxArr H rfl rfl ?_
  intro b4 wx hb4 hge4 H
  refine WL.box H rfl rfl ?_
  intro b5 wx hb5 hge5 H
  refine WL.box H rfl rfl ?_
  intro b6 wx hb6 hge6 H
  refine WL.box H rfl rfl ?_
  intro b7 wx hb7 hge7 H
  refine WL.assign rfl rfl ?_
  refine (WL.done (WX.next ?_))
  refine WC.seq ?_
  refine WC.region ?_
  refine WL.makeFunc (us := []) (vs := [ptr b5, ptr b6, ptr b4, ptr b7]) rfl rfl rfl ?_
  refine WL.assign rfl rfl ?_
  refine (WL.done (WX.next ?_))
  refine (WC.ret ?_)
  refine ret_one rfl rfl ?_
  refine ⟨b5, b6, b4, b7, rfl, ?_⟩
  exact H.perm (.cons _ ((List.perm_append_comm (l₁ := [_, _]) (l₂ := [_])).trans (List.Perm.refl _)))

theorem lappend_any {w0 w : World} {L : Hp} {R : RM} {p k : Nat} {M : PM} (ls : List Int) (hR : LR ls) (hG : GN w0) (recs : List Rc) (A : Option Addr) (cap : Nat) (hm63 : recs.length ≤ 1048576) (h2 : Two recs) (hes : ∀ r ∈ recs, r.2.length ≤ 1048575) (hrg : ∀ r ∈ recs, RngE r.2) (hrec : RecsS w0 L A recs) (hk : k < 134217728) (hI : Is R p M k) (H : St w0 [] w (L ++ R.hp)) (hL : L64 w0) : Calls Tryd.prog 63 #[ptr p, arr ls, .slice A recs.length cap] w fun e w' => ∃ R' : RM, e = .returned (.int .i64 (lAppend M ls recs).2) ∧ Is R' p (lAppend M ls recs).1 (k + 40000) ∧ St w0 [] w' (L ++ R'.hp) := by
  have hR1 := hR.a0
  have hR2 := hR.b2
  have hR3 := hR.n
  have hR4 := hR.ab
  have hB := lHead_bd M ls
  have hoff := off_le hes
  refine calls_walk_marksN (args := [ptr p, arr ls, .slice A recs.length cap]) Tryd.func63 rfl rfl rfl ?_
  
  refine WC.seq ?_
  refine WC.region ?_
  refine WL.box H rfl rfl ?_
  intro b3 wx hb3 hge3 H
  refine WL.boxArr H rfl rfl ?_
  intro b4 wx hb4 hge4 H
  refine WL.assign rfl rfl ?_
  refine (WL.done (WX.next ?_))
  refine WC.seq ?_
  refine WC.region ?_
  refine WL.load rfl (H.rd1 ty25 1 rfl rfl) rfl ?_
  refine WL.load rfl (H.rdArr ty95 0 rfl hR.len) rfl ?_
  refine WL.call call92 rfl rfl ?_
  refine Calls.mono (lroom_any (L := (b4, .cells (arrC ls) 95) :: (b3, .cells #[ptr p] 25) :: L) ls hR hI H hL) ?_
  rintro _ wx ⟨rfl, H⟩
  refine ⟨_, rfl, ?_⟩
  refine WL.move rfl rfl ?_
  refine WL.extract rfl rfl rfl ?_
  refine WL.extract rfl rfl rfl ?_
  refine WL.assign rfl rfl ?_
  refine WL.assign rfl rfl ?_
  refine (WL.done (WX.next ?_))
  refine WC.seq ?_
  refine WC.seq ?_
  refine WC.region ?_
  refine WL.move rfl rfl ?_
  refine WL.bin rfl rfl binv_neq rfl ?_
  refine (WL.done (WX.next ?_))
  first | refine WC.cond_dec rfl (fun c1 => ?_) (fun c1 => ?_) | refine WC.cond rfl (fun c1 => ?_) (fun c1 => ?_)
  ·
    refine WC.seq ?_
    refine WC.region ?_
    refine WL.move rfl rfl ?_
    refine WL.assign rfl rfl ?_
    refine (WL.done (WX.next ?_))
    refine (WC.ret (WX.then_ret ?_))
    refine WX.retMN ?_
    refine ret_one rfl rfl ?_
    refine ⟨R, ?_, ?_, H.weaken ((List.sublist_append_right [_, _] _))⟩
    · unfold lAppend
      rw [if_pos (show (lRoom M ls).2 ≠ 0 by omega)]
    · unfold lAppend
      rw [if_pos (show (lRoom M ls).2 ≠ 0 by omega)]
      exact hI.mono (by omega)
  ·
    obtain ⟨hh0, hcc, hrm⟩ := lRoom_ok (M := M) (ls := ls) (by omega)
    have hcp : lCap ls = 8 * (ls.getD 2 0 - 1) := rfl
    refine (WC.skip (WX.next ?_))
    refine WC.seq ?_
    refine WC.region ?_
    refine WL.assign rfl rfl ?_
    refine (WL.done (WX.next ?_))
    refine WC.seq ?_
    refine WC.seq ?_
    refine WC.region ?_
    refine WL.move rfl rfl ?_
    refine WL.lenSlc isl98 rfl rfl ?_
    refine WL.move rfl rfl ?_
    refine (WL.done (WX.next ?_))
    refine WC.block ?_
    refine WC.loop (Sub.cons (t := 2) rfl (Sub.cons (t := 3) rfl (Sub.cons (t := 4) rfl (Sub.cons (t := 6) rfl (Sub.cons (t := 7) rfl (Sub.cons (t := 29) rfl (Sub.cons (t := 30) rfl (Sub.nil _)))))))) (fun i : Nat => [(9, .int .i64 ((off recs i : Nat) : Int)), (31, .int .i64 (i : Int))]) (fun q i wx => q = recs.length - i ∧ i ≤ recs.length ∧ (recs.take i).all (rOk ls) = true ∧ St w0 [] wx ((b4, .cells (arrC ls) 95) :: (b3, .cells #[ptr p] 25) :: (L ++ R.hp))) (recs.length) (0) (Sub.cons (t := 9) (by first | rfl | simp) (Sub.cons (t := 31) (by first | rfl | simp) (Sub.nil _))) (⟨rfl, Nat.zero_le _, rfl, H⟩) ?_
    rintro q i wx hJ N hN
    clear H
    obtain ⟨rfl, hi, hall, H⟩ := hJ
    refine WC.seq ?_
    refine WC.region ?_
    refine WL.bin rfl rfl binv_lss rfl ?_
    refine (WL.done (WX.next ?_))
    refine WC.seq ?_
    first | refine WC.cond_dec rfl (fun c2 => ?_) (fun c2 => ?_) | refine WC.cond rfl (fun c2 => ?_) (fun c2 => ?_)
    ·
      replace hi2 : i < recs.length := by omega
      have hlt := hi2
      obtain ⟨b, ob, hA, A1, c1, hrs⟩ := hrec.at hlt
      subst hA
      have hel := hes _ (List.getElem_mem hlt)
      have ho1 := hoff i (by omega)
      refine (WC.skip (WX.next ?_))
      refine WC.seq ?_
      refine WC.block ?_
      refine WC.seq ?_
      refine WC.region ?_
      refine WL.idxSlc (k := i) slc98 rfl rfl (by first | rfl | omega) (by omega) rfl ?_
      refine WL.load rfl ((hrs _ (H.weaken ((List.sublist_append_right [_, _] L).trans (List.sublist_append_left _ _)))).1) rfl ?_
      refine WL.alloc H zer125 rfl ?_
      intro b11 wx hb11 hge11 H
      refine WL.storeTo (cs' := #[.int .i64 (recs[i]).1, .slice A1 (recs[i]).2.length c1]) H ty125 0 rfl rfl rfl rfl (fun u hu => by have hu : u ∈ [Value.int .i64 (recs[i]).1, .slice A1 (recs[i]).2.length c1] := hu; rcases List.mem_cons.1 hu with rfl | hu; rfl; rw [List.mem_singleton.1 hu]; rfl) (Nat.le_of_ble_eq_true rfl) rfl ?_
      intro wx H
      refine (WL.done (WX.next ?_))
      refine WC.seq ?_
      refine WC.seq ?_
      refine WC.region ?_
      refine WL.load rfl (H.rdArr ty95 1 rfl hR.len) rfl ?_
      refine WL.load rfl (H.rdAll ty125 0 rfl rfl) rfl ?_
      refine WL.call call80 rfl rfl ?_
      refine Calls.mono (lvalid_any ls hR (recs[i]).1 (recs[i]).2 A1 _ c1 rfl hel (hrg _ (List.getElem_mem hlt)) _ (hrs _ (H.weaken ((List.sublist_append_right [_, _, _] L).trans (List.sublist_append_left _ _)))).2) ?_
      rintro _ wx ⟨rfl, Hc⟩
      refine ⟨_, rfl, ?_⟩
      replace H := H.call0 Hc
      refine WL.notOp rfl rfl ?_
      refine (WL.done (WX.next ?_))
      first | refine WC.cond_dec rfl (fun c3 => ?_) (fun c3 => ?_) | refine WC.cond rfl (fun c3 => ?_) (fun c3 => ?_)
      ·
        refine WC.seq ?_
        refine WC.region ?_
        refine WL.assign rfl rfl ?_
        refine (WL.done (WX.next ?_))
        refine (WC.ret (WX.then_ret (WX.block_ret (WX.then_ret (WX.then_ret (WX.block_ret (WX.then_ret ?_)))))))
        refine WX.retMN ?_
        refine ret_one rfl rfl ?_
        refine ⟨R, ?_, ?_, H.weaken ((List.sublist_append_right [_, _, _] _))⟩
        · unfold lAppend
          rw [if_neg (show ¬ (lRoom M ls).2 ≠ 0 by omega), if_pos (all_no hlt (fun h => by have h3 : (!rOk ls recs[i]) = true := c3; rw [h] at h3; cases h3))]
        · unfold lAppend
          rw [if_neg (show ¬ (lRoom M ls).2 ≠ 0 by omega), if_pos (all_no hlt (fun h => by have h3 : (!rOk ls recs[i]) = true := c3; rw [h] at h3; cases h3))]
          exact hI.mono (by omega)
      ·
        refine (WC.skip (WX.next ?_))
        refine WC.region ?_
        refine WL.move rfl rfl ?_
        refine WL.load rfl (H.rdAll ty125 0 rfl rfl) rfl ?_
        refine WL.call call78 rfl rfl ?_
        refine Calls.mono (size_any (recs[i]).1 A1 (recs[i]).2.length c1 (by omega) _) ?_
        rintro _ wx ⟨rfl, Hc⟩
        refine ⟨_, rfl, ?_⟩
        replace H := H.call0 Hc
        refine WL.bin rfl rfl ((by have h := iadd (P := Tryd.prog) (t := 3) (x := ((off recs i : Nat) : Int)) (y := 3 + 2 * ((recs[i]).2.length : Int)) (by omega) (by omega); rw [show ((off recs i : Nat) : Int) + (3 + 2 * ((recs[i]).2.length : Int)) = ((off recs (i + 1) : Nat) : Int) by rw [off_succ hlt]; unfold rsize; omega] at h; exact h)) rfl ?_
        refine WL.assign rfl rfl ?_
        refine (WL.done (WX.block_normal (WX.next ?_)))
        refine WC.region ?_
        refine WL.bin rfl rfl (iadd (by omega) (by omega)) rfl ?_
        refine WL.move rfl rfl ?_
        refine (WL.done (WX.round ?_))
        exact hN _ (i + 1) _ _ (by omega) ⟨rfl, by omega, all_succ hlt hall (by simpa using c3), H.weaken (List.sublist_cons_self _ _)⟩ (Sub.cons (t := 9) (by first | rfl | simp) (Sub.cons (t := 31) (by first | rfl | simp) (Sub.nil _))) (Sub.cons (t := 2) rfl (Sub.cons (t := 3) rfl (Sub.cons (t := 4) rfl (Sub.cons (t := 6) rfl (Sub.cons (t := 7) rfl (Sub.cons (t := 29) rfl (Sub.cons (t := 30) rfl (Sub.nil _))))))))
    ·
      obtain rfl : i = recs.length := by omega
      have hallE := all_end (Nat.le_refl _) hall
      have ho1 := hoff recs.length (Nat.le_refl _)
      refine (WC.exit (WX.then_exit (WX.then_exit (WX.block_exit (WX.next ?_)))))
      refine WC.seq ?_
      refine WC.seq ?_
      refine WC.region ?_
      refine WL.move rfl rfl ?_
      refine WL.move rfl rfl ?_
      refine WL.bin rfl rfl binv_gtr rfl ?_
      refine (WL.done (WX.next ?_))
      first | refine WC.cond_dec rfl (fun c4 => ?_) (fun c4 => ?_) | refine WC.cond rfl (fun c4 => ?_) (fun c4 => ?_)
      ·
        refine WC.seq ?_
        refine WC.region ?_
        refine WL.assign rfl rfl ?_
        refine (WL.done (WX.next ?_))
        refine (WC.ret (WX.then_ret ?_))
        refine WX.retMN ?_
        refine ret_one rfl rfl ?_
        refine ⟨R, ?_, ?_, H.weaken ((List.sublist_append_right [_, _] _))⟩
        · unfold lAppend
          rw [if_neg (show ¬ (lRoom M ls).2 ≠ 0 by omega), if_neg (show ¬ recs.all (rOk ls) = false by rw [hallE]; decide), if_pos (by omega)]
        · unfold lAppend
          rw [if_neg (show ¬ (lRoom M ls).2 ≠ 0 by omega), if_neg (show ¬ recs.all (rOk ls) = false by rw [hallE]; decide), if_pos (by omega)]
          exact hI.mono (by omega)
      ·
        have hob : off recs recs.length ≤ 32760 := by omega
        refine (WC.skip (WX.next ?_))
        refine WC.seq ?_
        refine WC.seq ?_
        refine WC.region ?_
        refine WL.move rfl rfl ?_
        refine WL.bin rfl rfl binv_eql rfl ?_
        refine (WL.done (WX.next ?_))
        first | refine WC.cond_dec rfl (fun c5 => ?_) (fun c5 => ?_) | refine WC.cond rfl (fun c5 => ?_) (fun c5 => ?_)
        ·
          refine WC.seq ?_
          refine WC.region ?_
          refine WL.assign rfl rfl ?_
          refine (WL.done (WX.next ?_))
          refine (WC.ret (WX.then_ret ?_))
          refine WX.retMN ?_
          refine ret_one rfl rfl ?_
          refine ⟨R, ?_, ?_, H.weaken ((List.sublist_append_right [_, _] _))⟩
          · unfold lAppend
            rw [if_neg (show ¬ (lRoom M ls).2 ≠ 0 by omega), if_neg (show ¬ recs.all (rOk ls) = false by rw [hallE]; decide), if_neg (show ¬ ((off recs recs.length : Nat) : Int) > (lRoom M ls).1 by omega), if_pos (by omega)]
          · unfold lAppend
            rw [if_neg (show ¬ (lRoom M ls).2 ≠ 0 by omega), if_neg (show ¬ recs.all (rOk ls) = false by rw [hallE]; decide), if_neg (show ¬ ((off recs recs.length : Nat) : Int) > (lRoom M ls).1 by omega), if_pos (by omega)]
            exact hI.mono (by omega)
        ·
          have hn0 : 0 < off recs recs.length := by omega
          refine (WC.skip (WX.next ?_))
          refine WC.seq ?_
          refine WC.region ?_
          refine WL.load rfl (H.rd1 ty25 1 rfl rfl) rfl ?_
          refine WL.load rfl (H.rdArr ty95 0 rfl hR.len) rfl ?_
          refine WL.call call137 rfl rfl ?_
          refine Calls.mono (lhead_any (L := (b4, .cells (arrC ls) 95) :: (b3, .cells #[ptr p] 25) :: L) ls hR hI H hL) ?_
          rintro _ wx ⟨rfl, H⟩
          refine ⟨_, rfl, ?_⟩
          refine WL.move rfl rfl ?_
          refine WL.extract rfl rfl rfl ?_
          refine WL.extract rfl rfl rfl ?_
          refine WL.extract rfl rfl rfl ?_
          refine WL.assign rfl rfl ?_
          refine WL.assign rfl rfl ?_
          refine WL.assign rfl rfl ?_
          refine (WL.done (WX.next ?_))
          refine WC.seq ?_
          replace H := H.drew
          refine WC.held (SX (World.drew wx) []) (by kernel_rfl) ?_
          generalize World.drew wx = wb at H ⊢
          have HB := St.refl wb
          refine WH.take 0 rfl (by kernel_rfl) (by kernel_rfl) (by kernel_rfl) (fun _ _ _ h => h) ⟨_, HB⟩ (fun w' hS => EX.load rfl (Rd.arr ty95 (hS.block (H.blk 0 rfl) (by simp)) hR.len)) rfl ?_
          refine WH.take 1 rfl (by kernel_rfl) (by kernel_rfl) (by kernel_rfl) (fun _ _ _ h => h) ⟨_, HB⟩ (fun w' hS => EX.move rfl) rfl ?_
          refine WH.take 4 rfl (by kernel_rfl) (by kernel_rfl) (by kernel_rfl) (fun _ _ _ h => h) ⟨_, HB⟩ (fun w' hS => EX.load rfl (Rd.arr ty95 (hS.block (H.blk 0 rfl) (by simp)) hR.len)) rfl ?_
          refine WH.take 5 rfl (by kernel_rfl) (by kernel_rfl) (by kernel_rfl) (fun _ _ _ h => h) ⟨_, HB⟩ (fun w' hS => EX.move rfl) rfl ?_
          refine WH.take 6 rfl (by kernel_rfl) (by kernel_rfl) (by kernel_rfl) (fun _ _ _ h => h) ⟨_, HB⟩ (fun w' hS => EX.move rfl) rfl ?_
          refine WH.take 7 rfl (by kernel_rfl) (by kernel_rfl) (by kernel_rfl) (fun _ _ _ h => h) ⟨_, HB⟩ (fun w' hS => EX.bin rfl rfl (iadd (by omega) (by omega))) rfl ?_
          refine WH.take 8 rfl (by kernel_rfl) (by kernel_rfl) (by kernel_rfl) (fun _ _ _ h => h) ⟨_, HB⟩ (fun w' hS => EX.bin rfl rfl (isub (by omega) (by omega))) rfl ?_
          refine WH.hard 2 rfl (by kernel_rfl) ?_
          refine WL.call call139 rfl rfl ?_
          refine Calls.mono (at_any ls hR (lHead M ls).2.1 (by omega) _) ?_
          rintro _ wx ⟨rfl, Hc⟩
          refine ⟨_, rfl, ?_⟩
          replace HB := HB.call0 Hc
          refine WL.done (WX.heldOn ⟨_, HB⟩ ?_)
          first | refine WH.take 3 rfl (by kernel_rfl) (by kernel_rfl) (by kernel_rfl) (fun _ _ _ h => h) ⟨_, HB⟩ (fun w' hS => EX.bin rfl rfl (iquo (by omega) (by omega) (by omega))) rfl ?_ | refine WH.take 3 rfl (by kernel_rfl) (by kernel_rfl) (by kernel_rfl) (fun _ _ _ h => h) ⟨_, HB⟩ (fun w' hS => EX.bin rfl rfl (iquoT (by omega) (by omega) (by omega))) rfl ?_
          refine WH.hard 9 rfl (by kernel_rfl) ?_
          refine WL.call call139 rfl rfl ?_
          refine Calls.mono (at_any ls hR ((lHead M ls).2.1 + ((off recs recs.length : Nat) : Int) - 1) (by omega) _) ?_
          rintro _ wx ⟨rfl, Hc⟩
          refine ⟨_, rfl, ?_⟩
          replace HB := HB.call0 Hc
          refine WL.done (WX.heldOn ⟨_, HB⟩ ?_)
          first | refine WH.take 10 rfl (by kernel_rfl) (by kernel_rfl) (by kernel_rfl) (fun _ _ _ h => h) ⟨_, HB⟩ (fun w' hS => EX.bin rfl rfl (iquo (by omega) (by omega) (by omega))) rfl ?_ | refine WH.take 10 rfl (by kernel_rfl) (by kernel_rfl) (by kernel_rfl) (fun _ _ _ h => h) ⟨_, HB⟩ (fun w' hS => EX.bin rfl rfl (iquoT (by omega) (by omega) (by omega))) rfl ?_
          refine WH.take 11 rfl (by kernel_rfl) (by kernel_rfl) (by kernel_rfl) (fun _ _ _ h => h) ⟨_, HB⟩ (fun w' hS => EX.assign rfl) rfl ?_
          refine WH.take 12 rfl (by kernel_rfl) (by kernel_rfl) (by kernel_rfl) (fun _ _ _ h => h) ⟨_, HB⟩ (fun w' hS => EX.assign rfl) rfl ?_
          refine WH.done (by kernel_rfl) ?_
          replace H := H.call HB
          refine WX.next ?_
          refine WC.seq ?_
          refine WC.seq ?_
          refine WC.region ?_
          have hf1 : lFst ls (lHead M ls).2.1 = (8 * ls.getD 1 0 + 8 + (lHead M ls).2.1) / 8 := rfl
          have hf2 : lLst ls (lHead M ls).2.1 (off recs recs.length) = (8 * ls.getD 1 0 + 8 + ((lHead M ls).2.1 + (off recs recs.length : Nat) - 1)) / 8 := rfl
          have hf3 : lLines ls (lHead M ls).2.1 (off recs recs.length) = (lLst ls (lHead M ls).2.1 (off recs recs.length) - lFst ls (lHead M ls).2.1 + 1).toNat := rfl
          refine WL.move rfl rfl ?_
          refine WL.assign rfl rfl ?_
          refine (WL.done (WX.next ?_))
          refine WC.block ?_
          refine WC.loop (Sub.cons (t := 2) rfl (Sub.cons (t := 3) rfl (Sub.cons (t := 4) rfl (Sub.cons (t := 6) rfl (Sub.cons (t := 9) rfl (Sub.cons (t := 12) rfl (Sub.cons (t := 13) rfl (Sub.cons (t := 15) rfl (Sub.cons (t := 16) rfl (Sub.nil _)))))))))) (fun j : Nat => [(17, .int .i64 (lFst ls (lHead M ls).2.1 + (j : Int)))]) (fun q j wx => q = lLines ls (lHead M ls).2.1 (off recs recs.length) - j ∧ j ≤ lLines ls (lHead M ls).2.1 (off recs recs.length) ∧ (∀ i, i < j → M.state (lFst ls (lHead M ls).2.1 + (i : Nat)) ≠ 2) ∧ St w0 [] wx ((b4, .cells (arrC ls) 95) :: (b3, .cells #[ptr p] 25) :: (L ++ R.hp))) (lLines ls (lHead M ls).2.1 (off recs recs.length)) (0) (Sub.cons (t := 17) (by show _ = some (Value.int .i64 (lFst ls (lHead M ls).2.1 + ((0 : Nat) : Int))); rw [show lFst ls (lHead M ls).2.1 + ((0 : Nat) : Int) = lFst ls (lHead M ls).2.1 from Int.add_zero _]; rfl) (Sub.nil _)) (⟨rfl, Nat.zero_le _, fun i hi => absurd hi (Nat.not_lt_zero _), H⟩) ?_
          rintro q j wx hJ N hN
          clear H
          obtain ⟨rfl, hj, hst, H⟩ := hJ
          refine WC.seq ?_
          refine WC.seq ?_
          refine WC.region ?_
          refine WL.move rfl rfl ?_
          refine WL.move rfl rfl ?_
          refine WL.bin rfl rfl binv_leq rfl ?_
          refine (WL.done (WX.next ?_))
          first | refine WC.cond_dec rfl (fun c6 => ?_) (fun c6 => ?_) | refine WC.cond rfl (fun c6 => ?_) (fun c6 => ?_)
          ·
            replace hj2 : j < lLines ls (lHead M ls).2.1 (off recs recs.length) := by omega
            refine (WC.skip (WX.next ?_))
            refine WC.seq ?_
            refine WC.block ?_
            refine WC.seq ?_
            refine WC.region ?_
            refine WL.load rfl (H.rd1 ty25 1 rfl rfl) rfl ?_
            refine WL.move rfl rfl ?_
            refine WL.call call31 rfl rfl ?_
            refine Calls.mono (a_state (L := (b4, .cells (arrC ls) 95) :: (b3, .cells #[ptr p] 25) :: L) (lFst ls (lHead M ls).2.1 + (j : Int)) hI H hL) ?_
            rintro _ wx ⟨rfl, H⟩
            refine ⟨_, rfl, ?_⟩
            refine WL.bin rfl rfl binv_eql rfl ?_
            refine (WL.done (WX.next ?_))
            first | refine WC.cond_dec rfl (fun c7 => ?_) (fun c7 => ?_) | refine WC.cond rfl (fun c7 => ?_) (fun c7 => ?_)
            ·
              refine WC.seq ?_
              refine WC.region ?_
              refine WL.assign rfl rfl ?_
              refine (WL.done (WX.next ?_))
              refine (WC.ret (WX.block_ret (WX.then_ret (WX.then_ret (WX.block_ret (WX.then_ret ?_))))))
              refine WX.retMN ?_
              refine ret_one rfl rfl ?_
              refine ⟨R, ?_, ?_, H.weaken ((List.sublist_append_right [_, _] _))⟩
              · unfold lAppend
                rw [if_neg (show ¬ (lRoom M ls).2 ≠ 0 by omega), if_neg (show ¬ recs.all (rOk ls) = false by rw [hallE]; decide), if_neg (show ¬ ((off recs recs.length : Nat) : Int) > (lRoom M ls).1 by omega), if_neg (show ¬ off recs recs.length = 0 by omega), if_pos ⟨j, hj2, by omega⟩]
              · unfold lAppend
                rw [if_neg (show ¬ (lRoom M ls).2 ≠ 0 by omega), if_neg (show ¬ recs.all (rOk ls) = false by rw [hallE]; decide), if_neg (show ¬ ((off recs recs.length : Nat) : Int) > (lRoom M ls).1 by omega), if_neg (show ¬ off recs recs.length = 0 by omega), if_pos ⟨j, hj2, by omega⟩]
                exact hI.mono (by omega)
            ·
              refine (WC.skip (WX.block_normal (WX.next ?_)))
              refine WC.region ?_
              refine WL.move rfl rfl ?_
              refine WL.bin rfl rfl ((by have h := iadd (P := Tryd.prog) (t := 3) (x := lFst ls (lHead M ls).2.1 + (j : Int)) (y := 1) (by omega) (by omega); rw [show lFst ls (lHead M ls).2.1 + (j : Int) + 1 = lFst ls (lHead M ls).2.1 + ((j + 1 : Nat) : Int) by omega] at h; exact h)) rfl ?_
              refine WL.assign rfl rfl ?_
              refine (WL.done (WX.round ?_))
              exact hN _ (j + 1) _ _ (by omega) ⟨rfl, by omega, fun i hi => by rcases Nat.lt_or_ge i j with h | h; exact hst i h; rw [show i = j by omega]; omega, H⟩ (Sub.cons (t := 17) (by first | rfl | simp) (Sub.nil _)) (Sub.cons (t := 2) rfl (Sub.cons (t := 3) rfl (Sub.cons (t := 4) rfl (Sub.cons (t := 6) rfl (Sub.cons (t := 9) rfl (Sub.cons (t := 12) rfl (Sub.cons (t := 13) rfl (Sub.cons (t := 15) rfl (Sub.cons (t := 16) rfl (Sub.nil _))))))))))
          ·
            obtain rfl : j = lLines ls (lHead M ls).2.1 (off recs recs.length) := by omega
            have hlen := encAll_all (ep := (lHead M ls).1) h2
            refine (WC.exit (WX.then_exit (WX.then_exit (WX.block_exit (WX.next ?_)))))
            refine WC.seq ?_
            refine WC.seq ?_
            refine WC.region ?_
            refine WL.load rfl (H.rdArr ty95 0 rfl hR.len) rfl ?_
            refine WL.move rfl rfl ?_
            refine WL.move rfl rfl ?_
            refine WL.move rfl rfl ?_
            refine WL.call call140 rfl rfl ?_
            refine Calls.mono (written_any ls A recs.length cap (lHead M ls).1 (lHead M ls).2.1 _) ?_
            rintro _ wx ⟨k1, k2, k3, k4, rfl, Hc⟩
            refine ⟨_, rfl, ?_⟩
            replace H := H.call Hc
            refine (WL.done (WX.next ?_))
            refine WC.block ?_
            obtain ⟨wy, hwy⟩ : ∃ wy, wy = wx := ⟨wx, rfl⟩
            subst hwy
            replace H : St w0 [] wy ((b3, .cells #[ptr p] 25) :: (k4, .cells #[.int .i64 (lHead M ls).2.1] 3) :: (k3, .cells (arrC ls) 95) :: (k2, .cells #[.int .i64 (lHead M ls).1] 3) :: (k1, .cells #[.slice A recs.length cap] 98) :: (b4, .cells (arrC ls) 95) :: (L ++ R.hp)) := H.perm (List.perm_middle (l₁ := [_, _, _, _, _]))
            refine WC.rangeFuncX (ps := [82, 83]) (β := Nat × Hp × RM) (γ := RM) (δ := RM) (encs := fun x => [Value.int .i64 ((8 * ls.getD 1 0 + 8 + (lHead M ls).2.1) + (x.1 : Int)), .int .i64 ((encAll recs (lHead M ls).1).getD x.1 0)]) H rfl Tryd.func182 rfl rfl (fun _ => rfl) (by decide) (fun x => x.1 < (encAll recs (lHead M ls).1).length ∧ Is x.2.2 p (stTo M (8 * ls.getD 1 0 + 8 + (lHead M ls).2.1) (encAll recs (lHead M ls).1) x.1) (k + x.1)) (fun x => (b3, .cells #[ptr p] 25) :: (x.2.1 ++ x.2.2.hp)) (fun x R2 => Is R2 p (stTo M (8 * ls.getD 1 0 + 8 + (lHead M ls).2.1) (encAll recs (lHead M ls).1) (x.1 + 1)) (k + (x.1 + 1))) (fun x R2 => (b3, .cells #[ptr p] 25) :: (x.2.1 ++ R2.hp)) (fun R2 => Is R2 p (stTo M (8 * ls.getD 1 0 + 8 + (lHead M ls).2.1) (encAll recs (lHead M ls).1) (encAll recs (lHead M ls).1).length) (k + (encAll recs (lHead M ls).1).length)) (fun R2 => (b3, .cells #[ptr p] 25) :: (b4, .cells (arrC ls) 95) :: (L ++ R2.hp)) (fun x => [(18, .int .i64 ((8 * ls.getD 1 0 + 8 + (lHead M ls).2.1) + (x.1 : Int))), (19, .int .i64 ((encAll recs (lHead M ls).1).getD x.1 0))]) (Sub.cons (t := 3) rfl (Sub.nil _)) (fun o W h hy => I.written_seq ls hR hG recs A recs.length cap rfl hm63 h2 hes (by omega) (hrec.more (List.sublist_cons_self _ _)) (by omega) (lHead M ls).2.1 (by omega) (8 * ls.getD 1 0 + 8) rfl _ _ _ _ _ _ o hI h hy) ?_ ?_ ?_
            · -- assign
              intro l x wx N hN
              refine I.WC.seq ?_
              refine I.WC.region ?_
              refine I.WL.assign rfl rfl ?_
              refine (I.WL.done (I.WX.next ?_))
              refine I.WC.region ?_
              refine I.WL.assign rfl rfl ?_
              refine (I.WL.done (WX.round ?_))
              exact hN _ (Sub.cons (t := 18) (by first | rfl | simp) (Sub.cons (t := 19) (by first | rfl | simp) (Sub.nil _))) (Sub.cons (t := 3) rfl (Sub.nil _))
            · -- body
              intro l x o wx hC H
              
              refine I.WC.block ?_
              refine I.WC.region ?_
              refine I.WL.load rfl (H.rd1 ty25 2 rfl rfl) rfl ?_
              refine I.WL.move rfl rfl ?_
              refine I.WL.move rfl rfl ?_
              refine I.WL.call call56 rfl rfl ?_
              refine Calls.mono (a_store (L := (wy.heap.size + 1, o) :: (wy.heap.size, .deferred (some [])) :: (b3, .cells #[ptr p] 25) :: x.2.1) (8 * ls.getD 1 0 + 8 + (lHead M ls).2.1 + (x.1 : Int)) ((encAll recs (lHead M ls).1).getD x.1 0) (by omega) (by omega) hC.2 H hL) ?_
              rintro _ wx ⟨R1, rfl, hI1, H⟩
              refine ⟨_, rfl, ?_⟩
              refine (I.WL.done (WX.block_normal ?_))
              exact fun a ha => ⟨R1, hI1, H⟩
            · -- done
              intro z o wx hC H
              replace H := H.tail
              change Is z p _ _ at hC
              change St w0 [] wx (_ :: (b3, .cells #[ptr p] 25) :: (b4, .cells (arrC ls) 95) :: (L ++ z.hp)) at H
              refine (WX.block_normal (WX.next ?_))
              refine WC.seq ?_
              refine WC.region ?_
              refine WL.load rfl (H.rd1 ty25 1 rfl rfl) rfl ?_
              refine WL.move rfl rfl ?_
              refine WL.move rfl rfl ?_
              refine WL.call call141 rfl rfl ?_
              refine Calls.mono (ldurable_any (L := (wy.heap.size, .deferred (some [])) :: (b3, .cells #[ptr p] 25) :: (b4, .cells (arrC ls) 95) :: L) (lFst ls (lHead M ls).2.1) (lLst ls (lHead M ls).2.1 (off recs recs.length)) (lLines ls (lHead M ls).2.1 (off recs recs.length)) (by omega) (by omega) (by omega) (by omega) hC H hL) ?_
              rintro _ wx ⟨R4, rfl, hI4, H⟩
              refine ⟨_, rfl, ?_⟩
              refine (WL.done (WX.next ?_))
              refine WC.seq ?_
              refine WC.region ?_
              refine WL.load rfl (H.rd1 ty25 1 rfl rfl) rfl ?_
              refine WL.load rfl (H.rdArr ty95 2 rfl hR.len) rfl ?_
              refine WL.move rfl rfl ?_
              refine WL.move rfl rfl ?_
              refine WL.move rfl rfl ?_
              refine WL.bin rfl rfl (iadd (by omega) (by omega)) rfl ?_
              refine WL.call call138 rfl rfl ?_
              refine Calls.mono (lpublish_any (L := (wy.heap.size, .deferred (some [])) :: (b3, .cells #[ptr p] 25) :: (b4, .cells (arrC ls) 95) :: L) ls hR (lHead M ls).1 ((lHead M ls).2.1 + ((off recs recs.length : Nat) : Int)) (by omega) (by omega) (by omega) hI4 H hL) ?_
              rintro _ wx ⟨R5, rfl, hI5, H⟩
              refine ⟨_, rfl, ?_⟩
              refine (WL.done (WX.next ?_))
              refine WC.seq ?_
              refine WC.region ?_
              refine WL.assign rfl rfl ?_
              refine (WL.done (WX.next ?_))
              refine (WC.ret ?_)
              refine WX.retDN H (fun wy H => ?_)
              refine ret_one rfl rfl ?_
              have e0 : lAppend M ls recs = (lPut M ls recs, 0) := by
                unfold lAppend
                rw [if_neg (show ¬ (lRoom M ls).2 ≠ 0 by omega), if_neg (show ¬ recs.all (rOk ls) = false by rw [hallE]; decide), if_neg (show ¬ ((off recs recs.length : Nat) : Int) > (lRoom M ls).1 by omega), if_neg (show ¬ off recs recs.length = 0 by omega), if_neg (fun ⟨j, h1, h3⟩ => hst j h1 h3)]
              rw [e0]
              exact ⟨R5, rfl, hI5.mono (by omega), H.weaken (List.sublist_append_right [_, _] _)⟩

end Go.Proofs.YtkncbggnaobgeaaDoor

/- The log's example, computed. -/
namespace Go.Proofs.YtkncbggnaobgeaaDoor
open Go.RowKit
set_option maxRecDepth 100000

def lS : List Int := [5, 2, 3, 0, 0, 0, 0, 0]
def rS : Rc := (1, [[0, 5]])
def mS1 : PM := (lAppend (PM.fresh 5) lS [rS]).1
def mS2 : PM := lEmpty mS1 lS
theorem lS_LR : LR lS := ⟨rfl, by decide, by decide, by decide, by decide⟩
theorem s_room : lRoom (PM.fresh 5) lS = (16, 0) := by kernel_rfl
theorem s_app : (lAppend (PM.fresh 5) lS [rS]).2 = 0 := by kernel_rfl
theorem s_16 : mS1.load 16 = (5242880, 0) := by kernel_rfl
theorem s_24 : mS1.load 24 = (1048576, 0) := by kernel_rfl
theorem s_27 : mS1.load 27 = (5, 0) := by kernel_rfl
theorem s_read : lRead mS1 lS = ([rS], 0) := by kernel_rfl
theorem s_full : lAppend mS1 lS [(2, [[0, 0], [0, 0], [0, 0], [0, 0], [0, 0]])] = (mS1, 8) := by kernel_rfl
theorem s_arg : lAppend mS1 lS [(0, [])] = (mS1, 1) := by kernel_rfl
theorem s_head : (lHead mS1 lS).2.2 = 0 := by kernel_rfl
theorem s_none : lRead mS2 lS = ([], 0) := by kernel_rfl
theorem s_one : mS2.load 16 = (1, 0) := by kernel_rfl
theorem recs_one {w0 : World} {L : Hp} {g c : Nat} {num : Int} {es : List (List Int)} {A' : Option Addr} {t : TypeId} (h : (g, Obj.cells #[.int .i64 num, .slice A' es.length c] t) ∈ L) (hr : ∀ w', St w0 [] w' L → RowsIn w' A' 2 es) : RecsS w0 L (some ⟨g, 0, none⟩) [(num, es)] := by
  refine .inr ⟨g, 0, rfl, fun j r hj => ?_⟩
  have hj0 : j = 0 := by
    rcases Nat.eq_zero_or_pos j with h0 | h0
    · exact h0
    · rw [List.getElem?_eq_none (by simp; omega)] at hj; cases hj
  subst hj0
  cases hj
  refine ⟨A', c, fun w' H => ⟨?_, hr w' H⟩⟩
  exact Rd.all ty125 (H.sat _ h) rfl
theorem recs_here {w : World} {g c : Nat} {num : Int} {es : List (List Int)} {A' : Option Addr} {t : TypeId} (h : w.heap[g]? = some (.cells #[.int .i64 num, .slice A' es.length c] t)) (hr : RowsIn w A' 2 es) : RecsIn w (some ⟨g, 0, none⟩) [(num, es)] := by
  refine .inr ⟨g, 0, _, t, _, rfl, h, fun j r hj => ?_⟩
  have hj0 : j = 0 := by
    rcases Nat.eq_zero_or_pos j with h0 | h0
    · exact h0
    · rw [List.getElem?_eq_none (by simp; omega)] at hj; cases hj
  subst hj0
  cases hj
  exact ⟨rfl, A', c, rfl, hr⟩
theorem rows_here {w : World} {g : Nat} {es : List (List Int)} {t : TypeId} (h2 : ∀ e ∈ es, e.length = 2) (h : w.heap[g]? = some (.cells (arrC es.flatten) t)) : RowsIn w (some ⟨g, 0, none⟩) 2 es := RowsIn.block h2 h
theorem rS_two : ∀ e ∈ rS.2, e.length = 2 := by decide
end Go.Proofs.YtkncbggnaobgeaaDoor

/- Walks of functions of the program; printed by a program of this session (walk.py) out of hand-written hints. -/
namespace Go.Proofs.YtkncbggnaobgeaaDoor
open Go.RowKit
set_option linter.unusedVariables false
set_option linter.unusedSimpArgs false
set_option maxRecDepth 100000

theorem made5 : madeCells #[Value.int .i64 0, .int .i64 0] (5 * 2) = arrC [0, 0, 0, 0, 0, 0, 0, 0, 0, 0] := by kernel_rfl

theorem sanity9_any (w : World) (hG : GN w) (hL : L64 w) : Calls Tryd.prog 59 #[] w fun e w' => e = .returned (.bool true) ∧ St w [] w' [] := by
  refine calls_walk_n (args := []) Tryd.func59 rfl rfl rfl ?_
  have H := St.refl w
  refine WC.seq ?_
  refine WC.region ?_
  refine WL.assign rfl rfl ?_
  refine (WL.done (WX.next ?_))
  refine WC.seq ?_
  refine WC.region ?_
  refine WL.build (cells := arrC lS) pla95 zer95 rfl rfl (by kernel_rfl) ?_
  refine WL.alloc H zer95 rfl ?_
  intro b1 wx hb1 hge1 H
  refine WL.storeTo (cs' := arrC lS) H ty95 0 rfl rfl rfl (by first | rfl | decide) (by first | exact arrC_one _ | simp [Value.cells, Value.oneCell']) (by first | exact Nat.le_of_ble_eq_true rfl | decide | (simp only [wr_size]; decide) | simp [wr_size]) (by kernel_rfl) ?_
  intro wx H
  refine (WL.done (WX.next ?_))
  refine WC.seq ?_
  refine WC.region ?_
  refine WL.call call23 rfl rfl ?_
  refine Calls.mono (a_new_ok 5 (by decide) H hL) ?_
  rintro _ wx ⟨p, R, rfl, hI, H⟩
  refine ⟨_, rfl, ?_⟩
  refine WL.assign rfl rfl ?_
  refine (WL.done (WX.next ?_))
  refine WC.seq ?_
  refine WC.seq ?_
  refine WC.region ?_
  refine WL.move rfl rfl ?_
  refine WL.bin rfl rfl (binv_ptr_eql (by kernel_rfl) _) rfl ?_
  refine (WL.done (WX.next ?_))
  refine WC.cond_false rfl (rfl) ?_
  refine (WC.skip (WX.next ?_))
  refine WC.seq ?_
  refine WC.region ?_
  refine WL.build (cells := arrC [0, 5]) pla189 zer189 rfl rfl (by kernel_rfl) ?_
  refine WL.buildSlice1 H Tryd.underlying123 (sz := 2) (by simp only [Tryd.underlying189]; exact ty189) (by omega) zer189 rfl rfl rfl rfl ?_
  intro g27 wx hg27 hgg27 H
  refine WL.build (cells := #[.int .i64 1, .slice (some ⟨g27, 0, none⟩) 1 1]) pla125 zer125 rfl rfl (by kernel_rfl) ?_
  refine WL.alloc H zer125 rfl ?_
  intro b3 wx hb3 hge3 H
  refine WL.storeTo (cs' := #[.int .i64 1, .slice (some ⟨g27, 0, none⟩) 1 1]) H ty125 0 rfl rfl rfl (by first | rfl | decide) (by first | exact arrC_one _ | simp [Value.cells, Value.oneCell']) (by first | exact Nat.le_of_ble_eq_true rfl | decide | (simp only [wr_size]; decide) | simp [wr_size]) (by kernel_rfl) ?_
  intro wx H
  refine (WL.done (WX.next ?_))
  refine WC.seq ?_
  refine WC.region ?_
  refine WL.move rfl rfl ?_
  refine WL.load rfl (H.rdArr ty95 2 rfl rfl) rfl ?_
  refine WL.call call92 rfl rfl ?_
  refine Calls.mono (lroom_any (L := _ :: _ :: _ :: []) lS lS_LR hI H hL) ?_
  rintro _ wx ⟨rfl, H⟩
  refine ⟨_, rfl, ?_⟩
  rw [show lRoom (PM.fresh (5 : Int).toNat) lS = (16, 0) from s_room]
  refine WL.move rfl rfl ?_
  refine WL.extract rfl rfl rfl ?_
  refine WL.extract rfl rfl rfl ?_
  refine WL.assign rfl rfl ?_
  refine WL.assign rfl rfl ?_
  refine (WL.done (WX.next ?_))
  refine WC.seq ?_
  refine WC.region ?_
  refine WL.move rfl rfl ?_
  refine WL.load rfl (H.rdArr ty95 2 rfl rfl) rfl ?_
  refine WL.load rfl (H.rdAll ty125 0 rfl rfl) rfl ?_
  refine WL.buildSlice1 H Tryd.underlying98 (sz := 2) (by simp only [Tryd.underlying125]; exact ty125) (by omega) zer125 rfl rfl rfl rfl ?_
  intro g38 wx hg38 hgg38 H
  refine WL.call call63 rfl rfl ?_
  refine Calls.mono (lappend_any (L := (g38, .cells #[.int .i64 1, .slice (some ⟨g27, 0, none⟩) 1 1] 125) :: (b3, .cells #[.int .i64 1, .slice (some ⟨g27, 0, none⟩) 1 1] 125) :: (g27, .cells (arrC [0, 5]) 189) :: (b1, .cells (arrC lS) 95) :: []) lS lS_LR hG [rS] (some ⟨g38, 0, none⟩) 1 (by decide) (by unfold Two; decide) (by decide) (by unfold RngE; decide) (recs_one (num := 1) (es := [[0, 5]]) List.mem_cons_self (fun w2 H2 => rows_here (g := g27) rS_two (H2.sat (g27, .cells (arrC [0, 5]) 189) (by simp)))) (by omega) hI H hL) ?_
  rintro _ wx ⟨R1, rfl, hI, H⟩
  refine ⟨_, rfl, ?_⟩
  rw [show (lAppend (PM.fresh (5 : Int).toNat) lS [rS]).2 = 0 from s_app]
  change Is R1 p mS1 _ at hI
  refine WL.assign rfl rfl ?_
  refine (WL.done (WX.next ?_))
  refine WC.seq ?_
  refine WC.region ?_
  refine WL.move rfl rfl ?_
  refine WL.call call96 rfl rfl ?_
  refine Calls.mono (a_load (L := _ :: _ :: _ :: _ :: []) 16 (by decide) hI H hL) ?_
  rintro _ wx ⟨rfl, H⟩
  refine ⟨_, rfl, ?_⟩
  rw [s_16]
  refine WL.move rfl rfl ?_
  refine WL.extract rfl rfl rfl ?_
  refine WL.extract rfl rfl rfl ?_
  refine WL.assign rfl rfl ?_
  refine WL.assign rfl rfl ?_
  refine (WL.done (WX.next ?_))
  refine WC.seq ?_
  refine WC.region ?_
  refine WL.move rfl rfl ?_
  refine WL.call call96 rfl rfl ?_
  refine Calls.mono (a_load (L := _ :: _ :: _ :: _ :: []) 24 (by decide) hI H hL) ?_
  rintro _ wx ⟨rfl, H⟩
  refine ⟨_, rfl, ?_⟩
  rw [s_24]
  refine WL.move rfl rfl ?_
  refine WL.extract rfl rfl rfl ?_
  refine WL.extract rfl rfl rfl ?_
  refine WL.assign rfl rfl ?_
  refine WL.assign rfl rfl ?_
  refine (WL.done (WX.next ?_))
  refine WC.seq ?_
  refine WC.region ?_
  refine WL.move rfl rfl ?_
  refine WL.call call96 rfl rfl ?_
  refine Calls.mono (a_load (L := _ :: _ :: _ :: _ :: []) 27 (by decide) hI H hL) ?_
  rintro _ wx ⟨rfl, H⟩
  refine ⟨_, rfl, ?_⟩
  rw [s_27]
  refine WL.move rfl rfl ?_
  refine WL.extract rfl rfl rfl ?_
  refine WL.extract rfl rfl rfl ?_
  refine WL.assign rfl rfl ?_
  refine WL.assign rfl rfl ?_
  refine (WL.done (WX.next ?_))
  refine WC.seq ?_
  refine WC.region ?_
  refine WL.move rfl rfl ?_
  refine WL.load rfl (H.rdArr ty95 3 rfl rfl) rfl ?_
  refine WL.call call90 rfl rfl ?_
  refine Calls.mono (lread_any (L := _ :: _ :: _ :: _ :: []) lS lS_LR hG hI H hL) ?_
  rintro _ wx ⟨A1, cp1, H1, rfl, hk1, H⟩
  refine ⟨_, rfl, ?_⟩
  rw [s_read] at hk1
  rw [s_read]
  replace H : St w [] wx ((b1, .cells (arrC lS) 95) :: (g38, .cells #[.int .i64 1, .slice (some ⟨g27, 0, none⟩) 1 1] 125) :: (b3, .cells #[.int .i64 1, .slice (some ⟨g27, 0, none⟩) 1 1] 125) :: (g27, .cells (arrC [0, 5]) 189) :: (H1 ++ R1.hp)) := H.perm ((List.perm_append_comm.append_right _).trans (List.perm_middle (l₁ := [_, _, _])))
  refine WL.move rfl rfl ?_
  refine WL.extract rfl rfl rfl ?_
  refine WL.extract rfl rfl rfl ?_
  refine WL.assign rfl rfl ?_
  refine WL.assign rfl rfl ?_
  refine (WL.done (WX.next ?_))
  refine WC.seq ?_
  replace H := H.drew
  refine WC.held (fun w2 => ∃ L2, St w [] w2 ((b1, .cells (arrC lS) 95) :: L2)) (by kernel_rfl) ?_
  generalize World.drew wx = wb at H ⊢
  have HB := H
  refine WH.take 0 rfl (by kernel_rfl) (by kernel_rfl) (by kernel_rfl) (fun _ _ _ h => h) ⟨_, HB⟩ (fun w' hS => EX.move rfl) rfl ?_
  refine WH.take 1 rfl (by kernel_rfl) (by kernel_rfl) (by kernel_rfl) (fun _ _ _ h => h) ⟨_, HB⟩ (fun w' hS => EX.load rfl (hS.elim fun _ h => h.rdArr ty95 0 rfl rfl)) rfl ?_
  refine WH.hard 2 rfl (by kernel_rfl) ?_
  refine WL.makeS (k := 5) HB app123 zer189 rfl rfl rfl rfl (by omega) (by omega) rfl ?_
  intro g63 wx hg63 hgg63 HB
  rw [made5] at HB
  replace HB := HB.perm (List.Perm.swap _ _ _)
  refine WL.done (WX.heldOn ⟨_, HB⟩ ?_)
  refine WH.take 3 rfl (by kernel_rfl) (by kernel_rfl) (by kernel_rfl) (fun _ _ _ h => h) ⟨_, HB⟩ (fun w' hS => EX.build (cells := #[.int .i64 2, .slice (some ⟨g63, 0, none⟩) 5 5]) pla125 zer125 rfl (by kernel_rfl)) rfl ?_
  refine WH.hard 4 rfl (by kernel_rfl) ?_
  refine WL.buildSlice1 HB Tryd.underlying98 (sz := 2) (by simp only [Tryd.underlying125]; exact ty125) (by omega) zer125 rfl rfl rfl rfl ?_
  intro g65 wx hg65 hgg65 HB
  replace HB := HB.perm (List.Perm.swap _ _ _)
  refine WL.done (WX.heldOn ⟨_, HB⟩ ?_)
  refine WH.hard 5 rfl (by kernel_rfl) ?_
  refine WL.call call63 rfl rfl ?_
  refine Calls.mono (lappend_any (L := (b1, .cells (arrC lS) 95) :: (g65, .cells #[.int .i64 2, .slice (some ⟨g63, 0, none⟩) 5 5] 125) :: (g63, .cells (arrC [0, 0, 0, 0, 0, 0, 0, 0, 0, 0]) 189) :: (g38, .cells #[.int .i64 1, .slice (some ⟨g27, 0, none⟩) 1 1] 125) :: (b3, .cells #[.int .i64 1, .slice (some ⟨g27, 0, none⟩) 1 1] 125) :: (g27, .cells (arrC [0, 5]) 189) :: H1) lS lS_LR hG [(2, [[0, 0], [0, 0], [0, 0], [0, 0], [0, 0]])] (some ⟨g65, 0, none⟩) 1 (by decide) (by unfold Two; decide) (by decide) (by unfold RngE; decide) (recs_one (num := 2) (es := [[0, 0], [0, 0], [0, 0], [0, 0], [0, 0]]) (List.mem_cons_of_mem _ List.mem_cons_self) (fun w2 H2 => rows_here (g := g63) (by decide) (H2.sat (g63, .cells (arrC [0, 0, 0, 0, 0, 0, 0, 0, 0, 0]) 189) (by simp)))) (by omega) hI HB hL) ?_
  rintro _ wx ⟨R2, rfl, hI, HB⟩
  refine ⟨_, rfl, ?_⟩
  rw [s_full]
  rw [s_full] at hI
  refine WL.done (WX.heldOn ⟨_, HB⟩ ?_)
  refine WH.take 6 rfl (by kernel_rfl) (by kernel_rfl) (by kernel_rfl) (fun _ _ _ h => h) ⟨_, HB⟩ (fun w' hS => EX.assign rfl) rfl ?_
  refine WH.done (by kernel_rfl) ?_
  replace H := HB
  refine WX.next ?_
  refine WC.seq ?_
  refine WC.region ?_
  refine WL.move rfl rfl ?_
  refine WL.load rfl (H.rdArr ty95 0 rfl rfl) rfl ?_
  refine WL.build (cells := #[.int .i64 0, .slice none 0 0]) pla125 zer125 rfl rfl (by kernel_rfl) ?_
  refine WL.buildSlice1 H Tryd.underlying98 (sz := 2) (by simp only [Tryd.underlying125]; exact ty125) (by omega) zer125 rfl rfl rfl rfl ?_
  intro g70 wx hg70 hgg70 H
  refine WL.call call63 rfl rfl ?_
  refine Calls.mono (lappend_any (L := _ :: _ :: _ :: _ :: _ :: _ :: _ :: H1) lS lS_LR hG [(0, [])] (some ⟨g70, 0, none⟩) 1 (by decide) (by unfold Two; decide) (by decide) (by unfold RngE; decide) (recs_one (num := 0) (es := []) List.mem_cons_self (fun w2 H2 => ⟨fun r hr => (by cases hr), .inl rfl⟩)) (by omega) hI H hL) ?_
  rintro _ wx ⟨R3, rfl, hI, H⟩
  refine ⟨_, rfl, ?_⟩
  rw [s_arg]
  rw [s_arg] at hI
  refine WL.assign rfl rfl ?_
  refine (WL.done (WX.next ?_))
  refine WC.seq ?_
  refine WC.region ?_
  refine WL.move rfl rfl ?_
  refine WL.load rfl (H.rdArr ty95 1 rfl rfl) rfl ?_
  refine WL.call call62 rfl rfl ?_
  refine Calls.mono (lempty_any (L := _ :: _ :: _ :: _ :: _ :: _ :: _ :: H1) lS lS_LR (by omega) hI H hL) ?_
  rintro _ wx ⟨R4, rfl, hI, H⟩
  refine ⟨_, rfl, ?_⟩
  rw [s_head]
  change Is R4 p mS2 _ at hI
  refine WL.assign rfl rfl ?_
  refine (WL.done (WX.next ?_))
  refine WC.seq ?_
  refine WC.region ?_
  refine WL.move rfl rfl ?_
  refine WL.load rfl (H.rdArr ty95 1 rfl rfl) rfl ?_
  refine WL.call call90 rfl rfl ?_
  refine Calls.mono (lread_any (L := _ :: _ :: _ :: _ :: _ :: _ :: _ :: H1) lS lS_LR hG hI H hL) ?_
  rintro _ wx ⟨A2, cp2, H2, rfl, hk2, H⟩
  refine ⟨_, rfl, ?_⟩
  rw [s_none]
  refine WL.move rfl rfl ?_
  refine WL.extract rfl rfl rfl ?_
  refine WL.extract rfl rfl rfl ?_
  refine WL.assign rfl rfl ?_
  refine WL.assign rfl rfl ?_
  refine (WL.done (WX.next ?_))
  refine WC.seq ?_
  refine WC.region ?_
  refine WL.move rfl rfl ?_
  refine WL.call call96 rfl rfl ?_
  refine Calls.mono (a_load (L := H2 ++ (_ :: _ :: _ :: _ :: _ :: _ :: _ :: H1)) 16 (by decide) hI H hL) ?_
  rintro _ wx ⟨rfl, H⟩
  refine ⟨_, rfl, ?_⟩
  rw [s_one]
  refine WL.move rfl rfl ?_
  refine WL.extract rfl rfl rfl ?_
  refine WL.extract rfl rfl rfl ?_
  refine WL.assign rfl rfl ?_
  refine WL.assign rfl rfl ?_
  refine (WL.done (WX.next ?_))
  refine WC.seq ?_
  refine WC.seq ?_
  refine WC.region ?_
  refine WL.move rfl rfl ?_
  refine WL.bin rfl rfl binv_neq rfl ?_
  refine WL.move rfl rfl ?_
  refine WL.known (t := 88) rfl (b := false) (rfl) ?_
  refine WL.yes rfl rfl ?_
  refine WL.move rfl rfl ?_
  refine WL.yes rfl rfl ?_
  refine WL.bin rfl rfl binv_neq rfl ?_
  refine WL.pickF rfl rfl rfl ?_
  refine WL.move rfl rfl ?_
  refine WL.known (t := 92) rfl (b := false) (rfl) ?_
  refine WL.yes rfl rfl ?_
  refine WL.move rfl rfl ?_
  refine WL.yes rfl rfl ?_
  refine WL.bin rfl rfl binv_neq rfl ?_
  refine WL.pickF rfl rfl rfl ?_
  refine WL.move rfl rfl ?_
  refine WL.known (t := 96) rfl (b := false) (rfl) ?_
  refine WL.yes rfl rfl ?_
  refine WL.move rfl rfl ?_
  refine WL.yes rfl rfl ?_
  refine WL.bin rfl rfl binv_neq rfl ?_
  refine WL.pickF rfl rfl rfl ?_
  refine WL.move rfl rfl ?_
  refine WL.known (t := 100) rfl (b := false) (rfl) ?_
  refine WL.yes rfl rfl ?_
  refine WL.move rfl rfl ?_
  refine WL.yes rfl rfl ?_
  refine WL.bin rfl rfl binv_neq rfl ?_
  refine WL.pickF rfl rfl rfl ?_
  refine WL.move rfl rfl ?_
  refine WL.known (t := 104) rfl (b := false) (rfl) ?_
  refine WL.yes rfl rfl ?_
  refine WL.move rfl rfl ?_
  refine WL.yes rfl rfl ?_
  refine WL.bin rfl rfl binv_neq rfl ?_
  refine WL.pickF rfl rfl rfl ?_
  refine WL.move rfl rfl ?_
  refine WL.known (t := 108) rfl (b := false) (rfl) ?_
  refine WL.yes rfl rfl ?_
  refine WL.move rfl rfl ?_
  refine WL.yes rfl rfl ?_
  refine WL.bin rfl rfl binv_neq rfl ?_
  refine WL.pickF rfl rfl rfl ?_
  refine WL.move rfl rfl ?_
  refine WL.known (t := 112) rfl (b := false) (rfl) ?_
  refine WL.yes rfl rfl ?_
  refine WL.move rfl rfl ?_
  refine WL.yes rfl rfl ?_
  refine WL.bin rfl rfl binv_neq rfl ?_
  refine WL.pickF rfl rfl rfl ?_
  refine WL.move rfl rfl ?_
  refine WL.known (t := 116) rfl (b := false) (rfl) ?_
  refine WL.yes rfl rfl ?_
  refine WL.move rfl rfl ?_
  refine WL.yes rfl rfl ?_
  refine WL.bin rfl rfl binv_neq rfl ?_
  refine WL.pickF rfl rfl rfl ?_
  refine WL.move rfl rfl ?_
  refine WL.known (t := 120) rfl (b := false) (rfl) ?_
  refine WL.yes rfl rfl ?_
  refine WL.move rfl rfl ?_
  refine WL.yes rfl rfl ?_
  refine WL.bin rfl rfl binv_neq rfl ?_
  refine WL.pickF rfl rfl rfl ?_
  refine WL.move rfl rfl ?_
  refine WL.known (t := 124) rfl (b := false) (rfl) ?_
  refine WL.yes rfl rfl ?_
  refine WL.move rfl rfl ?_
  refine WL.yes rfl rfl ?_
  refine WL.bin rfl rfl binv_neq rfl ?_
  refine WL.pickF rfl rfl rfl ?_
  refine (WL.done (WX.next ?_))
  refine WC.cond_false rfl (rfl) ?_
  refine (WC.skip (WX.next ?_))
  refine WC.seq ?_
  refine WC.region ?_
  refine WL.load rfl (Rd.arr ty95 (H.sat (b1, .cells (arrC lS) 95) (by simp)) rfl) rfl ?_
  refine WL.call call81 rfl rfl ?_
  refine Calls.mono (capacity_any lS lS_LR _) ?_
  rintro _ wx ⟨rfl, Hc⟩
  refine ⟨_, rfl, ?_⟩
  replace H := H.call0 Hc
  refine WL.bin rfl rfl binv_eql rfl ?_
  refine WL.move rfl rfl ?_
  refine WL.known (t := 131) rfl (b := true) (rfl) ?_
  refine WL.yes rfl rfl ?_
  refine WL.load rfl (Rd.arr ty95 (H.sat (b1, .cells (arrC lS) 95) (by simp)) rfl) rfl ?_
  refine WL.yes rfl rfl ?_
  refine WL.call call83 rfl rfl ?_
  refine Calls.mono (stampAt_any lS lS_LR _) ?_
  rintro _ wx ⟨rfl, Hc⟩
  refine ⟨_, rfl, ?_⟩
  replace H := H.call0 Hc
  refine WL.yes rfl rfl ?_
  refine WL.bin rfl rfl binv_eql rfl ?_
  refine WL.pickT rfl rfl rfl ?_
  refine WL.move rfl rfl ?_
  refine WL.known (t := 136) rfl (b := true) (rfl) ?_
  refine WL.yes rfl rfl ?_
  refine WL.makeS (k := 2) H app123 zer189 rfl rfl rfl rfl (by omega) (by omega) rfl ?_
  intro g137 wx hg137 hgg137 H
  refine WL.yes rfl rfl ?_
  refine WL.build (cells := #[.int .i64 0, .slice (some ⟨g137, 0, none⟩) 2 2]) pla125 zer125 rfl rfl (by kernel_rfl) ?_
  refine WL.yes rfl rfl ?_
  refine WL.call call78 rfl rfl ?_
  refine Calls.mono (size_any 0 (some ⟨g137, 0, none⟩) 2 2 (by decide) _) ?_
  rintro _ wx ⟨rfl, Hc⟩
  refine ⟨_, rfl, ?_⟩
  replace H := H.call0 Hc
  refine WL.yes rfl rfl ?_
  refine WL.bin rfl rfl binv_eql rfl ?_
  refine WL.pickT rfl rfl rfl ?_
  refine WL.move rfl rfl ?_
  refine WL.known (t := 142) rfl (b := true) (rfl) ?_
  refine WL.yes rfl rfl ?_
  refine WL.move rfl rfl ?_
  refine WL.yes rfl rfl ?_
  refine WL.bin rfl rfl binv_eql rfl ?_
  refine WL.pickT rfl rfl rfl ?_
  refine WL.move rfl rfl ?_
  refine WL.known (t := 146) rfl (b := true) (rfl) ?_
  refine WL.yes rfl rfl ?_
  refine WL.move rfl rfl ?_
  refine WL.yes rfl rfl ?_
  refine WL.bin rfl rfl binv_eql rfl ?_
  refine WL.pickT rfl rfl rfl ?_
  refine WL.move rfl rfl ?_
  refine WL.known (t := 150) rfl (b := true) (rfl) ?_
  refine WL.yes rfl rfl ?_
  refine WL.move rfl rfl ?_
  refine WL.yes rfl rfl ?_
  refine WL.bin rfl rfl binv_eql rfl ?_
  refine WL.pickT rfl rfl rfl ?_
  refine WL.move rfl rfl ?_
  refine WL.known (t := 154) rfl (b := true) (rfl) ?_
  refine WL.yes rfl rfl ?_
  refine WL.move rfl rfl ?_
  refine WL.yes rfl rfl ?_
  refine WL.bin rfl rfl binv_eql rfl ?_
  refine WL.pickT rfl rfl rfl ?_
  refine WL.move rfl rfl ?_
  refine WL.known (t := 158) rfl (b := true) (rfl) ?_
  refine WL.yes rfl rfl ?_
  refine WL.move rfl rfl ?_
  refine WL.yes rfl rfl ?_
  refine WL.load rfl (Rd.all ty125 (H.sat (b3, .cells #[.int .i64 1, .slice (some ⟨g27, 0, none⟩) 1 1] 125) (by simp)) rfl) rfl ?_
  refine WL.yes rfl rfl ?_
  refine WL.buildSlice1 H Tryd.underlying98 (sz := 2) (by simp only [Tryd.underlying125]; exact ty125) (by omega) zer125 rfl rfl rfl rfl ?_
  intro g161 wx hg161 hgg161 H
  refine WL.yes rfl rfl ?_
  refine WL.call call77 rfl rfl ?_
  refine Calls.mono (sameRecs_any A1 (some ⟨g161, 0, none⟩) 1 1 cp1 1 [rS] [rS] rfl rfl _ (hk1 _ (fun q hq => H.sat q (by simp [hq]))) (recs_here (num := 1) (es := [[0, 5]]) (H.sat _ List.mem_cons_self) (rows_here (g := g27) rS_two (H.sat (g27, .cells (arrC [0, 5]) 189) (by simp)))) (by decide) (by decide)) ?_
  rintro _ wx ⟨rfl, Hc⟩
  refine ⟨_, rfl, ?_⟩
  replace H := H.call0 Hc
  rw [show decide ([rS] = [rS]) = true from decide_eq_true rfl]
  refine WL.pickT rfl rfl rfl ?_
  refine WL.move rfl rfl ?_
  refine WL.known (t := 164) rfl (b := true) (rfl) ?_
  refine WL.yes rfl rfl ?_
  refine WL.move rfl rfl ?_
  refine WL.yes rfl rfl ?_
  refine WL.lenSlc isl98 rfl rfl ?_
  refine WL.yes rfl rfl ?_
  refine WL.bin rfl rfl binv_eql rfl ?_
  refine WL.pickT rfl rfl rfl ?_
  refine WL.move rfl rfl ?_
  refine WL.known (t := 169) rfl (b := true) (rfl) ?_
  refine WL.yes rfl rfl ?_
  refine WL.move rfl rfl ?_
  refine WL.yes rfl rfl ?_
  refine WL.bin rfl rfl binv_eql rfl ?_
  refine WL.pickT rfl rfl rfl ?_
  refine WL.assign rfl rfl ?_
  refine (WL.done (WX.next ?_))
  refine (WC.ret ?_)
  refine ret_one rfl rfl ?_
  exact ⟨rfl, H.weaken (List.nil_sublist _)⟩

end Go.Proofs.YtkncbggnaobgeaaDoor
