/- Texts of this session, laid together: Mem8, Mem9, Mem10, Mem11, Mem12, Mem13, Mem14, Mem15, Modc, Mem16, Modd, Mem17. -/
import Derived.Test.YtkncbggnaobgeaaDoorGd

/- Walks of functions of the program; printed by a program of this session (walk.py) out of hand-written hints. -/
namespace Go.Proofs.YtkncbggnaobgeaaDoor
open Go.RowKit
set_option linter.unusedVariables false
set_option linter.unusedSimpArgs false
set_option maxRecDepth 100000

theorem cloneE_row (r : Row) (n : Nat) (xs : List Value) (hok : r.ok 12 n xs) (h1 : ∀ u ∈ xs, u.oneCell' = true) (w : World) (hs : ∀ q ∈ r.hp 164, w.heap[q.1]? = some q.2) (hn : n ≤ 1073741824) :
    Calls Tryd.prog 100 #[r.val n] w fun e w' => ∃ r' : Row, e = .returned (r'.val n) ∧ r'.ok 12 n xs ∧ St w [] w' (r'.hp 164) := by
  cases r with
  | none =>
    obtain ⟨rfl, rfl⟩ := hok
    refine (cloneE_nil w).mono ?_
    rintro _ _ ⟨rfl, rfl⟩
    exact ⟨.none, rfl, ⟨rfl, rfl⟩, St.refl _⟩
  | nul a =>
    obtain ⟨rfl, rfl⟩ := hok
    exact cloneE_addr a 0 0 w [] (by simp) (fun j u hj => by cases hj) (by simp) (by omega)
  | some g cap cur => exact cloneE_any g 0 n cap cur 164 w (hs _ List.mem_cons_self) xs hok.1 (fun j u hj => by rw [Nat.zero_add]; exact Row.ok_get hok hj) h1 hn
theorem cloneP_row (r : Row) (n : Nat) (xs : List Value) (hok : r.ok 2 n xs) (h1 : ∀ u ∈ xs, u.oneCell' = true) (w : World) (hs : ∀ q ∈ r.hp 111, w.heap[q.1]? = some q.2) (hn : n ≤ 1073741824) :
    Calls Tryd.prog 108 #[r.val n] w fun e w' => ∃ r' : Row, e = .returned (r'.val n) ∧ r'.ok 2 n xs ∧ St w [] w' (r'.hp 111) := by
  cases r with
  | none =>
    obtain ⟨rfl, rfl⟩ := hok
    refine (cloneP_nil w).mono ?_
    rintro _ _ ⟨rfl, rfl⟩
    exact ⟨.none, rfl, ⟨rfl, rfl⟩, St.refl _⟩
  | nul a =>
    obtain ⟨rfl, rfl⟩ := hok
    exact cloneP_addr a 0 0 w [] (by simp) (fun j u hj => by cases hj) (by simp) (by omega)
  | some g cap cur => exact cloneP_any g 0 n cap cur 111 w (hs _ List.mem_cons_self) xs hok.1 (fun j u hj => by rw [Nat.zero_add]; exact Row.ok_get hok hj) h1 hn
def PM.pend (M : PM) (n : Int) : List (Int × Int) := if M.has n then (M.line n).ps else []
theorem RM.er_mem {R : RM} : ∀ q ∈ R.er.hp 164, q ∈ R.hp := fun q hq => List.mem_cons_of_mem _ (List.mem_cons_of_mem _ (List.mem_cons_of_mem _ (List.mem_append_left _ hq)))
/-- New blocks alone: nothing that lay has changed. -/
theorem St.sameL {w w' : World} {M L : Hp} (h : St w (M.map Prod.fst) w' (L ++ M)) (hs : ∀ q ∈ M, w.heap[q.1]? = some q.2) : St w [] w' L := by
  refine ⟨h.os, h.tape, h.output, h.size, fun k hk _ => ?_, h.nd.sublist ((List.sublist_append_left _ _).map _), fun q hq => h.sat q (List.mem_append_left _ hq), fun q hq => .inr ?_⟩
  · by_cases hm : k ∈ M.map Prod.fst
    · obtain ⟨q, hq, rfl⟩ := List.mem_map.1 hm
      rw [h.sat q (List.mem_append_right _ hq), hs q hq]
    · exact h.old k hk hm
  · rcases h.own q (List.mem_append_left _ hq) with hm | hg
    · exfalso
      have hnd := h.nd
      rw [List.map_append, List.nodup_append] at hnd
      exact hnd.2.2 _ (List.mem_map_of_mem hq) _ hm rfl
    · exact hg

theorem span_any (R : RM) (n : Int) (hn : n ≤ 9223372036854775807) (w : World) (hm : MemIn w R) : Calls Tryd.prog 61 #[.pointer (some ⟨R.p, 0, none⟩), .int .i64 n] w fun e w' => ∃ R' : RM, e = .returned (.tuple #[]) ∧ R'.p = R.p ∧ R'.abs = { R.abs with span := if 0 > n then 0 else n } ∧ R'.ok ∧ St w (R.hp.map Prod.fst) w' R'.hp := by
  refine calls_walk_n (args := [.pointer (some ⟨R.p, 0, none⟩), .int .i64 n]) Tryd.func61 rfl rfl rfl ?_
  have H := hm.start
  refine WC.region ?_
  refine WL.move rfl rfl ?_
  refine WL.move rfl rfl ?_
  refine WL.max2 rfl rfl rfl ?_
  refine WL.nilCheck rfl rfl ?_
  refine WL.fieldAddr fld161_2 rfl rfl ?_
  (refine WL.storeAt H ty3 0 rfl rfl rfl rfl (by simp [Value.cells, Value.oneCell']) (by first | decide | (simp only [wr_size]; decide) | simp [wr_size]) ?_)
  intro wx H
  refine (WL.done ?_)
  refine end_none rfl ?_
  refine ⟨{ R with span := if 0 > n then 0 else n }, rfl, rfl, rfl, ⟨hm.ok.len, hm.ok.lcap, hm.ok.junk, hm.ok.lines, hm.ok.map, hm.ok.busy, hm.ok.evs, hm.ok.er, ?_⟩, H⟩
  show 0 ≤ (if 0 > n then 0 else n) ∧ (if 0 > n then 0 else n) ≤ _
  split <;> omega

theorem forget_any (R : RM) (w : World) (hm : MemIn w R) : Calls Tryd.prog 112 #[.pointer (some ⟨R.p, 0, none⟩)] w fun e w' => ∃ R' : RM, e = .returned (.tuple #[]) ∧ R'.p = R.p ∧ R'.abs = { R.abs with evs := [] } ∧ R'.ok ∧ St w (R.hp.map Prod.fst) w' R'.hp := by
  refine calls_walk_n (args := [.pointer (some ⟨R.p, 0, none⟩)]) Tryd.func112 rfl rfl rfl ?_
  have H := hm.start
  refine WC.region ?_
  refine WL.move rfl rfl ?_
  refine WL.nilCheck rfl rfl ?_
  refine WL.fieldAddr fld161_3 rfl rfl ?_
  refine WL.storeAt H ty30 0 rfl rfl rfl rfl (by simp [Value.cells, Value.oneCell']) (Nat.le_refl 4) ?_
  intro wx H
  refine (WL.done ?_)
  refine end_none rfl ?_
  refine ⟨{ R with evs := [], er := .none }, rfl, rfl, rfl, ⟨hm.ok.len, hm.ok.lcap, hm.ok.junk, hm.ok.lines, hm.ok.map, hm.ok.busy, by simp, ⟨rfl, rfl⟩, hm.ok.span⟩, ?_⟩
  exact H.weaken (List.Sublist.cons_cons _ (List.Sublist.cons_cons _ (List.Sublist.cons_cons _ (List.sublist_append_right _ _))))

theorem events_any (R : RM) (hsm : R.evs.length ≤ 1073741824) (w : World) (hm : MemIn w R) : Calls Tryd.prog 27 #[.pointer (some ⟨R.p, 0, none⟩)] w fun e w' => ∃ r : Row, e = .returned (r.val R.evs.length) ∧ r.ok 12 R.evs.length (flatE R.evs) ∧ St w [] w' (r.hp 164) := by
  refine calls_walk_n (args := [.pointer (some ⟨R.p, 0, none⟩)]) Tryd.func27 rfl rfl rfl ?_
  have H := hm.start
  refine WC.seq ?_
  refine WC.region ?_
  refine WL.assign rfl rfl ?_
  refine (WL.done (WX.next ?_))
  refine WC.seq ?_
  refine WC.region ?_
  refine WL.move rfl rfl ?_
  refine WL.nilCheck rfl rfl ?_
  refine WL.fieldAddr fld161_3 rfl rfl ?_
  refine WL.load rfl (H.rd1 ty30 0 rfl rfl) rfl ?_
  refine WL.call call100 rfl rfl ?_
  refine Calls.mono (cloneE_row R.er R.evs.length _ hm.ok.er (flatE_one _) _ (fun q hq => H.sat q (RM.er_mem q hq)) hsm) ?_
  rintro _ wx ⟨r', rfl, hr', Hc⟩
  refine ⟨_, rfl, ?_⟩
  replace H := H.call Hc
  refine WL.assign rfl rfl ?_
  refine (WL.done (WX.next ?_))
  refine (WC.ret ?_)
  refine ret_one rfl rfl ?_
  exact ⟨r', rfl, hr', St.sameL H hm.sat⟩

theorem pending_any (R : RM) (n : Int) (hps : ∀ x ∈ R.X, x.1.ps.length ≤ 1073741824) (w : World) (hm : MemIn w R) : Calls Tryd.prog 39 #[.pointer (some ⟨R.p, 0, none⟩), .int .i64 n] w fun e w' => ∃ r : Row, e = .returned (r.val (R.abs.pend n).length) ∧ r.ok 2 (R.abs.pend n).length (flatP (R.abs.pend n)) ∧ St w [] w' (r.hp 111) := by
  refine calls_walk_n (args := [.pointer (some ⟨R.p, 0, none⟩), .int .i64 n]) Tryd.func39 rfl rfl rfl ?_
  have H := hm.start
  refine WC.seq ?_
  refine WC.region ?_
  refine WL.assign rfl rfl ?_
  refine (WL.done (WX.next ?_))
  refine WC.seq ?_
  refine WC.seq ?_
  refine WC.region ?_
  refine WL.move rfl rfl ?_
  refine WL.move rfl rfl ?_
  refine WL.call call101 rfl rfl ?_
  refine Calls.mono (has_any R _ _ hm) ?_
  rintro _ wx ⟨rfl, rfl⟩
  refine ⟨_, rfl, ?_⟩
  refine WL.notOp rfl rfl ?_
  refine (WL.done (WX.next ?_))
  refine WC.cond rfl (fun c1 => ?_) (fun c1 => ?_)
  ·
    have hh : pHas R n = false := by simpa only [Bool.not_eq_true'] using c1
    refine WC.seq ?_
    refine WC.region ?_
    refine WL.assign rfl rfl ?_
    refine (WL.done (WX.next ?_))
    refine (WC.ret (WX.then_ret ?_))
    refine ret_one rfl rfl ?_
    have e1 : R.abs.pend n = [] := by unfold PM.pend; rw [abs_has, hh]; rfl
    rw [e1]
    exact ⟨.none, rfl, ⟨rfl, rfl⟩, H.same (L := []) hm.sat⟩
  ·
    have hh : pHas R n = true := by simpa only [Bool.not_eq_false'] using c1
    obtain ⟨hn0, hn1⟩ := pHas_iff.1 hh
    obtain ⟨k, rfl⟩ : ∃ k : Nat, n = (k : Int) := ⟨n.toNat, by omega⟩
    obtain ⟨A, l, r, B, hX, hA, hal, hok, hr, hget⟩ := hm.ok.at (k := k) (by omega)
    replace H := St.focus (L := []) hX H
    refine (WC.skip (WX.next ?_))
    refine WC.seq ?_
    refine WC.region ?_
    refine WL.move rfl rfl ?_
    refine WL.nilCheck rfl rfl ?_
    refine WL.fieldAddr fld161_0 rfl rfl ?_
    refine WL.load rfl (H.rd1 ty156 0 rfl rfl) rfl ?_
    refine WL.move rfl rfl ?_
    refine WL.idxSlc (k := k) slc156 rfl rfl (by rfl) (by omega) rfl ?_
    refine WL.fieldAddr fld158_1 rfl rfl ?_
    refine WL.load rfl (Rd.lineS ty52 (H.blk 1 rfl) (by omega) hok.1) rfl ?_
    refine WL.call call108 rfl rfl ?_
    refine Calls.mono (cloneP_row r l.ps.length _ hr (flatP_one _) _ (fun q hq => H.sat q (fhp_row q hq)) (hps (l, r) (List.mem_of_getElem? hget))) ?_
    rintro _ wx ⟨r', rfl, hr', Hc⟩
    refine ⟨_, rfl, ?_⟩
    replace H := H.call Hc
    refine WL.assign rfl rfl ?_
    refine (WL.done (WX.next ?_))
    refine (WC.ret ?_)
    refine ret_one rfl rfl ?_
    have e1 : R.abs.pend (k : Int) = l.ps := by unfold PM.pend; rw [abs_has, hh, if_pos rfl, abs_line hget]
    rw [e1]
    exact ⟨r', rfl, hr', St.sameL (St.unfocus hX H) hm.sat⟩

end Go.Proofs.YtkncbggnaobgeaaDoor

/- Walks of functions of the program; printed by a program of this session (walk.py) out of hand-written hints. -/
namespace Go.Proofs.YtkncbggnaobgeaaDoor
open Go.RowKit
set_option linter.unusedVariables false
set_option linter.unusedSimpArgs false
set_option maxRecDepth 100000

theorem madeCells_zero {s k : Nat} (h0 : 0 < s) : madeCells (arrC (List.replicate s 0)) k = arrC (List.replicate k 0) := by
  apply Array.ext_getElem?
  intro i
  unfold madeCells
  rw [arrC_get]
  by_cases hi : i < k
  · have hm : i % s < s := Nat.mod_lt _ h0
    simp [hi, arrC, hm]
  · simp [hi]
theorem zer40' : ZeroIs Tryd.prog 40 (arrC (List.replicate 9 0)) := zer40
theorem zer38' : ZeroIs Tryd.prog 38 (arrC (List.replicate 8 0)) := zer38
theorem wr_slot {a v : List Int} {sz m o : Nat} (hv : v.length = sz) (ho : o = a.length) : wr (arrC (a ++ List.replicate ((m + 1) * sz) 0)) o (intsC v) = arrC ((a ++ v) ++ List.replicate (m * sz) 0) := by
  have e1 : arrC (a ++ List.replicate ((m + 1) * sz) 0) = (intsC a ++ (intsC (List.replicate sz 0) ++ intsC (List.replicate (m * sz) 0))).toArray := by
    rw [arrC_ints, Nat.add_mul, Nat.one_mul, Nat.add_comm (m * sz), ← List.replicate_append_replicate]
    simp [intsC]
  rw [e1, wr_mid (by simp [intsC, ho]) (by simp [intsC, hv]), arrC_ints]
  simp [intsC]
theorem wr_full {cs v : Array Value} (h : cs.size = v.size) : wr cs 0 v.toList = v := by
  apply Array.ext_getElem?
  intro i
  rw [wr_get _ _ _ _ (by simp [h])]
  by_cases hi : i < v.size
  · rw [if_pos (by simp [hi])]; simp
  · rw [if_neg (by simp; omega), Array.getElem?_eq_none (by omega), Array.getElem?_eq_none (by omega)]
theorem RM.line_at {w0 w : World} {S : List Nat} {L : Hp} {R : RM} {A B : List (PL × Row)} {l : PL} {r : Row} (hX : R.X = A ++ (l, r) :: B) (h : St w0 S w (L ++ R.hp)) :
    w.heap[R.lb]? = some (.cells (lineL (linesC A) l r (linesC B ++ R.junk)) 158) := by
  have h1 := h.sat (R.lb, .cells (linesC R.X ++ R.junk).toArray 158) (List.mem_append_right _ (List.mem_cons_of_mem _ List.mem_cons_self))
  have e1 : (linesC R.X ++ R.junk).toArray = lineL (linesC A) l r (linesC B ++ R.junk) := by
    rw [hX, linesC_append, linesC_cons]; simp [lineL]
  rw [← e1]; exact h1
theorem RM.row_mem {R : RM} {A B : List (PL × Row)} {l : PL} {r : Row} (hX : R.X = A ++ (l, r) :: B) : ∀ q ∈ r.hp 111, q ∈ R.hp := fun q hq => by
  have : q ∈ pendHp R.X := by rw [hX, pendHp_append, pendHp_cons]; simp [hq]
  exact List.mem_cons_of_mem _ (List.mem_cons_of_mem _ (List.mem_cons_of_mem _ (List.mem_append_right _ this)))
def imgC (ls : List PL) : List Int := ls.flatMap fun l => l.ws ++ [l.c]
def seenC (ls : List PL) : List Int := ls.flatMap fun l => (pShow l l.ps.length).1
theorem flat_len {f : PL → List Int} {sz : Nat} {ls : List PL} (h : ∀ l ∈ ls, (f l).length = sz) : (ls.flatMap f).length = ls.length * sz := by
  induction ls with
  | nil => simp
  | cons l ls ih =>
    have h1 := h l List.mem_cons_self
    have h2 := ih (fun q hq => h q (List.mem_cons_of_mem _ hq))
    simp only [List.flatMap_cons, List.length_append, h1, h2, List.length_cons]
    rw [Nat.add_mul, Nat.one_mul, Nat.add_comm]
theorem flat_take {f : PL → List Int} {ls : List PL} {i : Nat} {l : PL} (h : ls[i]? = some l) : (ls.take (i + 1)).flatMap f = (ls.take i).flatMap f ++ f l := by
  rw [List.take_add_one, h]; simp
theorem RM.l8s {R : RM} (h : R.ok) : ∀ l ∈ R.abs.ls, l.ws.length = 8 := fun l hl => by
  obtain ⟨x, hx, rfl⟩ := List.mem_map.1 hl
  exact h.l8 x hx
theorem lineC_one (l : PL) (r : Row) : ∀ u ∈ lineC l r, u.oneCell' = true := by
  intro u hu
  unfold lineC at hu
  rcases List.mem_append.1 hu with hu | hu
  · exact intsC_one _ u hu
  · simp only [List.cons_append, List.nil_append, List.mem_cons, List.not_mem_nil, or_false] at hu
    rcases hu with rfl | rfl | rfl
    · rfl
    · cases r <;> rfl
    · rfl
theorem abs_get {R : RM} {k : Nat} {l : PL} {r : Row} (h : R.X[k]? = some (l, r)) : R.abs.ls[k]? = some l := by simp [RM.abs, h]
theorem abs_len (R : RM) : R.abs.ls.length = R.X.length := by simp [RM.abs]

theorem image_any (R : RM) (w : World) (hm : MemIn w R) : Calls Tryd.prog 29 #[.pointer (some ⟨R.p, 0, none⟩)] w fun e w' => ∃ g, e = .returned (.slice (some ⟨g, 0, none⟩) R.X.length R.X.length) ∧ St w [] w' [(g, .cells (arrC (imgC R.abs.ls)) 40)] := by
  refine calls_walk_n (args := [.pointer (some ⟨R.p, 0, none⟩)]) Tryd.func29 rfl rfl rfl ?_
  have H := hm.start
  have hlen := hm.ok.len
  have h8s := RM.l8s hm.ok
  refine WC.seq ?_
  refine WC.region ?_
  refine WL.assign rfl rfl ?_
  refine (WL.done (WX.next ?_))
  refine WC.seq ?_
  refine WC.region ?_
  refine WL.move rfl rfl ?_
  refine WL.nilCheck rfl rfl ?_
  refine WL.fieldAddr fld161_0 rfl rfl ?_
  refine WL.load rfl (H.rd1 ty156 0 rfl rfl) rfl ?_
  refine WL.lenSlc isl156 rfl rfl ?_
  refine WL.makeS H app23 zer40' rfl rfl rfl rfl (by omega) (by omega) rfl ?_
  intro g wx hg hgg H
  rw [madeCells_zero (by omega)] at H
  refine WL.assign rfl rfl ?_
  refine (WL.done (WX.next ?_))
  refine WC.seq ?_
  refine WC.seq ?_
  refine WC.region ?_
  refine WL.move rfl rfl ?_
  refine WL.nilCheck rfl rfl ?_
  refine WL.fieldAddr fld161_0 rfl rfl ?_
  refine WL.load rfl (H.rd1 ty156 1 rfl rfl) rfl ?_
  refine WL.lenSlc isl156 rfl rfl ?_
  refine WL.move rfl rfl ?_
  refine (WL.done (WX.next ?_))
  refine WC.block ?_
  -- loop 1: changed [17] kept [3, 15, 16]
  obtain ⟨g0, hg0⟩ : ∃ g0, g0 = g := ⟨_, rfl⟩
  subst hg0
  refine WC.loop (Sub.cons (t := 3) rfl (Sub.cons (t := 15) rfl (Sub.cons (t := 16) rfl (Sub.nil _)))) (fun i : Nat => [(17, .int .i64 (i : Int))]) (fun q i wx => q = R.X.length - i ∧ i ≤ R.X.length ∧ St w (R.hp.map Prod.fst) wx ((g0, .cells (arrC (imgC (R.abs.ls.take i) ++ List.replicate ((R.X.length - i) * 9) 0)) 40) :: R.hp)) (R.X.length) (0) (Sub.cons (t := 17) (by rfl) (Sub.nil _)) (⟨rfl, by omega, H⟩) ?_
  rintro k g wx hI N hN
  obtain ⟨rfl, hg, H⟩ := hI
  refine WC.seq ?_
  refine WC.region ?_
  refine WL.bin rfl rfl binv_lss rfl ?_
  refine (WL.done (WX.next ?_))
  refine WC.seq ?_
  refine WC.cond_dec rfl (fun c1 => ?_) (fun c1 => ?_)
  ·
    refine (WC.skip (WX.next ?_))
    refine WC.seq ?_
    refine WC.block ?_
    refine WC.seq ?_
    refine WC.region ?_
    have hlt : g < R.X.length := by omega
    obtain ⟨A, l, r, B, hX, hA, hal, hok, hr, hget⟩ := hm.ok.at (k := g) hlt
    refine WL.move rfl rfl ?_
    refine WL.idxSlc (k := g) slc156 rfl rfl (by rfl) (by omega) rfl ?_
    refine WL.load rfl (Rd.lineAll ty158 (RM.line_at (L := [_]) hX H) (by omega) hok.1) rfl ?_
    refine WL.alloc H zer158 rfl ?_
    intro b5 wx hb5 hge5 H
    refine WL.assign rfl rfl ?_
    refine WL.storeAt H ty158 0 rfl rfl rfl (by show (lineC l r).toArray.size = 11; simp [lineC_length hok.1]) (fun u hu => lineC_one l r u (by simpa [Value.cells] using hu)) (Nat.le_refl 11) ?_
    intro wx H
    replace H := H.castH (H' := (b5, .cells (lineL [] l r []) 158) :: (g0, .cells (arrC (imgC (R.abs.ls.take g) ++ List.replicate ((R.X.length - g) * 9) 0)) 40) :: R.hp) (by
      have e1 : wr #[.int .i64 0, .int .i64 0, .int .i64 0, .int .i64 0, .int .i64 0, .int .i64 0, .int .i64 0, .int .i64 0, .int .i64 0, .slice none 0 0, .int .i64 0] 0 (lineC l r).toArray.toList = lineL [] l r [] := by
        rw [wr_full (by simp [lineC_length hok.1])]; simp [lineL]
      rw [← e1]; rfl)
    refine (WL.done (WX.next ?_))
    refine WC.region ?_
    refine WL.move rfl rfl ?_
    refine WL.move rfl rfl ?_
    refine WL.fieldAddr fld158_0 rfl rfl ?_
    refine WL.load rfl (Rd.lineLn ty40 (a := []) (c := []) (H.blk 0 rfl) rfl hok.1) rfl ?_
    refine WL.idxSlc (k := g) slc23 rfl rfl (by rfl) (by omega) rfl ?_
    have himl : (imgC (R.abs.ls.take g)).length = g * 9 := by
      rw [imgC, flat_len (sz := 9) (fun l hl => by simp [h8s l (List.mem_of_mem_take hl)]), List.length_take, abs_len]
      congr 1; omega
    have hsz : 0 + g * 9 + 9 ≤ (arrC (imgC (R.abs.ls.take g) ++ List.replicate ((R.X.length - g) * 9) 0)).size := by
      rw [arrC_size, List.length_append, List.length_replicate, himl]; omega
    refine WL.storeAt (v := arr (l.ws ++ [l.c])) H ty40 1 rfl rfl rfl (by rw [arr_cells, arrC_size]; simp [hok.1]) (arrC_one _) hsz ?_
    intro wx H
    replace H := H.castH (H' := (b5, .cells (lineL [] l r []) 158) :: (g0, .cells (arrC (imgC (R.abs.ls.take (g + 1)) ++ List.replicate ((R.X.length - (g + 1)) * 9) 0)) 40) :: R.hp) (by
      have e1 := wr_slot (a := imgC (R.abs.ls.take g)) (v := l.ws ++ [l.c]) (sz := 9) (m := R.X.length - (g + 1)) (o := 0 + g * 9) (by simp [hok.1]) (by omega)
      have e2 : imgC (R.abs.ls.take (g + 1)) = imgC (R.abs.ls.take g) ++ (l.ws ++ [l.c]) := flat_take (abs_get hget)
      rw [e2, ← e1, show R.X.length - (g + 1) + 1 = R.X.length - g from by omega]; rfl)
    refine (WL.done (WX.block_normal (WX.next ?_)))
    refine WC.region ?_
    refine WL.bin rfl rfl (iadd (by omega) (by omega)) rfl ?_
    refine WL.move rfl rfl ?_
    refine (WL.done (WX.round ?_))
    exact hN _ (g+1) _ _ (by omega) ⟨rfl, by omega, H.tail⟩ (Sub.cons (t := 17) (by rfl) (Sub.nil _)) (Sub.cons (t := 3) rfl (Sub.cons (t := 15) rfl (Sub.cons (t := 16) rfl (Sub.nil _))))
  ·
    refine (WC.exit (WX.then_exit (WX.then_exit (WX.block_exit (WX.next ?_)))))
    refine WC.seq ?_
    refine WC.region ?_
    refine WL.move rfl rfl ?_
    refine WL.assign rfl rfl ?_
    refine (WL.done (WX.next ?_))
    refine (WC.ret ?_)
    refine ret_one rfl rfl ?_
    obtain rfl : g = R.X.length := by omega
    have e1 : R.abs.ls.take R.X.length = R.abs.ls := List.take_of_length_le (by rw [abs_len]; omega)
    rw [e1, Nat.sub_self, Nat.zero_mul, List.replicate_zero, List.append_nil] at H
    exact ⟨g0, rfl, St.sameL (L := [_]) H hm.sat⟩

end Go.Proofs.YtkncbggnaobgeaaDoor

/- Walks of functions of the program; printed by a program of this session (walk.py) out of hand-written hints. -/
namespace Go.Proofs.YtkncbggnaobgeaaDoor
open Go.RowKit
set_option linter.unusedVariables false
set_option linter.unusedSimpArgs false
set_option maxRecDepth 100000

theorem seen_any (R : RM) (w : World) (hm : MemIn w R) (hL : L64 w) : Calls Tryd.prog 34 #[.pointer (some ⟨R.p, 0, none⟩)] w fun e w' => ∃ g, e = .returned (.slice (some ⟨g, 0, none⟩) R.X.length R.X.length) ∧ St w [] w' [(g, .cells (arrC (seenC R.abs.ls)) 38)] := by
  refine calls_walk_n (args := [.pointer (some ⟨R.p, 0, none⟩)]) Tryd.func34 rfl rfl rfl ?_
  have H := hm.start
  have hlen := hm.ok.len
  have h8s := RM.l8s hm.ok
  have h3lt : 3 < w.heap.size := by obtain ⟨t, fr, h⟩ := hL; exact lt_of_some h
  refine WC.seq ?_
  refine WC.region ?_
  refine WL.assign rfl rfl ?_
  refine (WL.done (WX.next ?_))
  refine WC.seq ?_
  refine WC.region ?_
  refine WL.move rfl rfl ?_
  refine WL.nilCheck rfl rfl ?_
  refine WL.fieldAddr fld161_0 rfl rfl ?_
  refine WL.load rfl (H.rd1 ty156 0 rfl rfl) rfl ?_
  refine WL.lenSlc isl156 rfl rfl ?_
  refine WL.makeS H app45 zer38' rfl rfl rfl rfl (by omega) (by omega) rfl ?_
  intro g wx hg hgg H
  rw [madeCells_zero (by omega)] at H
  refine WL.assign rfl rfl ?_
  refine (WL.done (WX.next ?_))
  refine WC.seq ?_
  refine WC.seq ?_
  refine WC.region ?_
  refine WL.move rfl rfl ?_
  refine WL.nilCheck rfl rfl ?_
  refine WL.fieldAddr fld161_0 rfl rfl ?_
  refine WL.load rfl (H.rd1 ty156 1 rfl rfl) rfl ?_
  refine WL.lenSlc isl156 rfl rfl ?_
  refine WL.move rfl rfl ?_
  refine (WL.done (WX.next ?_))
  refine WC.block ?_
  -- loop 1: changed [16] kept [0, 3, 15]
  obtain ⟨g0, hg0⟩ : ∃ g0, g0 = g := ⟨_, rfl⟩
  subst hg0
  refine WC.loop (Sub.cons (t := 0) rfl (Sub.cons (t := 3) rfl (Sub.cons (t := 15) rfl (Sub.nil _)))) (fun i : Nat => [(16, .int .i64 (i : Int))]) (fun q i wx => q = R.X.length - i ∧ i ≤ R.X.length ∧ St w (R.hp.map Prod.fst) wx ((g0, .cells (arrC (seenC (R.abs.ls.take i) ++ List.replicate ((R.X.length - i) * 8) 0)) 38) :: R.hp)) (R.X.length) (0) (Sub.cons (t := 16) (by rfl) (Sub.nil _)) (⟨rfl, by omega, H⟩) ?_
  rintro k g wx hI N hN
  obtain ⟨rfl, hg, H⟩ := hI
  refine WC.seq ?_
  refine WC.region ?_
  refine WL.bin rfl rfl binv_lss rfl ?_
  refine (WL.done (WX.next ?_))
  refine WC.seq ?_
  refine WC.cond_dec rfl (fun c1 => ?_) (fun c1 => ?_)
  ·
    refine (WC.skip (WX.next ?_))
    refine WC.seq ?_
    refine WC.block ?_
    refine WC.seq ?_
    refine WC.region ?_
    have hlt : g < R.X.length := by omega
    obtain ⟨A, l, r, B, hX, hA, hal, hok, hr, hget⟩ := hm.ok.at (k := g) hlt
    have hgn : g0 ∉ R.hp.map Prod.fst := (List.nodup_cons.1 H.nd).1
    have hlbn : R.lb ∉ [g0] := fun h => hgn (by rw [← List.mem_singleton.1 h]; exact List.mem_map_of_mem (List.mem_cons_of_mem _ List.mem_cons_self : (R.lb, _) ∈ R.hp))
    have hrn : ∀ q ∈ r.hp 111, q.1 ∉ [g0] := fun q hq h => hgn (by rw [← List.mem_singleton.1 h]; exact List.mem_map_of_mem (RM.row_mem hX q hq))
    have h3g : 3 ∉ [g0] := fun h => by have := List.mem_singleton.1 h; omega
    refine WL.move rfl rfl ?_
    refine WL.assign rfl rfl ?_
    refine (WL.done (WX.next ?_))
    replace H := H.drew
    refine WC.held (SX (World.drew wx) [g0]) (by kernel_rfl) ?_
    generalize World.drew wx = wb at H ⊢
    have HB := H.single 0 rfl
    refine WH.take 0 rfl (by kernel_rfl) (by kernel_rfl) (by kernel_rfl) (fun _ _ _ h => h) ⟨_, HB⟩ (fun w' hS => EX.move rfl) rfl ?_
    refine WH.take 1 rfl (by kernel_rfl) (by kernel_rfl) (by kernel_rfl) (fun _ _ _ h => h) ⟨_, HB⟩ (fun w' hS => EX.move rfl) rfl ?_
    refine WH.take 2 rfl (by kernel_rfl) (by kernel_rfl) (by kernel_rfl) (fun _ _ _ h => h) ⟨_, HB⟩ (fun w' hS => EX.move rfl) rfl ?_
    refine WH.take 3 rfl (by kernel_rfl) (by kernel_rfl) (by kernel_rfl) (fun _ _ _ h => h) ⟨_, HB⟩ (fun w' hS => EX.nilCheck rfl) rfl ?_
    refine WH.take 4 rfl (by kernel_rfl) (by kernel_rfl) (by kernel_rfl) (fun _ _ _ h => h) ⟨_, HB⟩ (fun w' hS => EX.fieldAddr fld161_0 rfl) rfl ?_
    refine WH.take 5 rfl (by kernel_rfl) (by kernel_rfl) (by kernel_rfl) (fun _ _ _ h => h) ⟨_, HB⟩ (fun w' hS => EX.load rfl (hS.rd1 ty156 (H.blk 1 rfl) (by simpa using H.ne 1 0 rfl rfl rfl) rfl)) rfl ?_
    refine WH.take 6 rfl (by kernel_rfl) (by kernel_rfl) (by kernel_rfl) (fun _ _ _ h => h) ⟨_, HB⟩ (fun w' hS => EX.move rfl) rfl ?_
    refine WH.take 7 rfl (by kernel_rfl) (by kernel_rfl) (by kernel_rfl) (fun _ _ _ h => h) ⟨_, HB⟩ (fun w' hS => EX.idxSlc (k := g) slc156 rfl rfl (by rfl) (by omega)) rfl ?_
    refine WH.take 8 rfl (by kernel_rfl) (by kernel_rfl) (by kernel_rfl) (fun _ _ _ h => h) ⟨_, HB⟩ (fun w' hS => EX.move rfl) rfl ?_
    refine WH.take 9 rfl (by kernel_rfl) (by kernel_rfl) (by kernel_rfl) (fun _ _ _ h => h) ⟨_, HB⟩ (fun w' hS => EX.nilCheck rfl) rfl ?_
    refine WH.take 10 rfl (by kernel_rfl) (by kernel_rfl) (by kernel_rfl) (fun _ _ _ h => h) ⟨_, HB⟩ (fun w' hS => EX.fieldAddr fld161_0 rfl) rfl ?_
    refine WH.take 11 rfl (by kernel_rfl) (by kernel_rfl) (by kernel_rfl) (fun _ _ _ h => h) ⟨_, HB⟩ (fun w' hS => EX.load rfl (hS.rd1 ty156 (H.blk 1 rfl) (by simpa using H.ne 1 0 rfl rfl rfl) rfl)) rfl ?_
    refine WH.take 12 rfl (by kernel_rfl) (by kernel_rfl) (by kernel_rfl) (fun _ _ _ h => h) ⟨_, HB⟩ (fun w' hS => EX.move rfl) rfl ?_
    refine WH.take 13 rfl (by kernel_rfl) (by kernel_rfl) (by kernel_rfl) (fun _ _ _ h => h) ⟨_, HB⟩ (fun w' hS => EX.idxSlc (k := g) slc156 rfl rfl (by rfl) (by omega)) rfl ?_
    refine WH.take 14 rfl (by kernel_rfl) (by kernel_rfl) (by kernel_rfl) (fun _ _ _ h => h) ⟨_, HB⟩ (fun w' hS => EX.fieldAddr fld158_1 rfl) rfl ?_
    refine WH.take 15 rfl (by kernel_rfl) (by kernel_rfl) (by kernel_rfl) (fun _ _ _ h => h) ⟨_, HB⟩ (fun w' hS => EX.load rfl (Rd.lineS ty52 (hS.block (RM.line_at (L := [_]) hX H) hlbn) (by omega) hok.1)) rfl ?_
    refine WH.take 16 rfl (by kernel_rfl) (by kernel_rfl) (by kernel_rfl) (fun _ _ _ h => h) ⟨_, HB⟩ (fun w' hS => EX.lenR isl52 rfl) rfl ?_
    refine WH.hard 17 rfl (by kernel_rfl) ?_
    refine WL.call call105 rfl rfl ?_
    refine Calls.mono (shows_any R.lb (0 + g * 11) (linesC A) l r _ l.ps.length _ (HB.oldBlock (RM.line_at (L := [_]) hX H) hlbn) (by omega) hok hr (fun q hq => HB.oldBlock (H.sat q (List.mem_cons_of_mem _ (RM.row_mem hX q hq))) (hrn q hq)) (Nat.le_refl _) ((hL.of H hm.n3).of HB h3g)) ?_
    rintro _ wx ⟨rfl, Hc⟩
    refine ⟨_, rfl, ?_⟩
    replace HB := HB.call0 Hc
    refine WL.done (WX.heldOn ⟨_, HB⟩ ?_)
    refine WH.take 18 rfl (by kernel_rfl) (by kernel_rfl) (by kernel_rfl) (fun _ _ _ h => h) ⟨_, HB⟩ (fun w' hS => EX.move rfl) rfl ?_
    refine WH.take 19 rfl (by kernel_rfl) (by kernel_rfl) (by kernel_rfl) (fun _ _ _ h => h) ⟨_, HB⟩ (fun w' hS => EX.extract rfl rfl) rfl ?_
    refine WH.take 20 rfl (by kernel_rfl) (by kernel_rfl) (by kernel_rfl) (fun _ _ _ h => h) ⟨_, HB⟩ (fun w' hS => EX.extract rfl rfl) rfl ?_
    refine WH.take 21 rfl (by kernel_rfl) (by kernel_rfl) (by kernel_rfl) (fun _ _ _ h => h) ⟨_, HB⟩ (fun w' hS => EX.idxSlc (k := g) slc45 rfl rfl (by rfl) (by omega)) rfl ?_
    refine WH.hard 22 rfl (by kernel_rfl) ?_
    have himl : (seenC (R.abs.ls.take g)).length = g * 8 := by
      rw [seenC, flat_len (sz := 8) (fun l hl => pShow_len (h8s l (List.mem_of_mem_take hl))), List.length_take, abs_len]
      congr 1; omega
    have hsz : 0 + g * 8 + 8 ≤ (arrC (seenC (R.abs.ls.take g) ++ List.replicate ((R.X.length - g) * 8) 0)).size := by
      rw [arrC_size, List.length_append, List.length_replicate, himl]; omega
    refine WL.storeAt (v := arr (pShow l l.ps.length).1) HB ty38 0 rfl rfl rfl (by rw [arr_cells, arrC_size]; exact pShow_len hok.1) (arrC_one _) hsz ?_
    intro wx HB
    replace HB := HB.castH (H' := [(g0, .cells (arrC (seenC (R.abs.ls.take (g + 1)) ++ List.replicate ((R.X.length - (g + 1)) * 8) 0)) 38)]) (by
      have e1 := wr_slot (a := seenC (R.abs.ls.take g)) (v := (pShow l l.ps.length).1) (sz := 8) (m := R.X.length - (g + 1)) (o := 0 + g * 8) (pShow_len hok.1) (by omega)
      have e2 : seenC (R.abs.ls.take (g + 1)) = seenC (R.abs.ls.take g) ++ (pShow l l.ps.length).1 := flat_take (abs_get hget)
      rw [e2, ← e1, show R.X.length - (g + 1) + 1 = R.X.length - g from by omega]; rfl)
    refine WL.done (WX.heldOn ⟨_, HB⟩ ?_)
    refine WH.done (by kernel_rfl) ?_
    replace H := H.back (N := []) 0 rfl HB rfl
    refine (WX.block_normal (WX.next ?_))
    refine WC.region ?_
    refine WL.bin rfl rfl (iadd (by omega) (by omega)) rfl ?_
    refine WL.move rfl rfl ?_
    refine (WL.done (WX.round ?_))
    exact hN _ (g+1) _ _ (by omega) ⟨rfl, by omega, H⟩ (Sub.cons (t := 16) (by rfl) (Sub.nil _)) (Sub.cons (t := 0) rfl (Sub.cons (t := 3) rfl (Sub.cons (t := 15) rfl (Sub.nil _))))
  ·
    refine (WC.exit (WX.then_exit (WX.then_exit (WX.block_exit (WX.next ?_)))))
    refine WC.seq ?_
    refine WC.region ?_
    refine WL.move rfl rfl ?_
    refine WL.assign rfl rfl ?_
    refine (WL.done (WX.next ?_))
    refine (WC.ret ?_)
    refine ret_one rfl rfl ?_
    obtain rfl : g = R.X.length := by omega
    have e1 : R.abs.ls.take R.X.length = R.abs.ls := List.take_of_length_le (by rw [abs_len]; omega)
    rw [e1, Nat.sub_self, Nat.zero_mul, List.replicate_zero, List.append_nil] at H
    exact ⟨g0, rfl, St.sameL (L := [_]) H hm.sat⟩

end Go.Proofs.YtkncbggnaobgeaaDoor

/- Walks of functions of the program; printed by a program of this session (walk.py) out of hand-written hints. -/
namespace Go.Proofs.YtkncbggnaobgeaaDoor
open Go.RowKit
set_option linter.unusedVariables false
set_option linter.unusedSimpArgs false
set_option maxRecDepth 100000

theorem call165 : callB Tryd.prog 165 = true := by kernel_rfl
def pl0 : PL := { ws := zeros8, c := 0, ps := [], mark := 0 }
theorem enc_zero : enc zeros8 = 0 := by decide +kernel
theorem pl0_ok : pl0.ok := ⟨rfl, by decide, by decide, Nat.le_refl _, by simp [pl0]⟩
theorem flat_rep {α β : Type} (f : α → List β) (x : α) (k i : Nat) (hi : i < k * (f x).length) : ((List.replicate k x).flatMap f)[i]? = (f x)[i % (f x).length]? := by
  induction k generalizing i with
  | zero => omega
  | succ k ih =>
    simp only [List.replicate_succ, List.flatMap_cons]
    rw [Nat.add_mul, Nat.one_mul] at hi
    by_cases hl : i < (f x).length
    · rw [List.getElem?_append_left hl, Nat.mod_eq_of_lt hl]
    · rw [List.getElem?_append_right (by omega), ih _ (by omega)]
      congr 1
      rw [Nat.mod_eq_sub_mod (by omega : (f x).length ≤ i)]
theorem flat_rep_len {α β : Type} (f : α → List β) (x : α) (k : Nat) : ((List.replicate k x).flatMap f).length = k * (f x).length := by
  induction k with
  | zero => simp
  | succ k ih => simp only [List.replicate_succ, List.flatMap_cons, List.length_append, ih]; rw [Nat.add_mul, Nat.one_mul, Nat.add_comm]
theorem new_cells (k : Nat) : madeCells #[.int .i64 0, .int .i64 0, .int .i64 0, .int .i64 0, .int .i64 0, .int .i64 0, .int .i64 0, .int .i64 0, .int .i64 0, .slice none 0 0, .int .i64 0] (k * 11) = (linesC (List.replicate k (pl0, Row.none))).toArray := by
  apply Array.ext_getElem?
  intro i
  unfold madeCells
  refine Eq.trans ?_ (by simp : (linesC (List.replicate k (pl0, Row.none)))[i]? = (linesC (List.replicate k (pl0, Row.none))).toArray[i]?)
  have hl : (lineC pl0 Row.none).length = 11 := rfl
  by_cases hi : i < k * 11
  · have h1 := flat_rep (fun x : PL × Row => lineC x.1 x.2) (pl0, Row.none) k i (by simpa [hl] using hi)
    unfold linesC
    rw [h1]
    have hm : i % 11 < 11 := Nat.mod_lt _ (by omega)
    show _ = (lineC pl0 Row.none)[i % 11]?
    have e1 : (lineC pl0 Row.none) = [Value.int .i64 0, .int .i64 0, .int .i64 0, .int .i64 0, .int .i64 0, .int .i64 0, .int .i64 0, .int .i64 0, .int .i64 0, .slice none 0 0, .int .i64 0] := rfl
    rw [e1]
    have hg : ∀ j, j < 11 → (some (#[Value.int .i64 0, .int .i64 0, .int .i64 0, .int .i64 0, .int .i64 0, .int .i64 0, .int .i64 0, .int .i64 0, .int .i64 0, .slice none 0 0, .int .i64 0][j]!)) = [Value.int .i64 0, .int .i64 0, .int .i64 0, .int .i64 0, .int .i64 0, .int .i64 0, .int .i64 0, .int .i64 0, .int .i64 0, .slice none 0 0, .int .i64 0][j]? := by
      intro j hj
      match j, hj with
      | 0, _ => rfl
      | 1, _ => rfl
      | 2, _ => rfl
      | 3, _ => rfl
      | 4, _ => rfl
      | 5, _ => rfl
      | 6, _ => rfl
      | 7, _ => rfl
      | 8, _ => rfl
      | 9, _ => rfl
      | 10, _ => rfl
    rw [← hg _ hm]
    simp [hi]
  · have h2 := flat_rep_len (fun x : PL × Row => lineC x.1 x.2) (pl0, Row.none) k
    have : (linesC (List.replicate k (pl0, Row.none)))[i]? = none := by
      unfold linesC
      rw [List.getElem?_eq_none]
      rw [h2, hl]; omega
    rw [this]
    simp [hi]
theorem pendHp_rep (ls : List PL) : pendHp (ls.map fun l => (l, Row.none)) = [] := by
  unfold pendHp
  rw [List.flatMap_eq_nil_iff]
  intro x hx
  obtain ⟨l, _, rfl⟩ := List.mem_map.1 hx
  rfl
/-- A memory just made. -/
def RM.fresh (p lb mb : Nat) (ls : List PL) : RM := { p := p, lb := lb, lcap := ls.length, junk := [], mb := mb, X := ls.map fun l => (l, Row.none), mp := [], clk := 0, span := 0, evs := [], er := .none }
theorem RM.fresh_hp (p lb mb : Nat) (ls : List PL) : (RM.fresh p lb mb ls).hp = [(p, structO lb ls.length ls.length mb 0 .none 0), (lb, .cells (linesC (ls.map fun l => (l, Row.none))).toArray 158), (mb, mO [] 0)] := by
  unfold RM.hp RM.fresh
  simp [pendHp_rep, Row.hp]
theorem RM.fresh_ok {p lb mb : Nat} {ls : List PL} (h1 : 1 ≤ ls.length ∧ ls.length ≤ 4096) (h2 : ∀ l ∈ ls, l.ok ∧ l.ps = []) : (RM.fresh p lb mb ls).ok := by
  refine ⟨by simpa [RM.fresh] using h1, by simp [RM.fresh, maxLen]; omega, by simp [RM.fresh], ?_, ⟨by simp [RM.fresh], by simp [RM.fresh], by simp [RM.fresh]⟩, ?_, by simp [RM.fresh], ⟨rfl, rfl⟩, by simp [RM.fresh]⟩
  · intro x hx
    obtain ⟨l, hl, rfl⟩ := List.mem_map.1 hx
    obtain ⟨k1, k2⟩ := h2 l hl
    refine ⟨k1, ?_⟩
    show Row.ok .none 2 l.ps.length (flatP l.ps)
    rw [k2]
    exact ⟨rfl, rfl⟩
  · intro n
    constructor
    · intro h; simp [RM.fresh] at h
    · rintro ⟨_, x, hx, hp⟩
      exfalso
      have hm := List.mem_of_getElem? hx
      obtain ⟨l, hl, rfl⟩ := List.mem_map.1 hm
      exact hp (h2 l hl).2
theorem RM.fresh_abs (p lb mb : Nat) (ls : List PL) : (RM.fresh p lb mb ls).abs = { ls := ls, span := 0, evs := [] } := by
  simp [RM.abs, RM.fresh, Function.comp_def]

theorem words1_any (x : Int) (w : World) : Calls Tryd.prog 165 #[.int .i64 x] w fun e w' => e = .returned (.bool (!isWord x)) ∧ w' = w := by
  refine calls_walk_n (args := [.int .i64 x]) Tryd.func165 rfl rfl rfl ?_
  refine WC.seq ?_
  refine WC.region ?_
  refine WL.assign rfl rfl ?_
  refine (WL.done (WX.next ?_))
  refine WC.seq ?_
  refine WC.region ?_
  refine WL.move rfl rfl ?_
  refine WL.call call166 rfl rfl ?_
  refine Calls.mono (word_any _ _) ?_
  rintro _ wx ⟨rfl, rfl⟩
  refine ⟨_, rfl, ?_⟩
  refine WL.notOp rfl rfl ?_
  refine WL.assign rfl rfl ?_
  refine (WL.done (WX.next ?_))
  refine (WC.ret ?_)
  refine ret_one rfl rfl ?_
  exact ⟨rfl, rfl⟩

theorem index_any (ws : List Int) (b m cap : Nat) (hmw : m = ws.length) (t : TypeId) (hl : ws.length ≤ 1000) (w : World) (hb : w.heap[b]? = some (.cells (arrC ws) t)) : Calls Tryd.prog 188 #[.slice (some ⟨b, 0, none⟩) m cap, .func (.func 165) #[] #[]] w fun e w' => ∃ z : Int, e = .returned (.int .i64 z) ∧ decide (0 ≤ z) = (!isWords ws) ∧ w' = w := by
  subst hmw
  refine calls_walk_n (args := [.slice (some ⟨b, 0, none⟩) ws.length cap, .func (.func 165) #[] #[]]) Tryd.func188 rfl rfl rfl ?_
  refine WC.seq ?_
  refine WC.region ?_
  refine WL.assign rfl rfl ?_
  refine (WL.done (WX.next ?_))
  refine WC.seq ?_
  refine WC.seq ?_
  refine WC.region ?_
  refine WL.move rfl rfl ?_
  refine WL.lenSlc isl43 rfl rfl ?_
  refine WL.move rfl rfl ?_
  refine (WL.done (WX.next ?_))
  refine WC.block ?_
  -- loop 1: changed [8] kept [0, 1, 7]
  refine WC.loop (Sub.cons (t := 0) rfl (Sub.cons (t := 1) rfl (Sub.cons (t := 7) rfl (Sub.nil _)))) (fun i : Nat => [(8, .int .i64 (i : Int))]) (fun q i wx => q = ws.length - i ∧ i ≤ ws.length ∧ (ws.take i).all isWord = true ∧ wx = w) (ws.length) (0) (Sub.cons (t := 8) (by rfl) (Sub.nil _)) (⟨rfl, by omega, by simp, rfl⟩) ?_
  rintro k g wx hI N hN
  obtain ⟨rfl, hg, hall, rfl⟩ := hI
  refine WC.seq ?_
  refine WC.region ?_
  refine WL.bin rfl rfl binv_lss rfl ?_
  refine (WL.done (WX.next ?_))
  refine WC.seq ?_
  refine WC.cond_dec rfl (fun c1 => ?_) (fun c1 => ?_)
  ·
    refine (WC.skip (WX.next ?_))
    refine WC.seq ?_
    refine WC.block ?_
    refine WC.seq ?_
    refine WC.region ?_
    refine WL.move rfl rfl ?_
    refine WL.assign rfl rfl ?_
    refine (WL.done (WX.next ?_))
    refine WC.seq ?_
    refine WC.region ?_
    refine WL.move rfl rfl ?_
    refine WL.move rfl rfl ?_
    refine WL.move rfl rfl ?_
    refine WL.idxSlc (k := g) slc43 rfl rfl (by rfl) (by omega) rfl ?_
    refine WL.load rfl (Rd.one ty3 (by rw [cell_of hb]; exact arrC_get_lt (by omega))) rfl ?_
    refine WL.callVal (fi := []) (ca := []) call165 rfl rfl rfl ?_
    refine Calls.mono (words1_any _ _) ?_
    rintro _ wx ⟨rfl, hwx⟩
    rw [hwx]
    refine ⟨_, rfl, ?_⟩
    refine (WL.done (WX.next ?_))
    refine WC.cond rfl (fun c2 => ?_) (fun c2 => ?_)
    ·
      refine WC.seq ?_
      refine WC.region ?_
      refine WL.move rfl rfl ?_
      refine WL.assign rfl rfl ?_
      refine (WL.done (WX.next ?_))
      refine (WC.ret (WX.block_ret (WX.then_ret (WX.then_ret (WX.block_ret (WX.then_ret ?_))))))
      refine ret_one rfl rfl ?_
      refine ⟨_, rfl, ?_, rfl⟩
      have h : isWords ws = false := all_false_of (g := g) (by omega) (by have h := c2; simp only [Nat.zero_add, Nat.mul_one] at h; simpa using h)
      rw [h]; simp
    ·
      refine (WC.skip (WX.block_normal (WX.next ?_)))
      refine WC.region ?_
      refine WL.bin rfl rfl (iadd (by omega) (by omega)) rfl ?_
      refine WL.move rfl rfl ?_
      refine (WL.done (WX.round ?_))
      exact hN _ (g+1) _ _ (by omega) ⟨rfl, by omega, take_all_succ (by omega) hall (by have h := c2; simp only [Nat.zero_add, Nat.mul_one] at h; simpa using h), rfl⟩ (Sub.cons (t := 8) (by rfl) (Sub.nil _)) (Sub.cons (t := 0) rfl (Sub.cons (t := 1) rfl (Sub.cons (t := 7) rfl (Sub.nil _))))
  ·
    refine (WC.exit (WX.then_exit (WX.then_exit (WX.block_exit (WX.next ?_)))))
    refine WC.seq ?_
    refine WC.region ?_
    refine WL.assign rfl rfl ?_
    refine (WL.done (WX.next ?_))
    refine (WC.ret ?_)
    refine ret_one rfl rfl ?_
    refine ⟨_, rfl, ?_, rfl⟩
    have h : isWords ws = true := by
      obtain rfl : g = ws.length := by omega
      exact all_of_take hall
    rw [h]; rfl

theorem contains_any (ws : List Int) (b m cap : Nat) (hmw : m = ws.length) (t : TypeId) (hl : ws.length ≤ 1000) (w : World) (hb : w.heap[b]? = some (.cells (arrC ws) t)) : Calls Tryd.prog 164 #[.slice (some ⟨b, 0, none⟩) m cap, .func (.func 165) #[] #[]] w fun e w' => e = .returned (.bool (!isWords ws)) ∧ w' = w := by
  subst hmw
  refine calls_walk_n (args := [.slice (some ⟨b, 0, none⟩) ws.length cap, .func (.func 165) #[] #[]]) Tryd.func164 rfl rfl rfl ?_
  refine WC.seq ?_
  refine WC.region ?_
  refine WL.assign rfl rfl ?_
  refine (WL.done (WX.next ?_))
  refine WC.seq ?_
  refine WC.region ?_
  refine WL.move rfl rfl ?_
  refine WL.move rfl rfl ?_
  refine WL.call call188 rfl rfl ?_
  refine Calls.mono (index_any ws b _ cap rfl t hl _ hb) ?_
  rintro _ wx ⟨z, rfl, hz, rfl⟩
  refine ⟨_, rfl, ?_⟩
  refine WL.bin rfl rfl binv_geq rfl ?_
  refine WL.assign rfl rfl ?_
  refine (WL.done (WX.next ?_))
  refine (WC.ret ?_)
  refine ret_one rfl rfl ?_
  exact ⟨by rw [← hz], rfl⟩

theorem words_any (ws : List Int) (h8 : ws.length = 8) (w : World) : Calls Tryd.prog 98 #[arr ws] w fun e w' => e = .returned (.bool (isWords ws)) ∧ St w [] w' [] := by
  refine calls_walk_n (args := [arr ws]) Tryd.func98 rfl rfl rfl ?_
  have H := St.refl w
  refine WC.seq ?_
  refine WC.region ?_
  refine WL.boxArr H rfl rfl ?_
  intro b1 wx hb1 hge1 H
  refine WL.assign rfl rfl ?_
  refine (WL.done (WX.next ?_))
  refine WC.seq ?_
  refine WC.region ?_
  refine WL.sliceArr arr38 rfl (by omega) rfl ?_
  refine WL.call call164 rfl rfl ?_
  refine Calls.mono (contains_any ws b1 8 8 h8.symm 38 (by omega) _ (H.blk 0 rfl)) ?_
  rintro _ wx ⟨rfl, rfl⟩
  refine ⟨_, rfl, ?_⟩
  refine WL.notOp rfl rfl ?_
  refine WL.assign rfl rfl ?_
  refine (WL.done (WX.next ?_))
  refine (WC.ret ?_)
  refine ret_one rfl rfl ?_
  exact ⟨by rw [Bool.not_not], H.tail⟩

theorem new_any (n : Int) (w : World) (hL : L64 w) : Calls Tryd.prog 23 #[.int .i64 n] w fun e w' => if 1 ≤ n ∧ n ≤ 4096 then ∃ p lb mb, e = .returned (.pointer (some ⟨p, 0, none⟩)) ∧ St w [] w' (RM.fresh p lb mb (List.replicate n.toNat pl0)).hp else e = .returned (.pointer none) ∧ St w [] w' [] := by
  refine calls_walk_n (args := [.int .i64 n]) Tryd.func23 rfl rfl rfl ?_
  have H := St.refl w
  refine WC.seq ?_
  refine WC.region ?_
  refine WL.assign rfl rfl ?_
  refine (WL.done (WX.next ?_))
  refine WC.seq ?_
  refine WC.seq ?_
  refine WC.region ?_
  refine WL.move rfl rfl ?_
  refine WL.bin rfl rfl binv_lss rfl ?_
  refine WL.move rfl rfl ?_
  refine WL.splitD (t := 8) rfl (fun g1 => ?_) (fun g1 => ?_)
  ·
    refine WL.no rfl rfl rfl ?_
    refine WL.no rfl rfl rfl ?_
    refine WL.pickT rfl rfl rfl ?_
    refine (WL.done (WX.next ?_))
    refine WC.cond_true rfl (rfl) ?_
    refine WC.seq ?_
    refine WC.region ?_
    refine WL.assign rfl rfl ?_
    refine (WL.done (WX.next ?_))
    refine (WC.ret (WX.then_ret ?_))
    refine ret_one rfl rfl ?_
    rw [if_neg (by omega)]
    exact ⟨rfl, H⟩
  ·
    refine WL.yes rfl rfl ?_
    refine WL.move rfl rfl ?_
    refine WL.yes rfl rfl ?_
    refine WL.bin rfl rfl binv_gtr rfl ?_
    refine WL.pickF rfl rfl rfl ?_
    refine (WL.done (WX.next ?_))
    refine WC.cond_dec rfl (fun c2 => ?_) (fun c2 => ?_)
    ·
      refine WC.seq ?_
      refine WC.region ?_
      refine WL.assign rfl rfl ?_
      refine (WL.done (WX.next ?_))
      refine (WC.ret (WX.then_ret ?_))
      refine ret_one rfl rfl ?_
      rw [if_neg (by omega)]
      exact ⟨rfl, H⟩
    ·
      refine (WC.skip (WX.next ?_))
      refine WC.seq ?_
      refine WC.region ?_
      obtain ⟨m, rfl⟩ : ∃ m : Nat, n = (m : Int) := ⟨n.toNat, by omega⟩
      have hX0 : (List.replicate m pl0).map (fun l => (l, Row.none)) = List.replicate m (pl0, Row.none) := by simp
      refine WL.move rfl rfl ?_
      refine WL.makeS H app156 zer158 rfl rfl rfl rfl (by omega) (by omega) rfl ?_
      intro g wx hg hgg H
      rw [new_cells] at H
      refine WL.assign rfl rfl ?_
      refine (WL.done (WX.next ?_))
      refine WC.seq ?_
      refine WC.region ?_
      refine WL.buildA (z := arrC zeros8) arr38 zer38 rfl rfl rfl ?_
      refine WL.call call97 rfl rfl ?_
      refine Calls.mono (encode_any zeros8 rfl _ (hL.of0 H)) ?_
      rintro _ wx ⟨rfl, Hc⟩
      refine ⟨_, rfl, ?_⟩
      replace H := H.call0 Hc
      refine WL.assign rfl rfl ?_
      refine (WL.done (WX.next ?_))
      refine WC.seq ?_
      refine WC.seq ?_
      refine WC.region ?_
      refine WL.move rfl rfl ?_
      refine WL.lenSlc isl156 rfl rfl ?_
      refine WL.move rfl rfl ?_
      refine (WL.done (WX.next ?_))
      refine WC.block ?_
      -- loop 1: changed [18] kept [3, 4, 17]
      obtain ⟨g0, hg0⟩ : ∃ g0, g0 = g := ⟨_, rfl⟩
      subst hg0
      refine WC.loop (Sub.cons (t := 3) rfl (Sub.cons (t := 4) rfl (Sub.cons (t := 17) rfl (Sub.nil _)))) (fun i : Nat => [(18, .int .i64 (i : Int))]) (fun q i wx => q = m - i ∧ i ≤ m ∧ St w [] wx [(g0, .cells (linesC (List.replicate m (pl0, Row.none))).toArray 158)]) (m) (0) (Sub.cons (t := 18) (by rfl) (Sub.nil _)) (⟨rfl, by omega, H⟩) ?_
      rintro k g wx hI N hN
      obtain ⟨rfl, hg, H⟩ := hI
      refine WC.seq ?_
      refine WC.region ?_
      refine WL.bin rfl rfl binv_lss rfl ?_
      refine (WL.done (WX.next ?_))
      refine WC.seq ?_
      refine WC.cond_dec rfl (fun c3 => ?_) (fun c3 => ?_)
      ·
        refine (WC.skip (WX.next ?_))
        refine WC.seq ?_
        refine WC.block ?_
        refine WC.seq ?_
        refine WC.region ?_
        refine WL.move rfl rfl ?_
        refine WL.assign rfl rfl ?_
        refine (WL.done (WX.next ?_))
        refine WC.region ?_
        have hlt : g < m := by omega
        obtain ⟨A, ⟨l, r⟩, B, hX, hA⟩ := split_at (X := List.replicate m (pl0, Row.none)) (n := g) (by simpa using hlt)
        have hlr : (l, r) = (pl0, Row.none) := List.eq_of_mem_replicate (by rw [hX]; simp : (l, r) ∈ List.replicate m (pl0, Row.none))
        cases hlr
        have hal : (linesC A).length = 11 * g := by
          rw [linesC_length (fun x hx => by rw [List.eq_of_mem_replicate (by rw [hX]; exact List.mem_append_left _ hx : x ∈ List.replicate m (pl0, Row.none))]; rfl), hA]
        have hcells : (linesC (List.replicate m (pl0, Row.none))).toArray = lineL (linesC A) pl0 Row.none (linesC B) := by rw [hX, linesC_append, linesC_cons]; rfl
        refine WL.move rfl rfl ?_
        refine WL.move rfl rfl ?_
        refine WL.move rfl rfl ?_
        refine WL.idxSlc (k := g) slc156 rfl rfl (by rfl) (by omega) rfl ?_
        refine WL.fieldAddr fld158_0 rfl rfl ?_
        refine WL.fieldAddr fld40_1 rfl rfl ?_
        rw [hcells] at H
        refine WL.storeAt H ty3 0 rfl rfl rfl rfl (by simp [Value.cells, Value.oneCell']) (by rw [lineL_size rfl]; omega) ?_
        intro wx H
        replace H := H.castH (H' := [(g0, .cells (linesC (List.replicate m (pl0, Row.none))).toArray 158)]) (by
          have e1 := wr_lineC (a := linesC A) (l := pl0) (r := Row.none) (c := linesC B) (o := 0 + g * 11 + 0 + 8) (z := enc zeros8) (by omega) rfl
          have e2 : ({ pl0 with c := enc zeros8 } : PL) = pl0 := by rw [enc_zero]; rfl
          rw [e2] at e1
          rw [hcells]; exact congrArg (fun c => [(g0, Obj.cells c 158)]) e1)
        refine (WL.done (WX.block_normal (WX.next ?_)))
        refine WC.region ?_
        refine WL.bin rfl rfl (iadd (by omega) (by omega)) rfl ?_
        refine WL.move rfl rfl ?_
        refine (WL.done (WX.round ?_))
        exact hN _ (g+1) _ _ (by omega) ⟨rfl, by omega, H⟩ (Sub.cons (t := 18) (by rfl) (Sub.nil _)) (Sub.cons (t := 3) rfl (Sub.cons (t := 4) rfl (Sub.cons (t := 17) rfl (Sub.nil _))))
      ·
        refine (WC.exit (WX.then_exit (WX.then_exit (WX.block_exit (WX.next ?_)))))
        refine WC.seq ?_
        refine WC.region ?_
        refine WL.move rfl rfl ?_
        refine WL.makeMap H rfl ?_
        intro mb wx hmb hgm H
        refine WL.build pla161 zer161 rfl rfl rfl ?_
        refine WL.box H rfl rfl ?_
        intro b31 wx hb31 hge31 H
        refine WL.assign rfl rfl ?_
        refine (WL.done (WX.next ?_))
        refine (WC.ret ?_)
        refine ret_one rfl rfl ?_
        rw [if_pos ⟨by omega, by omega⟩]
        refine ⟨b31, g0, mb, rfl, ?_⟩
        rw [RM.fresh_hp, Int.toNat_natCast, hX0, List.length_replicate]
        exact H.perm (List.Perm.cons _ (List.Perm.swap _ _ _))

end Go.Proofs.YtkncbggnaobgeaaDoor

/- Walks of functions of the program; printed by a program of this session (walk.py) out of hand-written hints. -/
namespace Go.Proofs.YtkncbggnaobgeaaDoor
open Go.RowKit
set_option linter.unusedVariables false
set_option linter.unusedSimpArgs false
set_option maxRecDepth 100000

section
variable {P : Program} {ops : Array Oper} {Q : Exit → Act → World → Prop} {n : Nat} {ds : List Deferred} {e e' : Env} {w w' w0 : World} {rest : List Oper} {S : List Nat} {H : Hp}
variable {d : Nat} {v : Value} {ty : TypeId} {pos : String} {af : Array Edge}
theorem WL.nextB (hS : St w0 S w H) {bm since c0 clock g : Nat} {seen : Array Nat} {l : List (Int × Nat)} {x : Operand} (i : Nat) (hx : ev e x = some (.pointer (some ⟨g, 0, none⟩)))
    (hi : H[i]? = some (g, .mapIter (some bm) since seen c0)) (hb : w.heap[bm]? = some (mO l clock)) (hold : ∀ x ∈ l, x.2 < since) (hsc : since ≤ c0) (hdn : Nat.blt d n = true)
    (h : ∀ (bb : Bool) (cs : List Value) w', cs[0]? = some (.bool bb) → (bb = false → (∀ x ∈ l, x.2 ∈ seen) ∧ St w0 S w' H) →
      (bb = true → ∃ k bn, (k, bn) ∈ l ∧ bn ∉ seen ∧ St w0 S w' (H.set i (g, .mapIter (some bm) since (seen.push bn) clock))) → WL P ops Q n ds rest ((d, .tuple cs.toArray) :: e) w') :
    WL P ops Q n ds ({ dst := some d, op := .next x false, type := ty, pos, after := af, guard := none } :: rest) e w :=
  WL.next (et := 0) hS i hx hi hb hold hsc hdn (fun h0 => h false [.bool false] _ rfl (fun _ => ⟨h0, hS⟩) (fun hh => by cases hh)) (fun k bn w' hm hn hS' => h true [.bool true, .int .i64 k, .bool true] _ rfl (fun hh => by cases hh) (fun _ => ⟨k, bn, hm, hn, hS'⟩))
end
theorem find_born {l : List (Int × Nat)} (h : (l.map Prod.snd).Nodup) {k : Int} {bn : Nat} (hm : (k, bn) ∈ l) : l.find? (fun x => x.2 == bn) = some (k, bn) := by
  induction l with
  | nil => cases hm
  | cons y l ih =>
    simp only [List.map_cons, List.nodup_cons] at h
    rcases List.mem_cons.1 hm with rfl | hm
    · simp
    · have : (y.2 == bn) = false := by
        simp only [beq_eq_false_iff_ne]
        intro he
        exact h.1 (he ▸ List.mem_map_of_mem (f := Prod.snd) hm)
      rw [List.find?_cons, this]
      exact ih h.2 hm
theorem key_born {l : List (Int × Nat)} (h : (l.map Prod.fst).Nodup) {k : Int} {b b' : Nat} (hm : (k, b) ∈ l) (hm' : (k, b') ∈ l) : b = b' := by
  induction l with
  | nil => cases hm
  | cons y l ih =>
    simp only [List.map_cons, List.nodup_cons] at h
    rcases List.mem_cons.1 hm with h1 | h1
    · rcases List.mem_cons.1 hm' with h2 | h2
      · rw [← h1] at h2; exact (Prod.mk.inj h2).2.symm
      · exact absurd (by rw [← h1]; exact List.mem_map.2 ⟨_, h2, rfl⟩) h.1
    · rcases List.mem_cons.1 hm' with h2 | h2
      · exact absurd (by rw [← h2]; exact List.mem_map.2 ⟨_, h1, rfl⟩) h.1
      · exact ih h.2 h1 h2
def left (l : List (Int × Nat)) (seen : Array Nat) : Nat := l.countP fun x => !seen.contains x.2
theorem left_push {l : List (Int × Nat)} {seen : Array Nat} {k : Int} {bn : Nat} (hm : (k, bn) ∈ l) (hn : bn ∉ seen) : left l (seen.push bn) < left l seen := by
  unfold left
  have hle : ∀ l : List (Int × Nat), (l.countP fun x => !(seen.push bn).contains x.2) ≤ (l.countP fun x => !seen.contains x.2) := fun l =>
    List.countP_mono_left (fun x _ h => by simp at h ⊢; exact h.1)
  induction l with
  | nil => cases hm
  | cons y l ih =>
    rw [List.countP_cons, List.countP_cons]
    rcases List.mem_cons.1 hm with h1 | h1
    · have := hle l
      rw [← h1]
      rw [if_neg (by simp), if_pos (by simpa using hn)]
      omega
    · have := ih h1
      have h3 : (if (!(seen.push bn).contains y.2) = true then 1 else 0) ≤ (if (!seen.contains y.2) = true then 1 else 0) := by
        split
        · rename_i h; rw [if_pos (by simp at h ⊢; exact h.1)]; exact Nat.le_refl _
        · exact Nat.zero_le _
      omega
theorem pRest_in {mp : List (Int × Nat)} {clk : Nat} {n : Int} {ps : List (Int × Int)} (h : n ∈ mp.map Prod.fst) : (pRest mp clk n ps).2 = clk ∧ (pRest mp clk n ps).1.Sublist mp := by
  unfold pRest
  split
  · exact ⟨rfl, mDel_sub mp n⟩
  · unfold mClk mIns
    rw [if_pos (any_key.2 h), if_pos (any_key.2 h)]
    exact ⟨rfl, List.Sublist.refl _⟩
def PM.fence (M : PM) : PM := { M with ls := M.ls.map fun l => pSettle l l.mark, evs := M.evs ++ [[4, 0, 0, 0, 0, 0, 0, 0, 0, 0, 0, 0]] }
/-- While a fence is under way. -/
structure Fencing (R R' : RM) (seen : Array Nat) : Prop where
  ok : R'.ok
  p : R'.p = R.p
  mb : R'.mb = R.mb
  clk : R'.clk = R.clk
  span : R'.span = R.span
  evs : R'.evs = R.evs
  len : R'.X.length = R.X.length
  sub : R'.mp.Sublist R.mp
  lines : ∀ (i : Nat) x, R.X[i]? = some x → ∃ x', R'.X[i]? = some x' ∧ ((x'.1 = x.1 ∧ ∀ b, ((i : Int), b) ∈ R.mp → b ∉ seen) ∨ (x'.1 = pSettle x.1 x.1.mark ∧ ∃ b, ((i : Int), b) ∈ R.mp ∧ b ∈ seen))
theorem Fencing.start {R : RM} (h : R.ok) : Fencing R R #[] := ⟨h, rfl, rfl, rfl, rfl, rfl, rfl, List.Sublist.refl _, fun i x hx => ⟨x, hx, .inl ⟨rfl, fun _ _ => by simp⟩⟩⟩
theorem Fencing.done {R R' : RM} {seen : Array Nat} (hR : R.ok) (h : Fencing R R' seen) (hall : ∀ x ∈ R'.mp, x.2 ∈ seen) : R'.abs.ls = R.abs.ls.map fun l => pSettle l l.mark := by
  apply List.ext_getElem?
  intro i
  simp only [RM.abs, List.getElem?_map, Option.map_map]
  by_cases hi : i < R.X.length
  · obtain ⟨x', hx', hc⟩ := h.lines i _ (List.getElem?_eq_getElem hi)
    rw [hx', List.getElem?_eq_getElem hi]
    simp only [Option.map_some, Function.comp, Option.some.injEq]
    rcases hc with ⟨h1, h2⟩ | ⟨h1, _⟩
    · rw [h1]
      have hok := (hR.lines _ (List.getElem_mem hi)).1
      by_cases hps : (R.X[i]).1.ps = []
      · have hm := hok.2.2.2.1
        rw [hps] at hm
        have : (R.X[i]).1.mark = 0 := by simpa using hm
        rw [this]; rfl
      · exfalso
        have hk : (i : Int) ∈ R'.mp.map Prod.fst := (h.ok.busy i).2 ⟨by omega, x', by simpa using hx', by rw [h1]; exact hps⟩
        obtain ⟨⟨k, b⟩, hkb, hke⟩ := List.mem_map.1 hk
        simp only at hke
        subst hke
        exact h2 b (h.sub.subset hkb) (hall _ hkb)
    · exact h1
  · rw [List.getElem?_eq_none (by rw [h.len]; omega), List.getElem?_eq_none (by omega)]; rfl
/-- R' in R's own blocks. -/
def RM.like (R g : RM) : RM := { g with p := R.p, mb := R.mb, clk := R.clk }
theorem Fencing.step {R g : RM} {seen : Array Nat} (hR : R.ok) (h : Fencing R (R.like g) seen) {A B : List (PL × Row)} {l : PL} {r r' : Row} {k bn : Nat} {mp : List (Int × Nat)} (hX : (R.like g).X = A ++ (l, r) :: B) (hA : A.length = k)
    (hm : ((k : Int), bn) ∈ (R.like g).mp) (hn : bn ∉ seen) {x : PL × Row} (hx : R.X[k]? = some x) (hl : l = x.1) (hsub : mp.Sublist (R.like g).mp)
    (hok : ((R.like g).upd A B (pSettle l l.mark) r' mp R.clk).ok) : Fencing R ((R.like g).upd A B (pSettle l l.mark) r' mp R.clk) (seen.push bn) := by
  refine ⟨hok, h.p, h.mb, rfl, h.span, h.evs, ?_, hsub.trans h.sub, fun i y hy => ?_⟩
  · rw [← h.len, hX]; simp [RM.upd]
  · show ∃ x', (A ++ (pSettle l l.mark, r') :: B)[i]? = some x' ∧ _
    by_cases hi : i = k
    · subst hi
      rw [hx] at hy; cases hy
      refine ⟨(pSettle l l.mark, r'), by rw [List.getElem?_append_right (by omega), hA, Nat.sub_self]; rfl, .inr ⟨by rw [hl], bn, h.sub.subset hm, by simp⟩⟩
    · obtain ⟨x', hx', hc⟩ := h.lines i y hy
      refine ⟨x', ?_, ?_⟩
      · rw [← hx', hX]
        by_cases hlt : i < A.length
        · rw [List.getElem?_append_left hlt, List.getElem?_append_left hlt]
        · rw [List.getElem?_append_right (by omega), List.getElem?_append_right (by omega)]
          obtain ⟨j, hj⟩ : ∃ j, i - A.length = j + 1 := ⟨i - A.length - 1, by omega⟩
          rw [hj]; simp
      · rcases hc with ⟨h1, h2⟩ | ⟨h1, b, h2, h3⟩
        · refine .inl ⟨h1, fun b hb => ?_⟩
          have hb1 := h2 b hb
          simp only [Array.mem_push, not_or]
          refine ⟨hb1, fun he => hi ?_⟩
          subst he
          have : ((i : Int), b) = ((k : Int), b) := by
            have e1 := find_born hR.map.2.1 hb
            have e2 := find_born hR.map.2.1 (h.sub.subset hm)
            rw [e1] at e2
            exact Option.some.inj e2
          have := (Prod.mk.inj this).1
          omega
        · exact .inr ⟨h1, b, h2, by simp [h3]⟩

theorem fence_w (R : RM) (hsm : R.evs.length < 1073741824) (hps : ∀ x ∈ R.X, x.1.ps.length ≤ 1073741824) (w : World) (hm : MemIn w R) (hL : L64 w) : CallsW Tryd.prog 36 [.pointer (some ⟨R.p, 0, none⟩)] w fun e w' => ∃ R' : RM, e = .returned (.tuple #[]) ∧ R'.p = R.p ∧ R'.abs = R.abs.fence ∧ R'.ok ∧ St w (R.hp.map Prod.fst) w' R'.hp := by
  refine callsW_n (args := [.pointer (some ⟨R.p, 0, none⟩)]) Tryd.func36 rfl rfl rfl ?_
  have H := hm.start
  have h3lt : 3 < w.heap.size := by obtain ⟨t, fr, h⟩ := hL; exact lt_of_some h
  have hSS : ∀ k ∈ R.hp.map Prod.fst, 3 < k := fun k hk => by obtain ⟨q, hq, rfl⟩ := List.mem_map.1 hk; exact hm.hi q hq
  refine WC.seq ?_
  refine WC.seq ?_
  refine WC.region ?_
  refine WL.move rfl rfl ?_
  refine WL.nilCheck rfl rfl ?_
  refine WL.fieldAddr fld161_1 rfl rfl ?_
  refine WL.load rfl (H.rd1 ty159 0 rfl rfl) rfl ?_
  refine WL.rangeMap H map159 rfl (H.blk 2 rfl) rfl ?_
  intro it wx hit hgit H
  refine (WL.done (WX.next ?_))
  refine WC.block ?_
  -- loop 1: changed [] kept [0, 7]
  refine WC.loop (Sub.cons (t := 0) rfl (Sub.cons (t := 7) rfl (Sub.nil _))) (fun _ : RM × Array Nat => []) (fun q g wx => q = left R.mp g.2 ∧ Fencing R (R.like g.1) g.2 ∧ St w (R.hp.map Prod.fst) wx ((it, .mapIter (some R.mb) R.clk g.2 R.clk) :: (R.like g.1).hp)) (left R.mp #[]) ((R, #[])) (Sub.nil _) (⟨rfl, Fencing.start hm.ok, H⟩) ?_
  rintro k g wx hI N hN
  obtain ⟨g1, seen⟩ := g
  obtain ⟨rfl, hF, H⟩ := hI
  change Fencing R (R.like g1) seen at hF
  change St _ _ _ ((it, .mapIter (some R.mb) R.clk seen R.clk) :: (R.like g1).hp) at H
  refine WC.seq ?_
  refine WC.region ?_
  refine WL.nextB H 0 rfl rfl (H.blk 3 rfl) (fun x hx => hF.ok.map.1 x hx) (Nat.le_refl _) rfl ?_
  intro bb cs wx hcs hNo hYes
  refine WL.extract rfl hcs rfl ?_
  refine (WL.done (WX.next ?_))
  refine WC.seq ?_
  refine WC.cond rfl (fun c1 => ?_) (fun c1 => ?_)
  ·
    obtain ⟨kk, bn, hmem, hns, H⟩ := hYes c1
    obtain ⟨hk0, x, hx, hxp⟩ := (hF.ok.busy kk).1 (List.mem_map_of_mem (f := Prod.fst) hmem)
    obtain ⟨k, rfl⟩ : ∃ k : Nat, kk = (k : Int) := ⟨kk.toNat, by omega⟩
    rw [Int.toNat_natCast] at hx
    have hklt : k < (R.like g1).X.length := by
      rcases Nat.lt_or_ge k (R.like g1).X.length with hl | hg
      · exact hl
      · rw [List.getElem?_eq_none hg] at hx; cases hx
    obtain ⟨A, l, r, B, hX, hA, hal, hok, hr, hget⟩ := hF.ok.at (k := k) hklt
    have hm1 : MemIn _ (R.like g1) := MemIn.of (L := [(it, .mapIter (some R.mb) R.clk (seen.push bn) R.clk)]) H hF.ok hSS h3lt
    obtain ⟨y, hy⟩ : ∃ y, R.X[k]? = some y := ⟨_, List.getElem?_eq_getElem (by rw [← hF.len]; exact hklt)⟩
    obtain ⟨x', hx', hc⟩ := hF.lines k y hy
    rw [hget] at hx'
    cases hx'
    have hle : l = y.1 := by
      rcases hc with ⟨h1, _⟩ | ⟨_, b, hb, hbs⟩
      · exact h1
      · rw [key_born hm.ok.map.2.2 hb (hF.sub.subset hmem)] at hbs; exact absurd hbs hns
    have hpl : l.ps.length ≤ 1073741824 := by rw [hle]; exact hps y (List.mem_of_getElem? hy)
    have hkey : (k : Int) ∈ (R.like g1).mp.map Prod.fst := List.mem_map_of_mem (f := Prod.fst) hmem
    refine (WC.skip (WX.next ?_))
    refine WC.block ?_
    refine WC.seq ?_
    refine WC.region ?_
    refine WL.entry (seen := seen) (bn := bn) (k := (k : Int)) rfl (H.blk 0 rfl) (H.blk 3 rfl) (find_born hF.ok.map.2.1 hmem) rfl ?_
    refine WL.extract rfl rfl rfl ?_
    refine WL.assign rfl rfl ?_
    refine (WL.done (WX.next ?_))
    refine WC.region ?_
    refine WL.move rfl rfl ?_
    refine WL.move rfl rfl ?_
    refine WL.move rfl rfl ?_
    refine WL.nilCheck rfl rfl ?_
    refine WL.fieldAddr fld161_0 rfl rfl ?_
    refine WL.load rfl (H.rd1 ty156 1 rfl rfl) rfl ?_
    refine WL.move rfl rfl ?_
    refine WL.idxSlc (k := k) slc156 rfl rfl (by rfl) (by omega) rfl ?_
    refine WL.fieldAddr fld158_2 rfl rfl ?_
    refine WL.load rfl (Rd.lineM ty3 (RM.line_at (L := [_]) hX H) (by omega) hok.1) rfl ?_
    refine WL.call call107 rfl rfl ?_
    refine Calls.mono (settle_any (R.like g1).p _ _ _ _ _ _ _ _ _ _ l r _ _ k l.mark hklt hal hok hr hok.2.2.2.1 hpl _ (hL.of H hm.n3) (n3_focus hm1 hX) (St.start ((St.focus (L := [_]) hX H).weaken (List.sublist_append_right _ _)).nd ((St.focus (L := [_]) hX H).weaken (List.sublist_append_right _ _)).sat)) ?_
    rintro _ wx ⟨r', rfl, hr', Hc⟩
    refine ⟨_, rfl, ?_⟩
    replace H := (St.focus (L := [(it, .mapIter (some R.mb) R.clk (seen.push bn) R.clk)]) hX H).callM Hc
    have hcl : (if l.mark = 0 then (R.like g1).clk else (pRest (R.like g1).mp (R.like g1).clk k (pSettle l l.mark).ps).2) = R.clk := by
      split
      · rfl
      · exact (pRest_in hkey).1
    rw [hcl] at H
    replace H := St.refocus (L := [_]) hX H
    have hps0 : l.mark = 0 → (pSettle l l.mark).ps = l.ps := fun h => by rw [h]; rfl
    have hok2 : ((R.like g1).upd A B (pSettle l l.mark) r' (if l.mark = 0 then (R.like g1).mp else (pRest (R.like g1).mp R.clk k (pSettle l l.mark).ps).1) R.clk).ok := by
      refine hF.ok.upd hX hA (pSettle_ok hok) hr' ?_ ?_
      · split
        · exact hF.ok.map
        · have h := pRest_ok (n := (k : Int)) (ps := (pSettle l l.mark).ps) hF.ok.map
          rw [(pRest_in hkey).1] at h
          exact h
      · split
        · rename_i h0
          rw [hps0 h0]
          exact keys_same hF.ok hget Iff.rfl
        · exact fun x => pRest_keys hF.ok.map
    have hF2 : Fencing R _ (seen.push bn) := Fencing.step hm.ok hF hX hA hmem hns hy hle (by
      split
      · exact List.Sublist.refl _
      · exact (pRest_in hkey).2) hok2
    refine (WL.done (WX.block_normal (WX.round ?_)))
    exact hN _ ((R.like g1).upd A B (pSettle l l.mark) r' (if l.mark = 0 then (R.like g1).mp else (pRest (R.like g1).mp R.clk k (pSettle l l.mark).ps).1) R.clk, seen.push bn) _ _ (left_push (hF.sub.subset hmem) hns) ⟨rfl, hF2, H⟩ (Sub.nil _) (Sub.cons (t := 0) rfl (Sub.cons (t := 7) rfl (Sub.nil _)))
  ·
    obtain ⟨hall, H⟩ := hNo c1
    refine (WC.exit (WX.then_exit (WX.then_exit (WX.block_exit (WX.next ?_)))))
    refine WC.region ?_
    refine WL.move rfl rfl ?_
    refine WL.build pla164 zer164 rfl rfl rfl ?_
    refine WL.call call106 rfl rfl ?_
    refine Calls.mono (note_any (R.like g1) [4, 0, 0, 0, 0, 0, 0, 0, 0, 0, 0, 0] rfl (by rw [hF.evs]; exact hsm) _ hF.ok (St.start H.tail.nd H.tail.sat)) ?_
    rintro _ wx ⟨er, rfl, hok3, Hc⟩
    refine ⟨_, rfl, ?_⟩
    replace H := St.callM (L := [(it, .mapIter (some R.mb) R.clk seen R.clk)]) H Hc
    refine (WL.done ?_)
    refine end_none rfl ?_
    refine ⟨(R.like g1).noted [4, 0, 0, 0, 0, 0, 0, 0, 0, 0, 0, 0] er, rfl, rfl, ?_, hok3, H.tail⟩
    rw [abs_noted]
    have e1 := hF.done hm.ok hall
    show PM.mk (R.like g1).abs.ls (R.like g1).span ((R.like g1).evs ++ _) = _
    rw [e1, hF.span, hF.evs]
    rfl

theorem fence_any (R : RM) (hsm : R.evs.length < 1073741824) (hps : ∀ x ∈ R.X, x.1.ps.length ≤ 1073741824) (w : World) (hm : MemIn w R) (hL : L64 w) : Calls Tryd.prog 36 #[.pointer (some ⟨R.p, 0, none⟩)] w fun e w' => ∃ R' : RM, e = .returned (.tuple #[]) ∧ R'.p = R.p ∧ R'.abs = R.abs.fence ∧ R'.ok ∧ St w (R.hp.map Prod.fst) w' R'.hp :=
  CallsW.calls (fence_w R hsm hps w hm hL)

end Go.Proofs.YtkncbggnaobgeaaDoor

/- Walks of functions of the program; printed by a program of this session (walk.py) out of hand-written hints. -/
namespace Go.Proofs.YtkncbggnaobgeaaDoor
open Go.RowKit
set_option linter.unusedVariables false
set_option linter.unusedSimpArgs false
set_option maxRecDepth 100000

def xorTo (ws xs : List Int) : Nat → List Int
  | 0 => ws
  | i + 1 => (xorTo ws xs i).set i ((((xorTo ws xs i).getD i 0).toNat ^^^ (xs.getD i 0).toNat : Nat) : Int)
theorem xorTo_len (ws xs : List Int) : ∀ i, (xorTo ws xs i).length = ws.length
  | 0 => rfl
  | i + 1 => by simp [xorTo, xorTo_len ws xs i]
theorem word_nat {ws : List Int} (h : isWords ws = true) {i : Nat} (hi : i < ws.length) : (ws.getD i 0).toNat < 2 ^ 40 ∧ ws.getD i 0 = ((ws.getD i 0).toNat : Int) := by
  have := isWords_get h hi
  omega
theorem xorTo_words {ws xs : List Int} (h8 : ws.length = 8) (hx8 : xs.length = 8) (hw : isWords ws = true) (hx : isWords xs = true) : ∀ i, i ≤ 8 → isWords (xorTo ws xs i) = true
  | 0, _ => hw
  | i + 1, hi => by
    have ih := xorTo_words h8 hx8 hw hx i (by omega)
    have h1 := (word_nat ih (i := i) (by rw [xorTo_len]; omega)).1
    have h2 := (word_nat hx (i := i) (by omega)).1
    have h3 : ((xorTo ws xs i).getD i 0).toNat ^^^ (xs.getD i 0).toNat < 2 ^ 40 := Nat.xor_lt_two_pow h1 h2
    exact isWords_set ih (isWord_iff.2 ⟨by omega, by omega⟩)
theorem split_list {xs : List Int} {i : Nat} (hi : i < xs.length) : ∃ u v, xs = u ++ xs.getD i 0 :: v ∧ u.length = i := by
  obtain ⟨A, x, B, h, hA⟩ := split_at hi
  refine ⟨A, B, ?_, hA⟩
  have : xs.getD i 0 = x := by subst hA; rw [h]; simp [List.getD]
  rw [this]; exact h
theorem len8 {xs : List Int} (h : xs.length = 8) : ∃ a b c d e f g i, xs = [a, b, c, d, e, f, g, i] := by
  match xs, h with
  | [a, b, c, d, e, f, g, i], _ => exact ⟨a, b, c, d, e, f, g, i, rfl⟩
def z164 : Array Value := #[.int .i64 0, .int .i64 0, .int .i64 0, .int .i64 0, .int .i64 0, .int .i64 0, .int .i64 0, .int .i64 0, .int .i64 0, .int .i64 0, .int .i64 0, .int .i64 0]
theorem fill_rot (x0 x1 x2 x3 x4 x5 x6 x7 a b c : Int) : Instr.fill (fun i => [(0, 1), (1, 1), (2, 1), (3, 1), (4, 8)][i]?) z164 [(0, .int .i64 a), (1, .int .i64 b), (4, arr [x0, x1, x2, x3, x4, x5, x6, x7]), (2, .int .i64 c)] = some (arrC [a, b, c, 0, x0, x1, x2, x3, x4, x5, x6, x7]) := by kernel_rfl
theorem fill_heal (x0 x1 x2 x3 x4 x5 x6 x7 a b : Int) : Instr.fill (fun i => [(0, 1), (1, 1), (2, 1), (3, 1), (4, 8)][i]?) z164 [(0, .int .i64 a), (1, .int .i64 b), (4, arr [x0, x1, x2, x3, x4, x5, x6, x7])] = some (arrC [a, b, 0, 0, x0, x1, x2, x3, x4, x5, x6, x7]) := by kernel_rfl
section
variable {P : Program} {w w' : World} {T t : TypeId} {k b o i : Nat} {a c : List Value} {l : PL} {r : Row}
theorem lineL_wi {u v : List Int} {x : Int} (h : l.ws = u ++ x :: v) : lineL a l r c = ((a ++ intsC u) ++ ([Value.int .i64 x] ++ (intsC v ++ ([Value.int .i64 l.c] ++ ([r.val l.ps.length] ++ ([Value.int .i64 (l.mark : Int)] ++ c)))))).toArray := by
  rw [lineL_w, h]; simp [intsC]
theorem Rd.lineWi (hT : tyB P T false k = true) (h : w.heap[b]? = some (.cells (lineL a l r c) t)) (ho : o = a.length + i) (hi : i < l.ws.length) : Rd P w T ⟨b, o, none⟩ (.int .i64 (l.ws.getD i 0)) := by
  obtain ⟨u, v, hu, hul⟩ := split_list hi
  rw [lineL_wi hu] at h
  exact Rd.mid1 hT h (by simp [intsC, hul, ho])
theorem wr_lineWi {z : Int} (ho : o = a.length + i) (hi : i < l.ws.length) : wr (lineL a l r c) o [.int .i64 z] = lineL a { l with ws := l.ws.set i z } r c := by
  obtain ⟨u, v, hu, hul⟩ := split_list hi
  have h2 : ({ l with ws := l.ws.set i z } : PL).ws = u ++ z :: v := by
    show l.ws.set i z = _
    rw [hu, ← hul]; simp
  rw [lineL_wi hu, wr_mid (by simp [intsC, hul, ho]) (by simp), lineL_wi h2]
end
def PM.rotErr (M : PM) (n : Int) (xs : List Int) (bits : Int) : Int :=
  if M.has n then (if isWords xs && isCode bits then (if (M.line n).ps = [] then 0 else 4) else 1) else 40
def PM.rot (M : PM) (n : Int) (xs : List Int) (bits : Int) : PM :=
  if M.rotErr n xs bits = 0 then { M with ls := M.ls.set n.toNat { M.line n with ws := xorTo (M.line n).ws xs 8, c := (((M.line n).c.toNat ^^^ bits.toNat : Nat) : Int) }, evs := M.evs ++ [[7, n, bits, 0] ++ xs] } else M

theorem rot_any (R : RM) (n : Int) (xs : List Int) (hx8 : xs.length = 8) (bits : Int) (hsm : R.evs.length < 1073741824) (w : World) (hm : MemIn w R) : Calls Tryd.prog 51 #[.pointer (some ⟨R.p, 0, none⟩), .int .i64 n, arr xs, .int .i64 bits] w fun e w' => ∃ R' : RM, e = .returned (.int .i64 (R.abs.rotErr n xs bits)) ∧ R'.p = R.p ∧ R'.abs = R.abs.rot n xs bits ∧ R'.ok ∧ St w (R.hp.map Prod.fst) w' R'.hp := by
  refine calls_walk_n (args := [.pointer (some ⟨R.p, 0, none⟩), .int .i64 n, arr xs, .int .i64 bits]) Tryd.func51 rfl rfl rfl ?_
  have H := hm.start
  refine WC.seq ?_
  refine WC.region ?_
  refine WL.boxArr H rfl rfl ?_
  intro b6 wx hb6 hge6 H
  refine WL.assign rfl rfl ?_
  refine (WL.done (WX.next ?_))
  refine WC.seq ?_
  refine WC.block ?_
  refine WC.seq ?_
  refine WC.region ?_
  refine WL.move rfl rfl ?_
  refine WL.move rfl rfl ?_
  refine WL.call call101 rfl rfl ?_
  refine Calls.mono (has_any R _ _ (hm.keep (L := [_]) H)) ?_
  rintro _ wx ⟨rfl, rfl⟩
  refine ⟨_, rfl, ?_⟩
  refine WL.notOp rfl rfl ?_
  refine WL.assign rfl rfl ?_
  refine (WL.done (WX.next ?_))
  refine WC.cond rfl (fun c1 => ?_) (fun c1 => ?_)
  ·
    have hh : pHas R n = false := by simpa only [Bool.not_eq_true'] using c1
    refine WC.seq ?_
    refine WC.region ?_
    refine WL.assign rfl rfl ?_
    refine (WL.done (WX.next ?_))
    refine (WC.ret (WX.block_ret (WX.then_ret ?_)))
    refine ret_one rfl rfl ?_
    have e1 : R.abs.rotErr n xs bits = 40 := by unfold PM.rotErr; rw [abs_has, hh]; rfl
    exact ⟨R, by rw [e1], rfl, by unfold PM.rot; rw [e1, if_neg (by decide)], hm.ok, H.tail⟩
  ·
    have hh : pHas R n = true := by simpa only [Bool.not_eq_false'] using c1
    refine WC.seq ?_
    refine WC.region ?_
    refine WL.load rfl (H.rdArr ty38 0 rfl hx8) rfl ?_
    refine WL.call call98 rfl rfl ?_
    refine Calls.mono (words_any xs hx8 _) ?_
    rintro _ wx ⟨rfl, Hc⟩
    refine ⟨_, rfl, ?_⟩
    replace H := H.call0 Hc
    refine WL.notOp rfl rfl ?_
    refine WL.move rfl rfl ?_
    refine WL.split (t := 20) rfl (fun g1 => ?_) (fun g1 => ?_)
    ·
      refine WL.no rfl rfl rfl ?_
      refine WL.no rfl rfl rfl ?_
      refine WL.pickT rfl rfl rfl ?_
      refine WL.move rfl rfl ?_
      refine WL.no rfl rfl rfl ?_
      refine WL.no rfl rfl rfl ?_
      refine WL.pickT rfl rfl rfl ?_
      refine WL.assign rfl rfl ?_
      refine (WL.done (WX.next ?_))
      refine WC.cond_true rfl (rfl) ?_
      refine WC.seq ?_
      refine WC.region ?_
      refine WL.assign rfl rfl ?_
      refine (WL.done (WX.next ?_))
      refine (WC.ret (WX.block_ret (WX.then_ret ?_)))
      refine ret_one rfl rfl ?_
      have hxw : isWords xs = false := by simpa only [Bool.not_eq_true'] using g1
      have e1 : R.abs.rotErr n xs bits = 1 := by unfold PM.rotErr; rw [abs_has, hh, if_pos rfl, hxw]; rfl
      exact ⟨R, by rw [e1], rfl, by unfold PM.rot; rw [e1, if_neg (by decide)], hm.ok, H.tail⟩
    ·
      refine WL.yes rfl rfl ?_
      refine WL.move rfl rfl ?_
      refine WL.yes rfl rfl ?_
      refine WL.bin rfl rfl binv_lss rfl ?_
      refine WL.pickF rfl rfl rfl ?_
      refine WL.move rfl rfl ?_
      refine WL.splitD (t := 24) rfl (fun g2 => ?_) (fun g2 => ?_)
      ·
        refine WL.no rfl rfl rfl ?_
        refine WL.no rfl rfl rfl ?_
        refine WL.pickT rfl rfl rfl ?_
        refine WL.assign rfl rfl ?_
        refine (WL.done (WX.next ?_))
        refine WC.cond_true rfl (rfl) ?_
        refine WC.seq ?_
        refine WC.region ?_
        refine WL.assign rfl rfl ?_
        refine (WL.done (WX.next ?_))
        refine (WC.ret (WX.block_ret (WX.then_ret ?_)))
        refine ret_one rfl rfl ?_
        have hcb : isCode bits = false := isCode_no (by omega)
        have e1 : R.abs.rotErr n xs bits = 1 := by unfold PM.rotErr; rw [abs_has, hh, if_pos rfl, hcb, Bool.and_false]; rfl
        exact ⟨R, by rw [e1], rfl, by unfold PM.rot; rw [e1, if_neg (by decide)], hm.ok, H.tail⟩
      ·
        refine WL.yes rfl rfl ?_
        refine WL.move rfl rfl ?_
        refine WL.yes rfl rfl ?_
        refine WL.bin rfl rfl binv_geq rfl ?_
        refine WL.pickF rfl rfl rfl ?_
        refine WL.assign rfl rfl ?_
        refine (WL.done (WX.next ?_))
        refine WC.cond_dec rfl (fun c4 => ?_) (fun c4 => ?_)
        ·
          refine WC.seq ?_
          refine WC.region ?_
          refine WL.assign rfl rfl ?_
          refine (WL.done (WX.next ?_))
          refine (WC.ret (WX.block_ret (WX.then_ret ?_)))
          refine ret_one rfl rfl ?_
          have hcb : isCode bits = false := isCode_no (by omega)
          have e1 : R.abs.rotErr n xs bits = 1 := by unfold PM.rotErr; rw [abs_has, hh, if_pos rfl, hcb, Bool.and_false]; rfl
          exact ⟨R, by rw [e1], rfl, by unfold PM.rot; rw [e1, if_neg (by decide)], hm.ok, H.tail⟩
        ·
          refine WC.seq ?_
          refine WC.region ?_
          obtain ⟨hn0, hn1⟩ := pHas_iff.1 hh
          obtain ⟨k, rfl⟩ : ∃ k : Nat, n = (k : Int) := ⟨n.toNat, by omega⟩
          obtain ⟨A, l, r, B, hX, hA, hal, hok, hr, hget⟩ := hm.ok.at (k := k) (by omega)
          replace H := St.focus (L := [(b6, .cells (arrC xs) 38)]) hX H
          have hwx : isWords xs = true := by simpa only [Bool.not_eq_false'] using g1
          have hcb : isCode bits = true := isCode_iff.2 (by omega)
          have hlc := isCode_iff.1 hok.2.2.1
          have hlc2 : l.c.toNat ^^^ bits.toNat < 2 ^ 10 := Nat.xor_lt_two_pow (by omega) (by omega)
          refine WL.move rfl rfl ?_
          refine WL.nilCheck rfl rfl ?_
          refine WL.fieldAddr fld161_0 rfl rfl ?_
          refine WL.load rfl (H.rd1 ty156 1 rfl rfl) rfl ?_
          refine WL.move rfl rfl ?_
          refine WL.idxSlc (k := k) slc156 rfl rfl (by rfl) (by omega) rfl ?_
          refine WL.fieldAddr fld158_1 rfl rfl ?_
          refine WL.load rfl (Rd.lineS ty52 (H.blk 2 rfl) (by omega) hok.1) rfl ?_
          refine WL.lenR isl52 rfl rfl ?_
          refine WL.bin rfl rfl binv_gtr rfl ?_
          refine WL.assign rfl rfl ?_
          refine (WL.done (WX.next ?_))
          refine WC.cond_dec rfl (fun c5 => ?_) (fun c5 => ?_)
          ·
            refine WC.seq ?_
            refine WC.region ?_
            refine WL.assign rfl rfl ?_
            refine (WL.done (WX.next ?_))
            refine (WC.ret (WX.block_ret (WX.then_ret ?_)))
            refine ret_one rfl rfl ?_
            have hp : ¬ l.ps = [] := fun h => by rw [h] at c5; exact absurd c5 (by simp)
            have e1 : R.abs.rotErr (k : Int) xs bits = 4 := by unfold PM.rotErr; rw [abs_has, hh, if_pos rfl, hwx, hcb, Bool.and_true, if_pos rfl, abs_line hget, if_neg hp]
            exact ⟨R, by rw [e1], rfl, by unfold PM.rot; rw [e1, if_neg (by decide)], hm.ok, (St.unfocus (L := [_]) hX H).tail⟩
          ·
            refine (WC.skip (WX.block_normal (WX.next ?_)))
            refine WC.seq ?_
            refine WC.seq ?_
            refine WC.region ?_
            refine WL.load rfl (H.rdArr ty38 0 rfl hx8) rfl ?_
            refine WL.move rfl rfl ?_
            refine (WL.done (WX.next ?_))
            refine WC.block ?_
            -- loop 1: changed [40] kept [0, 1, 3, 6, 39]
            refine WC.loop (Sub.cons (t := 0) rfl (Sub.cons (t := 1) rfl (Sub.cons (t := 3) rfl (Sub.cons (t := 6) rfl (Sub.cons (t := 39) rfl (Sub.nil _)))))) (fun i : Nat => [(40, .int .i64 (i : Int))]) (fun q i wx => q = 8 - i ∧ i ≤ 8 ∧ St w (R.hp.map Prod.fst) wx ((b6, .cells (arrC xs) 38) :: fhp R.p R.lb R.X.length R.lcap R.mb R.mp R.clk R.span R.er R.evs.length (linesC A) { l with ws := xorTo l.ws xs i } r (linesC B ++ R.junk) (R.er.hp 164 ++ pendHp A ++ pendHp B))) (8) (0) (Sub.cons (t := 40) (by rfl) (Sub.nil _)) (⟨rfl, by omega, H⟩) ?_
            rintro k g wx hI N hN
            obtain ⟨rfl, hg, H⟩ := hI
            refine WC.seq ?_
            refine WC.region ?_
            refine WL.bin rfl rfl binv_lss rfl ?_
            refine (WL.done (WX.next ?_))
            refine WC.seq ?_
            refine WC.cond_dec rfl (fun c6 => ?_) (fun c6 => ?_)
            ·
              refine (WC.skip (WX.next ?_))
              refine WC.seq ?_
              refine WC.block ?_
              refine WC.seq ?_
              refine WC.region ?_
              refine WL.move rfl rfl ?_
              refine WL.indexArr (ws := _) arr38 (by assumption) rfl rfl (by rfl) (by omega) rfl ?_ (by intro el h; rw [Tryd.underlying38] at h; cases h; exact ty3)
              refine WL.assign rfl rfl ?_
              refine WL.assign rfl rfl ?_
              refine (WL.done (WX.next ?_))
              replace H := H.drew
              have hv1 := word_nat (xorTo_words hok.1 hx8 hok.2.1 hwx g (by omega)) (i := g) (by rw [xorTo_len, hok.1]; omega)
              have hv2 := word_nat hwx (i := g) (by omega)
              refine WC.held (SX (World.drew wx) [R.lb]) (by kernel_rfl) ?_
              generalize World.drew wx = wb at H ⊢
              have HB := H.single 2 rfl
              refine WH.take 0 rfl (by kernel_rfl) (by kernel_rfl) (by kernel_rfl) (fun _ _ _ h => h) ⟨_, HB⟩ (fun w' hS => EX.move rfl) rfl ?_
              refine WH.take 1 rfl (by kernel_rfl) (by kernel_rfl) (by kernel_rfl) (fun _ _ _ h => h) ⟨_, HB⟩ (fun w' hS => EX.nilCheck rfl) rfl ?_
              refine WH.take 2 rfl (by kernel_rfl) (by kernel_rfl) (by kernel_rfl) (fun _ _ _ h => h) ⟨_, HB⟩ (fun w' hS => EX.fieldAddr fld161_0 rfl) rfl ?_
              refine WH.take 3 rfl (by kernel_rfl) (by kernel_rfl) (by kernel_rfl) (fun _ _ _ h => h) ⟨_, HB⟩ (fun w' hS => EX.load rfl (hS.rd1 ty156 (H.blk 1 rfl) (by simpa using H.ne 1 2 rfl rfl rfl) rfl)) rfl ?_
              refine WH.take 4 rfl (by kernel_rfl) (by kernel_rfl) (by kernel_rfl) (fun _ _ _ h => h) ⟨_, HB⟩ (fun w' hS => EX.move rfl) rfl ?_
              refine WH.take 5 rfl (by kernel_rfl) (by kernel_rfl) (by kernel_rfl) (fun _ _ _ h => h) ⟨_, HB⟩ (fun w' hS => EX.move rfl) rfl ?_
              refine WH.take 6 rfl (by kernel_rfl) (by kernel_rfl) (by kernel_rfl) (fun _ _ _ h => h) ⟨_, HB⟩ (fun w' hS => EX.idxSlc (k := k) slc156 rfl rfl (by rfl) (by omega)) rfl ?_
              refine WH.take 7 rfl (by kernel_rfl) (by kernel_rfl) (by kernel_rfl) (fun _ _ _ h => h) ⟨_, HB⟩ (fun w' hS => EX.fieldAddr fld158_0 rfl) rfl ?_
              refine WH.take 8 rfl (by kernel_rfl) (by kernel_rfl) (by kernel_rfl) (fun _ _ _ h => h) ⟨_, HB⟩ (fun w' hS => EX.fieldAddr fld40_0 rfl) rfl ?_
              refine WH.take 9 rfl (by kernel_rfl) (by kernel_rfl) (by kernel_rfl) (fun _ _ _ h => h) ⟨_, HB⟩ (fun w' hS => EX.idxArr (k := g) arr38 rfl rfl (by rfl) (by omega)) rfl ?_
              refine WH.take 11 rfl (by kernel_rfl) (by kernel_rfl) (by kernel_rfl) (fun _ _ _ h => h) ⟨_, HB⟩ (fun w' hS => EX.move rfl) rfl ?_
              refine WH.take 13 rfl (by kernel_rfl) (by kernel_rfl) (by kernel_rfl) (fun _ _ _ h => h) ⟨_, HB⟩ (fun w' hS => EX.idxSlc (k := k) slc156 rfl rfl (by rfl) (by omega)) rfl ?_
              refine WH.take 14 rfl (by kernel_rfl) (by kernel_rfl) (by kernel_rfl) (fun _ _ _ h => h) ⟨_, HB⟩ (fun w' hS => EX.fieldAddr fld158_0 rfl) rfl ?_
              refine WH.take 15 rfl (by kernel_rfl) (by kernel_rfl) (by kernel_rfl) (fun _ _ _ h => h) ⟨_, HB⟩ (fun w' hS => EX.fieldAddr fld40_0 rfl) rfl ?_
              refine WH.hard 10 rfl (by kernel_rfl) ?_
              refine WL.load rfl (Rd.lineWi ty3 (HB.blk 0 rfl) (i := g) (by omega) (by rw [xorTo_len, hok.1]; omega)) rfl ?_
              refine WL.done (WX.heldOn ⟨_, HB⟩ ?_)
              refine WH.take 12 rfl (by kernel_rfl) (by kernel_rfl) (by kernel_rfl) (fun _ _ _ h => h) ⟨_, HB⟩ (fun w' hS => EX.bin rfl rfl (ixorN (a := ((xorTo l.ws xs g).getD g 0).toNat) (b := (xs.getD g 0).toNat) hv1.2 hv2.2 (by omega) (by omega))) rfl ?_
              refine WH.take 16 rfl (by kernel_rfl) (by kernel_rfl) (by kernel_rfl) (fun _ _ _ h => h) ⟨_, HB⟩ (fun w' hS => EX.idxArr (k := g) arr38 rfl rfl (by rfl) (by omega)) rfl ?_
              refine WH.hard 17 rfl (by kernel_rfl) ?_
              refine WL.storeAt HB ty3 0 rfl rfl rfl rfl (by simp [Value.cells, Value.oneCell']) (by rw [lineL_size (by rw [xorTo_len]; exact hok.1)]; omega) ?_
              intro wx HB
              replace HB := HB.castH (H' := [(R.lb, .cells (lineL (linesC A) { l with ws := xorTo l.ws xs (g + 1) } r (linesC B ++ R.junk)) 158)]) (by
                have e1 := wr_lineWi (a := linesC A) (l := { l with ws := xorTo l.ws xs g }) (r := r) (c := linesC B ++ R.junk) (o := 0 + k * 11 + 0 + 0 + g * 1) (i := g) (z := ((((xorTo l.ws xs g).getD g 0).toNat ^^^ (xs.getD g 0).toNat : Nat) : Int)) (by omega) (by rw [xorTo_len, hok.1]; omega)
                exact congrArg (fun c => [(R.lb, Obj.cells c 158)]) e1)
              refine WL.done (WX.heldOn ⟨_, HB⟩ ?_)
              refine WH.done (by kernel_rfl) ?_
              replace H := H.back (N := []) 2 rfl HB rfl
              refine (WX.block_normal (WX.next ?_))
              refine WC.region ?_
              refine WL.bin rfl rfl (iadd (by omega) (by omega)) rfl ?_
              refine WL.move rfl rfl ?_
              refine (WL.done (WX.round ?_))
              exact hN _ (g+1) _ _ (by omega) ⟨rfl, by omega, H⟩ (Sub.cons (t := 40) (by rfl) (Sub.nil _)) (Sub.cons (t := 0) rfl (Sub.cons (t := 1) rfl (Sub.cons (t := 3) rfl (Sub.cons (t := 6) rfl (Sub.cons (t := 39) rfl (Sub.nil _))))))
            ·
              obtain rfl : g = 8 := by omega
              refine (WC.exit (WX.then_exit (WX.then_exit (WX.block_exit (WX.next ?_)))))
              refine WC.seq ?_
              refine WC.region ?_
              refine WL.move rfl rfl ?_
              refine WL.nilCheck rfl rfl ?_
              refine WL.fieldAddr fld161_0 rfl rfl ?_
              refine WL.load rfl (H.rd1 ty156 1 rfl rfl) rfl ?_
              refine WL.move rfl rfl ?_
              refine WL.idxSlc (k := k) slc156 rfl rfl (by rfl) (by omega) rfl ?_
              refine WL.fieldAddr fld158_0 rfl rfl ?_
              refine WL.fieldAddr fld40_1 rfl rfl ?_
              refine WL.load rfl (Rd.lineCo ty3 (H.blk 2 rfl) (by omega) (by rw [xorTo_len]; exact hok.1)) rfl ?_
              refine WL.move rfl rfl ?_
              refine WL.bin rfl rfl (ixorN (a := l.c.toNat) (b := bits.toNat) (by show l.c = _; omega) (by omega) (by omega) (by omega)) rfl ?_
              refine WL.idxSlc (k := k) slc156 rfl rfl (by rfl) (by omega) rfl ?_
              refine WL.fieldAddr fld158_0 rfl rfl ?_
              refine WL.fieldAddr fld40_1 rfl rfl ?_
              refine WL.storeAt H ty3 2 rfl rfl rfl rfl (by simp [Value.cells, Value.oneCell']) (by rw [lineL_size (by rw [xorTo_len]; exact hok.1)]; omega) ?_
              intro wx H
              replace H := H.castH (H' := (b6, .cells (arrC xs) 38) :: fhp R.p R.lb R.X.length R.lcap R.mb R.mp R.clk R.span R.er R.evs.length (linesC A) { l with ws := xorTo l.ws xs 8, c := ((l.c.toNat ^^^ bits.toNat : Nat) : Int) } r (linesC B ++ R.junk) (R.er.hp 164 ++ pendHp A ++ pendHp B)) (by
                have e1 := wr_lineC (a := linesC A) (l := { l with ws := xorTo l.ws xs 8 }) (r := r) (c := linesC B ++ R.junk) (o := 0 + k * 11 + 0 + 8) (z := ((l.c.toNat ^^^ bits.toNat : Nat) : Int)) (by omega) (by rw [xorTo_len]; exact hok.1)
                unfold fhp; rw [← e1]; rfl)
              replace H := St.refocus (L := [(b6, .cells (arrC xs) 38)]) hX H
              have hok2 : (R.upd A B { l with ws := xorTo l.ws xs 8, c := ((l.c.toNat ^^^ bits.toNat : Nat) : Int) } r R.mp R.clk).ok := hm.ok.upd hX hA ⟨by show (xorTo l.ws xs 8).length = 8; rw [xorTo_len]; exact hok.1, xorTo_words hok.1 hx8 hok.2.1 hwx 8 (Nat.le_refl _), isCode_iff.2 (by show 0 ≤ ((l.c.toNat ^^^ bits.toNat : Nat) : Int) ∧ ((l.c.toNat ^^^ bits.toNat : Nat) : Int) ≤ 1023; omega), hok.2.2.2.1, hok.2.2.2.2⟩ hr hm.ok.map (keys_same hm.ok hget Iff.rfl)
              refine (WL.done (WX.next ?_))
              refine WC.seq ?_
              refine WC.region ?_
              refine WL.move rfl rfl ?_
              refine WL.move rfl rfl ?_
              refine WL.load rfl (H.rdArr ty38 0 rfl hx8) rfl ?_
              refine WL.move rfl rfl ?_
              obtain ⟨x0, x1, x2, x3, x4, x5, x6, x7, rfl⟩ := len8 hx8
              refine WL.build (z := z164) pla164 zer164 rfl rfl (fill_rot _ _ _ _ _ _ _ _ _ _ _) ?_
              refine WL.call call106 rfl rfl ?_
              refine Calls.mono (note_any (R.upd A B _ r R.mp R.clk) [7, (k : Int), bits, 0, x0, x1, x2, x3, x4, x5, x6, x7] rfl hsm _ hok2 (St.start H.tail.nd H.tail.sat)) ?_
              rintro _ wx ⟨er, rfl, hok3, Hc⟩
              refine ⟨_, rfl, ?_⟩
              replace H := St.callM (L := [(b6, _)]) H Hc
              refine (WL.done (WX.next ?_))
              refine WC.seq ?_
              refine WC.region ?_
              refine WL.assign rfl rfl ?_
              refine (WL.done (WX.next ?_))
              refine (WC.ret ?_)
              refine ret_one rfl rfl ?_
              have hp : l.ps = [] := List.eq_nil_of_length_eq_zero (by omega)
              have e1 : R.abs.rotErr (k : Int) [x0, x1, x2, x3, x4, x5, x6, x7] bits = 0 := by unfold PM.rotErr; rw [abs_has, hh, if_pos rfl, hwx, hcb, Bool.and_true, if_pos rfl, abs_line hget, if_pos hp]
              refine ⟨(R.upd A B { l with ws := xorTo l.ws [x0, x1, x2, x3, x4, x5, x6, x7] 8, c := ((l.c.toNat ^^^ bits.toNat : Nat) : Int) } r R.mp R.clk).noted (7 :: (k : Int) :: bits :: 0 :: [x0, x1, x2, x3, x4, x5, x6, x7]) er, by rw [e1], rfl, ?_, hok3, H.tail⟩
              unfold PM.rot
              rw [e1, if_pos rfl, abs_noted, abs_upd hX hA, abs_line hget, Int.toNat_natCast]
              rfl

end Go.Proofs.YtkncbggnaobgeaaDoor

/- Walks of functions of the program; printed by a program of this session (walk.py) out of hand-written hints. -/
namespace Go.Proofs.YtkncbggnaobgeaaDoor
open Go.RowKit
set_option linter.unusedVariables false
set_option linter.unusedSimpArgs false
set_option maxRecDepth 100000

def z40 : Array Value := #[.int .i64 0, .int .i64 0, .int .i64 0, .int .i64 0, .int .i64 0, .int .i64 0, .int .i64 0, .int .i64 0, .int .i64 0]
def z158 : Array Value := #[.int .i64 0, .int .i64 0, .int .i64 0, .int .i64 0, .int .i64 0, .int .i64 0, .int .i64 0, .int .i64 0, .int .i64 0, .slice none 0 0, .int .i64 0]
theorem fill40 (x0 x1 x2 x3 x4 x5 x6 x7 c : Int) : Instr.fill (fun i => [(0, 8), (8, 1)][i]?) z40 [(0, arr [x0, x1, x2, x3, x4, x5, x6, x7]), (1, .int .i64 c)] = some (arrC [x0, x1, x2, x3, x4, x5, x6, x7, c]) := by kernel_rfl
theorem fill158 (x0 x1 x2 x3 x4 x5 x6 x7 c : Int) : Instr.fill (fun i => [(0, 9), (9, 1), (10, 1)][i]?) z158 [(0, .agg (arrC [x0, x1, x2, x3, x4, x5, x6, x7, c]))] = some (lineC { ws := [x0, x1, x2, x3, x4, x5, x6, x7], c := c, ps := [], mark := 0 } Row.none).toArray := by kernel_rfl
theorem wr_lineAll {a c : List Value} {l l' : PL} {r r' : Row} {o : Nat} (ho : o = a.length) (h8 : l.ws.length = 8) (h8' : l'.ws.length = 8) : wr (lineL a l r c) o (lineC l' r') = lineL a l' r' c := by
  unfold lineL
  exact wr_mid ho (by rw [lineC_length h8, lineC_length h8'])
def PM.healErr (M : PM) (n : Int) (xs : List Int) : Int := if M.has n then (if isWords xs then 0 else 1) else 40
def PM.heal (M : PM) (n : Int) (xs : List Int) : PM :=
  if M.healErr n xs = 0 then { M with ls := M.ls.set n.toNat { ws := xs, c := enc xs, ps := [], mark := 0 }, evs := M.evs ++ [[6, n, 0, 0] ++ xs] } else M

theorem heal_any (R : RM) (n : Int) (xs : List Int) (hx8 : xs.length = 8) (hsm : R.evs.length < 1073741824) (w : World) (hm : MemIn w R) (hL : L64 w) : Calls Tryd.prog 111 #[.pointer (some ⟨R.p, 0, none⟩), .int .i64 n, arr xs] w fun e w' => ∃ R' : RM, e = .returned (.int .i64 (R.abs.healErr n xs)) ∧ R'.p = R.p ∧ R'.abs = R.abs.heal n xs ∧ R'.ok ∧ St w (R.hp.map Prod.fst) w' R'.hp := by
  refine calls_walk_n (args := [.pointer (some ⟨R.p, 0, none⟩), .int .i64 n, arr xs]) Tryd.func111 rfl rfl rfl ?_
  have H := hm.start
  have h3lb : 3 ∉ [R.lb] := fun h => hm.n3 (by rw [List.mem_singleton.1 h]; exact List.mem_map.2 ⟨_, List.mem_cons_of_mem _ List.mem_cons_self, rfl⟩)
  refine WC.seq ?_
  refine WC.region ?_
  refine WL.boxArr H rfl rfl ?_
  intro b5 wx hb5 hge5 H
  refine WL.assign rfl rfl ?_
  refine (WL.done (WX.next ?_))
  refine WC.seq ?_
  refine WC.seq ?_
  refine WC.region ?_
  refine WL.move rfl rfl ?_
  refine WL.move rfl rfl ?_
  refine WL.call call101 rfl rfl ?_
  refine Calls.mono (has_any R _ _ (hm.keep (L := [_]) H)) ?_
  rintro _ wx ⟨rfl, rfl⟩
  refine ⟨_, rfl, ?_⟩
  refine WL.notOp rfl rfl ?_
  refine (WL.done (WX.next ?_))
  refine WC.cond rfl (fun c1 => ?_) (fun c1 => ?_)
  ·
    have hh : pHas R n = false := by simpa only [Bool.not_eq_true'] using c1
    refine WC.seq ?_
    refine WC.region ?_
    refine WL.assign rfl rfl ?_
    refine (WL.done (WX.next ?_))
    refine (WC.ret (WX.then_ret ?_))
    refine ret_one rfl rfl ?_
    have e1 : R.abs.healErr n xs = 40 := by unfold PM.healErr; rw [abs_has, hh]; rfl
    exact ⟨R, by rw [e1], rfl, by unfold PM.heal; rw [e1, if_neg (by decide)], hm.ok, H.tail⟩
  ·
    have hh : pHas R n = true := by simpa only [Bool.not_eq_false'] using c1
    obtain ⟨hn0, hn1⟩ := pHas_iff.1 hh
    obtain ⟨k, rfl⟩ : ∃ k : Nat, n = (k : Int) := ⟨n.toNat, by omega⟩
    obtain ⟨A, l, r, B, hX, hA, hal, hok, hr, hget⟩ := hm.ok.at (k := k) (by omega)
    refine (WC.skip (WX.next ?_))
    refine WC.seq ?_
    refine WC.seq ?_
    refine WC.region ?_
    refine WL.load rfl (H.rdArr ty38 0 rfl hx8) rfl ?_
    refine WL.call call98 rfl rfl ?_
    refine Calls.mono (words_any xs hx8 _) ?_
    rintro _ wx ⟨rfl, Hc⟩
    refine ⟨_, rfl, ?_⟩
    replace H := H.call0 Hc
    refine WL.notOp rfl rfl ?_
    refine (WL.done (WX.next ?_))
    refine WC.cond rfl (fun c2 => ?_) (fun c2 => ?_)
    ·
      have hxw : isWords xs = false := by simpa only [Bool.not_eq_true'] using c2
      refine WC.seq ?_
      refine WC.region ?_
      refine WL.assign rfl rfl ?_
      refine (WL.done (WX.next ?_))
      refine (WC.ret (WX.then_ret ?_))
      refine ret_one rfl rfl ?_
      have e1 : R.abs.healErr (k : Int) xs = 1 := by unfold PM.healErr; rw [abs_has, hh, if_pos rfl, hxw]; rfl
      exact ⟨R, by rw [e1], rfl, by unfold PM.heal; rw [e1, if_neg (by decide)], hm.ok, H.tail⟩
    ·
      have hxw : isWords xs = true := by simpa only [Bool.not_eq_false'] using c2
      refine (WC.skip (WX.next ?_))
      refine WC.seq ?_
      obtain ⟨x0, x1, x2, x3, x4, x5, x6, x7, rfl⟩ := len8 hx8
      replace H := (St.focus (L := [(b5, .cells (arrC [x0, x1, x2, x3, x4, x5, x6, x7]) 38)]) hX H).drew
      refine WC.held (SX (World.drew wx) [R.lb]) (by kernel_rfl) ?_
      generalize World.drew wx = wb at H ⊢
      have HB := H.single 2 rfl
      refine WH.take 0 rfl (by kernel_rfl) (by kernel_rfl) (by kernel_rfl) (fun _ _ _ h => h) ⟨_, HB⟩ (fun w' hS => EX.move rfl) rfl ?_
      refine WH.take 1 rfl (by kernel_rfl) (by kernel_rfl) (by kernel_rfl) (fun _ _ _ h => h) ⟨_, HB⟩ (fun w' hS => EX.nilCheck rfl) rfl ?_
      refine WH.take 2 rfl (by kernel_rfl) (by kernel_rfl) (by kernel_rfl) (fun _ _ _ h => h) ⟨_, HB⟩ (fun w' hS => EX.fieldAddr fld161_0 rfl) rfl ?_
      refine WH.take 3 rfl (by kernel_rfl) (by kernel_rfl) (by kernel_rfl) (fun _ _ _ h => h) ⟨_, HB⟩ (fun w' hS => EX.load rfl (hS.rd1 ty156 (H.blk 1 rfl) (by simpa using H.ne 1 2 rfl rfl rfl) rfl)) rfl ?_
      refine WH.take 4 rfl (by kernel_rfl) (by kernel_rfl) (by kernel_rfl) (fun _ _ _ h => h) ⟨_, HB⟩ (fun w' hS => EX.move rfl) rfl ?_
      refine WH.take 5 rfl (by kernel_rfl) (by kernel_rfl) (by kernel_rfl) (fun _ _ _ h => h) ⟨_, HB⟩ (fun w' hS => EX.load rfl (hS.rdArr ty38 (H.blk 0 rfl) (by simpa using H.ne 0 2 rfl rfl rfl) rfl)) rfl ?_
      refine WH.take 6 rfl (by kernel_rfl) (by kernel_rfl) (by kernel_rfl) (fun _ _ _ h => h) ⟨_, HB⟩ (fun w' hS => EX.load rfl (hS.rdArr ty38 (H.blk 0 rfl) (by simpa using H.ne 0 2 rfl rfl rfl) rfl)) rfl ?_
      refine WH.hard 7 rfl (by kernel_rfl) ?_
      refine WL.call call97 rfl rfl ?_
      refine Calls.mono (encode_any [x0, x1, x2, x3, x4, x5, x6, x7] rfl _ ((hL.of H hm.n3).of HB h3lb)) ?_
      rintro _ wx ⟨rfl, Hc⟩
      refine ⟨_, rfl, ?_⟩
      replace HB := HB.call0 Hc
      refine WL.done (WX.heldOn ⟨_, HB⟩ ?_)
      refine WH.take 8 rfl (by kernel_rfl) (by kernel_rfl) (by kernel_rfl) (fun _ _ _ h => h) ⟨_, HB⟩ (fun w' hS => EX.build (z := z40) pla40 zer40 rfl (fill40 _ _ _ _ _ _ _ _ _)) rfl ?_
      refine WH.take 9 rfl (by kernel_rfl) (by kernel_rfl) (by kernel_rfl) (fun _ _ _ h => h) ⟨_, HB⟩ (fun w' hS => EX.build (z := z158) pla158 zer158 rfl (fill158 _ _ _ _ _ _ _ _ _)) rfl ?_
      refine WH.take 10 rfl (by kernel_rfl) (by kernel_rfl) (by kernel_rfl) (fun _ _ _ h => h) ⟨_, HB⟩ (fun w' hS => EX.idxSlc (k := k) slc156 rfl rfl (by rfl) (by omega)) rfl ?_
      refine WH.hard 11 rfl (by kernel_rfl) ?_
      refine WL.storeAt HB ty158 0 rfl rfl rfl rfl (fun u hu => lineC_one ({ ws := [x0, x1, x2, x3, x4, x5, x6, x7], c := enc [x0, x1, x2, x3, x4, x5, x6, x7], ps := [], mark := 0 } : PL) Row.none u (by simpa [Value.cells] using hu)) (by rw [lineL_size hok.1]; omega) ?_
      intro wx HB
      replace HB := HB.castH (H' := [(R.lb, .cells (lineL (linesC A) ({ ws := [x0, x1, x2, x3, x4, x5, x6, x7], c := enc [x0, x1, x2, x3, x4, x5, x6, x7], ps := [], mark := 0 } : PL) Row.none (linesC B ++ R.junk)) 158)]) (by
        have e1 := wr_lineAll (a := linesC A) (l := l) (l' := ({ ws := [x0, x1, x2, x3, x4, x5, x6, x7], c := enc [x0, x1, x2, x3, x4, x5, x6, x7], ps := [], mark := 0 } : PL)) (r := r) (r' := Row.none) (c := linesC B ++ R.junk) (o := 0 + k * 11) (by omega) hok.1 rfl
        exact congrArg (fun c => [(R.lb, Obj.cells c 158)]) e1)
      refine WL.done (WX.heldOn ⟨_, HB⟩ ?_)
      refine WH.done (by kernel_rfl) ?_
      replace H := H.back (N := []) 2 rfl HB rfl
      replace H := H.weaken (H' := (b5, .cells (arrC [x0, x1, x2, x3, x4, x5, x6, x7]) 38) :: fhp R.p R.lb R.X.length R.lcap R.mb R.mp R.clk R.span R.er R.evs.length (linesC A) ({ ws := [x0, x1, x2, x3, x4, x5, x6, x7], c := enc [x0, x1, x2, x3, x4, x5, x6, x7], ps := [], mark := 0 } : PL) Row.none (linesC B ++ R.junk) (R.er.hp 164 ++ pendHp A ++ pendHp B)) (List.Sublist.cons_cons _ (List.Sublist.cons_cons _ (List.Sublist.cons_cons _ (List.Sublist.cons_cons _ (List.sublist_append_right _ _)))))
      refine WX.next ?_
      refine WC.seq ?_
      refine WC.region ?_
      refine WL.move rfl rfl ?_
      refine WL.move rfl rfl ?_
      refine WL.call call173 rfl rfl ?_
      refine Calls.mono (rest_any _ _ _ _ _ _ _ _ _ _ _ ({ ws := [x0, x1, x2, x3, x4, x5, x6, x7], c := enc [x0, x1, x2, x3, x4, x5, x6, x7], ps := [], mark := 0 } : PL) Row.none _ _ k (by omega) hal rfl _ (St.start H.tail.nd H.tail.sat)) ?_
      rintro _ wx ⟨rfl, Hc⟩
      refine ⟨_, rfl, ?_⟩
      replace H := St.callM (L := [(b5, _)]) H Hc
      refine (WL.done (WX.next ?_))
      refine WC.seq ?_
      refine WC.region ?_
      replace H := St.refocus (L := [(b5, _)]) hX H
      have hok2 : (R.upd A B ({ ws := [x0, x1, x2, x3, x4, x5, x6, x7], c := enc [x0, x1, x2, x3, x4, x5, x6, x7], ps := [], mark := 0 } : PL) Row.none (pRest R.mp R.clk k []).1 (pRest R.mp R.clk k []).2).ok := hm.ok.upd hX hA ⟨rfl, hxw, enc_code hxw, Nat.le_refl _, fun p hp => by cases hp⟩ ⟨rfl, rfl⟩ (pRest_ok hm.ok.map) (fun x => pRest_keys hm.ok.map)
      refine WL.move rfl rfl ?_
      refine WL.move rfl rfl ?_
      refine WL.load rfl (H.rdArr ty38 0 rfl hx8) rfl ?_
      refine WL.build (z := z164) pla164 zer164 rfl rfl (fill_heal _ _ _ _ _ _ _ _ _ _) ?_
      refine WL.call call106 rfl rfl ?_
      refine Calls.mono (note_any (R.upd A B ({ ws := [x0, x1, x2, x3, x4, x5, x6, x7], c := enc [x0, x1, x2, x3, x4, x5, x6, x7], ps := [], mark := 0 } : PL) Row.none (pRest R.mp R.clk k []).1 (pRest R.mp R.clk k []).2) [6, (k : Int), 0, 0, x0, x1, x2, x3, x4, x5, x6, x7] rfl hsm _ hok2 (St.start H.tail.nd H.tail.sat)) ?_
      rintro _ wx ⟨er, rfl, hok3, Hc⟩
      refine ⟨_, rfl, ?_⟩
      replace H := St.callM (L := [(b5, _)]) H Hc
      refine (WL.done (WX.next ?_))
      refine WC.seq ?_
      refine WC.region ?_
      refine WL.assign rfl rfl ?_
      refine (WL.done (WX.next ?_))
      refine (WC.ret ?_)
      refine ret_one rfl rfl ?_
      have e1 : R.abs.healErr (k : Int) [x0, x1, x2, x3, x4, x5, x6, x7] = 0 := by unfold PM.healErr; rw [abs_has, hh, if_pos rfl, hxw, if_pos rfl]
      refine ⟨(R.upd A B ({ ws := [x0, x1, x2, x3, x4, x5, x6, x7], c := enc [x0, x1, x2, x3, x4, x5, x6, x7], ps := [], mark := 0 } : PL) Row.none (pRest R.mp R.clk k []).1 (pRest R.mp R.clk k []).2).noted [6, (k : Int), 0, 0, x0, x1, x2, x3, x4, x5, x6, x7] er, by rw [e1], rfl, ?_, hok3, H.tail⟩
      unfold PM.heal
      rw [e1, if_pos rfl, abs_noted, abs_upd hX hA, Int.toNat_natCast]
      rfl

end Go.Proofs.YtkncbggnaobgeaaDoor

/- Walks of functions of the program; printed by a program of this session (walk.py) out of hand-written hints. -/
namespace Go.Proofs.YtkncbggnaobgeaaDoor
open Go.RowKit
set_option linter.unusedVariables false
set_option linter.unusedSimpArgs false
set_option maxRecDepth 100000

def toPL (x : List Int × Int) : PL := { ws := x.1, c := x.2, ps := [], mark := 0 }
def flatI (imgs : List (List Int × Int)) : List Int := imgs.flatMap fun x => x.1 ++ [x.2]
def imgOk (imgs : List (List Int × Int)) : Bool := decide (1 ≤ imgs.length) && decide (imgs.length ≤ 4096) && imgs.all fun x => isWords x.1 && isCode x.2
theorem imgOk_bad {imgs : List (List Int × Int)} {g : Nat} (hg : g < imgs.length) (hb : (isWords (imgs[g]).1 && isCode (imgs[g]).2) = false) : ¬ imgOk imgs = true := by
  unfold imgOk
  rw [Bool.and_eq_true, List.all_eq_true]
  rintro ⟨_, h⟩
  have := h _ (List.getElem_mem hg)
  rw [hb] at this
  cases this
theorem imgOk_len {imgs : List (List Int × Int)} (h : ¬ (1 ≤ imgs.length ∧ imgs.length ≤ 4096)) : ¬ imgOk imgs = true := by
  unfold imgOk
  rw [Bool.and_eq_true, Bool.and_eq_true]
  rintro ⟨⟨h1, h2⟩, _⟩
  exact h ⟨by simpa using h1, by simpa using h2⟩
theorem flatI_get {imgs : List (List Int × Int)} (h8 : ∀ x ∈ imgs, x.1.length = 8) {i j : Nat} (hi : i < imgs.length) (hj : j < 9) : (flatI imgs)[i * 9 + j]? = ((imgs[i]).1 ++ [(imgs[i]).2])[j]? := by
  induction imgs generalizing i with
  | nil => simp at hi
  | cons x imgs ih =>
    have hx := h8 x List.mem_cons_self
    have hl : (x.1 ++ [x.2]).length = 9 := by simp [hx]
    unfold flatI
    rw [List.flatMap_cons]
    cases i with
    | zero => rw [Nat.zero_mul, Nat.zero_add, List.getElem?_append_left (by omega)]; rfl
    | succ i =>
      rw [List.getElem?_append_right (by omega), hl, show (i + 1) * 9 + j - 9 = i * 9 + j from by omega]
      exact ih (fun y hy => h8 y (List.mem_cons_of_mem _ hy)) (by simpa using hi)
theorem Rd.sub {P : Program} {w : World} {T t : TypeId} {fr : Nat × Nat} {b o k : Nat} {cs : Array Value} {v : List Int} (hT : tyB P T true k = true) (h : w.heap[b]? = some (.cells cs t fr)) (hl : v.length = k) (hk0 : 0 < k) (hn : ∀ j, j < k → cs[o + j]? = some (.int .i64 (v.getD j 0))) : Rd P w T ⟨b, o, none⟩ (YtkncbggnaobgeaaDoor.arr v) := by
  have hk : o + k ≤ cs.size := by
    have h1 := hn (k - 1) (by omega)
    rcases Nat.lt_or_ge (o + (k - 1)) cs.size with hl2 | hg
    · omega
    · rw [Array.getElem?_eq_none hg] at h1; cases h1
  have := Rd.agg (P := P) (o := o) hT h hk
  have e1 : cs.extract o (o + k) = arrC v := by
    apply Array.ext_getElem?
    intro i
    rw [Array.getElem?_extract, arrC_get]
    by_cases hi : i < k
    · rw [if_pos (by omega), hn i hi, List.getElem?_eq_getElem (by omega)]
      simp [List.getD, List.getElem?_eq_getElem (show i < v.length by omega)]
    · rw [if_neg (by omega), List.getElem?_eq_none (by omega)]; rfl
  rw [e1] at this
  exact this

section
variable {P : Program} {w : World} {T t : TypeId} {k b o : Nat} {ws : List Int} {z : Int}
theorem Rd.l40w (hT : tyB P T true 8 = true) (h : w.heap[b]? = some (.cells (arrC (ws ++ [z])) t)) (h8 : ws.length = 8) : Rd P w T ⟨b, 0, none⟩ (YtkncbggnaobgeaaDoor.arr ws) := by
  have e1 : arrC (ws ++ [z]) = ([] ++ (intsC ws ++ [Value.int .i64 z])).toArray := by simp [arrC, intsC]
  rw [e1] at h
  exact Rd.mid (a := []) hT h rfl (by simp [intsC, h8])
theorem Rd.l40c (hT : tyB P T false k = true) (h : w.heap[b]? = some (.cells (arrC (ws ++ [z])) t)) (h8 : ws.length = 8) : Rd P w T ⟨b, 8, none⟩ (.int .i64 z) := by
  have e1 : arrC (ws ++ [z]) = (intsC ws ++ ([Value.int .i64 z] ++ [])).toArray := by simp [arrC, intsC]
  rw [e1] at h
  exact Rd.mid1 (c := []) hT h (by simp [intsC, h8])
theorem wr_lineLn {a c : List Value} {l : PL} {r : Row} (ho : o = a.length) (h8 : l.ws.length = 8) (h8' : ws.length = 8) : wr (lineL a l r c) o (intsC (ws ++ [z])) = lineL a { l with ws := ws, c := z } r c := by
  rw [lineL_l, wr_mid ho (by simp [intsC, h8, h8']), lineL_l]
end
def imgX (imgs : List (List Int × Int)) (i : Nat) : List (PL × Row) := (imgs.take i).map (fun x => (toPL x, Row.none)) ++ List.replicate (imgs.length - i) (pl0, Row.none)

theorem from_any (A : Option Addr) (m cap : Nat) (imgs : List (List Int × Int)) (hmi : m = imgs.length) (h8 : ∀ x ∈ imgs, x.1.length = 8) (w : World) (himg : imgs = [] ∨ ∃ b o cs t fr, A = some ⟨b, o, none⟩ ∧ w.heap[b]? = some (.cells cs t fr) ∧ ∀ j u, (flatI imgs)[j]? = some u → cs[o + j]? = some (.int .i64 u)) (hm63 : m ≤ 1073741824) : Calls Tryd.prog 24 #[.slice A m cap] w fun e w' => if imgOk imgs = true then ∃ p lb mb, e = .returned (.pointer (some ⟨p, 0, none⟩)) ∧ St w [] w' (RM.fresh p lb mb (imgs.map toPL)).hp else e = .returned (.pointer none) ∧ St w [] w' [] := by
  refine calls_walk_n (args := [.slice A m cap]) Tryd.func24 rfl rfl rfl ?_
  have H := St.refl w
  refine WC.seq ?_
  refine WC.region ?_
  refine WL.assign rfl rfl ?_
  refine (WL.done (WX.next ?_))
  refine WC.seq ?_
  refine WC.seq ?_
  refine WC.region ?_
  refine WL.move rfl rfl ?_
  refine WL.lenSlc isl23 rfl rfl ?_
  refine WL.bin rfl rfl binv_lss rfl ?_
  refine WL.move rfl rfl ?_
  refine WL.splitD (t := 9) rfl (fun g1 => ?_) (fun g1 => ?_)
  ·
    refine WL.no rfl rfl rfl ?_
    refine WL.no rfl rfl rfl ?_
    refine WL.no rfl rfl rfl ?_
    refine WL.pickT rfl rfl rfl ?_
    refine (WL.done (WX.next ?_))
    refine WC.cond_true rfl (rfl) ?_
    refine WC.seq ?_
    refine WC.region ?_
    refine WL.assign rfl rfl ?_
    refine (WL.done (WX.next ?_))
    refine (WC.ret (WX.then_ret ?_))
    refine ret_one rfl rfl ?_
    rw [if_neg (imgOk_len (by omega))]
    exact ⟨rfl, H⟩
  ·
    refine WL.yes rfl rfl ?_
    refine WL.move rfl rfl ?_
    refine WL.yes rfl rfl ?_
    refine WL.lenSlc isl23 rfl rfl ?_
    refine WL.yes rfl rfl ?_
    refine WL.bin rfl rfl binv_gtr rfl ?_
    refine WL.pickF rfl rfl rfl ?_
    refine (WL.done (WX.next ?_))
    refine WC.cond_dec rfl (fun c2 => ?_) (fun c2 => ?_)
    ·
      refine WC.seq ?_
      refine WC.region ?_
      refine WL.assign rfl rfl ?_
      refine (WL.done (WX.next ?_))
      refine (WC.ret (WX.then_ret ?_))
      refine ret_one rfl rfl ?_
      rw [if_neg (imgOk_len (by omega))]
      exact ⟨rfl, H⟩
    ·
      refine (WC.skip (WX.next ?_))
      refine WC.seq ?_
      refine WC.region ?_
      refine WL.move rfl rfl ?_
      refine WL.lenSlc isl23 rfl rfl ?_
      refine WL.makeS H app156 zer158 rfl rfl rfl rfl (by omega) (by omega) rfl ?_
      intro g wx hg hgg H
      rw [new_cells] at H
      replace H := H.castH (H' := [(g, .cells (linesC (imgX imgs 0)).toArray 158)]) (by unfold imgX; rw [hmi]; rfl)
      refine WL.assign rfl rfl ?_
      refine (WL.done (WX.next ?_))
      refine WC.seq ?_
      refine WC.seq ?_
      refine WC.region ?_
      refine WL.move rfl rfl ?_
      refine WL.lenSlc isl23 rfl rfl ?_
      refine WL.move rfl rfl ?_
      refine (WL.done (WX.next ?_))
      refine WC.block ?_
      -- loop 1: changed [19] kept [3, 17, 18]
      obtain ⟨g0, hg0⟩ : ∃ g0, g0 = g := ⟨_, rfl⟩
      subst hg0
      refine WC.loop (Sub.cons (t := 3) rfl (Sub.cons (t := 17) rfl (Sub.cons (t := 18) rfl (Sub.nil _)))) (fun i : Nat => [(19, .int .i64 (i : Int))]) (fun q i wx => q = m - i ∧ i ≤ m ∧ ((imgs.take i).all fun x => isWords x.1 && isCode x.2) = true ∧ St w [] wx [(g0, .cells (linesC (imgX imgs i)).toArray 158)]) (m) (0) (Sub.cons (t := 19) (by rfl) (Sub.nil _)) (⟨rfl, by omega, by simp, H⟩) ?_
      rintro k g wx hI N hN
      obtain ⟨rfl, hg, hall, H⟩ := hI
      refine WC.seq ?_
      refine WC.region ?_
      refine WL.bin rfl rfl binv_lss rfl ?_
      refine (WL.done (WX.next ?_))
      refine WC.seq ?_
      refine WC.cond_dec rfl (fun c3 => ?_) (fun c3 => ?_)
      ·
        refine (WC.skip (WX.next ?_))
        refine WC.seq ?_
        refine WC.block ?_
        refine WC.seq ?_
        refine WC.region ?_
        have hlt : g < imgs.length := by omega
        have hx8 := h8 _ (List.getElem_mem hlt)
        obtain ⟨b, o, cs, t, fr, rfl, hb, hcs⟩ : ∃ b o cs t fr, A = some ⟨b, o, none⟩ ∧ w.heap[b]? = some (.cells cs t fr) ∧ ∀ j u, (flatI imgs)[j]? = some u → cs[o + j]? = some (.int .i64 u) := by
          rcases himg with h | h
          · rw [h] at hlt; simp at hlt
          · exact h
        have hcell : ∀ j, j < 9 → cs[o + g * 9 + j]? = some (.int .i64 (((imgs[g]).1 ++ [(imgs[g]).2]).getD j 0)) := fun j hj => by
          have h1 := flatI_get h8 hlt hj
          have hlen : j < ((imgs[g]).1 ++ [(imgs[g]).2]).length := by simp [hx8]; omega
          rw [List.getElem?_eq_getElem hlen] at h1
          have h2 := hcs _ _ h1
          rw [← Nat.add_assoc] at h2
          rw [h2]
          simp [List.getD, List.getElem?_eq_getElem hlen]
        refine WL.move rfl rfl ?_
        refine WL.idxSlc (k := g) slc23 rfl rfl (by rfl) (by omega) rfl ?_
        refine WL.load rfl (Rd.sub (v := (imgs[g]).1 ++ [(imgs[g]).2]) ty40 (H.oldBlock hb (by simp)) (by simp [hx8]) (by omega) hcell) rfl ?_
        refine WL.alloc H zer40 rfl ?_
        intro b5 wx hb5 hge5 H
        refine WL.assign rfl rfl ?_
        refine WL.storeArr (ws' := (imgs[g]).1 ++ [(imgs[g]).2]) H ty40 0 rfl rfl rfl rfl (by simp [hx8]) ?_
        intro wx H
        refine (WL.done (WX.next ?_))
        refine WC.seq ?_
        refine WC.seq ?_
        refine WC.region ?_
        refine WL.fieldAddr fld40_0 rfl rfl ?_
        refine WL.load rfl (Rd.l40w ty38 (H.blk 0 rfl) hx8) rfl ?_
        refine WL.call call98 rfl rfl ?_
        refine Calls.mono (words_any (imgs[g]).1 hx8 _) ?_
        rintro _ wx ⟨rfl, Hc⟩
        refine ⟨_, rfl, ?_⟩
        replace H := H.call0 Hc
        refine WL.notOp rfl rfl ?_
        refine WL.move rfl rfl ?_
        refine WL.split (t := 28) rfl (fun g2 => ?_) (fun g2 => ?_)
        ·
          refine WL.no rfl rfl rfl ?_
          refine WL.no rfl rfl rfl ?_
          refine WL.no rfl rfl rfl ?_
          refine WL.pickT rfl rfl rfl ?_
          refine WL.move rfl rfl ?_
          refine WL.no rfl rfl rfl ?_
          refine WL.no rfl rfl rfl ?_
          refine WL.no rfl rfl rfl ?_
          refine WL.pickT rfl rfl rfl ?_
          refine (WL.done (WX.next ?_))
          refine WC.cond_true rfl (rfl) ?_
          refine WC.seq ?_
          refine WC.region ?_
          refine WL.assign rfl rfl ?_
          refine (WL.done (WX.next ?_))
          refine (WC.ret (WX.then_ret (WX.block_ret (WX.then_ret (WX.then_ret (WX.block_ret (WX.then_ret ?_)))))))
          refine ret_one rfl rfl ?_
          have hw : isWords (imgs[g]).1 = false := by simpa only [Bool.not_eq_true'] using g2
          rw [if_neg (imgOk_bad hlt (by rw [hw]; rfl))]
          exact ⟨rfl, H.weaken (List.nil_sublist _)⟩
        ·
          refine WL.yes rfl rfl ?_
          refine WL.fieldAddr fld40_1 rfl rfl ?_
          refine WL.yes rfl rfl ?_
          refine WL.load rfl (Rd.l40c ty3 (H.blk 0 rfl) hx8) rfl ?_
          refine WL.yes rfl rfl ?_
          refine WL.bin rfl rfl binv_lss rfl ?_
          refine WL.pickF rfl rfl rfl ?_
          refine WL.move rfl rfl ?_
          refine WL.splitD (t := 33) rfl (fun g3 => ?_) (fun g3 => ?_)
          ·
            refine WL.no rfl rfl rfl ?_
            refine WL.no rfl rfl rfl ?_
            refine WL.no rfl rfl rfl ?_
            refine WL.pickT rfl rfl rfl ?_
            refine (WL.done (WX.next ?_))
            refine WC.cond_true rfl (rfl) ?_
            refine WC.seq ?_
            refine WC.region ?_
            refine WL.assign rfl rfl ?_
            refine (WL.done (WX.next ?_))
            refine (WC.ret (WX.then_ret (WX.block_ret (WX.then_ret (WX.then_ret (WX.block_ret (WX.then_ret ?_)))))))
            refine ret_one rfl rfl ?_
            rw [if_neg (imgOk_bad hlt (by rw [isCode_no (by omega), Bool.and_false]))]
            exact ⟨rfl, H.weaken (List.nil_sublist _)⟩
          ·
            refine WL.yes rfl rfl ?_
            refine WL.fieldAddr fld40_1 rfl rfl ?_
            refine WL.yes rfl rfl ?_
            refine WL.load rfl (Rd.l40c ty3 (H.blk 0 rfl) hx8) rfl ?_
            refine WL.yes rfl rfl ?_
            refine WL.bin rfl rfl binv_geq rfl ?_
            refine WL.pickF rfl rfl rfl ?_
            refine (WL.done (WX.next ?_))
            refine WC.cond_dec rfl (fun c6 => ?_) (fun c6 => ?_)
            ·
              refine WC.seq ?_
              refine WC.region ?_
              refine WL.assign rfl rfl ?_
              refine (WL.done (WX.next ?_))
              refine (WC.ret (WX.then_ret (WX.block_ret (WX.then_ret (WX.then_ret (WX.block_ret (WX.then_ret ?_)))))))
              refine ret_one rfl rfl ?_
              rw [if_neg (imgOk_bad hlt (by rw [isCode_no (by omega), Bool.and_false]))]
              exact ⟨rfl, H.weaken (List.nil_sublist _)⟩
            ·
              refine (WC.skip (WX.next ?_))
              refine WC.region ?_
              have hgood : (isWords (imgs[g]).1 && isCode (imgs[g]).2) = true := by
                rw [Bool.and_eq_true]
                exact ⟨by simpa only [Bool.not_eq_false'] using g2, isCode_iff.2 (by omega)⟩
              have hcells : linesC (imgX imgs g) = linesC ((imgs.take g).map fun x => (toPL x, Row.none)) ++ (lineC pl0 Row.none ++ linesC (List.replicate (imgs.length - (g + 1)) (pl0, Row.none))) := by
                unfold imgX
                rw [linesC_append, show imgs.length - g = imgs.length - (g + 1) + 1 from by omega, List.replicate_succ, linesC_cons]
              have hnext : linesC (imgX imgs (g + 1)) = linesC ((imgs.take g).map fun x => (toPL x, Row.none)) ++ (lineC (toPL (imgs[g])) Row.none ++ linesC (List.replicate (imgs.length - (g + 1)) (pl0, Row.none))) := by
                unfold imgX
                rw [List.take_add_one, List.getElem?_eq_getElem hlt, List.map_append, linesC_append, linesC_append]
                simp [linesC]
              have hal : (linesC ((imgs.take g).map fun x => (toPL x, Row.none))).length = 11 * g := by
                rw [linesC_length (fun x hx => by obtain ⟨y, hy, rfl⟩ := List.mem_map.1 hx; exact h8 y (List.mem_of_mem_take hy)), List.length_map, List.length_take]; omega
              replace H := H.castH (H' := [(b5, .cells (arrC ((imgs[g]).1 ++ [(imgs[g]).2])) 40), (g0, .cells (lineL (linesC ((imgs.take g).map fun x => (toPL x, Row.none))) pl0 Row.none (linesC (List.replicate (imgs.length - (g + 1)) (pl0, Row.none)))) 158)]) (by unfold lineL; rw [← hcells]; rfl)
              refine WL.move rfl rfl ?_
              refine WL.move rfl rfl ?_
              refine WL.load rfl (H.rdArr ty40 0 rfl (by simp [hx8])) rfl ?_
              refine WL.idxSlc (k := g) slc156 rfl rfl (by rfl) (by omega) rfl ?_
              refine WL.fieldAddr fld158_0 rfl rfl ?_
              refine WL.storeAt (v := arr ((imgs[g]).1 ++ [(imgs[g]).2])) H ty40 1 rfl rfl rfl (by rw [arr_cells, arrC_size]; simp [hx8]) (arrC_one _) (by rw [lineL_size rfl]; omega) ?_
              intro wx H
              replace H := H.castH (H' := [(b5, .cells (arrC ((imgs[g]).1 ++ [(imgs[g]).2])) 40), (g0, .cells (linesC (imgX imgs (g + 1))).toArray 158)]) (by
                have e1 := wr_lineLn (a := linesC ((imgs.take g).map fun x => (toPL x, Row.none))) (l := pl0) (r := Row.none) (c := linesC (List.replicate (imgs.length - (g + 1)) (pl0, Row.none))) (ws := (imgs[g]).1) (z := (imgs[g]).2) (o := 0 + g * 11 + 0) (by omega) rfl hx8
                have e2 : lineL (linesC ((imgs.take g).map fun x => (toPL x, Row.none))) { pl0 with ws := (imgs[g]).1, c := (imgs[g]).2 } Row.none (linesC (List.replicate (imgs.length - (g + 1)) (pl0, Row.none))) = (linesC (imgX imgs (g + 1))).toArray := by rw [hnext]; rfl
                rw [← e2]
                exact congrArg (fun c => [(b5, Obj.cells (arrC ((imgs[g]).1 ++ [(imgs[g]).2])) 40), (g0, Obj.cells c 158)]) e1)
              refine (WL.done (WX.block_normal (WX.next ?_)))
              refine WC.region ?_
              refine WL.bin rfl rfl (iadd (by omega) (by omega)) rfl ?_
              refine WL.move rfl rfl ?_
              refine (WL.done (WX.round ?_))
              exact hN _ (g+1) _ _ (by omega) ⟨rfl, by omega, by rw [List.take_add_one, List.getElem?_eq_getElem hlt, List.all_append, hall]; simpa using hgood, H.tail⟩ (Sub.cons (t := 19) (by rfl) (Sub.nil _)) (Sub.cons (t := 3) rfl (Sub.cons (t := 17) rfl (Sub.cons (t := 18) rfl (Sub.nil _))))
      ·
        refine (WC.exit (WX.then_exit (WX.then_exit (WX.block_exit (WX.next ?_)))))
        refine WC.seq ?_
        refine WC.region ?_
        refine WL.move rfl rfl ?_
        refine WL.makeMap H rfl ?_
        intro mb wx hmb hgm H
        refine WL.build pla161 zer161 rfl rfl rfl ?_
        refine WL.box H rfl rfl ?_
        intro b47 wx hb47 hge47 H
        refine WL.assign rfl rfl ?_
        refine (WL.done (WX.next ?_))
        refine (WC.ret ?_)
        refine ret_one rfl rfl ?_
        obtain rfl : g = m := by omega
        have hok : imgOk imgs = true := by
          unfold imgOk
          rw [Bool.and_eq_true, Bool.and_eq_true]
          refine ⟨⟨by simp; omega, by simp; omega⟩, ?_⟩
          rw [List.take_of_length_le (by omega)] at hall
          exact hall
        rw [if_pos hok]
        refine ⟨b47, g0, mb, rfl, ?_⟩
        rw [RM.fresh_hp, List.length_map, ← hmi, List.map_map]
        have e1 : imgX imgs g = imgs.map ((fun l => (l, Row.none)) ∘ toPL) := by
          unfold imgX
          rw [hmi, Nat.sub_self, List.replicate_zero, List.append_nil, List.take_length]; rfl
        rw [e1] at H
        exact H.perm (List.Perm.cons _ (List.Perm.swap _ _ _))

end Go.Proofs.YtkncbggnaobgeaaDoor

/- While a crash settles its cuts. -/
namespace Go.Proofs.YtkncbggnaobgeaaDoor
open Go.RowKit
set_option linter.unusedVariables false
set_option linter.unusedSimpArgs false
set_option linter.unusedSectionVars false
set_option maxRecDepth 100000

/-- One cut's line settled. -/
def cutStep (ls : List PL) (c : Int × Int) : List PL := ls.set c.1.toNat (pSettle (ls.getD c.1.toNat default) c.2.toNat)
structure Settling (R R' : RM) (cuts : List (Int × Int)) (i : Nat) : Prop where
  ok : R'.ok
  p : R'.p = R.p
  mb : R'.mb = R.mb
  clk : R'.clk = R.clk
  len : R'.X.length = R.X.length
  ls : R'.abs.ls = (cuts.take i).foldl cutStep R.abs.ls
  rest : ∀ (j : Nat) x, R.X[j]? = some x → (∀ c ∈ cuts.take i, c.1 ≠ (j : Int)) → ∃ x', R'.X[j]? = some x' ∧ x'.1 = x.1
theorem Settling.start {R : RM} (h : R.ok) (cuts : List (Int × Int)) : Settling R R cuts 0 := ⟨h, rfl, rfl, rfl, rfl, by simp, fun j x hx _ => ⟨x, hx, rfl⟩⟩
theorem Settling.step {R g : RM} {cuts : List (Int × Int)} {i : Nat} (h : Settling R (R.like g) cuts i) (hi : i < cuts.length) {A B : List (PL × Row)} {l : PL} {r r' : Row} {k kp : Nat} {mp : List (Int × Nat)} (hX : (R.like g).X = A ++ (l, r) :: B) (hA : A.length = k)
    (hk : (cuts[i]).1 = (k : Int)) (hkp : (cuts[i]).2 = (kp : Int)) (hget : (R.like g).X[k]? = some (l, r))
    (hok : ((R.like g).upd A B (pSettle l kp) r' mp R.clk).ok) : Settling R ((R.like g).upd A B (pSettle l kp) r' mp R.clk) cuts (i + 1) := by
  refine ⟨hok, h.p, h.mb, rfl, ?_, ?_, fun j x hx hc => ?_⟩
  · rw [← h.len, hX]; simp [RM.upd]
  · rw [List.take_add_one, List.getElem?_eq_getElem hi, List.foldl_append, ← h.ls]
    have e1 := abs_upd (R := R.like g) (l' := pSettle l kp) (r' := r') (mp := mp) (clk := R.clk) hX hA
    rw [e1]
    show (R.like g).abs.ls.set k (pSettle l kp) = cutStep (R.like g).abs.ls (cuts[i])
    unfold cutStep
    rw [hk, hkp, Int.toNat_natCast, Int.toNat_natCast]
    have e2 : (R.like g).abs.ls.getD k default = l := by simp [RM.abs, hget]
    rw [e2]
  · have hc1 : ∀ c ∈ cuts.take i, c.1 ≠ (j : Int) := fun c hcm => hc c (by rw [List.take_add_one]; exact List.mem_append_left _ hcm)
    have hc2 : (cuts[i]).1 ≠ (j : Int) := hc _ (by rw [List.take_add_one, List.getElem?_eq_getElem hi]; exact List.mem_append_right _ (by simp))
    obtain ⟨x', hx', he⟩ := h.rest j x hx hc1
    refine ⟨x', ?_, he⟩
    have hjk : j ≠ k := fun e => hc2 (by rw [hk, e])
    show (A ++ (pSettle l kp, r') :: B)[j]? = some x'
    rw [← hx', hX]
    by_cases hlt : j < A.length
    · rw [List.getElem?_append_left hlt, List.getElem?_append_left hlt]
    · rw [List.getElem?_append_right (by omega), List.getElem?_append_right (by omega)]
      obtain ⟨q, hq⟩ : ∃ q, j - A.length = q + 1 := ⟨j - A.length - 1, by omega⟩
      rw [hq]; simp
/-- Dropped: nothing pending, no mark. -/
def drop0 (l : PL) : PL := { l with ps := [], mark := 0 }
/-- While a crash drops what is pending: a line is R's own, or dropped. -/
structure Clearing (R : RM) (X : List (PL × Row)) (seen : Array Nat) : Prop where
  len : X.length = R.X.length
  each : ∀ (i : Nat) x, R.X[i]? = some x → (X[i]? = some x ∧ ∀ b, ((i : Int), b) ∈ R.mp → b ∉ seen) ∨ X[i]? = some (drop0 x.1, Row.none)
theorem Clearing.start (R : RM) : Clearing R R.X #[] := ⟨rfl, fun i x hx => .inl ⟨hx, by simp⟩⟩
theorem Clearing.at {R : RM} {X : List (PL × Row)} {seen : Array Nat} (h : Clearing R X seen) (hR : R.ok) {k : Nat} (hk : k < R.X.length) : ∃ A l r B x, X = A ++ (l, r) :: B ∧ A.length = k ∧ (linesC A).length = 11 * k ∧ l.ws.length = 8 ∧ R.X[k]? = some x ∧ drop0 l = drop0 x.1 := by
  obtain ⟨A, ⟨l, r⟩, B, hX, hA⟩ := split_at (X := X) (n := k) (by rw [h.len]; exact hk)
  have hall : ∀ y ∈ X, y.1.ws.length = 8 := by
    intro y hy
    obtain ⟨i, hi⟩ := List.getElem?_of_mem hy
    have hil : i < X.length := by
      rcases Nat.lt_or_ge i X.length with hl | hg
      · exact hl
      · rw [List.getElem?_eq_none hg] at hi; cases hi
    have hx := List.getElem?_eq_getElem (show i < R.X.length by rw [← h.len]; exact hil)
    have h8 := (hR.lines _ (List.getElem_mem (show i < R.X.length by rw [← h.len]; exact hil))).1.1
    rcases h.each i _ hx with ⟨h1, _⟩ | h1
    · rw [h1] at hi; cases hi; exact h8
    · rw [h1] at hi; cases hi; exact h8
  refine ⟨A, l, r, B, R.X[k], hX, hA, ?_, hall (l, r) (by rw [hX]; simp), List.getElem?_eq_getElem hk, ?_⟩
  · rw [linesC_length (fun x hx => hall x (by rw [hX]; exact List.mem_append_left _ hx)), hA]
  · have hget : X[k]? = some (l, r) := by rw [hX, List.getElem?_append_right (by omega), hA, Nat.sub_self]; rfl
    rcases h.each k _ (List.getElem?_eq_getElem hk) with ⟨h1, _⟩ | h1
    · rw [hget] at h1; rw [← Option.some.inj h1]
    · rw [hget] at h1
      have e : l = drop0 (R.X[k]).1 := congrArg Prod.fst (Option.some.inj h1)
      rw [e]; rfl
theorem Clearing.step {R : RM} {X : List (PL × Row)} {seen : Array Nat} (h : Clearing R X seen) (hR : R.ok) {A B : List (PL × Row)} {l : PL} {r : Row} {k bn : Nat} {x : PL × Row} (hX : X = A ++ (l, r) :: B) (hA : A.length = k) (hx : R.X[k]? = some x) (hd : drop0 l = drop0 x.1)
    (hm : ((k : Int), bn) ∈ R.mp) : Clearing R (A ++ (drop0 l, Row.none) :: B) (seen.push bn) := by
  refine ⟨by rw [← h.len, hX]; simp, fun i y hy => ?_⟩
  by_cases hi : i = k
  · subst hi
    rw [hx] at hy; cases hy
    exact .inr (by rw [List.getElem?_append_right (by omega), hA, Nat.sub_self, hd]; rfl)
  · have hsame : (A ++ (drop0 l, Row.none) :: B)[i]? = X[i]? := by
      rw [hX]
      by_cases hlt : i < A.length
      · rw [List.getElem?_append_left hlt, List.getElem?_append_left hlt]
      · rw [List.getElem?_append_right (by omega), List.getElem?_append_right (by omega)]
        obtain ⟨q, hq⟩ : ∃ q, i - A.length = q + 1 := ⟨i - A.length - 1, by omega⟩
        rw [hq]; simp
    rcases h.each i y hy with ⟨h1, h2⟩ | h1
    · refine .inl ⟨by rw [hsame]; exact h1, fun b hb => ?_⟩
      have hb1 := h2 b hb
      simp only [Array.mem_push, not_or]
      refine ⟨hb1, fun he => hi ?_⟩
      subst he
      have e1 := find_born hR.map.2.1 hb
      have e2 := find_born hR.map.2.1 hm
      rw [e1] at e2
      have := (Prod.mk.inj (Option.some.inj e2)).1
      omega
    · exact .inr (by rw [hsame]; exact h1)
theorem Clearing.done {R : RM} {X : List (PL × Row)} {seen : Array Nat} (h : Clearing R X seen) (hR : R.ok) (hall : ∀ x ∈ R.mp, x.2 ∈ seen) :
    X.map Prod.fst = R.X.map (fun x => drop0 x.1) ∧ ∀ x ∈ X, x.1.ok ∧ x.2.ok 2 x.1.ps.length (flatP x.1.ps) ∧ x.1.ps = [] := by
  have key : ∀ (i : Nat) x, R.X[i]? = some x → ∃ y, X[i]? = some y ∧ y.1 = drop0 x.1 ∧ y.1.ok ∧ y.2.ok 2 y.1.ps.length (flatP y.1.ps) ∧ y.1.ps = [] := by
    intro i x hx
    obtain ⟨hok, hr⟩ := hR.lines x (List.mem_of_getElem? hx)
    have hdok : (drop0 x.1).ok := ⟨hok.1, hok.2.1, hok.2.2.1, Nat.le_refl _, by intro p hp; cases hp⟩
    rcases h.each i x hx with ⟨h1, h2⟩ | h1
    · have hps : x.1.ps = [] := by
        rcases Classical.em (x.1.ps = []) with hh | hh
        · exact hh
        · exfalso
          have hb := (hR.busy (i : Int)).2 ⟨by omega, x, by rw [Int.toNat_natCast]; exact hx, hh⟩
          obtain ⟨⟨k, b⟩, hkb, hk⟩ := List.mem_map.1 hb
          simp only at hk
          subst hk
          exact h2 b hkb (hall _ hkb)
      have hm0 : x.1.mark = 0 := by have := hok.2.2.2.1; rw [hps] at this; simpa using this
      refine ⟨x, h1, ?_, hok, hr, hps⟩
      unfold drop0
      rw [← hps, ← hm0]
    · exact ⟨_, h1, rfl, hdok, ⟨rfl, rfl⟩, rfl⟩
  refine ⟨?_, fun y hy => ?_⟩
  · apply List.ext_getElem?
    intro i
    rw [List.getElem?_map, List.getElem?_map]
    cases hx : R.X[i]? with
    | none =>
      have : X[i]? = none := by rw [List.getElem?_eq_none_iff] at hx ⊢; rw [h.len]; exact hx
      rw [this]; rfl
    | some x =>
      obtain ⟨y, hy, he, _⟩ := key i x hx
      rw [hy]; simp [he]
  · obtain ⟨i, hi⟩ := List.getElem?_of_mem hy
    have hil : i < R.X.length := by
      rw [← h.len]
      rcases Nat.lt_or_ge i X.length with hl | hg
      · exact hl
      · rw [List.getElem?_eq_none hg] at hi; cases hi
    obtain ⟨y', hy', _, h3⟩ := key i _ (List.getElem?_eq_getElem hil)
    rw [hi] at hy'; cases hy'
    exact h3
/-- The lines put anew, the map as it was. -/
def RM.xs (R : RM) (X : List (PL × Row)) : RM := { R with X := X }
/-- Behind a crash. -/
def RM.crashed (R : RM) (X : List (PL × Row)) : RM := { R with X := X, mp := [], span := 0, evs := [], er := .none }
theorem RM.crashed_ok {R : RM} (hR : R.ok) {X : List (PL × Row)} (hlen : X.length = R.X.length) (h : ∀ x ∈ X, x.1.ok ∧ x.2.ok 2 x.1.ps.length (flatP x.1.ps) ∧ x.1.ps = []) : (R.crashed X).ok := by
  refine ⟨by show 1 ≤ X.length ∧ _; rw [show (R.crashed X).X.length = X.length from rfl, hlen]; exact hR.len, by show X.length ≤ _ ∧ _; rw [hlen]; exact hR.lcap, by show R.junk.length = 11 * (R.lcap - X.length); rw [hlen]; exact hR.junk, fun x hx => ⟨(h x hx).1, (h x hx).2.1⟩, ⟨by simp [RM.crashed], by simp [RM.crashed], by simp [RM.crashed]⟩, ?_, by simp [RM.crashed], ⟨rfl, rfl⟩, by simp [RM.crashed]⟩
  intro n
  constructor
  · intro hn; simp [RM.crashed] at hn
  · rintro ⟨_, x, hx, hp⟩
    exact absurd (h x (List.mem_of_getElem? hx)).2.2 hp
theorem foldl_len (cuts : List (Int × Int)) : ∀ ls : List PL, (cuts.foldl cutStep ls).length = ls.length := by
  induction cuts with
  | nil => intro ls; rfl
  | cons c cuts ih => intro ls; rw [List.foldl_cons, ih]; simp [cutStep]
theorem St.dropped {w0 w : World} {S : List Nat} {R : RM} {X A B : List (PL × Row)} {l : PL} {r : Row} {q : Nat × Obj} (hX : X = A ++ (l, r) :: B)
    (h : St w0 S w (q :: (R.p, structO R.lb X.length R.lcap R.mb R.span R.er R.evs.length) :: (R.lb, .cells (lineL (linesC A) (drop0 l) Row.none (linesC B ++ R.junk)) 158) :: (R.mb, mO R.mp R.clk) :: (r.hp 111 ++ (R.er.hp 164 ++ pendHp A ++ pendHp B)))) :
    St w0 S w (q :: (R.xs (A ++ (drop0 l, Row.none) :: B)).hp) := by
  have h2 := h.weaken (List.Sublist.cons_cons _ (List.Sublist.cons_cons _ (List.Sublist.cons_cons _ (List.Sublist.cons_cons _ (List.sublist_append_right _ _)))))
  have hl : X.length = (A ++ (drop0 l, Row.none) :: B).length := by rw [hX]; simp
  rw [hl] at h2
  exact St.unfocus (L := [q]) (R := R.xs (A ++ (drop0 l, Row.none) :: B)) (A := A) (B := B) (l := drop0 l) (r := Row.none) rfl h2
end Go.Proofs.YtkncbggnaobgeaaDoor

/- Walks of functions of the program; printed by a program of this session (walk.py) out of hand-written hints. -/
namespace Go.Proofs.YtkncbggnaobgeaaDoor
open Go.RowKit
set_option linter.unusedVariables false
set_option linter.unusedSimpArgs false
set_option maxRecDepth 100000

/-- Cuts that were handed over. -/
def CutsIn (w : World) (A : Option Addr) (cuts : List (Int × Int)) (bad : List Nat) : Prop := cuts = [] ∨ ∃ b o cs t fr, A = some ⟨b, o, none⟩ ∧ w.heap[b]? = some (.cells cs t fr) ∧ b ∉ bad ∧ ∀ j (h : j < cuts.length), cs[o + j * 2]? = some (.int .i64 (cuts[j]).1) ∧ cs[o + j * 2 + 1]? = some (.int .i64 (cuts[j]).2)
def cutOk (M : PM) (cuts : List (Int × Int)) (j : Nat) : Bool :=
  M.has (cuts.getD j (0, 0)).1 && (decide (j = 0) || decide ((cuts.getD (j - 1) (0, 0)).1 < (cuts.getD j (0, 0)).1)) && decide (0 ≤ (cuts.getD j (0, 0)).2) && decide ((cuts.getD j (0, 0)).2 ≤ (M.line (cuts.getD j (0, 0)).1).ps.length)
def PM.cutsOk (M : PM) (cuts : List (Int × Int)) : Bool := (List.range cuts.length).all (cutOk M cuts)
theorem getD_at {cuts : List (Int × Int)} {g : Nat} (hg : g < cuts.length) : cuts.getD g (0, 0) = cuts[g] := by simp [List.getD, List.getElem?_eq_getElem hg]
theorem cutOk_iff {M : PM} {cuts : List (Int × Int)} {g : Nat} (hg : g < cuts.length) : cutOk M cuts g = true ↔ M.has (cuts[g]).1 = true ∧ (g = 0 ∨ (cuts.getD (g - 1) (0, 0)).1 < (cuts[g]).1) ∧ 0 ≤ (cuts[g]).2 ∧ (cuts[g]).2 ≤ (M.line (cuts[g]).1).ps.length := by
  unfold cutOk
  rw [getD_at hg]
  simp only [Bool.and_eq_true, Bool.or_eq_true, decide_eq_true_eq]
  constructor
  · rintro ⟨⟨⟨h1, h2⟩, h3⟩, h4⟩; exact ⟨h1, h2, h3, h4⟩
  · rintro ⟨h1, h2, h3, h4⟩; exact ⟨⟨⟨h1, h2⟩, h3⟩, h4⟩
theorem cutsOk_bad {M : PM} {cuts : List (Int × Int)} {g : Nat} (hg : g < cuts.length) (h : ¬ cutOk M cuts g = true) : M.cutsOk cuts = false := by
  unfold PM.cutsOk
  rw [List.all_eq_false]
  exact ⟨g, List.mem_range.2 hg, h⟩
def PM.crash (M : PM) (cuts : List (Int × Int)) : PM :=
  if M.cutsOk cuts then { ls := (cuts.foldl cutStep M.ls).map drop0, span := 0, evs := [] } else M
theorem cuts_asc {M : PM} {cuts : List (Int × Int)} (h : ∀ j, j < cuts.length → cutOk M cuts j = true) : ∀ i j, i < j → ∀ hj : j < cuts.length, (cuts.getD i (0, 0)).1 < (cuts[j]).1 := by
  intro i j hij
  induction j with
  | zero => omega
  | succ j ih =>
    intro hj
    have h1 := ((cutOk_iff hj).1 (h _ hj)).2.1
    rcases h1 with h1 | h1
    · omega
    · rw [show j + 1 - 1 = j from rfl] at h1
      rcases Nat.lt_or_ge i j with hl | hg
      · have := ih hl (by omega)
        rw [getD_at (by omega)] at h1
        omega
      · have : i = j := by omega
        subst this; exact h1

theorem crash_any (R : RM) (A0 : Option Addr) (m cap : Nat) (cuts : List (Int × Int)) (hmc : m = cuts.length) (hm63 : m ≤ 9223372036854775807) (hps : ∀ x ∈ R.X, x.1.ps.length ≤ 1073741824) (w : World) (hm : MemIn w R) (hL : L64 w) (hc0 : CutsIn w A0 cuts (R.hp.map Prod.fst)) : Calls Tryd.prog 37 #[.pointer (some ⟨R.p, 0, none⟩), .slice A0 m cap] w fun e w' => ∃ R' : RM, e = .returned (.int .i64 (if R.abs.cutsOk cuts then 0 else 1)) ∧ R'.p = R.p ∧ R'.abs = R.abs.crash cuts ∧ R'.ok ∧ St w (R.hp.map Prod.fst) w' R'.hp := by
  refine calls_walk_n (args := [.pointer (some ⟨R.p, 0, none⟩), .slice A0 m cap]) Tryd.func37 rfl rfl rfl ?_
  have H := hm.start
  have h3lt : 3 < w.heap.size := by obtain ⟨t, fr, h⟩ := hL; exact lt_of_some h
  have hSS : ∀ k ∈ R.hp.map Prod.fst, 3 < k := fun k hk => by obtain ⟨q, hq, rfl⟩ := List.mem_map.1 hk; exact hm.hi q hq
  refine WC.seq ?_
  refine WC.region ?_
  refine WL.assign rfl rfl ?_
  refine (WL.done (WX.next ?_))
  refine WC.seq ?_
  refine WC.seq ?_
  refine WC.region ?_
  refine WL.move rfl rfl ?_
  refine WL.lenSlc isl50 rfl rfl ?_
  refine WL.move rfl rfl ?_
  refine (WL.done (WX.next ?_))
  refine WC.block ?_
  -- loop 1: changed [12] kept [0, 1, 10, 11]
  refine WC.loop (Sub.cons (t := 0) rfl (Sub.cons (t := 1) rfl (Sub.cons (t := 10) rfl (Sub.cons (t := 11) rfl (Sub.nil _))))) (fun i : Nat => [(12, .int .i64 (i : Int))]) (fun q i wx => q = m - i ∧ i ≤ m ∧ ((List.range i).all (cutOk R.abs cuts)) = true ∧ St w (R.hp.map Prod.fst) wx R.hp) (m) (0) (Sub.cons (t := 12) (by rfl) (Sub.nil _)) (⟨rfl, by omega, by simp, H⟩) ?_
  rintro k g wx hI N hN
  obtain ⟨rfl, hg, hall, H⟩ := hI
  refine WC.seq ?_
  refine WC.region ?_
  refine WL.bin rfl rfl binv_lss rfl ?_
  refine (WL.done (WX.next ?_))
  refine WC.seq ?_
  refine WC.cond_dec rfl (fun c1 => ?_) (fun c1 => ?_)
  ·
    refine (WC.skip (WX.next ?_))
    refine WC.seq ?_
    refine WC.block ?_
    refine WC.seq ?_
    refine WC.region ?_
    have hlt : g < cuts.length := by omega
    obtain ⟨b, o, cs, t, fr, rfl, hb, hbn, hcs⟩ : ∃ b o cs t fr, A0 = some ⟨b, o, none⟩ ∧ w.heap[b]? = some (.cells cs t fr) ∧ b ∉ R.hp.map Prod.fst ∧ ∀ j (h : j < cuts.length), cs[o + j * 2]? = some (.int .i64 (cuts[j]).1) ∧ cs[o + j * 2 + 1]? = some (.int .i64 (cuts[j]).2) := by
      rcases hc0 with h | h
      · rw [h] at hlt; simp at hlt
      · exact h
    refine WL.move rfl rfl ?_
    refine WL.idxSlc (k := g) slc50 rfl rfl (by rfl) (by omega) rfl ?_
    refine WL.load rfl (Rd.pair ty109 (H.oldBlock hb hbn) (hcs g hlt).1 (hcs g hlt).2) rfl ?_
    refine WL.alloc H zer109 rfl ?_
    intro b6 wx hb6 hge6 H
    refine WL.assign rfl rfl ?_
    (refine WL.storeAt H ty109 0 rfl rfl rfl rfl (by simp [Value.cells, Value.oneCell']) (by first | decide | (simp only [wr_size]; decide) | simp [wr_size]) ?_)
    intro wx H
    refine (WL.done (WX.next ?_))
    refine WC.seq ?_
    replace H := H.drew
    refine WC.held (SX (World.drew wx) []) (by kernel_rfl) ?_
    generalize World.drew wx = wb at H ⊢
    have HB := St.refl wb
    refine WH.take 0 rfl (by kernel_rfl) (by kernel_rfl) (by kernel_rfl) (fun _ _ _ h => h) ⟨_, HB⟩ (fun w' hS => EX.move rfl) rfl ?_
    refine WH.take 1 rfl (by kernel_rfl) (by kernel_rfl) (by kernel_rfl) (fun _ _ _ h => h) ⟨_, HB⟩ (fun w' hS => EX.fieldAddr fld109_0 rfl) rfl ?_
    refine WH.take 2 rfl (by kernel_rfl) (by kernel_rfl) (by kernel_rfl) (fun _ _ _ h => h) ⟨_, HB⟩ (fun w' hS => EX.load rfl (hS.rd1 ty3 (H.blk 0 rfl) (by simp) rfl)) rfl ?_
    refine WH.hard 3 rfl (by kernel_rfl) ?_
    refine WL.call call101 rfl rfl ?_
    refine Calls.mono (has_any R _ _ (hm.keep (L := [_]) (H.call0 HB))) ?_
    rintro _ wx ⟨rfl, rfl⟩
    refine ⟨_, rfl, ?_⟩
    refine WL.done (WX.heldOn ⟨_, HB⟩ ?_)
    refine WH.take 4 rfl (by kernel_rfl) (by kernel_rfl) (by kernel_rfl) (fun _ _ _ h => h) ⟨_, HB⟩ (fun w' hS => EX.notOp rfl) rfl ?_
    refine WH.take 5 rfl (by kernel_rfl) (by kernel_rfl) (by kernel_rfl) (fun _ _ _ h => h) ⟨_, HB⟩ (fun w' hS => EX.move rfl) rfl ?_
    refine WH.split (t := 22) rfl (fun g1 => ?_) (fun g1 => ?_)
    ·
      refine WH.takeNo 6 rfl (by kernel_rfl) (by kernel_rfl) (by kernel_rfl) (fun _ _ _ h => h) ⟨_, HB⟩ rfl rfl rfl ?_
      refine WH.takeNo 7 rfl (by kernel_rfl) (by kernel_rfl) (by kernel_rfl) (fun _ _ _ h => h) ⟨_, HB⟩ rfl rfl rfl ?_
      refine WH.takeNo 8 rfl (by kernel_rfl) (by kernel_rfl) (by kernel_rfl) (fun _ _ _ h => h) ⟨_, HB⟩ rfl rfl rfl ?_
      refine WH.takeNoU 9 rfl (by kernel_rfl) (by kernel_rfl) (by kernel_rfl) (fun _ _ _ h => h) ⟨_, HB⟩ rfl rfl rfl rfl ?_
      refine WH.takeNoU 10 rfl (by kernel_rfl) (by kernel_rfl) (by kernel_rfl) (fun _ _ _ h => h) ⟨_, HB⟩ rfl rfl rfl rfl ?_
      refine WH.takeNoU 11 rfl (by kernel_rfl) (by kernel_rfl) (by kernel_rfl) (fun _ _ _ h => h) ⟨_, HB⟩ rfl rfl rfl rfl ?_
      refine WH.takeNoU 12 rfl (by kernel_rfl) (by kernel_rfl) (by kernel_rfl) (fun _ _ _ h => h) ⟨_, HB⟩ rfl rfl rfl rfl ?_
      refine WH.takeNoU 13 rfl (by kernel_rfl) (by kernel_rfl) (by kernel_rfl) (fun _ _ _ h => h) ⟨_, HB⟩ rfl rfl rfl rfl ?_
      refine WH.takeNoU 14 rfl (by kernel_rfl) (by kernel_rfl) (by kernel_rfl) (fun _ _ _ h => h) ⟨_, HB⟩ rfl rfl rfl rfl ?_
      refine WH.takeNoU 15 rfl (by kernel_rfl) (by kernel_rfl) (by kernel_rfl) (fun _ _ _ h => h) ⟨_, HB⟩ rfl rfl rfl rfl ?_
      have hprev := (hcs (g - 1) (by omega)).1
      refine WH.takeNoU 16 rfl (by kernel_rfl) (by kernel_rfl) (by kernel_rfl) (fun _ _ _ h => h) ⟨_, HB⟩ rfl rfl rfl rfl ?_
      refine WH.takeNoU 17 rfl (by kernel_rfl) (by kernel_rfl) (by kernel_rfl) (fun _ _ _ h => h) ⟨_, HB⟩ rfl rfl rfl rfl ?_
      refine WH.takeNo 18 rfl (by kernel_rfl) (by kernel_rfl) (by kernel_rfl) (fun _ _ _ h => h) ⟨_, HB⟩ rfl rfl rfl ?_
      refine WH.take 19 rfl (by kernel_rfl) (by kernel_rfl) (by kernel_rfl) (fun _ _ _ h => h) ⟨_, HB⟩ (fun w' hS => EX.pickT rfl rfl) rfl ?_
      refine WH.take 20 rfl (by kernel_rfl) (by kernel_rfl) (by kernel_rfl) (fun _ _ _ h => h) ⟨_, HB⟩ (fun w' hS => EX.move rfl) rfl ?_
      refine WH.takeNo 21 rfl (by kernel_rfl) (by kernel_rfl) (by kernel_rfl) (fun _ _ _ h => h) ⟨_, HB⟩ rfl rfl rfl ?_
      refine WH.takeNo 22 rfl (by kernel_rfl) (by kernel_rfl) (by kernel_rfl) (fun _ _ _ h => h) ⟨_, HB⟩ rfl rfl rfl ?_
      refine WH.takeNo 23 rfl (by kernel_rfl) (by kernel_rfl) (by kernel_rfl) (fun _ _ _ h => h) ⟨_, HB⟩ rfl rfl rfl ?_
      refine WH.take 24 rfl (by kernel_rfl) (by kernel_rfl) (by kernel_rfl) (fun _ _ _ h => h) ⟨_, HB⟩ (fun w' hS => EX.pickT rfl rfl) rfl ?_
      refine WH.take 25 rfl (by kernel_rfl) (by kernel_rfl) (by kernel_rfl) (fun _ _ _ h => h) ⟨_, HB⟩ (fun w' hS => EX.move rfl) rfl ?_
      refine WH.takeNo 26 rfl (by kernel_rfl) (by kernel_rfl) (by kernel_rfl) (fun _ _ _ h => h) ⟨_, HB⟩ rfl rfl rfl ?_
      refine WH.takeNo 27 rfl (by kernel_rfl) (by kernel_rfl) (by kernel_rfl) (fun _ _ _ h => h) ⟨_, HB⟩ rfl rfl rfl ?_
      refine WH.takeNo 28 rfl (by kernel_rfl) (by kernel_rfl) (by kernel_rfl) (fun _ _ _ h => h) ⟨_, HB⟩ rfl rfl rfl ?_
      refine WH.takeNo 29 rfl (by kernel_rfl) (by kernel_rfl) (by kernel_rfl) (fun _ _ _ h => h) ⟨_, HB⟩ rfl rfl rfl ?_
      refine WH.takeNo 30 rfl (by kernel_rfl) (by kernel_rfl) (by kernel_rfl) (fun _ _ _ h => h) ⟨_, HB⟩ rfl rfl rfl ?_
      refine WH.takeNo 31 rfl (by kernel_rfl) (by kernel_rfl) (by kernel_rfl) (fun _ _ _ h => h) ⟨_, HB⟩ rfl rfl rfl ?_
      refine WH.takeNo 32 rfl (by kernel_rfl) (by kernel_rfl) (by kernel_rfl) (fun _ _ _ h => h) ⟨_, HB⟩ rfl rfl rfl ?_
      refine WH.takeNo 33 rfl (by kernel_rfl) (by kernel_rfl) (by kernel_rfl) (fun _ _ _ h => h) ⟨_, HB⟩ rfl rfl rfl ?_
      refine WH.takeNo 34 rfl (by kernel_rfl) (by kernel_rfl) (by kernel_rfl) (fun _ _ _ h => h) ⟨_, HB⟩ rfl rfl rfl ?_
      refine WH.takeNo 35 rfl (by kernel_rfl) (by kernel_rfl) (by kernel_rfl) (fun _ _ _ h => h) ⟨_, HB⟩ rfl rfl rfl ?_
      refine WH.takeNo 36 rfl (by kernel_rfl) (by kernel_rfl) (by kernel_rfl) (fun _ _ _ h => h) ⟨_, HB⟩ rfl rfl rfl ?_
      refine WH.takeNo 37 rfl (by kernel_rfl) (by kernel_rfl) (by kernel_rfl) (fun _ _ _ h => h) ⟨_, HB⟩ rfl rfl rfl ?_
      refine WH.takeNo 38 rfl (by kernel_rfl) (by kernel_rfl) (by kernel_rfl) (fun _ _ _ h => h) ⟨_, HB⟩ rfl rfl rfl ?_
      refine WH.take 39 rfl (by kernel_rfl) (by kernel_rfl) (by kernel_rfl) (fun _ _ _ h => h) ⟨_, HB⟩ (fun w' hS => EX.pickT rfl rfl) rfl ?_
      refine WH.done (by kernel_rfl) ?_
      replace H := H.call HB
      refine WX.next ?_
      refine WC.cond_true rfl (rfl) ?_
      refine WC.seq ?_
      refine WC.region ?_
      refine WL.assign rfl rfl ?_
      refine (WL.done (WX.next ?_))
      refine (WC.ret (WX.block_ret (WX.then_ret (WX.then_ret (WX.block_ret (WX.then_ret ?_))))))
      refine ret_one rfl rfl ?_
      have e1 : R.abs.cutsOk cuts = false := cutsOk_bad hlt (fun h => by have h2 := (cutOk_iff hlt).1 h; rw [abs_has] at h2; rw [h2.1] at g1; cases g1)
      rw [e1]
      exact ⟨R, rfl, rfl, by unfold PM.crash; rw [e1]; rfl, hm.ok, H.tail⟩
    ·
      refine WH.takeYes 6 rfl (by kernel_rfl) (by kernel_rfl) (by kernel_rfl) (fun _ _ _ h => h) ⟨_, HB⟩ rfl rfl (fun w' hS => EX.move rfl) rfl ?_
      refine WH.takeYes 7 rfl (by kernel_rfl) (by kernel_rfl) (by kernel_rfl) (fun _ _ _ h => h) ⟨_, HB⟩ rfl rfl (fun w' hS => EX.bin rfl rfl (binv_gtr)) rfl ?_
      refine WH.takeYes 8 rfl (by kernel_rfl) (by kernel_rfl) (by kernel_rfl) (fun _ _ _ h => h) ⟨_, HB⟩ rfl rfl (fun w' hS => EX.move rfl) rfl ?_
      refine WH.splitD (t := 25) rfl (fun g2 => ?_) (fun g2 => ?_)
      ·
        refine WH.takeYes 9 rfl (by kernel_rfl) (by kernel_rfl) (by kernel_rfl) (fun _ _ _ h => h) ⟨_, HB⟩ rfl rfl (fun w' hS => EX.fieldAddr fld109_0 rfl) rfl ?_
        refine WH.takeYes 10 rfl (by kernel_rfl) (by kernel_rfl) (by kernel_rfl) (fun _ _ _ h => h) ⟨_, HB⟩ rfl rfl (fun w' hS => EX.load rfl (hS.rd1 ty3 (H.blk 0 rfl) (by simp) rfl)) rfl ?_
        refine WH.takeYes 11 rfl (by kernel_rfl) (by kernel_rfl) (by kernel_rfl) (fun _ _ _ h => h) ⟨_, HB⟩ rfl rfl (fun w' hS => EX.move rfl) rfl ?_
        refine WH.takeYes 12 rfl (by kernel_rfl) (by kernel_rfl) (by kernel_rfl) (fun _ _ _ h => h) ⟨_, HB⟩ rfl rfl (fun w' hS => EX.move rfl) rfl ?_
        refine WH.takeYes 13 rfl (by kernel_rfl) (by kernel_rfl) (by kernel_rfl) (fun _ _ _ h => h) ⟨_, HB⟩ rfl rfl (fun w' hS => EX.bin rfl rfl (isub (by omega) (by omega))) rfl ?_
        refine WH.takeYes 14 rfl (by kernel_rfl) (by kernel_rfl) (by kernel_rfl) (fun _ _ _ h => h) ⟨_, HB⟩ rfl rfl (fun w' hS => EX.idxSlc (k := g - 1) slc50 rfl rfl (by omega) (by omega)) rfl ?_
        refine WH.takeYes 15 rfl (by kernel_rfl) (by kernel_rfl) (by kernel_rfl) (fun _ _ _ h => h) ⟨_, HB⟩ rfl rfl (fun w' hS => EX.fieldAddr fld109_0 rfl) rfl ?_
        have hprev := (hcs (g - 1) (by omega)).1
        refine WH.takeYes 16 rfl (by kernel_rfl) (by kernel_rfl) (by kernel_rfl) (fun _ _ _ h => h) ⟨_, HB⟩ rfl rfl (fun w' hS => EX.load rfl (Rd.one ty3 (by rw [cell_of (hS.block (H.oldBlock hb hbn) (by simp)), Nat.add_zero]; exact hprev))) rfl ?_
        refine WH.takeYes 17 rfl (by kernel_rfl) (by kernel_rfl) (by kernel_rfl) (fun _ _ _ h => h) ⟨_, HB⟩ rfl rfl (fun w' hS => EX.bin rfl rfl (binv_leq)) rfl ?_
        refine WH.takeYes 18 rfl (by kernel_rfl) (by kernel_rfl) (by kernel_rfl) (fun _ _ _ h => h) ⟨_, HB⟩ rfl rfl (fun w' hS => EX.pickT rfl rfl) rfl ?_
        refine WH.take 19 rfl (by kernel_rfl) (by kernel_rfl) (by kernel_rfl) (fun _ _ _ h => h) ⟨_, HB⟩ (fun w' hS => EX.pickF rfl rfl) rfl ?_
        refine WH.take 20 rfl (by kernel_rfl) (by kernel_rfl) (by kernel_rfl) (fun _ _ _ h => h) ⟨_, HB⟩ (fun w' hS => EX.move rfl) rfl ?_
        refine WH.splitD (t := 37) rfl (fun g3 => ?_) (fun g3 => ?_)
        ·
          refine WH.takeNo 21 rfl (by kernel_rfl) (by kernel_rfl) (by kernel_rfl) (fun _ _ _ h => h) ⟨_, HB⟩ rfl rfl rfl ?_
          refine WH.takeNo 22 rfl (by kernel_rfl) (by kernel_rfl) (by kernel_rfl) (fun _ _ _ h => h) ⟨_, HB⟩ rfl rfl rfl ?_
          refine WH.takeNo 23 rfl (by kernel_rfl) (by kernel_rfl) (by kernel_rfl) (fun _ _ _ h => h) ⟨_, HB⟩ rfl rfl rfl ?_
          refine WH.take 24 rfl (by kernel_rfl) (by kernel_rfl) (by kernel_rfl) (fun _ _ _ h => h) ⟨_, HB⟩ (fun w' hS => EX.pickT rfl rfl) rfl ?_
          refine WH.take 25 rfl (by kernel_rfl) (by kernel_rfl) (by kernel_rfl) (fun _ _ _ h => h) ⟨_, HB⟩ (fun w' hS => EX.move rfl) rfl ?_
          refine WH.takeNo 26 rfl (by kernel_rfl) (by kernel_rfl) (by kernel_rfl) (fun _ _ _ h => h) ⟨_, HB⟩ rfl rfl rfl ?_
          refine WH.takeNo 27 rfl (by kernel_rfl) (by kernel_rfl) (by kernel_rfl) (fun _ _ _ h => h) ⟨_, HB⟩ rfl rfl rfl ?_
          refine WH.takeNo 28 rfl (by kernel_rfl) (by kernel_rfl) (by kernel_rfl) (fun _ _ _ h => h) ⟨_, HB⟩ rfl rfl rfl ?_
          refine WH.takeNo 29 rfl (by kernel_rfl) (by kernel_rfl) (by kernel_rfl) (fun _ _ _ h => h) ⟨_, HB⟩ rfl rfl rfl ?_
          refine WH.takeNo 30 rfl (by kernel_rfl) (by kernel_rfl) (by kernel_rfl) (fun _ _ _ h => h) ⟨_, HB⟩ rfl rfl rfl ?_
          refine WH.takeNo 31 rfl (by kernel_rfl) (by kernel_rfl) (by kernel_rfl) (fun _ _ _ h => h) ⟨_, HB⟩ rfl rfl rfl ?_
          refine WH.takeNo 32 rfl (by kernel_rfl) (by kernel_rfl) (by kernel_rfl) (fun _ _ _ h => h) ⟨_, HB⟩ rfl rfl rfl ?_
          refine WH.takeNo 33 rfl (by kernel_rfl) (by kernel_rfl) (by kernel_rfl) (fun _ _ _ h => h) ⟨_, HB⟩ rfl rfl rfl ?_
          refine WH.takeNo 34 rfl (by kernel_rfl) (by kernel_rfl) (by kernel_rfl) (fun _ _ _ h => h) ⟨_, HB⟩ rfl rfl rfl ?_
          refine WH.takeNo 35 rfl (by kernel_rfl) (by kernel_rfl) (by kernel_rfl) (fun _ _ _ h => h) ⟨_, HB⟩ rfl rfl rfl ?_
          refine WH.takeNo 36 rfl (by kernel_rfl) (by kernel_rfl) (by kernel_rfl) (fun _ _ _ h => h) ⟨_, HB⟩ rfl rfl rfl ?_
          refine WH.takeNo 37 rfl (by kernel_rfl) (by kernel_rfl) (by kernel_rfl) (fun _ _ _ h => h) ⟨_, HB⟩ rfl rfl rfl ?_
          refine WH.takeNo 38 rfl (by kernel_rfl) (by kernel_rfl) (by kernel_rfl) (fun _ _ _ h => h) ⟨_, HB⟩ rfl rfl rfl ?_
          refine WH.take 39 rfl (by kernel_rfl) (by kernel_rfl) (by kernel_rfl) (fun _ _ _ h => h) ⟨_, HB⟩ (fun w' hS => EX.pickT rfl rfl) rfl ?_
          refine WH.done (by kernel_rfl) ?_
          replace H := H.call HB
          refine WX.next ?_
          refine WC.cond_true rfl (rfl) ?_
          refine WC.seq ?_
          refine WC.region ?_
          refine WL.assign rfl rfl ?_
          refine (WL.done (WX.next ?_))
          refine (WC.ret (WX.block_ret (WX.then_ret (WX.then_ret (WX.block_ret (WX.then_ret ?_))))))
          refine ret_one rfl rfl ?_
          have e1 : R.abs.cutsOk cuts = false := cutsOk_bad hlt (fun h => by have h2 := (cutOk_iff hlt).1 h; rw [getD_at (by omega)] at h2; omega)
          rw [e1]
          exact ⟨R, rfl, rfl, by unfold PM.crash; rw [e1]; rfl, hm.ok, H.tail⟩
        ·
          refine WH.takeYes 21 rfl (by kernel_rfl) (by kernel_rfl) (by kernel_rfl) (fun _ _ _ h => h) ⟨_, HB⟩ rfl rfl (fun w' hS => EX.fieldAddr fld109_1 rfl) rfl ?_
          refine WH.takeYes 22 rfl (by kernel_rfl) (by kernel_rfl) (by kernel_rfl) (fun _ _ _ h => h) ⟨_, HB⟩ rfl rfl (fun w' hS => EX.load rfl (hS.rd1 ty3 (H.blk 0 rfl) (by simp) rfl)) rfl ?_
          refine WH.takeYes 23 rfl (by kernel_rfl) (by kernel_rfl) (by kernel_rfl) (fun _ _ _ h => h) ⟨_, HB⟩ rfl rfl (fun w' hS => EX.bin rfl rfl (binv_lss)) rfl ?_
          refine WH.take 24 rfl (by kernel_rfl) (by kernel_rfl) (by kernel_rfl) (fun _ _ _ h => h) ⟨_, HB⟩ (fun w' hS => EX.pickF rfl rfl) rfl ?_
          refine WH.take 25 rfl (by kernel_rfl) (by kernel_rfl) (by kernel_rfl) (fun _ _ _ h => h) ⟨_, HB⟩ (fun w' hS => EX.move rfl) rfl ?_
          refine WH.splitD (t := 42) rfl (fun g4 => ?_) (fun g4 => ?_)
          ·
            refine WH.takeNo 26 rfl (by kernel_rfl) (by kernel_rfl) (by kernel_rfl) (fun _ _ _ h => h) ⟨_, HB⟩ rfl rfl rfl ?_
            refine WH.takeNo 27 rfl (by kernel_rfl) (by kernel_rfl) (by kernel_rfl) (fun _ _ _ h => h) ⟨_, HB⟩ rfl rfl rfl ?_
            refine WH.takeNo 28 rfl (by kernel_rfl) (by kernel_rfl) (by kernel_rfl) (fun _ _ _ h => h) ⟨_, HB⟩ rfl rfl rfl ?_
            refine WH.takeNo 29 rfl (by kernel_rfl) (by kernel_rfl) (by kernel_rfl) (fun _ _ _ h => h) ⟨_, HB⟩ rfl rfl rfl ?_
            refine WH.takeNo 30 rfl (by kernel_rfl) (by kernel_rfl) (by kernel_rfl) (fun _ _ _ h => h) ⟨_, HB⟩ rfl rfl rfl ?_
            refine WH.takeNo 31 rfl (by kernel_rfl) (by kernel_rfl) (by kernel_rfl) (fun _ _ _ h => h) ⟨_, HB⟩ rfl rfl rfl ?_
            refine WH.takeNo 32 rfl (by kernel_rfl) (by kernel_rfl) (by kernel_rfl) (fun _ _ _ h => h) ⟨_, HB⟩ rfl rfl rfl ?_
            refine WH.takeNo 33 rfl (by kernel_rfl) (by kernel_rfl) (by kernel_rfl) (fun _ _ _ h => h) ⟨_, HB⟩ rfl rfl rfl ?_
            refine WH.takeNo 34 rfl (by kernel_rfl) (by kernel_rfl) (by kernel_rfl) (fun _ _ _ h => h) ⟨_, HB⟩ rfl rfl rfl ?_
            refine WH.takeNo 35 rfl (by kernel_rfl) (by kernel_rfl) (by kernel_rfl) (fun _ _ _ h => h) ⟨_, HB⟩ rfl rfl rfl ?_
            refine WH.takeNo 36 rfl (by kernel_rfl) (by kernel_rfl) (by kernel_rfl) (fun _ _ _ h => h) ⟨_, HB⟩ rfl rfl rfl ?_
            refine WH.takeNo 37 rfl (by kernel_rfl) (by kernel_rfl) (by kernel_rfl) (fun _ _ _ h => h) ⟨_, HB⟩ rfl rfl rfl ?_
            refine WH.takeNo 38 rfl (by kernel_rfl) (by kernel_rfl) (by kernel_rfl) (fun _ _ _ h => h) ⟨_, HB⟩ rfl rfl rfl ?_
            refine WH.take 39 rfl (by kernel_rfl) (by kernel_rfl) (by kernel_rfl) (fun _ _ _ h => h) ⟨_, HB⟩ (fun w' hS => EX.pickT rfl rfl) rfl ?_
            refine WH.done (by kernel_rfl) ?_
            replace H := H.call HB
            refine WX.next ?_
            refine WC.cond_true rfl (rfl) ?_
            refine WC.seq ?_
            refine WC.region ?_
            refine WL.assign rfl rfl ?_
            refine (WL.done (WX.next ?_))
            refine (WC.ret (WX.block_ret (WX.then_ret (WX.then_ret (WX.block_ret (WX.then_ret ?_))))))
            refine ret_one rfl rfl ?_
            have e1 : R.abs.cutsOk cuts = false := cutsOk_bad hlt (fun h => by have h2 := (cutOk_iff hlt).1 h; omega)
            rw [e1]
            exact ⟨R, rfl, rfl, by unfold PM.crash; rw [e1]; rfl, hm.ok, H.tail⟩
          ·
            have hh : pHas R (cuts[g]).1 = true := by simpa only [Bool.not_eq_false'] using g1
            obtain ⟨hn0, hn1⟩ := pHas_iff.1 hh
            obtain ⟨kk, hkk⟩ : ∃ k : Nat, (cuts[g]).1 = (k : Int) := ⟨(cuts[g]).1.toNat, by omega⟩
            obtain ⟨A, l, r, B, hX, hA, hal, hok, hr, hget⟩ := hm.ok.at (k := kk) (by omega)
            refine WH.takeYes 26 rfl (by kernel_rfl) (by kernel_rfl) (by kernel_rfl) (fun _ _ _ h => h) ⟨_, HB⟩ rfl rfl (fun w' hS => EX.fieldAddr fld109_1 rfl) rfl ?_
            refine WH.takeYes 27 rfl (by kernel_rfl) (by kernel_rfl) (by kernel_rfl) (fun _ _ _ h => h) ⟨_, HB⟩ rfl rfl (fun w' hS => EX.load rfl (hS.rd1 ty3 (H.blk 0 rfl) (by simp) rfl)) rfl ?_
            refine WH.takeYes 28 rfl (by kernel_rfl) (by kernel_rfl) (by kernel_rfl) (fun _ _ _ h => h) ⟨_, HB⟩ rfl rfl (fun w' hS => EX.move rfl) rfl ?_
            refine WH.takeYes 29 rfl (by kernel_rfl) (by kernel_rfl) (by kernel_rfl) (fun _ _ _ h => h) ⟨_, HB⟩ rfl rfl (fun w' hS => EX.nilCheck rfl) rfl ?_
            refine WH.takeYes 30 rfl (by kernel_rfl) (by kernel_rfl) (by kernel_rfl) (fun _ _ _ h => h) ⟨_, HB⟩ rfl rfl (fun w' hS => EX.fieldAddr fld161_0 rfl) rfl ?_
            refine WH.takeYes 31 rfl (by kernel_rfl) (by kernel_rfl) (by kernel_rfl) (fun _ _ _ h => h) ⟨_, HB⟩ rfl rfl (fun w' hS => EX.load rfl (hS.rd1 ty156 (H.blk 1 rfl) (by simp) rfl)) rfl ?_
            refine WH.takeYes 32 rfl (by kernel_rfl) (by kernel_rfl) (by kernel_rfl) (fun _ _ _ h => h) ⟨_, HB⟩ rfl rfl (fun w' hS => EX.fieldAddr fld109_0 rfl) rfl ?_
            refine WH.takeYes 33 rfl (by kernel_rfl) (by kernel_rfl) (by kernel_rfl) (fun _ _ _ h => h) ⟨_, HB⟩ rfl rfl (fun w' hS => EX.load rfl (hS.rd1 ty3 (H.blk 0 rfl) (by simp) rfl)) rfl ?_
            refine WH.takeYes 34 rfl (by kernel_rfl) (by kernel_rfl) (by kernel_rfl) (fun _ _ _ h => h) ⟨_, HB⟩ rfl rfl (fun w' hS => EX.idxSlc (k := kk) slc156 rfl rfl (by omega) (by omega)) rfl ?_
            refine WH.takeYes 35 rfl (by kernel_rfl) (by kernel_rfl) (by kernel_rfl) (fun _ _ _ h => h) ⟨_, HB⟩ rfl rfl (fun w' hS => EX.fieldAddr fld158_1 rfl) rfl ?_
            refine WH.takeYes 36 rfl (by kernel_rfl) (by kernel_rfl) (by kernel_rfl) (fun _ _ _ h => h) ⟨_, HB⟩ rfl rfl (fun w' hS => EX.load rfl (Rd.lineS ty52 (hS.block (RM.line_at (L := [_]) hX H) (by simp)) (by omega) hok.1)) rfl ?_
            refine WH.takeYes 37 rfl (by kernel_rfl) (by kernel_rfl) (by kernel_rfl) (fun _ _ _ h => h) ⟨_, HB⟩ rfl rfl (fun w' hS => EX.lenR isl52 rfl) rfl ?_
            refine WH.takeYes 38 rfl (by kernel_rfl) (by kernel_rfl) (by kernel_rfl) (fun _ _ _ h => h) ⟨_, HB⟩ rfl rfl (fun w' hS => EX.bin rfl rfl (binv_gtr)) rfl ?_
            refine WH.take 39 rfl (by kernel_rfl) (by kernel_rfl) (by kernel_rfl) (fun _ _ _ h => h) ⟨_, HB⟩ (fun w' hS => EX.pickF rfl rfl) rfl ?_
            refine WH.done (by kernel_rfl) ?_
            replace H := H.call HB
            refine WX.next ?_
            refine WC.cond_dec rfl (fun c5 => ?_) (fun c5 => ?_)
            ·
              refine WC.seq ?_
              refine WC.region ?_
              refine WL.assign rfl rfl ?_
              refine (WL.done (WX.next ?_))
              refine (WC.ret (WX.block_ret (WX.then_ret (WX.then_ret (WX.block_ret (WX.then_ret ?_))))))
              refine ret_one rfl rfl ?_
              have e1 : R.abs.cutsOk cuts = false := cutsOk_bad hlt (fun h => by have h2 := (cutOk_iff hlt).1 h; rw [hkk, abs_line hget] at h2; omega)
              rw [e1]
              exact ⟨R, rfl, rfl, by unfold PM.crash; rw [e1]; rfl, hm.ok, H.tail⟩
            ·
              refine (WC.skip (WX.block_normal (WX.next ?_)))
              refine WC.region ?_
              refine WL.bin rfl rfl (iadd (by omega) (by omega)) rfl ?_
              refine WL.move rfl rfl ?_
              refine (WL.done (WX.round ?_))
              have hgood : cutOk R.abs cuts g = true := (cutOk_iff hlt).2 ⟨by rw [abs_has]; exact hh, .inr (by rw [getD_at (by omega)]; omega), by omega, by rw [hkk, abs_line hget]; omega⟩
              exact hN _ (g+1) _ _ (by omega) ⟨rfl, by omega, by rw [List.range_succ, List.all_append, hall]; simpa using hgood, H.tail⟩ (Sub.cons (t := 12) (by rfl) (Sub.nil _)) (Sub.cons (t := 0) rfl (Sub.cons (t := 1) rfl (Sub.cons (t := 10) rfl (Sub.cons (t := 11) rfl (Sub.nil _)))))
      ·
        refine WH.takeNo 9 rfl (by kernel_rfl) (by kernel_rfl) (by kernel_rfl) (fun _ _ _ h => h) ⟨_, HB⟩ rfl rfl rfl ?_
        refine WH.takeNo 10 rfl (by kernel_rfl) (by kernel_rfl) (by kernel_rfl) (fun _ _ _ h => h) ⟨_, HB⟩ rfl rfl rfl ?_
        refine WH.takeNo 11 rfl (by kernel_rfl) (by kernel_rfl) (by kernel_rfl) (fun _ _ _ h => h) ⟨_, HB⟩ rfl rfl rfl ?_
        refine WH.takeNo 12 rfl (by kernel_rfl) (by kernel_rfl) (by kernel_rfl) (fun _ _ _ h => h) ⟨_, HB⟩ rfl rfl rfl ?_
        refine WH.takeNo 13 rfl (by kernel_rfl) (by kernel_rfl) (by kernel_rfl) (fun _ _ _ h => h) ⟨_, HB⟩ rfl rfl rfl ?_
        refine WH.takeNo 14 rfl (by kernel_rfl) (by kernel_rfl) (by kernel_rfl) (fun _ _ _ h => h) ⟨_, HB⟩ rfl rfl rfl ?_
        refine WH.takeNo 15 rfl (by kernel_rfl) (by kernel_rfl) (by kernel_rfl) (fun _ _ _ h => h) ⟨_, HB⟩ rfl rfl rfl ?_
        have hprev := (hcs (g - 1) (by omega)).1
        refine WH.takeNo 16 rfl (by kernel_rfl) (by kernel_rfl) (by kernel_rfl) (fun _ _ _ h => h) ⟨_, HB⟩ rfl rfl rfl ?_
        refine WH.takeNo 17 rfl (by kernel_rfl) (by kernel_rfl) (by kernel_rfl) (fun _ _ _ h => h) ⟨_, HB⟩ rfl rfl rfl ?_
        refine WH.takeYes 18 rfl (by kernel_rfl) (by kernel_rfl) (by kernel_rfl) (fun _ _ _ h => h) ⟨_, HB⟩ rfl rfl (fun w' hS => EX.pickF rfl rfl) rfl ?_
        refine WH.take 19 rfl (by kernel_rfl) (by kernel_rfl) (by kernel_rfl) (fun _ _ _ h => h) ⟨_, HB⟩ (fun w' hS => EX.pickF rfl rfl) rfl ?_
        refine WH.take 20 rfl (by kernel_rfl) (by kernel_rfl) (by kernel_rfl) (fun _ _ _ h => h) ⟨_, HB⟩ (fun w' hS => EX.move rfl) rfl ?_
        refine WH.takeYes 21 rfl (by kernel_rfl) (by kernel_rfl) (by kernel_rfl) (fun _ _ _ h => h) ⟨_, HB⟩ rfl rfl (fun w' hS => EX.fieldAddr fld109_1 rfl) rfl ?_
        refine WH.takeYes 22 rfl (by kernel_rfl) (by kernel_rfl) (by kernel_rfl) (fun _ _ _ h => h) ⟨_, HB⟩ rfl rfl (fun w' hS => EX.load rfl (hS.rd1 ty3 (H.blk 0 rfl) (by simp) rfl)) rfl ?_
        refine WH.takeYes 23 rfl (by kernel_rfl) (by kernel_rfl) (by kernel_rfl) (fun _ _ _ h => h) ⟨_, HB⟩ rfl rfl (fun w' hS => EX.bin rfl rfl (binv_lss)) rfl ?_
        refine WH.take 24 rfl (by kernel_rfl) (by kernel_rfl) (by kernel_rfl) (fun _ _ _ h => h) ⟨_, HB⟩ (fun w' hS => EX.pickF rfl rfl) rfl ?_
        refine WH.take 25 rfl (by kernel_rfl) (by kernel_rfl) (by kernel_rfl) (fun _ _ _ h => h) ⟨_, HB⟩ (fun w' hS => EX.move rfl) rfl ?_
        refine WH.splitD (t := 42) rfl (fun g5 => ?_) (fun g5 => ?_)
        ·
          refine WH.takeNo 26 rfl (by kernel_rfl) (by kernel_rfl) (by kernel_rfl) (fun _ _ _ h => h) ⟨_, HB⟩ rfl rfl rfl ?_
          refine WH.takeNo 27 rfl (by kernel_rfl) (by kernel_rfl) (by kernel_rfl) (fun _ _ _ h => h) ⟨_, HB⟩ rfl rfl rfl ?_
          refine WH.takeNo 28 rfl (by kernel_rfl) (by kernel_rfl) (by kernel_rfl) (fun _ _ _ h => h) ⟨_, HB⟩ rfl rfl rfl ?_
          refine WH.takeNo 29 rfl (by kernel_rfl) (by kernel_rfl) (by kernel_rfl) (fun _ _ _ h => h) ⟨_, HB⟩ rfl rfl rfl ?_
          refine WH.takeNo 30 rfl (by kernel_rfl) (by kernel_rfl) (by kernel_rfl) (fun _ _ _ h => h) ⟨_, HB⟩ rfl rfl rfl ?_
          refine WH.takeNo 31 rfl (by kernel_rfl) (by kernel_rfl) (by kernel_rfl) (fun _ _ _ h => h) ⟨_, HB⟩ rfl rfl rfl ?_
          refine WH.takeNo 32 rfl (by kernel_rfl) (by kernel_rfl) (by kernel_rfl) (fun _ _ _ h => h) ⟨_, HB⟩ rfl rfl rfl ?_
          refine WH.takeNo 33 rfl (by kernel_rfl) (by kernel_rfl) (by kernel_rfl) (fun _ _ _ h => h) ⟨_, HB⟩ rfl rfl rfl ?_
          refine WH.takeNo 34 rfl (by kernel_rfl) (by kernel_rfl) (by kernel_rfl) (fun _ _ _ h => h) ⟨_, HB⟩ rfl rfl rfl ?_
          refine WH.takeNo 35 rfl (by kernel_rfl) (by kernel_rfl) (by kernel_rfl) (fun _ _ _ h => h) ⟨_, HB⟩ rfl rfl rfl ?_
          refine WH.takeNo 36 rfl (by kernel_rfl) (by kernel_rfl) (by kernel_rfl) (fun _ _ _ h => h) ⟨_, HB⟩ rfl rfl rfl ?_
          refine WH.takeNo 37 rfl (by kernel_rfl) (by kernel_rfl) (by kernel_rfl) (fun _ _ _ h => h) ⟨_, HB⟩ rfl rfl rfl ?_
          refine WH.takeNo 38 rfl (by kernel_rfl) (by kernel_rfl) (by kernel_rfl) (fun _ _ _ h => h) ⟨_, HB⟩ rfl rfl rfl ?_
          refine WH.take 39 rfl (by kernel_rfl) (by kernel_rfl) (by kernel_rfl) (fun _ _ _ h => h) ⟨_, HB⟩ (fun w' hS => EX.pickT rfl rfl) rfl ?_
          refine WH.done (by kernel_rfl) ?_
          replace H := H.call HB
          refine WX.next ?_
          refine WC.cond_true rfl (rfl) ?_
          refine WC.seq ?_
          refine WC.region ?_
          refine WL.assign rfl rfl ?_
          refine (WL.done (WX.next ?_))
          refine (WC.ret (WX.block_ret (WX.then_ret (WX.then_ret (WX.block_ret (WX.then_ret ?_))))))
          refine ret_one rfl rfl ?_
          have e1 : R.abs.cutsOk cuts = false := cutsOk_bad hlt (fun h => by have h2 := (cutOk_iff hlt).1 h; omega)
          rw [e1]
          exact ⟨R, rfl, rfl, by unfold PM.crash; rw [e1]; rfl, hm.ok, H.tail⟩
        ·
          have hh : pHas R (cuts[g]).1 = true := by simpa only [Bool.not_eq_false'] using g1
          obtain ⟨hn0, hn1⟩ := pHas_iff.1 hh
          obtain ⟨kk, hkk⟩ : ∃ k : Nat, (cuts[g]).1 = (k : Int) := ⟨(cuts[g]).1.toNat, by omega⟩
          obtain ⟨A, l, r, B, hX, hA, hal, hok, hr, hget⟩ := hm.ok.at (k := kk) (by omega)
          refine WH.takeYes 26 rfl (by kernel_rfl) (by kernel_rfl) (by kernel_rfl) (fun _ _ _ h => h) ⟨_, HB⟩ rfl rfl (fun w' hS => EX.fieldAddr fld109_1 rfl) rfl ?_
          refine WH.takeYes 27 rfl (by kernel_rfl) (by kernel_rfl) (by kernel_rfl) (fun _ _ _ h => h) ⟨_, HB⟩ rfl rfl (fun w' hS => EX.load rfl (hS.rd1 ty3 (H.blk 0 rfl) (by simp) rfl)) rfl ?_
          refine WH.takeYes 28 rfl (by kernel_rfl) (by kernel_rfl) (by kernel_rfl) (fun _ _ _ h => h) ⟨_, HB⟩ rfl rfl (fun w' hS => EX.move rfl) rfl ?_
          refine WH.takeYes 29 rfl (by kernel_rfl) (by kernel_rfl) (by kernel_rfl) (fun _ _ _ h => h) ⟨_, HB⟩ rfl rfl (fun w' hS => EX.nilCheck rfl) rfl ?_
          refine WH.takeYes 30 rfl (by kernel_rfl) (by kernel_rfl) (by kernel_rfl) (fun _ _ _ h => h) ⟨_, HB⟩ rfl rfl (fun w' hS => EX.fieldAddr fld161_0 rfl) rfl ?_
          refine WH.takeYes 31 rfl (by kernel_rfl) (by kernel_rfl) (by kernel_rfl) (fun _ _ _ h => h) ⟨_, HB⟩ rfl rfl (fun w' hS => EX.load rfl (hS.rd1 ty156 (H.blk 1 rfl) (by simp) rfl)) rfl ?_
          refine WH.takeYes 32 rfl (by kernel_rfl) (by kernel_rfl) (by kernel_rfl) (fun _ _ _ h => h) ⟨_, HB⟩ rfl rfl (fun w' hS => EX.fieldAddr fld109_0 rfl) rfl ?_
          refine WH.takeYes 33 rfl (by kernel_rfl) (by kernel_rfl) (by kernel_rfl) (fun _ _ _ h => h) ⟨_, HB⟩ rfl rfl (fun w' hS => EX.load rfl (hS.rd1 ty3 (H.blk 0 rfl) (by simp) rfl)) rfl ?_
          refine WH.takeYes 34 rfl (by kernel_rfl) (by kernel_rfl) (by kernel_rfl) (fun _ _ _ h => h) ⟨_, HB⟩ rfl rfl (fun w' hS => EX.idxSlc (k := kk) slc156 rfl rfl (by omega) (by omega)) rfl ?_
          refine WH.takeYes 35 rfl (by kernel_rfl) (by kernel_rfl) (by kernel_rfl) (fun _ _ _ h => h) ⟨_, HB⟩ rfl rfl (fun w' hS => EX.fieldAddr fld158_1 rfl) rfl ?_
          refine WH.takeYes 36 rfl (by kernel_rfl) (by kernel_rfl) (by kernel_rfl) (fun _ _ _ h => h) ⟨_, HB⟩ rfl rfl (fun w' hS => EX.load rfl (Rd.lineS ty52 (hS.block (RM.line_at (L := [_]) hX H) (by simp)) (by omega) hok.1)) rfl ?_
          refine WH.takeYes 37 rfl (by kernel_rfl) (by kernel_rfl) (by kernel_rfl) (fun _ _ _ h => h) ⟨_, HB⟩ rfl rfl (fun w' hS => EX.lenR isl52 rfl) rfl ?_
          refine WH.takeYes 38 rfl (by kernel_rfl) (by kernel_rfl) (by kernel_rfl) (fun _ _ _ h => h) ⟨_, HB⟩ rfl rfl (fun w' hS => EX.bin rfl rfl (binv_gtr)) rfl ?_
          refine WH.take 39 rfl (by kernel_rfl) (by kernel_rfl) (by kernel_rfl) (fun _ _ _ h => h) ⟨_, HB⟩ (fun w' hS => EX.pickF rfl rfl) rfl ?_
          refine WH.done (by kernel_rfl) ?_
          replace H := H.call HB
          refine WX.next ?_
          refine WC.cond_dec rfl (fun c7 => ?_) (fun c7 => ?_)
          ·
            refine WC.seq ?_
            refine WC.region ?_
            refine WL.assign rfl rfl ?_
            refine (WL.done (WX.next ?_))
            refine (WC.ret (WX.block_ret (WX.then_ret (WX.then_ret (WX.block_ret (WX.then_ret ?_))))))
            refine ret_one rfl rfl ?_
            have e1 : R.abs.cutsOk cuts = false := cutsOk_bad hlt (fun h => by have h2 := (cutOk_iff hlt).1 h; rw [hkk, abs_line hget] at h2; omega)
            rw [e1]
            exact ⟨R, rfl, rfl, by unfold PM.crash; rw [e1]; rfl, hm.ok, H.tail⟩
          ·
            refine (WC.skip (WX.block_normal (WX.next ?_)))
            refine WC.region ?_
            refine WL.bin rfl rfl (iadd (by omega) (by omega)) rfl ?_
            refine WL.move rfl rfl ?_
            refine (WL.done (WX.round ?_))
            have hgood : cutOk R.abs cuts g = true := (cutOk_iff hlt).2 ⟨by rw [abs_has]; exact hh, .inl (by omega), by omega, by rw [hkk, abs_line hget]; omega⟩
            exact hN _ (g+1) _ _ (by omega) ⟨rfl, by omega, by rw [List.range_succ, List.all_append, hall]; simpa using hgood, H.tail⟩ (Sub.cons (t := 12) (by rfl) (Sub.nil _)) (Sub.cons (t := 0) rfl (Sub.cons (t := 1) rfl (Sub.cons (t := 10) rfl (Sub.cons (t := 11) rfl (Sub.nil _)))))
  ·
    refine (WC.exit (WX.then_exit (WX.then_exit (WX.block_exit (WX.next ?_)))))
    refine WC.seq ?_
    refine WC.seq ?_
    refine WC.region ?_
    refine WL.move rfl rfl ?_
    refine WL.lenSlc isl50 rfl rfl ?_
    refine WL.move rfl rfl ?_
    refine (WL.done (WX.next ?_))
    refine WC.block ?_
    -- loop 2: changed [60] kept [0, 58, 59]
    obtain rfl : m = g := by omega
    have hcut : ∀ j, j < cuts.length → cutOk R.abs cuts j = true := fun j hj => List.all_eq_true.1 hall j (List.mem_range.2 (by omega))
    have hcutsOk : R.abs.cutsOk cuts = true := by unfold PM.cutsOk; rw [← hmc]; exact hall
    have hasc : ∀ i j, i < j → ∀ hj : j < cuts.length, (cuts.getD i (0, 0)).1 < (cuts[j]).1 := cuts_asc hcut
    clear hall hg
    refine WC.loop (Sub.cons (t := 0) rfl (Sub.cons (t := 58) rfl (Sub.cons (t := 59) rfl (Sub.nil _)))) (fun g : RM × Nat => [(60, .int .i64 (g.2 : Int))]) (fun q g wx => q = m - g.2 ∧ g.2 ≤ m ∧ Settling R (R.like g.1) cuts g.2 ∧ St w (R.hp.map Prod.fst) wx (R.like g.1).hp) (m) ((R, 0)) (Sub.cons (t := 60) (by rfl) (Sub.nil _)) (⟨rfl, Nat.zero_le _, Settling.start hm.ok cuts, H⟩) ?_
    rintro k g wx hI N hN
    obtain ⟨g1, i⟩ := g
    obtain ⟨rfl, hg, hF, H⟩ := hI
    change i ≤ m at hg
    change Settling R (R.like g1) cuts i at hF
    change St _ _ _ (R.like g1).hp at H
    refine WC.seq ?_
    refine WC.region ?_
    refine WL.bin rfl rfl binv_lss rfl ?_
    refine (WL.done (WX.next ?_))
    refine WC.seq ?_
    refine WC.cond_dec rfl (fun c8 => ?_) (fun c8 => ?_)
    ·
      refine (WC.skip (WX.next ?_))
      refine WC.seq ?_
      refine WC.block ?_
      refine WC.seq ?_
      refine WC.region ?_
      have hlt : i < cuts.length := by omega
      obtain ⟨b, o, cs, t, fr, rfl, hb, hbn, hcs⟩ : ∃ b o cs t fr, A0 = some ⟨b, o, none⟩ ∧ w.heap[b]? = some (.cells cs t fr) ∧ b ∉ R.hp.map Prod.fst ∧ ∀ j (h : j < cuts.length), cs[o + j * 2]? = some (.int .i64 (cuts[j]).1) ∧ cs[o + j * 2 + 1]? = some (.int .i64 (cuts[j]).2) := by
        rcases hc0 with h | h
        · rw [h] at hlt; simp at hlt
        · exact h
      obtain ⟨hc1, _, hc3, hc4⟩ := (cutOk_iff hlt).1 (hcut i hlt)
      rw [abs_has] at hc1
      obtain ⟨hn0, hn1⟩ := pHas_iff.1 hc1
      obtain ⟨k, hkk⟩ : ∃ k : Nat, (cuts[i]).1 = (k : Int) := ⟨(cuts[i]).1.toNat, by omega⟩
      obtain ⟨kp, hkp⟩ : ∃ kp : Nat, (cuts[i]).2 = (kp : Int) := ⟨(cuts[i]).2.toNat, by omega⟩
      have hklt : k < (R.like g1).X.length := by rw [hF.len]; omega
      obtain ⟨A, l, r, B, hX, hA, hal, hok, hr, hget⟩ := hF.ok.at (k := k) hklt
      obtain ⟨⟨l0, r0⟩, hx⟩ : ∃ x, R.X[k]? = some x := ⟨_, List.getElem?_eq_getElem (by omega)⟩
      obtain ⟨x', hx', hle⟩ := hF.rest k (l0, r0) hx (fun c hc => by
        obtain ⟨j, hj⟩ := List.getElem?_of_mem hc
        rw [List.getElem?_take] at hj
        split at hj
        · rename_i hji
          have h1 := hasc j i hji hlt
          rw [List.getD, hj] at h1
          intro he
          rw [hkk, ← he] at h1
          exact absurd h1 (Int.lt_irrefl _)
        · cases hj)
      rw [hget] at hx'
      cases hx'
      change l = l0 at hle
      rw [hkk, abs_line hx, ← hle, hkp] at hc4
      have hpl : l.ps.length ≤ 1073741824 := by rw [hle]; exact hps (l0, r0) (List.mem_of_getElem? hx)
      have hkey : kp ≠ 0 → (k : Int) ∈ (R.like g1).mp.map Prod.fst := fun hne => (hF.ok.busy k).2 ⟨by omega, (l, r), by rw [Int.toNat_natCast]; exact hget, fun h => by rw [h] at hc4; simp at hc4; omega⟩
      have hcs1 := (hcs i hlt).1
      have hcs2 := (hcs i hlt).2
      rw [hkk] at hcs1
      rw [hkp] at hcs2
      refine WL.idxSlc slc50 rfl rfl (by rfl) (by omega) rfl ?_
      refine WL.load rfl (Rd.pair ty109 (H.oldBlock hb hbn) hcs1 hcs2) rfl ?_
      refine WL.alloc H zer109 rfl ?_
      intro b8 wx hb8 hge8 H
      (refine WL.storeAt H ty109 0 rfl rfl rfl rfl (by simp [Value.cells, Value.oneCell']) (by first | decide | (simp only [wr_size]; decide) | simp [wr_size]) ?_)
      intro wx H
      refine (WL.done (WX.next ?_))
      refine WC.region ?_
      refine WL.move rfl rfl ?_
      refine WL.fieldAddr fld109_0 rfl rfl ?_
      refine WL.load rfl (H.rd1 ty3 0 rfl rfl) rfl ?_
      refine WL.fieldAddr fld109_1 rfl rfl ?_
      refine WL.load rfl (H.rd1 ty3 0 rfl rfl) rfl ?_
      have hm1 : MemIn _ (R.like g1) := MemIn.of (L := [_]) H hF.ok hSS h3lt
      refine WL.call call107 rfl rfl ?_
      refine Calls.mono (settle_any (R.like g1).p _ _ _ _ _ _ _ _ _ _ l r _ _ k kp hklt hal hok hr (by omega) hpl _ (hL.of H hm.n3) (n3_focus hm1 hX) (St.start ((St.focus (L := [_]) hX H).weaken (List.sublist_append_right _ _)).nd ((St.focus (L := [_]) hX H).weaken (List.sublist_append_right _ _)).sat)) ?_
      rintro _ wx ⟨r', rfl, hr', Hc⟩
      refine ⟨_, rfl, ?_⟩
      replace H := (St.focus (L := [(b8, _)]) hX H).callM Hc
      have hcl : (if kp = 0 then (R.like g1).clk else (pRest (R.like g1).mp (R.like g1).clk k (pSettle l kp).ps).2) = R.clk := by
        split
        · rfl
        · rename_i h0; exact (pRest_in (hkey h0)).1
      rw [hcl] at H
      replace H := St.refocus (L := [_]) hX H
      have hps0 : kp = 0 → (pSettle l kp).ps = l.ps := fun h => by rw [h]; rfl
      have hok2 : ((R.like g1).upd A B (pSettle l kp) r' (if kp = 0 then (R.like g1).mp else (pRest (R.like g1).mp R.clk k (pSettle l kp).ps).1) R.clk).ok := by
        refine hF.ok.upd hX hA (pSettle_ok hok) hr' ?_ ?_
        · split
          · exact hF.ok.map
          · rename_i h0
            have h := pRest_ok (n := (k : Int)) (ps := (pSettle l kp).ps) hF.ok.map
            rw [(pRest_in (hkey h0)).1] at h
            exact h
        · split
          · rename_i h0
            rw [hps0 h0]
            exact keys_same hF.ok hget Iff.rfl
          · exact fun x => pRest_keys hF.ok.map
      have hF2 := hF.step hlt hX hA hkk hkp hget hok2
      refine (WL.done (WX.block_normal (WX.next ?_)))
      refine WC.region ?_
      refine WL.bin rfl rfl (iadd (by omega) (by omega)) rfl ?_
      refine WL.move rfl rfl ?_
      refine (WL.done (WX.round ?_))
      exact hN _ ((R.like g1).upd A B (pSettle l kp) r' (if kp = 0 then (R.like g1).mp else (pRest (R.like g1).mp R.clk k (pSettle l kp).ps).1) R.clk, i + 1) _ _ (by show m - (i + 1) < m - i; omega) ⟨rfl, by show i + 1 ≤ m; omega, hF2, H.tail⟩ (Sub.cons (t := 60) (by rfl) (Sub.nil _)) (Sub.cons (t := 0) rfl (Sub.cons (t := 58) rfl (Sub.cons (t := 59) rfl (Sub.nil _))))
    ·
      refine (WC.exit (WX.then_exit (WX.then_exit (WX.block_exit (WX.next ?_)))))
      refine WC.seq ?_
      refine WC.seq ?_
      refine WC.region ?_
      refine WL.move rfl rfl ?_
      refine WL.nilCheck rfl rfl ?_
      refine WL.fieldAddr fld161_1 rfl rfl ?_
      refine WL.load rfl (H.rd1 ty159 0 rfl rfl) rfl ?_
      refine WL.rangeMap H map159 rfl (H.blk 2 rfl) rfl ?_
      intro it wx hit hgit H
      refine (WL.done (WX.next ?_))
      refine WC.block ?_
      -- loop 3: changed [] kept [0, 75]
      refine WC.loop (Sub.cons (t := 0) rfl (Sub.cons (t := 75) rfl (Sub.nil _))) (fun _ : List (PL × Row) × Array Nat => []) (fun q g wx => q = left (R.like g1).mp g.2 ∧ Clearing (R.like g1) g.1 g.2 ∧ St w (R.hp.map Prod.fst) wx ((it, .mapIter (some R.mb) R.clk g.2 R.clk) :: ((R.like g1).xs g.1).hp)) (left (R.like g1).mp #[]) (((R.like g1).X, #[])) (Sub.nil _) (⟨rfl, Clearing.start _, H⟩) ?_
      rintro k g wx hI N hN
      obtain ⟨X, seen⟩ := g
      obtain ⟨rfl, hC, H⟩ := hI
      change Clearing (R.like g1) X seen at hC
      change St _ _ _ ((it, .mapIter (some R.mb) R.clk seen R.clk) :: ((R.like g1).xs X).hp) at H
      refine WC.seq ?_
      refine WC.region ?_
      refine WL.nextB H 0 rfl rfl (H.blk 3 rfl) (fun x hx => hF.ok.map.1 x hx) (Nat.le_refl _) rfl ?_
      intro bb cs wx hcs hNo hYes
      refine WL.extract rfl hcs rfl ?_
      refine (WL.done (WX.next ?_))
      refine WC.seq ?_
      refine WC.cond rfl (fun c9 => ?_) (fun c9 => ?_)
      ·
        obtain ⟨kk, bn, hmem, hns, H⟩ := hYes c9
        obtain ⟨hk0, y, hy, hyp⟩ := (hF.ok.busy kk).1 (List.mem_map_of_mem (f := Prod.fst) hmem)
        obtain ⟨k, rfl⟩ : ∃ k : Nat, kk = (k : Int) := ⟨kk.toNat, by omega⟩
        rw [Int.toNat_natCast] at hy
        have hklt : k < (R.like g1).X.length := by
          rcases Nat.lt_or_ge k (R.like g1).X.length with hl | hg
          · exact hl
          · rw [List.getElem?_eq_none hg] at hy; cases hy
        obtain ⟨A, l, r, B, x, hX, hA, hal, h8, hx, hd⟩ := hC.at hF.ok hklt
        have hlX : X.length = (R.like g1).X.length := hC.len
        have hkX : k < ((R.like g1).xs X).X.length := by show k < X.length; omega
        refine (WC.skip (WX.next ?_))
        refine WC.block ?_
        refine WC.seq ?_
        refine WC.region ?_
        refine WL.entry (seen := seen) (bn := bn) (k := (k : Int)) rfl (H.blk 0 rfl) (H.blk 3 rfl) (find_born hF.ok.map.2.1 hmem) rfl ?_
        refine WL.extract rfl rfl rfl ?_
        refine WL.assign rfl rfl ?_
        refine (WL.done (WX.next ?_))
        replace H := (St.focus (L := [(it, .mapIter (some R.mb) R.clk (seen.push bn) R.clk)]) (R := (R.like g1).xs X) hX H).drew
        refine WC.held (SX (World.drew wx) [(R.like g1).lb]) (by kernel_rfl) ?_
        generalize World.drew wx = wb at H ⊢
        have HB := H.single 2 rfl
        refine WH.take 0 rfl (by kernel_rfl) (by kernel_rfl) (by kernel_rfl) (fun _ _ _ h => h) ⟨_, HB⟩ (fun w' hS => EX.move rfl) rfl ?_
        refine WH.take 1 rfl (by kernel_rfl) (by kernel_rfl) (by kernel_rfl) (fun _ _ _ h => h) ⟨_, HB⟩ (fun w' hS => EX.nilCheck rfl) rfl ?_
        refine WH.take 2 rfl (by kernel_rfl) (by kernel_rfl) (by kernel_rfl) (fun _ _ _ h => h) ⟨_, HB⟩ (fun w' hS => EX.fieldAddr fld161_0 rfl) rfl ?_
        refine WH.take 3 rfl (by kernel_rfl) (by kernel_rfl) (by kernel_rfl) (fun _ _ _ h => h) ⟨_, HB⟩ (fun w' hS => EX.load rfl (hS.rd1 ty156 (H.blk 1 rfl) (fun h => H.ne 1 2 rfl rfl rfl (List.mem_singleton.1 h)) rfl)) rfl ?_
        refine WH.take 4 rfl (by kernel_rfl) (by kernel_rfl) (by kernel_rfl) (fun _ _ _ h => h) ⟨_, HB⟩ (fun w' hS => EX.move rfl) rfl ?_
        refine WH.take 5 rfl (by kernel_rfl) (by kernel_rfl) (by kernel_rfl) (fun _ _ _ h => h) ⟨_, HB⟩ (fun w' hS => EX.move rfl) rfl ?_
        refine WH.take 6 rfl (by kernel_rfl) (by kernel_rfl) (by kernel_rfl) (fun _ _ _ h => h) ⟨_, HB⟩ (fun w' hS => EX.nilCheck rfl) rfl ?_
        refine WH.take 7 rfl (by kernel_rfl) (by kernel_rfl) (by kernel_rfl) (fun _ _ _ h => h) ⟨_, HB⟩ (fun w' hS => EX.fieldAddr fld161_0 rfl) rfl ?_
        refine WH.take 8 rfl (by kernel_rfl) (by kernel_rfl) (by kernel_rfl) (fun _ _ _ h => h) ⟨_, HB⟩ (fun w' hS => EX.load rfl (hS.rd1 ty156 (H.blk 1 rfl) (fun h => H.ne 1 2 rfl rfl rfl (List.mem_singleton.1 h)) rfl)) rfl ?_
        refine WH.take 9 rfl (by kernel_rfl) (by kernel_rfl) (by kernel_rfl) (fun _ _ _ h => h) ⟨_, HB⟩ (fun w' hS => EX.move rfl) rfl ?_
        refine WH.take 10 rfl (by kernel_rfl) (by kernel_rfl) (by kernel_rfl) (fun _ _ _ h => h) ⟨_, HB⟩ (fun w' hS => EX.idxSlc (k := k) slc156 rfl rfl (by rfl) (hkX)) rfl ?_
        refine WH.take 11 rfl (by kernel_rfl) (by kernel_rfl) (by kernel_rfl) (fun _ _ _ h => h) ⟨_, HB⟩ (fun w' hS => EX.fieldAddr fld158_1 rfl) rfl ?_
        refine WH.hard 12 rfl (by kernel_rfl) ?_
        refine WL.storeAt HB ty52 0 rfl rfl rfl rfl (by simp [Value.cells, Value.oneCell']) (by rw [lineL_size (by exact h8)]; omega) ?_
        intro wx HB
        first
        | replace HB := HB.castH (H' := [((R.like g1).lb, .cells (lineL (linesC A) { l with ps := [] } Row.none (linesC B ++ (R.like g1).junk)) 158)]) (by have e1 := wr_lineS (a := linesC A) (l := l) (r := r) (c := linesC B ++ (R.like g1).junk) (o := 0 + k * 11 + 9) (r' := Row.none) (ps' := []) (by omega) h8; exact congrArg (fun c => [((R.like g1).lb, Obj.cells c 158)]) e1)
        | replace HB := HB.castH (H' := [((R.like g1).lb, .cells (lineL (linesC A) (drop0 l) Row.none (linesC B ++ (R.like g1).junk)) 158)]) (by have e1 := wr_lineS (a := linesC A) (l := { l with mark := 0 }) (r := r) (c := linesC B ++ (R.like g1).junk) (o := 0 + k * 11 + 9) (r' := Row.none) (ps' := []) (by omega) h8; exact congrArg (fun c => [((R.like g1).lb, Obj.cells c 158)]) e1)
        refine WL.done (WX.heldOn ⟨_, HB⟩ ?_)
        refine WH.take 13 rfl (by kernel_rfl) (by kernel_rfl) (by kernel_rfl) (fun _ _ _ h => h) ⟨_, HB⟩ (fun w' hS => EX.idxSlc (k := k) slc156 rfl rfl (by rfl) (hkX)) rfl ?_
        refine WH.take 14 rfl (by kernel_rfl) (by kernel_rfl) (by kernel_rfl) (fun _ _ _ h => h) ⟨_, HB⟩ (fun w' hS => EX.fieldAddr fld158_2 rfl) rfl ?_
        refine WH.hard 15 rfl (by kernel_rfl) ?_
        refine WL.storeAt HB ty3 0 rfl rfl rfl rfl (by simp [Value.cells, Value.oneCell']) (by rw [lineL_size (by exact h8)]; omega) ?_
        intro wx HB
        first
        | replace HB := HB.castH (H' := [((R.like g1).lb, .cells (lineL (linesC A) (drop0 l) Row.none (linesC B ++ (R.like g1).junk)) 158)]) (by have e1 := wr_lineM (a := linesC A) (l := { l with ps := [] }) (r := Row.none) (c := linesC B ++ (R.like g1).junk) (o := 0 + k * 11 + 10) (z := 0) (by omega) h8; exact congrArg (fun c => [((R.like g1).lb, Obj.cells c 158)]) e1)
        | replace HB := HB.castH (H' := [((R.like g1).lb, .cells (lineL (linesC A) { l with mark := 0 } r (linesC B ++ (R.like g1).junk)) 158)]) (by have e1 := wr_lineM (a := linesC A) (l := l) (r := r) (c := linesC B ++ (R.like g1).junk) (o := 0 + k * 11 + 10) (z := 0) (by omega) h8; exact congrArg (fun c => [((R.like g1).lb, Obj.cells c 158)]) e1)
        refine WL.done (WX.heldOn ⟨_, HB⟩ ?_)
        refine WH.done (by kernel_rfl) ?_
        replace H := St.dropped hX (H.back (N := []) 2 rfl HB rfl)
        refine (WX.block_normal (WX.round ?_))
        exact hN _ (A ++ (drop0 l, Row.none) :: B, seen.push bn) _ _ (left_push hmem hns) ⟨rfl, hC.step hF.ok hX hA hx hd hmem, H⟩ (Sub.nil _) (Sub.cons (t := 0) rfl (Sub.cons (t := 75) rfl (Sub.nil _)))
      ·
        obtain ⟨hall, H⟩ := hNo c9
        refine (WC.exit (WX.then_exit (WX.then_exit (WX.block_exit (WX.next ?_)))))
        refine WC.seq ?_
        refine WC.region ?_
        refine WL.move rfl rfl ?_
        refine WL.nilCheck rfl rfl ?_
        refine WL.fieldAddr fld161_1 rfl rfl ?_
        refine WL.load rfl (H.rd1 ty159 1 rfl rfl) rfl ?_
        refine WL.clearMap H map159 3 rfl rfl ?_
        intro wx H
        refine (WL.done (WX.next ?_))
        refine WC.seq ?_
        refine WC.region ?_
        refine WL.move rfl rfl ?_
        refine WL.move rfl rfl ?_
        refine WL.nilCheck rfl rfl ?_
        refine WL.fieldAddr fld161_2 rfl rfl ?_
        (refine WL.storeAt H ty3 1 rfl rfl rfl rfl (by simp [Value.cells, Value.oneCell']) (by first | decide | (simp only [wr_size]; decide) | simp [wr_size]) ?_)
        intro wx H
        refine WL.nilCheck rfl rfl ?_
        refine WL.fieldAddr fld161_3 rfl rfl ?_
        refine WL.storeAt H ty30 1 rfl rfl rfl rfl (by simp [Value.cells, Value.oneCell']) (Nat.le_refl 4) ?_
        intro wx H
        refine (WL.done (WX.next ?_))
        refine WC.seq ?_
        refine WC.region ?_
        refine WL.assign rfl rfl ?_
        refine (WL.done (WX.next ?_))
        refine (WC.ret ?_)
        refine ret_one rfl rfl ?_
        have hcutI : i = cuts.length := by omega
        obtain ⟨hd1, hd2⟩ := hC.done hF.ok hall
        refine ⟨(R.like g1).crashed X, by rw [hcutsOk]; rfl, rfl, ?_, RM.crashed_ok hF.ok hC.len hd2, ?_⟩
        · unfold PM.crash
          rw [if_pos hcutsOk]
          have e1 := hF.ls
          rw [hcutI, List.take_length] at e1
          rw [← e1]
          show PM.mk (X.map Prod.fst) 0 [] = PM.mk (((R.like g1).X.map Prod.fst).map drop0) 0 []
          rw [hd1, List.map_map]
          rfl
        · exact H.tail.weaken (List.Sublist.cons_cons _ (List.Sublist.cons_cons _ (List.Sublist.cons_cons _ (List.sublist_append_right _ _))))

end Go.Proofs.YtkncbggnaobgeaaDoor

/- While a copy is made. -/
namespace Go.Proofs.YtkncbggnaobgeaaDoor
open Go.RowKit
set_option linter.unusedVariables false
set_option linter.unusedSimpArgs false
set_option linter.unusedSectionVars false
set_option maxRecDepth 100000

/-- The lines as the new block shows them (Y); the rows that are the copy's own (W). -/
structure Copying (R : RM) (Y W : List (PL × Row)) (mp : List (Int × Nat)) (clk : Nat) (seen : Array Nat) : Prop where
  lenY : Y.length = R.X.length
  lenW : W.length = R.X.length
  map : MapOk mp clk
  keys : ∀ n ∈ mp.map Prod.fst, ∃ i : Nat, n = (i : Int) ∧ i < R.X.length
  each : ∀ (i : Nat) x, R.X[i]? = some x → (Y[i]? = some x ∧ W[i]? = some (x.1, Row.none) ∧ ((i : Int) ∉ mp.map Prod.fst) ∧ ∀ b, ((i : Int), b) ∈ R.mp → b ∉ seen) ∨
    ∃ r, Y[i]? = some (x.1, r) ∧ W[i]? = some (x.1, r) ∧ r.ok 2 x.1.ps.length (flatP x.1.ps) ∧ (i : Int) ∈ mp.map Prod.fst ∧ x.1.ps ≠ []
theorem Copying.start {R : RM} : Copying R R.X (R.X.map fun x => (x.1, Row.none)) [] 0 #[] := by
  refine ⟨rfl, by simp, ⟨by simp, by simp, by simp⟩, by simp, fun i x hx => .inl ⟨hx, ?_, by simp, by simp⟩⟩
  rw [List.getElem?_map, hx]; rfl
theorem set_get {α : Type} {X A B : List α} {x y : α} {k i : Nat} (hX : X = A ++ x :: B) (hA : A.length = k) (hi : i ≠ k) : (A ++ y :: B)[i]? = X[i]? := by
  rw [hX]
  by_cases hlt : i < A.length
  · rw [List.getElem?_append_left hlt, List.getElem?_append_left hlt]
  · rw [List.getElem?_append_right (by omega), List.getElem?_append_right (by omega)]
    obtain ⟨q, hq⟩ : ∃ q, i - A.length = q + 1 := ⟨i - A.length - 1, by omega⟩
    rw [hq]; simp
theorem mid_get {α : Type} {A B : List α} {y : α} {k : Nat} (hA : A.length = k) : (A ++ y :: B)[k]? = some y := by
  rw [List.getElem?_append_right (by omega), hA, Nat.sub_self]; rfl
theorem Copying.at {R : RM} {Y W : List (PL × Row)} {mp : List (Int × Nat)} {clk : Nat} {seen : Array Nat} (h : Copying R Y W mp clk seen) (hR : R.ok) {k : Nat} {x : PL × Row} (hx : R.X[k]? = some x) :
    ∃ A r B A' r' B', Y = A ++ (x.1, r) :: B ∧ A.length = k ∧ (linesC A).length = 11 * k ∧ x.1.ws.length = 8 ∧ W = A' ++ (x.1, r') :: B' ∧ A'.length = k := by
  have hk : k < R.X.length := by
    rcases Nat.lt_or_ge k R.X.length with hl | hg
    · exact hl
    · rw [List.getElem?_eq_none hg] at hx; cases hx
  obtain ⟨A, ⟨l, r⟩, B, hY, hA⟩ := split_at (X := Y) (n := k) (by rw [h.lenY]; exact hk)
  obtain ⟨A', ⟨l', r'⟩, B', hW, hA'⟩ := split_at (X := W) (n := k) (by rw [h.lenW]; exact hk)
  have hall : ∀ y ∈ Y, y.1.ws.length = 8 := by
    intro y hy
    obtain ⟨i, hi⟩ := List.getElem?_of_mem hy
    have hil : i < R.X.length := by
      rw [← h.lenY]
      rcases Nat.lt_or_ge i Y.length with hl | hg
      · exact hl
      · rw [List.getElem?_eq_none hg] at hi; cases hi
    have hz := List.getElem?_eq_getElem hil
    have h8 := (hR.lines _ (List.getElem_mem hil)).1.1
    rcases h.each i _ hz with ⟨h1, _⟩ | ⟨r, h1, _⟩
    · rw [h1] at hi; cases hi; exact h8
    · rw [h1] at hi; cases hi; exact h8
  have h1 : Y[k]? = some (l, r) := by rw [hY]; exact mid_get hA
  have h2 : W[k]? = some (l', r') := by rw [hW]; exact mid_get hA'
  have hl : l = x.1 ∧ l' = x.1 := by
    rcases h.each k x hx with ⟨e1, e2, _⟩ | ⟨r0, e1, e2, _⟩
    · rw [h1] at e1; rw [h2] at e2; cases e1; cases e2; exact ⟨rfl, rfl⟩
    · rw [h1] at e1; rw [h2] at e2; cases e1; cases e2; exact ⟨rfl, rfl⟩
  obtain ⟨rfl, rfl⟩ := hl
  refine ⟨A, r, B, A', r', B', hY, hA, ?_, (hR.lines x (List.mem_of_getElem? hx)).1.1, hW, hA'⟩
  rw [linesC_length (fun y hy => hall y (by rw [hY]; exact List.mem_append_left _ hy)), hA]
theorem Copying.step {R : RM} {Y W : List (PL × Row)} {mp : List (Int × Nat)} {clk : Nat} {seen : Array Nat} (h : Copying R Y W mp clk seen) (hR : R.ok) {k bn : Nat} {x : PL × Row} (hx : R.X[k]? = some x) {A B A' B' : List (PL × Row)} {r r' r1 : Row}
    (hY : Y = A ++ (x.1, r) :: B) (hA : A.length = k) (hW : W = A' ++ (x.1, r') :: B') (hA' : A'.length = k) (hm : ((k : Int), bn) ∈ R.mp) (hr : r1.ok 2 x.1.ps.length (flatP x.1.ps)) (hp : x.1.ps ≠ []) :
    Copying R (A ++ (x.1, r1) :: B) (A' ++ (x.1, r1) :: B') (mIns mp clk k) (mClk mp clk k) (seen.push bn) := by
  have hk : k < R.X.length := by
    rcases Nat.lt_or_ge k R.X.length with hl | hg
    · exact hl
    · rw [List.getElem?_eq_none hg] at hx; cases hx
  refine ⟨by rw [← h.lenY, hY]; simp, by rw [← h.lenW, hW]; simp, mIns_ok h.map, fun n hn => ?_, fun i y hy => ?_⟩
  · rcases mIns_keys.1 hn with hn | hn
    · exact h.keys n hn
    · exact ⟨k, hn, hk⟩
  · by_cases hi : i = k
    · subst hi
      rw [hx] at hy; cases hy
      exact .inr ⟨r1, mid_get hA, mid_get hA', hr, mIns_keys.2 (.inr rfl), hp⟩
    · rw [set_get hY hA hi, set_get hW hA' hi]
      rcases h.each i y hy with ⟨h1, h2, h3, h4⟩ | ⟨r0, h1, h2, h3, h4, h5⟩
      · refine .inl ⟨h1, h2, fun hm' => ?_, fun b hb => ?_⟩
        · rcases mIns_keys.1 hm' with hh | hh
          · exact h3 hh
          · exact hi (by omega)
        · have hb1 := h4 b hb
          simp only [Array.mem_push, not_or]
          refine ⟨hb1, fun he => hi ?_⟩
          subst he
          have e1 := find_born hR.map.2.1 hb
          have e2 := find_born hR.map.2.1 hm
          rw [e1] at e2
          have := (Prod.mk.inj (Option.some.inj e2)).1
          omega
      · exact .inr ⟨r0, h1, h2, h3, mIns_keys.2 (.inl h4), h5⟩
/-- A row without room that is somebody else's. -/
def nulify : Row → Row
  | .none => .none
  | .some g _ _ => .nul ⟨g, 0, none⟩
  | .nul a => .nul a
theorem nulify_val {r : Row} {sz : Nat} {xs : List Value} (h : r.ok sz 0 xs) : (nulify r).val 0 = r.val 0 ∧ (nulify r).ok sz 0 [] := by
  cases r with
  | none => exact ⟨rfl, rfl, rfl⟩
  | nul a => exact ⟨rfl, rfl, rfl⟩
  | some g cap cur =>
    have hc : cap = 0 := h.2.2.2.2.2 rfl
    subst hc
    exact ⟨rfl, rfl, rfl⟩
theorem nulify_hp (r : Row) (T : TypeId) : (nulify r).hp T = [] := by cases r <;> rfl
/-- What the copy's lines are in the end. -/
def final (Y W : List (PL × Row)) : List (PL × Row) := List.zipWith (fun y v => if y.1.ps = [] then (y.1, nulify y.2) else v) Y W
theorem final_get {Y W : List (PL × Row)} {i : Nat} {y v : PL × Row} (hy : Y[i]? = some y) (hv : W[i]? = some v) : (final Y W)[i]? = some (if y.1.ps = [] then (y.1, nulify y.2) else v) := by
  unfold final
  rw [List.getElem?_zipWith, hy, hv]
theorem Copying.done {R : RM} {Y W : List (PL × Row)} {mp : List (Int × Nat)} {clk : Nat} {seen : Array Nat} (h : Copying R Y W mp clk seen) (hR : R.ok) (hall : ∀ x ∈ R.mp, x.2 ∈ seen) :
    (final Y W).length = R.X.length ∧ (final Y W).map Prod.fst = R.X.map Prod.fst ∧ linesC (final Y W) = linesC Y ∧ pendHp (final Y W) = pendHp W ∧ (∀ x ∈ final Y W, x.1.ok ∧ x.2.ok 2 x.1.ps.length (flatP x.1.ps)) ∧
    ∀ n : Int, n ∈ mp.map Prod.fst ↔ 0 ≤ n ∧ ∃ x, (final Y W)[n.toNat]? = some x ∧ x.1.ps ≠ [] := by
  have key : ∀ (i : Nat) x, R.X[i]? = some x → ∃ y v f, Y[i]? = some y ∧ W[i]? = some v ∧ (final Y W)[i]? = some f ∧ f.1 = x.1 ∧ f.1.ok ∧ f.2.ok 2 f.1.ps.length (flatP f.1.ps) ∧ lineC f.1 f.2 = lineC y.1 y.2 ∧ f.2.hp 111 = v.2.hp 111 ∧ ((i : Int) ∈ mp.map Prod.fst ↔ x.1.ps ≠ []) := by
    intro i x hx
    obtain ⟨hok, hr⟩ := hR.lines x (List.mem_of_getElem? hx)
    rcases h.each i x hx with ⟨h1, h2, h3, h4⟩ | ⟨r0, h1, h2, h3, h4, h5⟩
    · have hps : x.1.ps = [] := by
        rcases Classical.em (x.1.ps = []) with hh | hh
        · exact hh
        · exfalso
          have hb := (hR.busy (i : Int)).2 ⟨by omega, x, by rw [Int.toNat_natCast]; exact hx, hh⟩
          obtain ⟨⟨k, b⟩, hkb, hk⟩ := List.mem_map.1 hb
          simp only at hk
          subst hk
          exact h4 b hkb (hall _ hkb)
      have hf := final_get h1 h2
      rw [if_pos hps] at hf
      have hr0 : x.2.ok 2 0 (flatP x.1.ps) := by rw [hps] at hr ⊢; exact hr
      obtain ⟨v1, v2⟩ := nulify_val hr0
      refine ⟨_, _, _, h1, h2, hf, rfl, hok, ?_, ?_, ?_, ?_⟩
      · show (nulify x.2).ok 2 x.1.ps.length (flatP x.1.ps)
        rw [hps]; exact v2
      · show lineC x.1 (nulify x.2) = lineC x.1 x.2
        unfold lineC
        rw [hps]
        show _ ++ (_ ++ ([(nulify x.2).val 0] ++ _)) = _ ++ (_ ++ ([x.2.val 0] ++ _))
        rw [v1]
      · exact nulify_hp _ _
      · exact ⟨fun hh => absurd hh h3, fun hh => absurd hps hh⟩
    · have hf := final_get h1 h2
      rw [if_neg h5] at hf
      exact ⟨_, _, _, h1, h2, hf, rfl, hok, h3, rfl, rfl, ⟨fun _ => h5, fun _ => h4⟩⟩
  have hlen : (final Y W).length = R.X.length := by unfold final; rw [List.length_zipWith, h.lenY, h.lenW, Nat.min_self]
  have ext : ∀ {β : Type} (f g : PL × Row → β) (P Q : List (PL × Row)), P.length = R.X.length → Q.length = R.X.length → (∀ (i : Nat) x, R.X[i]? = some x → ∃ a b, P[i]? = some a ∧ Q[i]? = some b ∧ f a = g b) → P.map f = Q.map g := by
    intro β f g P Q hP hQ hh
    apply List.ext_getElem?
    intro i
    rw [List.getElem?_map, List.getElem?_map]
    cases hx : R.X[i]? with
    | none =>
      rw [List.getElem?_eq_none_iff] at hx
      rw [List.getElem?_eq_none (by omega), List.getElem?_eq_none (by omega)]; rfl
    | some x =>
      obtain ⟨a, b, ha, hb, hab⟩ := hh i x hx
      rw [ha, hb]; simp [hab]
  refine ⟨hlen, ?_, ?_, ?_, ?_, ?_⟩
  · refine ext _ _ _ _ hlen rfl (fun i x hx => ?_)
    obtain ⟨y, v, f, _, _, h3, h4, _⟩ := key i x hx
    exact ⟨f, x, h3, hx, h4⟩
  · unfold linesC
    rw [List.flatMap_def, List.flatMap_def]
    congr 1
    refine ext _ _ _ _ hlen h.lenY (fun i x hx => ?_)
    obtain ⟨y, v, f, h1, _, h3, _, _, _, h7, _⟩ := key i x hx
    exact ⟨f, y, h3, h1, h7⟩
  · unfold pendHp
    rw [List.flatMap_def, List.flatMap_def]
    congr 1
    refine ext _ _ _ _ hlen h.lenW (fun i x hx => ?_)
    obtain ⟨y, v, f, _, h2, h3, _, _, _, _, h8, _⟩ := key i x hx
    exact ⟨f, v, h3, h2, h8⟩
  · intro z hz
    obtain ⟨i, hi⟩ := List.getElem?_of_mem hz
    have hil : i < R.X.length := by
      rw [← hlen]
      rcases Nat.lt_or_ge i (final Y W).length with hl | hg
      · exact hl
      · rw [List.getElem?_eq_none hg] at hi; cases hi
    obtain ⟨y, v, f, _, _, h3, _, h5, h6, _⟩ := key i _ (List.getElem?_eq_getElem hil)
    rw [hi] at h3; cases h3
    exact ⟨h5, h6⟩
  · intro n
    constructor
    · intro hn
      obtain ⟨i, rfl, hi⟩ := h.keys n hn
      obtain ⟨y, v, f, _, _, h3, h4, _, _, _, _, h9⟩ := key i _ (List.getElem?_eq_getElem hi)
      refine ⟨by omega, f, by rw [Int.toNat_natCast]; exact h3, ?_⟩
      rw [h4]; exact h9.1 hn
    · rintro ⟨h0, z, hz, hp⟩
      have hil : n.toNat < R.X.length := by
        rw [← hlen]
        rcases Nat.lt_or_ge n.toNat (final Y W).length with hl | hg
        · exact hl
        · rw [List.getElem?_eq_none hg] at hz; cases hz
      obtain ⟨y, v, f, _, _, h3, h4, _, _, _, _, h9⟩ := key n.toNat _ (List.getElem?_eq_getElem hil)
      rw [hz] at h3; cases h3
      rw [Int.toNat_of_nonneg h0] at h9
      exact h9.2 (by rw [← h4]; exact hp)
end Go.Proofs.YtkncbggnaobgeaaDoor

/- Walks of functions of the program; printed by a program of this session (walk.py) out of hand-written hints. -/
namespace Go.Proofs.YtkncbggnaobgeaaDoor
open Go.RowKit
set_option linter.unusedVariables false
set_option linter.unusedSimpArgs false
set_option maxRecDepth 100000

def z161 : Array Value := #[.slice none 0 0, .map none, .int .i64 0, .slice none 0 0]
theorem fill161 (A : Option Addr) (n c : Nat) (mo : Option Nat) (z : Int) (er : Row) (m : Nat) : Instr.fill (fun i => [(0, 1), (1, 1), (2, 1), (3, 1)][i]?) z161 [(0, .slice A n c), (1, .map mo), (2, .int .i64 z), (3, er.val m)] = some #[.slice A n c, .map mo, .int .i64 z, er.val m] := by
  cases er <;> kernel_rfl
theorem linesC_one (X : List (PL × Row)) : ∀ u ∈ linesC X, u.oneCell' = true := by
  intro u hu
  unfold linesC at hu
  obtain ⟨x, _, hu⟩ := List.mem_flatMap.1 hu
  unfold lineC at hu
  rcases List.mem_append.1 hu with hu | hu
  · exact intsC_one _ u hu
  · rcases List.mem_append.1 hu with hu | hu
    · rw [List.mem_singleton.1 hu]; rfl
    · rcases List.mem_append.1 hu with hu | hu
      · rw [List.mem_singleton.1 hu]; cases x.2 <;> rfl
      · rw [List.mem_singleton.1 hu]; rfl
theorem St.freshHi {w0 w : World} {H : Hp} (h : St w0 [] w H) (h3 : 3 < w0.heap.size) : ∀ q ∈ H, 3 < q.1 := fun q hq => by
  rcases h.own q hq with hh | hh
  · simp at hh
  · omega

theorem lt_len {α : Type} {xs : List α} {j : Nat} {u : α} (h : xs[j]? = some u) : j < xs.length := by
  rcases Nat.lt_or_ge j xs.length with hl | hg
  · exact hl
  · rw [List.getElem?_eq_none hg] at h; cases h
theorem RM.row_memx {R : RM} {k : Nat} {x : PL × Row} (hx : R.X[k]? = some x) : ∀ q ∈ x.2.hp 111, q ∈ R.hp := fun q hq =>
  List.mem_cons_of_mem _ (List.mem_cons_of_mem _ (List.mem_cons_of_mem _ (List.mem_append_right _ (List.mem_flatMap.2 ⟨x, List.mem_of_getElem? hx, hq⟩))))
theorem pendHp_none (X : List (PL × Row)) : pendHp (X.map fun x => (x.1, Row.none)) = [] := by
  unfold pendHp
  rw [List.flatMap_eq_nil_iff]
  intro x hx
  obtain ⟨l, _, rfl⟩ := List.mem_map.1 hx
  rfl
theorem St.swapRow {w0 w : World} {S : List Nat} {W A B A' B' : List (PL × Row)} {l : PL} {r' r1 : Row} {jk : List Value} {g2 : Nat} {q1 q2 q4 : Nat × Obj} {E : Hp} (hW : W = A' ++ (l, r') :: B')
    (h : St w0 S w (r1.hp 111 ++ (q1 :: q2 :: (g2, .cells (lineL (linesC A) l r1 (linesC B ++ jk)) 158) :: q4 :: (E ++ pendHp W)))) :
    St w0 S w (q1 :: q2 :: (g2, .cells (linesC (A ++ (l, r1) :: B) ++ jk).toArray 158) :: q4 :: (E ++ pendHp (A' ++ (l, r1) :: B'))) := by
  have e1 : (linesC (A ++ (l, r1) :: B) ++ jk).toArray = lineL (linesC A) l r1 (linesC B ++ jk) := by
    rw [linesC_append, linesC_cons]; simp [lineL]
  rw [e1, pendHp_append, pendHp_cons]
  rw [hW, pendHp_append, pendHp_cons] at h
  have h2 : St w0 S w (r1.hp 111 ++ (q1 :: q2 :: (g2, .cells (lineL (linesC A) l r1 (linesC B ++ jk)) 158) :: q4 :: (E ++ (pendHp A' ++ pendHp B')))) :=
    h.weaken (List.Sublist.append_left (List.Sublist.cons_cons _ (List.Sublist.cons_cons _ (List.Sublist.cons_cons _ (List.Sublist.cons_cons _ (List.Sublist.append_left (List.Sublist.append_left (List.sublist_append_right _ _) _) _))))) _)
  exact h2.perm (by classical exact List.perm_iff_count.2 (fun q => by simp only [Row.hp, structO, Value.cells, List.count_append, List.count_cons, List.count_nil, Nat.add_zero, Nat.zero_add]; ac_rfl))

theorem copy_any (R : RM) (hsm : R.evs.length ≤ 1073741824) (hps : ∀ x ∈ R.X, x.1.ps.length ≤ 1073741824) (w : World) (hm : MemIn w R) : Calls Tryd.prog 41 #[.pointer (some ⟨R.p, 0, none⟩)] w fun e w' => ∃ R2 : RM, e = .returned (.pointer (some ⟨R2.p, 0, none⟩)) ∧ R2.abs = R.abs ∧ R2.ok ∧ St w [] w' R2.hp := by
  refine calls_walk_n (args := [.pointer (some ⟨R.p, 0, none⟩)]) Tryd.func41 rfl rfl rfl ?_
  have H := St.refl w
  have hbp : w.heap[R.p]? = some (structO R.lb R.X.length R.lcap R.mb R.span R.er R.evs.length) := hm.sat (R.p, _) List.mem_cons_self
  have hblb : w.heap[R.lb]? = some (.cells (linesC R.X ++ R.junk).toArray 158) := hm.sat (R.lb, _) (List.mem_cons_of_mem _ List.mem_cons_self)
  have hbmb : w.heap[R.mb]? = some (mO R.mp R.clk) := hm.sat (R.mb, _) (List.mem_cons_of_mem _ (List.mem_cons_of_mem _ List.mem_cons_self))
  have hlen := hm.ok.len
  have h11 : (linesC R.X).length = 11 * R.X.length := linesC_length (fun x hx => (hm.ok.lines x hx).1.1)
  refine WC.seq ?_
  refine WC.region ?_
  refine WL.assign rfl rfl ?_
  refine (WL.done (WX.next ?_))
  refine WC.seqJ (Sub.cons (t := 0) rfl (Sub.nil _)) (fun q : (Nat × Nat × Array Value) × Nat × Row × Nat => [(3, .pointer (some ⟨q.2.2.2, 0, none⟩))]) (fun q wx => Row.ok (.some q.1.1 q.1.2.1 q.1.2.2) 11 R.X.length (linesC R.X) ∧ q.2.2.1.ok 12 R.evs.length (flatE R.evs) ∧ St w [] wx ((q.2.2.2, structO q.1.1 R.X.length q.1.2.1 q.2.1 R.span q.2.2.1 R.evs.length) :: (q.1.1, .cells q.1.2.2 158) :: (q.2.1, mO [] 0) :: (q.2.2.1.hp 164 ++ []))) (fun N hN => ?_) (fun q wx hJ => ?_)
  · -- first
    replace H := H.drew
    refine WC.held (SX (World.drew w) []) (by kernel_rfl) ?_
    generalize World.drew w = wb at H ⊢
    have HB := St.refl wb
    refine WH.take 0 rfl (by kernel_rfl) (by kernel_rfl) (by kernel_rfl) (fun _ _ _ h => h) ⟨_, HB⟩ (fun w' hS => EX.move rfl) rfl ?_
    refine WH.take 1 rfl (by kernel_rfl) (by kernel_rfl) (by kernel_rfl) (fun _ _ _ h => h) ⟨_, HB⟩ (fun w' hS => EX.nilCheck rfl) rfl ?_
    refine WH.take 2 rfl (by kernel_rfl) (by kernel_rfl) (by kernel_rfl) (fun _ _ _ h => h) ⟨_, HB⟩ (fun w' hS => EX.fieldAddr fld161_0 rfl) rfl ?_
    refine WH.take 3 rfl (by kernel_rfl) (by kernel_rfl) (by kernel_rfl) (fun _ _ _ h => h) ⟨_, HB⟩ (fun w' hS => EX.load rfl (Rd.one ty156 (by rw [cell_of (hS.block (H.oldBlock hbp (by simp)) (by simp))]; rfl))) rfl ?_
    refine WH.take 6 rfl (by kernel_rfl) (by kernel_rfl) (by kernel_rfl) (fun _ _ _ h => h) ⟨_, HB⟩ (fun w' hS => EX.move rfl) rfl ?_
    refine WH.take 7 rfl (by kernel_rfl) (by kernel_rfl) (by kernel_rfl) (fun _ _ _ h => h) ⟨_, HB⟩ (fun w' hS => EX.nilCheck rfl) rfl ?_
    refine WH.take 8 rfl (by kernel_rfl) (by kernel_rfl) (by kernel_rfl) (fun _ _ _ h => h) ⟨_, HB⟩ (fun w' hS => EX.fieldAddr fld161_2 rfl) rfl ?_
    refine WH.take 9 rfl (by kernel_rfl) (by kernel_rfl) (by kernel_rfl) (fun _ _ _ h => h) ⟨_, HB⟩ (fun w' hS => EX.load rfl (Rd.one ty3 (by rw [cell_of (hS.block (H.oldBlock hbp (by simp)) (by simp))]; rfl))) rfl ?_
    refine WH.take 10 rfl (by kernel_rfl) (by kernel_rfl) (by kernel_rfl) (fun _ _ _ h => h) ⟨_, HB⟩ (fun w' hS => EX.move rfl) rfl ?_
    refine WH.take 11 rfl (by kernel_rfl) (by kernel_rfl) (by kernel_rfl) (fun _ _ _ h => h) ⟨_, HB⟩ (fun w' hS => EX.nilCheck rfl) rfl ?_
    refine WH.take 12 rfl (by kernel_rfl) (by kernel_rfl) (by kernel_rfl) (fun _ _ _ h => h) ⟨_, HB⟩ (fun w' hS => EX.fieldAddr fld161_3 rfl) rfl ?_
    refine WH.take 13 rfl (by kernel_rfl) (by kernel_rfl) (by kernel_rfl) (fun _ _ _ h => h) ⟨_, HB⟩ (fun w' hS => EX.load rfl (Rd.one ty30 (by rw [cell_of (hS.block (H.oldBlock hbp (by simp)) (by simp))]; rfl))) rfl ?_
    refine WH.hard2 4 5 rfl rfl (by kernel_rfl) ?_ ?_
    ·
      refine WL.call call109 rfl rfl ?_
      refine Calls.mono (cloneL_any R.lb 0 R.X.length R.lcap _ 158 _ (HB.oldBlock (H.oldBlock hblb (by simp)) (by simp)) (linesC R.X) (by omega) (fun j u hj => by rw [Nat.zero_add, List.getElem?_toArray, List.getElem?_append_left (lt_len hj)]; exact hj) (linesC_one _) (by omega)) ?_
      rintro _ wx ⟨r, rfl, hr, Hc⟩
      refine ⟨_, rfl, ?_⟩
      replace HB := HB.call Hc
      obtain ⟨g2, cap, cur, rfl⟩ := Row.is_some hr (by omega)
      refine WL.done (WX.heldOn ⟨_, HB⟩ ?_)
      refine WH.hard2 5 14 rfl rfl (by kernel_rfl) ?_ ?_
      ·
        refine WL.makeMap HB rfl ?_
        intro mo wx hmo hgmo HB
        refine WL.done (WX.heldOn ⟨_, HB⟩ ?_)
        refine WH.hard 14 rfl (by kernel_rfl) ?_
        refine WL.call call100 rfl rfl ?_
        refine Calls.mono (cloneE_row R.er R.evs.length _ hm.ok.er (flatE_one _) _ (fun q hq => HB.oldBlock (H.oldBlock (hm.sat q (RM.er_mem q hq)) (by simp)) (by simp)) hsm) ?_
        rintro _ wx ⟨er, rfl, her, Hc⟩
        refine ⟨_, rfl, ?_⟩
        replace HB := HB.call Hc
        refine WL.done (WX.heldOn ⟨_, HB⟩ ?_)
        refine WH.take 15 rfl (by kernel_rfl) (by kernel_rfl) (by kernel_rfl) (fun _ _ _ h => h) ⟨_, HB⟩ (fun w' hS => EX.build (z := z161) pla161 zer161 rfl (fill161 _ _ _ _ _ _ _)) rfl ?_
        refine WH.hard 16 rfl (by kernel_rfl) ?_
        refine WL.box HB rfl rfl ?_
        intro b21 wx hb21 hge21 HB
        refine WL.done (WX.heldOn ⟨_, HB⟩ ?_)
        refine WH.take 17 rfl (by kernel_rfl) (by kernel_rfl) (by kernel_rfl) (fun _ _ _ h => h) ⟨_, HB⟩ (fun w' hS => EX.assign rfl) rfl ?_
        refine WH.done (by kernel_rfl) ?_
        replace H := H.call HB
        refine WX.round ?_
        exact hN ((g2, cap, cur), mo, er, b21) _ _ ⟨hr, her, H.perm (by classical exact List.perm_iff_count.2 (fun q => by simp only [Row.hp, structO, Value.cells, List.count_append, List.count_cons, List.count_nil, Nat.add_zero, Nat.zero_add]; ac_rfl))⟩ (Sub.cons (t := 3) (by rfl) (Sub.nil _)) (Sub.cons (t := 0) rfl (Sub.nil _))
      ·
        refine WL.call call100 rfl rfl ?_
        refine Calls.mono (cloneE_row R.er R.evs.length _ hm.ok.er (flatE_one _) _ (fun q hq => HB.oldBlock (H.oldBlock (hm.sat q (RM.er_mem q hq)) (by simp)) (by simp)) hsm) ?_
        rintro _ wx ⟨er, rfl, her, Hc⟩
        refine ⟨_, rfl, ?_⟩
        replace HB := HB.call Hc
        refine WL.done (WX.heldOn ⟨_, HB⟩ ?_)
        refine WH.hard 5 rfl (by kernel_rfl) ?_
        refine WL.makeMap HB rfl ?_
        intro mo wx hmo hgmo HB
        refine WL.done (WX.heldOn ⟨_, HB⟩ ?_)
        refine WH.take 15 rfl (by kernel_rfl) (by kernel_rfl) (by kernel_rfl) (fun _ _ _ h => h) ⟨_, HB⟩ (fun w' hS => EX.build (z := z161) pla161 zer161 rfl (fill161 _ _ _ _ _ _ _)) rfl ?_
        refine WH.hard 16 rfl (by kernel_rfl) ?_
        refine WL.box HB rfl rfl ?_
        intro b21 wx hb21 hge21 HB
        refine WL.done (WX.heldOn ⟨_, HB⟩ ?_)
        refine WH.take 17 rfl (by kernel_rfl) (by kernel_rfl) (by kernel_rfl) (fun _ _ _ h => h) ⟨_, HB⟩ (fun w' hS => EX.assign rfl) rfl ?_
        refine WH.done (by kernel_rfl) ?_
        replace H := H.call HB
        refine WX.round ?_
        exact hN ((g2, cap, cur), mo, er, b21) _ _ ⟨hr, her, H.perm (by classical exact List.perm_iff_count.2 (fun q => by simp only [Row.hp, structO, Value.cells, List.count_append, List.count_cons, List.count_nil, Nat.add_zero, Nat.zero_add]; ac_rfl))⟩ (Sub.cons (t := 3) (by rfl) (Sub.nil _)) (Sub.cons (t := 0) rfl (Sub.nil _))
    ·
      refine WL.makeMap HB rfl ?_
      intro mo wx hmo hgmo HB
      refine WL.done (WX.heldOn ⟨_, HB⟩ ?_)
      refine WH.hard 4 rfl (by kernel_rfl) ?_
      refine WL.call call109 rfl rfl ?_
      refine Calls.mono (cloneL_any R.lb 0 R.X.length R.lcap _ 158 _ (HB.oldBlock (H.oldBlock hblb (by simp)) (by simp)) (linesC R.X) (by omega) (fun j u hj => by rw [Nat.zero_add, List.getElem?_toArray, List.getElem?_append_left (lt_len hj)]; exact hj) (linesC_one _) (by omega)) ?_
      rintro _ wx ⟨r, rfl, hr, Hc⟩
      refine ⟨_, rfl, ?_⟩
      replace HB := HB.call Hc
      obtain ⟨g2, cap, cur, rfl⟩ := Row.is_some hr (by omega)
      refine WL.done (WX.heldOn ⟨_, HB⟩ ?_)
      refine WH.hard 14 rfl (by kernel_rfl) ?_
      refine WL.call call100 rfl rfl ?_
      refine Calls.mono (cloneE_row R.er R.evs.length _ hm.ok.er (flatE_one _) _ (fun q hq => HB.oldBlock (H.oldBlock (hm.sat q (RM.er_mem q hq)) (by simp)) (by simp)) hsm) ?_
      rintro _ wx ⟨er, rfl, her, Hc⟩
      refine ⟨_, rfl, ?_⟩
      replace HB := HB.call Hc
      refine WL.done (WX.heldOn ⟨_, HB⟩ ?_)
      refine WH.take 15 rfl (by kernel_rfl) (by kernel_rfl) (by kernel_rfl) (fun _ _ _ h => h) ⟨_, HB⟩ (fun w' hS => EX.build (z := z161) pla161 zer161 rfl (fill161 _ _ _ _ _ _ _)) rfl ?_
      refine WH.hard 16 rfl (by kernel_rfl) ?_
      refine WL.box HB rfl rfl ?_
      intro b21 wx hb21 hge21 HB
      refine WL.done (WX.heldOn ⟨_, HB⟩ ?_)
      refine WH.take 17 rfl (by kernel_rfl) (by kernel_rfl) (by kernel_rfl) (fun _ _ _ h => h) ⟨_, HB⟩ (fun w' hS => EX.assign rfl) rfl ?_
      refine WH.done (by kernel_rfl) ?_
      replace H := H.call HB
      refine WX.round ?_
      exact hN ((g2, cap, cur), mo, er, b21) _ _ ⟨hr, her, H.perm (by classical exact List.perm_iff_count.2 (fun q => by simp only [Row.hp, structO, Value.cells, List.count_append, List.count_cons, List.count_nil, Nat.add_zero, Nat.zero_add]; ac_rfl))⟩ (Sub.cons (t := 3) (by rfl) (Sub.nil _)) (Sub.cons (t := 0) rfl (Sub.nil _))
  · -- join
    obtain ⟨⟨g2, cap, cur⟩, mo, er, p2⟩ := q
    obtain ⟨hr, her, H⟩ := hJ
    change Row.ok (.some g2 cap cur) 11 R.X.length (linesC R.X) at hr
    change er.ok 12 R.evs.length (flatE R.evs) at her
    change St w [] wx ((p2, structO g2 R.X.length cap mo R.span er R.evs.length) :: (g2, .cells cur 158) :: (mo, mO [] 0) :: (er.hp 164 ++ [])) at H
    obtain ⟨jk, hcur⟩ : ∃ jk, cur = (linesC R.X ++ jk).toArray := ⟨cur.toList.drop (R.X.length * 11), by
      have h := hr.2.2.2.2.1
      have h2 : linesC R.X ++ cur.toList.drop (R.X.length * 11) = cur.toList := by rw [← h, List.take_append_drop]
      rw [h2]⟩
    have hjl : jk.length = 11 * (cap - R.X.length) := by
      have h := hr.2.2.2.1
      have h2 := hr.2.1
      rw [hcur] at h
      simp only [List.size_toArray, List.length_append, h11] at h
      omega
    subst hcur
    replace H : St w [] wx ((p2, structO g2 R.X.length cap mo R.span er R.evs.length) :: (g2, .cells (linesC R.X ++ jk).toArray 158) :: (mo, mO [] 0) :: (er.hp 164 ++ pendHp (R.X.map fun x => (x.1, Row.none)))) := by rw [pendHp_none]; exact H
    refine WC.seq ?_
    refine WC.seq ?_
    refine WC.region ?_
    refine WL.move rfl rfl ?_
    refine WL.nilCheck rfl rfl ?_
    refine WL.fieldAddr fld161_1 rfl rfl ?_
    refine WL.load rfl (Rd.one ty159 (by rw [cell_of (H.oldBlock hbp (by simp))]; rfl)) rfl ?_
    refine WL.rangeMap H map159 rfl (H.oldBlock hbmb (by simp)) rfl ?_
    intro it wx hit hgit H
    refine (WL.done (WX.next ?_))
    refine WC.block ?_
    -- loop 1: changed [] kept [0, 3, 26]
    refine WC.loop (Sub.cons (t := 0) rfl (Sub.cons (t := 3) rfl (Sub.cons (t := 26) rfl (Sub.nil _)))) (fun _ : List (PL × Row) × List (PL × Row) × List (Int × Nat) × Nat × Array Nat => []) (fun q g wx => q = left R.mp g.2.2.2.2 ∧ Copying R g.1 g.2.1 g.2.2.1 g.2.2.2.1 g.2.2.2.2 ∧ St w [] wx ((it, .mapIter (some R.mb) R.clk g.2.2.2.2 R.clk) :: (p2, structO g2 R.X.length cap mo R.span er R.evs.length) :: (g2, .cells (linesC g.1 ++ jk).toArray 158) :: (mo, mO g.2.2.1 g.2.2.2.1) :: (er.hp 164 ++ pendHp g.2.1))) (left R.mp #[]) ((R.X, R.X.map fun x => (x.1, Row.none), [], 0, #[])) (Sub.nil _) (⟨rfl, Copying.start, H⟩) ?_
    rintro k g wx hI N hN
    obtain ⟨Y, W, mp, clk, seen⟩ := g
    obtain ⟨rfl, hC, H⟩ := hI
    change Copying R Y W mp clk seen at hC
    change St w [] wx ((it, .mapIter (some R.mb) R.clk seen R.clk) :: (p2, structO g2 R.X.length cap mo R.span er R.evs.length) :: (g2, .cells (linesC Y ++ jk).toArray 158) :: (mo, mO mp clk) :: (er.hp 164 ++ pendHp W)) at H
    refine WC.seq ?_
    refine WC.region ?_
    refine WL.nextB H 0 rfl rfl (H.oldBlock hbmb (by simp)) (fun x hx => hm.ok.map.1 x hx) (Nat.le_refl _) rfl ?_
    intro bb cs wx hcs hNo hYes
    refine WL.extract rfl hcs rfl ?_
    refine (WL.done (WX.next ?_))
    refine WC.seq ?_
    refine WC.cond rfl (fun c1 => ?_) (fun c1 => ?_)
    ·
      obtain ⟨kk, bn, hmem, hns, H⟩ := hYes (by assumption)
      obtain ⟨hk0, x, hx, hxp⟩ := (hm.ok.busy kk).1 (List.mem_map_of_mem (f := Prod.fst) hmem)
      obtain ⟨k, rfl⟩ : ∃ k : Nat, kk = (k : Int) := ⟨kk.toNat, by omega⟩
      rw [Int.toNat_natCast] at hx
      have hkl : k < R.X.length := lt_len hx
      obtain ⟨A, r, B, A', r', B', hY, hA, hal, hx8, hW, hA'⟩ := hC.at hm.ok hx
      obtain ⟨hxok, hxr⟩ := hm.ok.lines x (List.mem_of_getElem? hx)
      obtain ⟨A0, ⟨l0, r0⟩, B0, hX0, hA0⟩ := split_at (X := R.X) (n := k) hkl
      have hxe : x = (l0, r0) := by
        have h1 : R.X[k]? = some (l0, r0) := by rw [hX0]; exact mid_get hA0
        rw [h1] at hx; exact (Option.some.inj hx).symm
      have hal0 : (linesC A0).length = 11 * k := by rw [linesC_length (fun y hy => (hm.ok.lines y (by rw [hX0]; exact List.mem_append_left _ hy)).1.1), hA0]
      have hlbx : w.heap[R.lb]? = some (.cells (lineL (linesC A0) x.1 x.2 (linesC B0 ++ R.junk)) 158) := by
        rw [hblb, hxe]
        unfold lineL
        rw [hX0, linesC_append, linesC_cons]
        simp
      have hcY : (linesC Y ++ jk).toArray = lineL (linesC A) x.1 r (linesC B ++ jk) := by
        rw [hY, linesC_append, linesC_cons]; simp [lineL]
      have hg2 : w.heap.size ≤ g2 := by
        rcases H.own (g2, .cells (linesC Y ++ jk).toArray 158) (List.mem_cons_of_mem _ (List.mem_cons_of_mem _ List.mem_cons_self)) with h | h
        · simp at h
        · exact h
      have hpn : R.p ∉ [g2] := fun h => by have := lt_of_some hbp; rw [List.mem_singleton.1 h] at this; omega
      have hlbn : R.lb ∉ [g2] := fun h => by have := lt_of_some hblb; rw [List.mem_singleton.1 h] at this; omega
      have hnotin : ∀ q ∈ x.2.hp 111, q.1 ∉ [g2] := fun q hq h => by have := lt_of_some (hm.sat q (RM.row_memx hx q hq)); rw [List.mem_singleton.1 h] at this; omega
      rw [hcY] at H
      refine (WC.skip (WX.next ?_))
      refine WC.block ?_
      refine WC.seq ?_
      refine WC.region ?_
      refine WL.entry (seen := seen) (bn := bn) (k := (k : Int)) rfl (H.blk 0 rfl) (H.oldBlock hbmb (by simp)) (find_born hm.ok.map.2.1 hmem) rfl ?_
      refine WL.extract rfl rfl rfl ?_
      refine WL.assign rfl rfl ?_
      refine (WL.done (WX.next ?_))
      refine WC.seq ?_
      replace H := H.drew
      refine WC.held (SX (World.drew wx) [g2]) (by kernel_rfl) ?_
      generalize World.drew wx = wb at H ⊢
      have HB := H.single 2 rfl
      refine WH.take 0 rfl (by kernel_rfl) (by kernel_rfl) (by kernel_rfl) (fun _ _ _ h => h) ⟨_, HB⟩ (fun w' hS => EX.move rfl) rfl ?_
      refine WH.take 1 rfl (by kernel_rfl) (by kernel_rfl) (by kernel_rfl) (fun _ _ _ h => h) ⟨_, HB⟩ (fun w' hS => EX.nilCheck rfl) rfl ?_
      refine WH.take 2 rfl (by kernel_rfl) (by kernel_rfl) (by kernel_rfl) (fun _ _ _ h => h) ⟨_, HB⟩ (fun w' hS => EX.fieldAddr fld161_0 rfl) rfl ?_
      refine WH.take 3 rfl (by kernel_rfl) (by kernel_rfl) (by kernel_rfl) (fun _ _ _ h => h) ⟨_, HB⟩ (fun w' hS => EX.load rfl (hS.rd1 ty156 (H.blk 1 rfl) (fun h => H.ne 1 2 rfl rfl rfl (List.mem_singleton.1 h)) rfl)) rfl ?_
      refine WH.take 4 rfl (by kernel_rfl) (by kernel_rfl) (by kernel_rfl) (fun _ _ _ h => h) ⟨_, HB⟩ (fun w' hS => EX.move rfl) rfl ?_
      refine WH.take 5 rfl (by kernel_rfl) (by kernel_rfl) (by kernel_rfl) (fun _ _ _ h => h) ⟨_, HB⟩ (fun w' hS => EX.move rfl) rfl ?_
      refine WH.take 6 rfl (by kernel_rfl) (by kernel_rfl) (by kernel_rfl) (fun _ _ _ h => h) ⟨_, HB⟩ (fun w' hS => EX.nilCheck rfl) rfl ?_
      refine WH.take 7 rfl (by kernel_rfl) (by kernel_rfl) (by kernel_rfl) (fun _ _ _ h => h) ⟨_, HB⟩ (fun w' hS => EX.fieldAddr fld161_0 rfl) rfl ?_
      refine WH.take 8 rfl (by kernel_rfl) (by kernel_rfl) (by kernel_rfl) (fun _ _ _ h => h) ⟨_, HB⟩ (fun w' hS => EX.load rfl (Rd.one ty156 (by rw [cell_of (hS.block (H.oldBlock hbp (by simp)) hpn)]; rfl))) rfl ?_
      refine WH.take 9 rfl (by kernel_rfl) (by kernel_rfl) (by kernel_rfl) (fun _ _ _ h => h) ⟨_, HB⟩ (fun w' hS => EX.move rfl) rfl ?_
      refine WH.take 10 rfl (by kernel_rfl) (by kernel_rfl) (by kernel_rfl) (fun _ _ _ h => h) ⟨_, HB⟩ (fun w' hS => EX.idxSlc (k := k) slc156 rfl rfl (by rfl) (hkl)) rfl ?_
      refine WH.take 11 rfl (by kernel_rfl) (by kernel_rfl) (by kernel_rfl) (fun _ _ _ h => h) ⟨_, HB⟩ (fun w' hS => EX.fieldAddr fld158_1 rfl) rfl ?_
      refine WH.take 12 rfl (by kernel_rfl) (by kernel_rfl) (by kernel_rfl) (fun _ _ _ h => h) ⟨_, HB⟩ (fun w' hS => EX.load rfl (Rd.lineS ty52 (hS.block (H.oldBlock hlbx (by simp)) hlbn) (by omega) hx8)) rfl ?_
      refine WH.hard 13 rfl (by kernel_rfl) ?_
      refine WL.call call108 rfl rfl ?_
      refine Calls.mono (cloneP_row x.2 x.1.ps.length _ hxr (flatP_one _) _ (fun q hq => HB.oldBlock (H.oldBlock (hm.sat q (RM.row_memx hx q hq)) (by simp)) (hnotin q hq)) (hps x (List.mem_of_getElem? hx))) ?_
      rintro _ wx ⟨r1, rfl, hr1, Hc⟩
      refine ⟨_, rfl, ?_⟩
      replace HB := (HB.call Hc).perm List.perm_append_comm
      refine WL.done (WX.heldOn ⟨_, HB⟩ ?_)
      refine WH.take 14 rfl (by kernel_rfl) (by kernel_rfl) (by kernel_rfl) (fun _ _ _ h => h) ⟨_, HB⟩ (fun w' hS => EX.idxSlc (k := k) slc156 rfl rfl (by rfl) (hkl)) rfl ?_
      refine WH.take 15 rfl (by kernel_rfl) (by kernel_rfl) (by kernel_rfl) (fun _ _ _ h => h) ⟨_, HB⟩ (fun w' hS => EX.fieldAddr fld158_1 rfl) rfl ?_
      refine WH.hard 16 rfl (by kernel_rfl) ?_
      refine WL.storeAt HB ty52 0 rfl rfl rfl (Row.val_size _ _) (Row.val_one _ _) (by rw [lineL_size hx8]; omega) ?_
      intro wx HB
      replace HB := HB.castH (H' := [(g2, .cells (lineL (linesC A) x.1 r1 (linesC B ++ jk)) 158)] ++ r1.hp 111) (by
        have e1 := wr_lineS (a := linesC A) (l := x.1) (r := r) (r' := r1) (ps' := x.1.ps) (c := linesC B ++ jk) (o := 0 + k * 11 + 9) (by omega) hx8
        rw [Row.val_cells]; exact congrArg (fun c => (g2, Obj.cells c 158) :: r1.hp 111) e1)
      replace HB := HB.perm List.perm_append_comm
      refine WL.done (WX.heldOn ⟨_, HB⟩ ?_)
      refine WH.done (by kernel_rfl) ?_
      replace H := H.back (N := r1.hp 111) 2 rfl HB rfl
      replace H : St w [] _ ((it, .mapIter (some R.mb) R.clk (seen.push bn) R.clk) :: (p2, structO g2 R.X.length cap mo R.span er R.evs.length) :: (g2, .cells (linesC (A ++ (x.1, r1) :: B) ++ jk).toArray 158) :: (mo, mO mp clk) :: (er.hp 164 ++ pendHp (A' ++ (x.1, r1) :: B'))) := H.swapRow hW
      refine WX.next ?_
      refine WC.region ?_
      refine WL.move rfl rfl ?_
      refine WL.nilCheck rfl rfl ?_
      refine WL.fieldAddr fld161_1 rfl rfl ?_
      refine WL.load rfl (H.rd1 ty159 1 rfl rfl) rfl ?_
      refine WL.move rfl rfl ?_
      refine WL.mapUpdate H map159 3 rfl rfl rfl rfl ?_
      intro wx H
      refine (WL.done (WX.block_normal (WX.round ?_)))
      exact hN _ (A ++ (x.1, r1) :: B, A' ++ (x.1, r1) :: B', mIns mp clk k, mClk mp clk k, seen.push bn) _ _ (left_push hmem hns) ⟨rfl, hC.step hm.ok hx hY hA hW hA' hmem hr1 hxp, H⟩ (Sub.nil _) (Sub.cons (t := 0) rfl (Sub.cons (t := 3) rfl (Sub.cons (t := 26) rfl (Sub.nil _))))
    ·
      obtain ⟨hall, H⟩ := hNo (by assumption)
      refine (WC.exit (WX.then_exit (WX.then_exit (WX.block_exit (WX.next ?_)))))
      refine WC.seq ?_
      refine WC.region ?_
      refine WL.move rfl rfl ?_
      refine WL.assign rfl rfl ?_
      refine (WL.done (WX.next ?_))
      refine (WC.ret ?_)
      refine ret_one rfl rfl ?_
      obtain ⟨k1, k2, k3, k4, k5, k6⟩ := hC.done hm.ok hall
      have hcl := hr.2.1
      have hcm := hr.2.2.1
      refine ⟨{ p := p2, lb := g2, lcap := cap, junk := jk, mb := mo, X := final Y W, mp := mp, clk := clk, span := R.span, evs := R.evs, er := er }, rfl, ?_, ⟨by show 1 ≤ (final Y W).length ∧ _; rw [show ({ p := p2, lb := g2, lcap := cap, junk := jk, mb := mo, X := final Y W, mp := mp, clk := clk, span := R.span, evs := R.evs, er := er } : RM).X.length = (final Y W).length from rfl, k1]; exact hlen, by show (final Y W).length ≤ cap ∧ _; rw [k1]; exact ⟨hcl, hcm⟩, by show jk.length = 11 * (cap - (final Y W).length); rw [k1]; exact hjl, k5, hC.map, k6, hm.ok.evs, her, hm.ok.span⟩, ?_⟩
      · show PM.mk ((final Y W).map Prod.fst) R.span R.evs = PM.mk (R.X.map Prod.fst) R.span R.evs
        rw [k2]
      · have h := H.tail
        unfold RM.hp
        show St w [] _ ((p2, structO g2 (final Y W).length cap mo R.span er R.evs.length) :: (g2, .cells (linesC (final Y W) ++ jk).toArray 158) :: (mo, mO mp clk) :: (er.hp 164 ++ pendHp (final Y W)))
        rw [k1, k3, k4]
        exact h

end Go.Proofs.YtkncbggnaobgeaaDoor
