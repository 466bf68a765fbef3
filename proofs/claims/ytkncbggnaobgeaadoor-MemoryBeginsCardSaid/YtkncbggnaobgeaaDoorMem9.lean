/- Walks of functions of the program; printed by a program of this session (walk.py) out of hand-written hints. -/
import Derived.Test.YtkncbggnaobgeaaDoorMem8
namespace Go.Proofs.YtkncbggnaobgeaaDoor
open Go.RowKit
set_option linter.unusedVariables false
set_option linter.unusedSimpArgs false
set_option maxRecDepth 100000

theorem madeCells_zero {s k : Nat} (h0 : 0 < s) : madeCells (arrC (List.replicate s 0)) k = arrC (List.replicate k 0) := by
  apply Array.ext_getElem?
  intro i
  unfold madeCells
  rw [arrC_get]
  by_cases hi : i < k
  · have hm : i % s < s := Nat.mod_lt _ h0
    simp [hi, arrC, hm]
  · simp [hi]
theorem zer40' : ZeroIs Tryd.prog 40 (arrC (List.replicate 9 0)) := zer40
theorem zer38' : ZeroIs Tryd.prog 38 (arrC (List.replicate 8 0)) := zer38
theorem wr_slot {a v : List Int} {sz m o : Nat} (hv : v.length = sz) (ho : o = a.length) : wr (arrC (a ++ List.replicate ((m + 1) * sz) 0)) o (intsC v) = arrC ((a ++ v) ++ List.replicate (m * sz) 0) := by
  have e1 : arrC (a ++ List.replicate ((m + 1) * sz) 0) = (intsC a ++ (intsC (List.replicate sz 0) ++ intsC (List.replicate (m * sz) 0))).toArray := by
    rw [arrC_ints, Nat.add_mul, Nat.one_mul, Nat.add_comm (m * sz), ← List.replicate_append_replicate]
    simp [intsC]
  rw [e1, wr_mid (by simp [intsC, ho]) (by simp [intsC, hv]), arrC_ints]
  simp [intsC]
theorem wr_full {cs v : Array Value} (h : cs.size = v.size) : wr cs 0 v.toList = v := by
  apply Array.ext_getElem?
  intro i
  rw [wr_get _ _ _ _ (by simp [h])]
  by_cases hi : i < v.size
  · rw [if_pos (by simp [hi])]; simp
  · rw [if_neg (by simp; omega), Array.getElem?_eq_none (by omega), Array.getElem?_eq_none (by omega)]
theorem RM.line_at {w0 w : World} {S : List Nat} {L : Hp} {R : RM} {A B : List (PL × Row)} {l : PL} {r : Row} (hX : R.X = A ++ (l, r) :: B) (h : St w0 S w (L ++ R.hp)) :
    w.heap[R.lb]? = some (.cells (lineL (linesC A) l r (linesC B ++ R.junk)) 158) := by
  have h1 := h.sat (R.lb, .cells (linesC R.X ++ R.junk).toArray 158) (List.mem_append_right _ (List.mem_cons_of_mem _ List.mem_cons_self))
  have e1 : (linesC R.X ++ R.junk).toArray = lineL (linesC A) l r (linesC B ++ R.junk) := by
    rw [hX, linesC_append, linesC_cons]; simp [lineL]
  rw [← e1]; exact h1
theorem RM.row_mem {R : RM} {A B : List (PL × Row)} {l : PL} {r : Row} (hX : R.X = A ++ (l, r) :: B) : ∀ q ∈ r.hp 111, q ∈ R.hp := fun q hq => by
  have : q ∈ pendHp R.X := by rw [hX, pendHp_append, pendHp_cons]; simp [hq]
  exact List.mem_cons_of_mem _ (List.mem_cons_of_mem _ (List.mem_cons_of_mem _ (List.mem_append_right _ this)))
def imgC (ls : List PL) : List Int := ls.flatMap fun l => l.ws ++ [l.c]
def seenC (ls : List PL) : List Int := ls.flatMap fun l => (pShow l l.ps.length).1
theorem flat_len {f : PL → List Int} {sz : Nat} {ls : List PL} (h : ∀ l ∈ ls, (f l).length = sz) : (ls.flatMap f).length = ls.length * sz := by
  induction ls with
  | nil => simp
  | cons l ls ih =>
    have h1 := h l List.mem_cons_self
    have h2 := ih (fun q hq => h q (List.mem_cons_of_mem _ hq))
    simp only [List.flatMap_cons, List.length_append, h1, h2, List.length_cons]
    rw [Nat.add_mul, Nat.one_mul, Nat.add_comm]
theorem flat_take {f : PL → List Int} {ls : List PL} {i : Nat} {l : PL} (h : ls[i]? = some l) : (ls.take (i + 1)).flatMap f = (ls.take i).flatMap f ++ f l := by
  rw [List.take_add_one, h]; simp
theorem RM.l8s {R : RM} (h : R.ok) : ∀ l ∈ R.abs.ls, l.ws.length = 8 := fun l hl => by
  obtain ⟨x, hx, rfl⟩ := List.mem_map.1 hl
  exact h.l8 x hx
theorem lineC_one (l : PL) (r : Row) : ∀ u ∈ lineC l r, u.oneCell' = true := by
  intro u hu
  unfold lineC at hu
  rcases List.mem_append.1 hu with hu | hu
  · exact intsC_one _ u hu
  · simp only [List.cons_append, List.nil_append, List.mem_cons, List.not_mem_nil, or_false] at hu
    rcases hu with rfl | rfl | rfl
    · rfl
    · cases r <;> rfl
    · rfl
theorem abs_get {R : RM} {k : Nat} {l : PL} {r : Row} (h : R.X[k]? = some (l, r)) : R.abs.ls[k]? = some l := by simp [RM.abs, h]
theorem abs_len (R : RM) : R.abs.ls.length = R.X.length := by simp [RM.abs]

theorem image_any (R : RM) (w : World) (hm : MemIn w R) : Calls Tryd.prog 29 #[.pointer (some ⟨R.p, 0, none⟩)] w fun e w' => ∃ g, e = .returned (.slice (some ⟨g, 0, none⟩) R.X.length R.X.length) ∧ St w [] w' [(g, .cells (arrC (imgC R.abs.ls)) 40)] := by
  refine calls_walk_n (args := [.pointer (some ⟨R.p, 0, none⟩)]) Tryd.func29 rfl rfl rfl ?_
  have H := hm.start
  have hlen := hm.ok.len
  have h8s := RM.l8s hm.ok
  refine WC.seq ?_
  refine WC.region ?_
  refine WL.assign rfl rfl ?_
  refine (WL.done (WX.next ?_))
  refine WC.seq ?_
  refine WC.region ?_
  refine WL.move rfl rfl ?_
  first | refine WL.nilCheck rfl rfl ?_ | refine WL.nilCheckFn rfl rfl ?_
  refine WL.fieldAddr fld161_0 rfl rfl ?_
  first | refine WL.load rfl (H.rd1 ty156 0 rfl rfl) rfl ?_ | refine WL.load rfl (H.rd1 ty156 1 rfl rfl) rfl ?_ | refine WL.load rfl (H.rd1 ty156 2 rfl rfl) rfl ?_ | refine WL.load rfl (H.rdA ty156 0 rfl (by decide)) rfl ?_ | refine WL.load rfl (H.rdA ty156 1 rfl (by decide)) rfl ?_ | refine WL.load rfl (H.rdA ty156 2 rfl (by decide)) rfl ?_
  refine WL.lenSlc isl156 rfl rfl ?_
  refine WL.makeS H app23 zer40' rfl rfl rfl rfl (by omega) (by omega) rfl ?_
  intro g wx hg hgg H
  rw [madeCells_zero (by omega)] at H
  refine WL.assign rfl rfl ?_
  refine (WL.done (WX.next ?_))
  refine WC.seq ?_
  refine WC.seq ?_
  refine WC.region ?_
  refine WL.move rfl rfl ?_
  first | refine WL.nilCheck rfl rfl ?_ | refine WL.nilCheckFn rfl rfl ?_
  refine WL.fieldAddr fld161_0 rfl rfl ?_
  first | refine WL.load rfl (H.rd1 ty156 0 rfl rfl) rfl ?_ | refine WL.load rfl (H.rd1 ty156 1 rfl rfl) rfl ?_ | refine WL.load rfl (H.rd1 ty156 2 rfl rfl) rfl ?_ | refine WL.load rfl (H.rdA ty156 0 rfl (by decide)) rfl ?_ | refine WL.load rfl (H.rdA ty156 1 rfl (by decide)) rfl ?_ | refine WL.load rfl (H.rdA ty156 2 rfl (by decide)) rfl ?_
  refine WL.lenSlc isl156 rfl rfl ?_
  refine WL.move rfl rfl ?_
  refine (WL.done (WX.next ?_))
  refine WC.block ?_
  -- loop 1: changed [17] kept [3, 15, 16]
  obtain ⟨g0, hg0⟩ : ∃ g0, g0 = g := ⟨_, rfl⟩
  subst hg0
  refine WC.loop (Sub.cons (t := 3) rfl (Sub.cons (t := 15) rfl (Sub.cons (t := 16) rfl (Sub.nil _)))) (fun i : Nat => [(17, .int .i64 (i : Int))]) (fun q i wx => q = R.X.length - i ∧ i ≤ R.X.length ∧ St w (R.hp.map Prod.fst) wx ((g0, .cells (arrC (imgC (R.abs.ls.take i) ++ List.replicate ((R.X.length - i) * 9) 0)) 40) :: R.hp)) (R.X.length) (0) (Sub.cons (t := 17) (by first | rfl | simp) (Sub.nil _)) (⟨rfl, by omega, H⟩) ?_
  rintro k g wx hI N hN
  obtain ⟨rfl, hg, H⟩ := hI
  refine WC.seq ?_
  refine WC.region ?_
  refine WL.bin rfl rfl binv_lss rfl ?_
  refine (WL.done (WX.next ?_))
  refine WC.seq ?_
  first | refine WC.cond_dec rfl (fun c1 => ?_) (fun c1 => ?_) | refine WC.cond rfl (fun c1 => ?_) (fun c1 => ?_)
  · -- c1 T
    refine (WC.skip (WX.next ?_))
    refine WC.seq ?_
    refine WC.block ?_
    refine WC.seq ?_
    refine WC.region ?_
    have hlt : g < R.X.length := by omega
    obtain ⟨A, l, r, B, hX, hA, hal, hok, hr, hget⟩ := hm.ok.at (k := g) hlt
    refine WL.move rfl rfl ?_
    refine WL.idxSlc (k := g) slc156 rfl rfl (by first | rfl | omega) (by omega) rfl ?_
    refine WL.load rfl (Rd.lineAll ty158 (RM.line_at (L := [_]) hX H) (by omega) hok.1) rfl ?_
    refine WL.alloc H zer158 rfl ?_
    intro b5 wx hb5 hge5 H
    refine WL.assign rfl rfl ?_
    refine WL.storeAt H ty158 0 rfl rfl rfl (by show (lineC l r).toArray.size = 11; simp [lineC_length hok.1]) (fun u hu => lineC_one l r u (by simpa [Value.cells] using hu)) (Nat.le_refl 11) ?_
    intro wx H
    replace H := H.castH (H' := (b5, .cells (lineL [] l r []) 158) :: (g0, .cells (arrC (imgC (R.abs.ls.take g) ++ List.replicate ((R.X.length - g) * 9) 0)) 40) :: R.hp) (by
      have e1 : wr #[.int .i64 0, .int .i64 0, .int .i64 0, .int .i64 0, .int .i64 0, .int .i64 0, .int .i64 0, .int .i64 0, .int .i64 0, .slice none 0 0, .int .i64 0] 0 (lineC l r).toArray.toList = lineL [] l r [] := by
        rw [wr_full (by simp [lineC_length hok.1])]; simp [lineL]
      rw [← e1]; rfl)
    refine (WL.done (WX.next ?_))
    refine WC.region ?_
    refine WL.move rfl rfl ?_
    refine WL.move rfl rfl ?_
    refine WL.fieldAddr fld158_0 rfl rfl ?_
    refine WL.load rfl (Rd.lineLn ty40 (a := []) (c := []) (H.blk 0 rfl) rfl hok.1) rfl ?_
    refine WL.idxSlc (k := g) slc23 rfl rfl (by first | rfl | omega) (by omega) rfl ?_
    have himl : (imgC (R.abs.ls.take g)).length = g * 9 := by
      rw [imgC, flat_len (sz := 9) (fun l hl => by simp [h8s l (List.mem_of_mem_take hl)]), List.length_take, abs_len]
      congr 1; omega
    have hsz : 0 + g * 9 + 9 ≤ (arrC (imgC (R.abs.ls.take g) ++ List.replicate ((R.X.length - g) * 9) 0)).size := by
      rw [arrC_size, List.length_append, List.length_replicate, himl]; omega
    refine WL.storeAt (v := arr (l.ws ++ [l.c])) H ty40 1 rfl rfl rfl (by rw [arr_cells, arrC_size]; simp [hok.1]) (arrC_one _) hsz ?_
    intro wx H
    replace H := H.castH (H' := (b5, .cells (lineL [] l r []) 158) :: (g0, .cells (arrC (imgC (R.abs.ls.take (g + 1)) ++ List.replicate ((R.X.length - (g + 1)) * 9) 0)) 40) :: R.hp) (by
      have e1 := wr_slot (a := imgC (R.abs.ls.take g)) (v := l.ws ++ [l.c]) (sz := 9) (m := R.X.length - (g + 1)) (o := 0 + g * 9) (by simp [hok.1]) (by omega)
      have e2 : imgC (R.abs.ls.take (g + 1)) = imgC (R.abs.ls.take g) ++ (l.ws ++ [l.c]) := flat_take (abs_get hget)
      rw [e2, ← e1, show R.X.length - (g + 1) + 1 = R.X.length - g from by omega]; rfl)
    refine (WL.done (WX.block_normal (WX.next ?_)))
    refine WC.region ?_
    refine WL.bin rfl rfl (iadd (by omega) (by omega)) rfl ?_
    refine WL.move rfl rfl ?_
    refine (WL.done (WX.round ?_))
    exact hN _ (g+1) _ _ (by omega) ⟨rfl, by omega, H.tail⟩ (Sub.cons (t := 17) (by first | rfl | simp) (Sub.nil _)) (Sub.cons (t := 3) rfl (Sub.cons (t := 15) rfl (Sub.cons (t := 16) rfl (Sub.nil _))))
  · -- c1 F
    refine (WC.exit (WX.then_exit (WX.then_exit (WX.block_exit (WX.next ?_)))))
    refine WC.seq ?_
    refine WC.region ?_
    refine WL.move rfl rfl ?_
    refine WL.assign rfl rfl ?_
    refine (WL.done (WX.next ?_))
    refine (WC.ret ?_)
    refine ret_one rfl rfl ?_
    obtain rfl : g = R.X.length := by omega
    have e1 : R.abs.ls.take R.X.length = R.abs.ls := List.take_of_length_le (by rw [abs_len]; omega)
    rw [e1, Nat.sub_self, Nat.zero_mul, List.replicate_zero, List.append_nil] at H
    exact ⟨g0, rfl, St.sameL (L := [_]) H hm.sat⟩

end Go.Proofs.YtkncbggnaobgeaaDoor
