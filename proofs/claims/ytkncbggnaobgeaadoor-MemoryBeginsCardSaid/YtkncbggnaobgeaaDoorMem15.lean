/- Walks of functions of the program; printed by a program of this session (walk.py) out of hand-written hints. -/
import Derived.Test.YtkncbggnaobgeaaDoorMem14
namespace Go.Proofs.YtkncbggnaobgeaaDoor
open Go.RowKit
set_option linter.unusedVariables false
set_option linter.unusedSimpArgs false
set_option maxRecDepth 100000

def toPL (x : List Int × Int) : PL := { ws := x.1, c := x.2, ps := [], mark := 0 }
def flatI (imgs : List (List Int × Int)) : List Int := imgs.flatMap fun x => x.1 ++ [x.2]
def imgOk (imgs : List (List Int × Int)) : Bool := decide (1 ≤ imgs.length) && decide (imgs.length ≤ 4096) && imgs.all fun x => isWords x.1 && isCode x.2
theorem imgOk_bad {imgs : List (List Int × Int)} {g : Nat} (hg : g < imgs.length) (hb : (isWords (imgs[g]).1 && isCode (imgs[g]).2) = false) : ¬ imgOk imgs = true := by
  unfold imgOk
  rw [Bool.and_eq_true, List.all_eq_true]
  rintro ⟨_, h⟩
  have := h _ (List.getElem_mem hg)
  rw [hb] at this
  cases this
theorem imgOk_len {imgs : List (List Int × Int)} (h : ¬ (1 ≤ imgs.length ∧ imgs.length ≤ 4096)) : ¬ imgOk imgs = true := by
  unfold imgOk
  rw [Bool.and_eq_true, Bool.and_eq_true]
  rintro ⟨⟨h1, h2⟩, _⟩
  exact h ⟨by simpa using h1, by simpa using h2⟩
theorem flatI_get {imgs : List (List Int × Int)} (h8 : ∀ x ∈ imgs, x.1.length = 8) {i j : Nat} (hi : i < imgs.length) (hj : j < 9) : (flatI imgs)[i * 9 + j]? = ((imgs[i]).1 ++ [(imgs[i]).2])[j]? := by
  induction imgs generalizing i with
  | nil => simp at hi
  | cons x imgs ih =>
    have hx := h8 x List.mem_cons_self
    have hl : (x.1 ++ [x.2]).length = 9 := by simp [hx]
    unfold flatI
    rw [List.flatMap_cons]
    cases i with
    | zero => rw [Nat.zero_mul, Nat.zero_add, List.getElem?_append_left (by omega)]; rfl
    | succ i =>
      rw [List.getElem?_append_right (by omega), hl, show (i + 1) * 9 + j - 9 = i * 9 + j from by omega]
      exact ih (fun y hy => h8 y (List.mem_cons_of_mem _ hy)) (by simpa using hi)
theorem Rd.sub {P : Program} {w : World} {T t : TypeId} {fr : Nat × Nat} {b o k : Nat} {cs : Array Value} {v : List Int} (hT : tyB P T true k = true) (h : w.heap[b]? = some (.cells cs t fr)) (hl : v.length = k) (hk0 : 0 < k) (hn : ∀ j, j < k → cs[o + j]? = some (.int .i64 (v.getD j 0))) : Rd P w T ⟨b, o, none⟩ (YtkncbggnaobgeaaDoor.arr v) := by
  have hk : o + k ≤ cs.size := by
    have h1 := hn (k - 1) (by omega)
    rcases Nat.lt_or_ge (o + (k - 1)) cs.size with hl2 | hg
    · omega
    · rw [Array.getElem?_eq_none hg] at h1; cases h1
  have := Rd.agg (P := P) (o := o) hT h hk
  have e1 : cs.extract o (o + k) = arrC v := by
    apply Array.ext_getElem?
    intro i
    rw [Array.getElem?_extract, arrC_get]
    by_cases hi : i < k
    · rw [if_pos (by omega), hn i hi, List.getElem?_eq_getElem (by omega)]
      simp [List.getD, List.getElem?_eq_getElem (show i < v.length by omega)]
    · rw [if_neg (by omega), List.getElem?_eq_none (by omega)]; rfl
  rw [e1] at this
  exact this

section
variable {P : Program} {w : World} {T t : TypeId} {k b o : Nat} {ws : List Int} {z : Int}
theorem Rd.l40w (hT : tyB P T true 8 = true) (h : w.heap[b]? = some (.cells (arrC (ws ++ [z])) t)) (h8 : ws.length = 8) : Rd P w T ⟨b, 0, none⟩ (YtkncbggnaobgeaaDoor.arr ws) := by
  have e1 : arrC (ws ++ [z]) = ([] ++ (intsC ws ++ [Value.int .i64 z])).toArray := by simp [arrC, intsC]
  rw [e1] at h
  exact Rd.mid (a := []) hT h rfl (by simp [intsC, h8])
theorem Rd.l40c (hT : tyB P T false k = true) (h : w.heap[b]? = some (.cells (arrC (ws ++ [z])) t)) (h8 : ws.length = 8) : Rd P w T ⟨b, 8, none⟩ (.int .i64 z) := by
  have e1 : arrC (ws ++ [z]) = (intsC ws ++ ([Value.int .i64 z] ++ [])).toArray := by simp [arrC, intsC]
  rw [e1] at h
  exact Rd.mid1 (c := []) hT h (by simp [intsC, h8])
theorem wr_lineLn {a c : List Value} {l : PL} {r : Row} (ho : o = a.length) (h8 : l.ws.length = 8) (h8' : ws.length = 8) : wr (lineL a l r c) o (intsC (ws ++ [z])) = lineL a { l with ws := ws, c := z } r c := by
  rw [lineL_l, wr_mid ho (by simp [intsC, h8, h8']), lineL_l]
end
def imgX (imgs : List (List Int × Int)) (i : Nat) : List (PL × Row) := (imgs.take i).map (fun x => (toPL x, Row.none)) ++ List.replicate (imgs.length - i) (pl0, Row.none)

theorem from_any (A : Option Addr) (m cap : Nat) (imgs : List (List Int × Int)) (hmi : m = imgs.length) (h8 : ∀ x ∈ imgs, x.1.length = 8) (w : World) (himg : imgs = [] ∨ ∃ b o cs t fr, A = some ⟨b, o, none⟩ ∧ w.heap[b]? = some (.cells cs t fr) ∧ ∀ j u, (flatI imgs)[j]? = some u → cs[o + j]? = some (.int .i64 u)) (hm63 : m ≤ 1073741824) : Calls Tryd.prog 24 #[.slice A m cap] w fun e w' => if imgOk imgs = true then ∃ p lb mb, e = .returned (.pointer (some ⟨p, 0, none⟩)) ∧ St w [] w' (RM.fresh p lb mb (imgs.map toPL)).hp else e = .returned (.pointer none) ∧ St w [] w' [] := by
  refine calls_walk_n (args := [.slice A m cap]) Tryd.func24 rfl rfl rfl ?_
  have H := St.refl w
  refine WC.seq ?_
  refine WC.region ?_
  refine WL.assign rfl rfl ?_
  refine (WL.done (WX.next ?_))
  refine WC.seq ?_
  refine WC.seq ?_
  refine WC.region ?_
  refine WL.move rfl rfl ?_
  refine WL.lenSlc isl23 rfl rfl ?_
  refine WL.bin rfl rfl binv_lss rfl ?_
  refine WL.move rfl rfl ?_
  first | refine WL.splitD (t := 9) rfl (fun g1 => ?_) (fun g1 => ?_) | refine WL.split (t := 9) rfl (fun g1 => ?_) (fun g1 => ?_)
  · -- g1 True
    refine WL.no rfl rfl rfl ?_
    refine WL.no rfl rfl rfl ?_
    refine WL.no rfl rfl rfl ?_
    refine WL.pickT rfl rfl rfl ?_
    refine (WL.done (WX.next ?_))
    refine WC.cond_true rfl (rfl) ?_
    refine WC.seq ?_
    refine WC.region ?_
    refine WL.assign rfl rfl ?_
    refine (WL.done (WX.next ?_))
    refine (WC.ret (WX.then_ret ?_))
    refine ret_one rfl rfl ?_
    rw [if_neg (imgOk_len (by omega))]
    exact ⟨rfl, H⟩
  · -- g1 False
    refine WL.yes rfl rfl ?_
    refine WL.move rfl rfl ?_
    refine WL.yes rfl rfl ?_
    refine WL.lenSlc isl23 rfl rfl ?_
    refine WL.yes rfl rfl ?_
    refine WL.bin rfl rfl binv_gtr rfl ?_
    refine WL.pickF rfl rfl rfl ?_
    refine (WL.done (WX.next ?_))
    first | refine WC.cond_dec rfl (fun c2 => ?_) (fun c2 => ?_) | refine WC.cond rfl (fun c2 => ?_) (fun c2 => ?_)
    · -- c2 T
      refine WC.seq ?_
      refine WC.region ?_
      refine WL.assign rfl rfl ?_
      refine (WL.done (WX.next ?_))
      refine (WC.ret (WX.then_ret ?_))
      refine ret_one rfl rfl ?_
      rw [if_neg (imgOk_len (by omega))]
      exact ⟨rfl, H⟩
    · -- c2 F
      refine (WC.skip (WX.next ?_))
      refine WC.seq ?_
      refine WC.region ?_
      refine WL.move rfl rfl ?_
      refine WL.lenSlc isl23 rfl rfl ?_
      refine WL.makeS H app156 zer158 rfl rfl rfl rfl (by omega) (by omega) rfl ?_
      intro g wx hg hgg H
      rw [new_cells] at H
      replace H := H.castH (H' := [(g, .cells (linesC (imgX imgs 0)).toArray 158)]) (by unfold imgX; rw [hmi]; rfl)
      refine WL.assign rfl rfl ?_
      refine (WL.done (WX.next ?_))
      refine WC.seq ?_
      refine WC.seq ?_
      refine WC.region ?_
      refine WL.move rfl rfl ?_
      refine WL.lenSlc isl23 rfl rfl ?_
      refine WL.move rfl rfl ?_
      refine (WL.done (WX.next ?_))
      refine WC.block ?_
      -- loop 1: changed [19] kept [3, 17, 18]
      obtain ⟨g0, hg0⟩ : ∃ g0, g0 = g := ⟨_, rfl⟩
      subst hg0
      refine WC.loop (Sub.cons (t := 3) rfl (Sub.cons (t := 17) rfl (Sub.cons (t := 18) rfl (Sub.nil _)))) (fun i : Nat => [(19, .int .i64 (i : Int))]) (fun q i wx => q = m - i ∧ i ≤ m ∧ ((imgs.take i).all fun x => isWords x.1 && isCode x.2) = true ∧ St w [] wx [(g0, .cells (linesC (imgX imgs i)).toArray 158)]) (m) (0) (Sub.cons (t := 19) (by first | rfl | simp) (Sub.nil _)) (⟨rfl, by omega, by simp, H⟩) ?_
      rintro k g wx hI N hN
      obtain ⟨rfl, hg, hall, H⟩ := hI
      refine WC.seq ?_
      refine WC.region ?_
      refine WL.bin rfl rfl binv_lss rfl ?_
      refine (WL.done (WX.next ?_))
      refine WC.seq ?_
      first | refine WC.cond_dec rfl (fun c3 => ?_) (fun c3 => ?_) | refine WC.cond rfl (fun c3 => ?_) (fun c3 => ?_)
      · -- c3 T
        refine (WC.skip (WX.next ?_))
        refine WC.seq ?_
        refine WC.block ?_
        refine WC.seq ?_
        refine WC.region ?_
        have hlt : g < imgs.length := by omega
        have hx8 := h8 _ (List.getElem_mem hlt)
        obtain ⟨b, o, cs, t, fr, rfl, hb, hcs⟩ : ∃ b o cs t fr, A = some ⟨b, o, none⟩ ∧ w.heap[b]? = some (.cells cs t fr) ∧ ∀ j u, (flatI imgs)[j]? = some u → cs[o + j]? = some (.int .i64 u) := by
          rcases himg with h | h
          · rw [h] at hlt; simp at hlt
          · exact h
        have hcell : ∀ j, j < 9 → cs[o + g * 9 + j]? = some (.int .i64 (((imgs[g]).1 ++ [(imgs[g]).2]).getD j 0)) := fun j hj => by
          have h1 := flatI_get h8 hlt hj
          have hlen : j < ((imgs[g]).1 ++ [(imgs[g]).2]).length := by simp [hx8]; omega
          rw [List.getElem?_eq_getElem hlen] at h1
          have h2 := hcs _ _ h1
          rw [← Nat.add_assoc] at h2
          rw [h2]
          simp [List.getD, List.getElem?_eq_getElem hlen]
        refine WL.move rfl rfl ?_
        refine WL.idxSlc (k := g) slc23 rfl rfl (by first | rfl | omega) (by omega) rfl ?_
        refine WL.load rfl (Rd.sub (v := (imgs[g]).1 ++ [(imgs[g]).2]) ty40 (H.oldBlock hb (by simp)) (by simp [hx8]) (by omega) hcell) rfl ?_
        refine WL.alloc H zer40 rfl ?_
        intro b5 wx hb5 hge5 H
        refine WL.assign rfl rfl ?_
        refine WL.storeArr (ws' := (imgs[g]).1 ++ [(imgs[g]).2]) H ty40 0 rfl rfl rfl rfl (by simp [hx8]) ?_
        intro wx H
        refine (WL.done (WX.next ?_))
        refine WC.seq ?_
        refine WC.seq ?_
        refine WC.region ?_
        refine WL.fieldAddr fld40_0 rfl rfl ?_
        first | refine WL.load rfl (Rd.l40w ty38 (H.blk 0 rfl) hx8) rfl ?_
        refine WL.call call98 rfl rfl ?_
        refine Calls.mono (words_any (imgs[g]).1 hx8 _) ?_
        rintro _ wx ⟨rfl, Hc⟩
        refine ⟨_, rfl, ?_⟩
        replace H := H.call0 Hc
        refine WL.notOp rfl rfl ?_
        refine WL.move rfl rfl ?_
        first | refine WL.splitD (t := 28) rfl (fun g2 => ?_) (fun g2 => ?_) | refine WL.split (t := 28) rfl (fun g2 => ?_) (fun g2 => ?_)
        · -- g2 True
          refine WL.no rfl rfl rfl ?_
          refine WL.no rfl rfl rfl ?_
          refine WL.no rfl rfl rfl ?_
          refine WL.pickT rfl rfl rfl ?_
          refine WL.move rfl rfl ?_
          refine WL.no rfl rfl rfl ?_
          refine WL.no rfl rfl rfl ?_
          refine WL.no rfl rfl rfl ?_
          refine WL.pickT rfl rfl rfl ?_
          refine (WL.done (WX.next ?_))
          refine WC.cond_true rfl (rfl) ?_
          refine WC.seq ?_
          refine WC.region ?_
          refine WL.assign rfl rfl ?_
          refine (WL.done (WX.next ?_))
          refine (WC.ret (WX.then_ret (WX.block_ret (WX.then_ret (WX.then_ret (WX.block_ret (WX.then_ret ?_)))))))
          refine ret_one rfl rfl ?_
          have hw : isWords (imgs[g]).1 = false := by simpa only [Bool.not_eq_true'] using g2
          rw [if_neg (imgOk_bad hlt (by rw [hw]; rfl))]
          exact ⟨rfl, H.weaken (List.nil_sublist _)⟩
        · -- g2 False
          refine WL.yes rfl rfl ?_
          refine WL.fieldAddr fld40_1 rfl rfl ?_
          refine WL.yes rfl rfl ?_
          first | refine WL.load rfl (Rd.l40c ty3 (H.blk 0 rfl) hx8) rfl ?_
          refine WL.yes rfl rfl ?_
          refine WL.bin rfl rfl binv_lss rfl ?_
          refine WL.pickF rfl rfl rfl ?_
          refine WL.move rfl rfl ?_
          first | refine WL.splitD (t := 33) rfl (fun g3 => ?_) (fun g3 => ?_) | refine WL.split (t := 33) rfl (fun g3 => ?_) (fun g3 => ?_)
          · -- g3 True
            refine WL.no rfl rfl rfl ?_
            refine WL.no rfl rfl rfl ?_
            refine WL.no rfl rfl rfl ?_
            refine WL.pickT rfl rfl rfl ?_
            refine (WL.done (WX.next ?_))
            refine WC.cond_true rfl (rfl) ?_
            refine WC.seq ?_
            refine WC.region ?_
            refine WL.assign rfl rfl ?_
            refine (WL.done (WX.next ?_))
            refine (WC.ret (WX.then_ret (WX.block_ret (WX.then_ret (WX.then_ret (WX.block_ret (WX.then_ret ?_)))))))
            refine ret_one rfl rfl ?_
            rw [if_neg (imgOk_bad hlt (by rw [isCode_no (by omega), Bool.and_false]))]
            exact ⟨rfl, H.weaken (List.nil_sublist _)⟩
          · -- g3 False
            refine WL.yes rfl rfl ?_
            refine WL.fieldAddr fld40_1 rfl rfl ?_
            refine WL.yes rfl rfl ?_
            first | refine WL.load rfl (Rd.l40c ty3 (H.blk 0 rfl) hx8) rfl ?_
            refine WL.yes rfl rfl ?_
            refine WL.bin rfl rfl binv_geq rfl ?_
            refine WL.pickF rfl rfl rfl ?_
            refine (WL.done (WX.next ?_))
            first | refine WC.cond_dec rfl (fun c6 => ?_) (fun c6 => ?_) | refine WC.cond rfl (fun c6 => ?_) (fun c6 => ?_)
            · -- c6 T
              refine WC.seq ?_
              refine WC.region ?_
              refine WL.assign rfl rfl ?_
              refine (WL.done (WX.next ?_))
              refine (WC.ret (WX.then_ret (WX.block_ret (WX.then_ret (WX.then_ret (WX.block_ret (WX.then_ret ?_)))))))
              refine ret_one rfl rfl ?_
              rw [if_neg (imgOk_bad hlt (by rw [isCode_no (by omega), Bool.and_false]))]
              exact ⟨rfl, H.weaken (List.nil_sublist _)⟩
            · -- c6 F
              refine (WC.skip (WX.next ?_))
              refine WC.region ?_
              have hgood : (isWords (imgs[g]).1 && isCode (imgs[g]).2) = true := by
                rw [Bool.and_eq_true]
                exact ⟨by simpa only [Bool.not_eq_false'] using g2, isCode_iff.2 (by omega)⟩
              have hcells : linesC (imgX imgs g) = linesC ((imgs.take g).map fun x => (toPL x, Row.none)) ++ (lineC pl0 Row.none ++ linesC (List.replicate (imgs.length - (g + 1)) (pl0, Row.none))) := by
                unfold imgX
                rw [linesC_append, show imgs.length - g = imgs.length - (g + 1) + 1 from by omega, List.replicate_succ, linesC_cons]
              have hnext : linesC (imgX imgs (g + 1)) = linesC ((imgs.take g).map fun x => (toPL x, Row.none)) ++ (lineC (toPL (imgs[g])) Row.none ++ linesC (List.replicate (imgs.length - (g + 1)) (pl0, Row.none))) := by
                unfold imgX
                rw [List.take_add_one, List.getElem?_eq_getElem hlt, List.map_append, linesC_append, linesC_append]
                simp [linesC]
              have hal : (linesC ((imgs.take g).map fun x => (toPL x, Row.none))).length = 11 * g := by
                rw [linesC_length (fun x hx => by obtain ⟨y, hy, rfl⟩ := List.mem_map.1 hx; exact h8 y (List.mem_of_mem_take hy)), List.length_map, List.length_take]; omega
              replace H := H.castH (H' := [(b5, .cells (arrC ((imgs[g]).1 ++ [(imgs[g]).2])) 40), (g0, .cells (lineL (linesC ((imgs.take g).map fun x => (toPL x, Row.none))) pl0 Row.none (linesC (List.replicate (imgs.length - (g + 1)) (pl0, Row.none)))) 158)]) (by unfold lineL; rw [← hcells]; rfl)
              refine WL.move rfl rfl ?_
              refine WL.move rfl rfl ?_
              refine WL.load rfl (H.rdArr ty40 0 rfl (by simp [hx8])) rfl ?_
              refine WL.idxSlc (k := g) slc156 rfl rfl (by first | rfl | omega) (by omega) rfl ?_
              refine WL.fieldAddr fld158_0 rfl rfl ?_
              refine WL.storeAt (v := arr ((imgs[g]).1 ++ [(imgs[g]).2])) H ty40 1 rfl rfl rfl (by rw [arr_cells, arrC_size]; simp [hx8]) (arrC_one _) (by rw [lineL_size rfl]; omega) ?_
              intro wx H
              replace H := H.castH (H' := [(b5, .cells (arrC ((imgs[g]).1 ++ [(imgs[g]).2])) 40), (g0, .cells (linesC (imgX imgs (g + 1))).toArray 158)]) (by
                have e1 := wr_lineLn (a := linesC ((imgs.take g).map fun x => (toPL x, Row.none))) (l := pl0) (r := Row.none) (c := linesC (List.replicate (imgs.length - (g + 1)) (pl0, Row.none))) (ws := (imgs[g]).1) (z := (imgs[g]).2) (o := 0 + g * 11 + 0) (by omega) rfl hx8
                have e2 : lineL (linesC ((imgs.take g).map fun x => (toPL x, Row.none))) { pl0 with ws := (imgs[g]).1, c := (imgs[g]).2 } Row.none (linesC (List.replicate (imgs.length - (g + 1)) (pl0, Row.none))) = (linesC (imgX imgs (g + 1))).toArray := by rw [hnext]; rfl
                rw [← e2]
                exact congrArg (fun c => [(b5, Obj.cells (arrC ((imgs[g]).1 ++ [(imgs[g]).2])) 40), (g0, Obj.cells c 158)]) e1)
              refine (WL.done (WX.block_normal (WX.next ?_)))
              refine WC.region ?_
              refine WL.bin rfl rfl (iadd (by omega) (by omega)) rfl ?_
              refine WL.move rfl rfl ?_
              refine (WL.done (WX.round ?_))
              exact hN _ (g+1) _ _ (by omega) ⟨rfl, by omega, by rw [List.take_add_one, List.getElem?_eq_getElem hlt, List.all_append, hall]; simpa using hgood, H.tail⟩ (Sub.cons (t := 19) (by first | rfl | simp) (Sub.nil _)) (Sub.cons (t := 3) rfl (Sub.cons (t := 17) rfl (Sub.cons (t := 18) rfl (Sub.nil _))))
      · -- c3 F
        refine (WC.exit (WX.then_exit (WX.then_exit (WX.block_exit (WX.next ?_)))))
        refine WC.seq ?_
        refine WC.region ?_
        refine WL.move rfl rfl ?_
        refine WL.makeMap H rfl ?_
        intro mb wx hmb hgm H
        refine WL.build pla161 zer161 rfl rfl rfl ?_
        refine WL.box H rfl rfl ?_
        intro b47 wx hb47 hge47 H
        refine WL.assign rfl rfl ?_
        refine (WL.done (WX.next ?_))
        refine (WC.ret ?_)
        refine ret_one rfl rfl ?_
        obtain rfl : g = m := by omega
        have hok : imgOk imgs = true := by
          unfold imgOk
          rw [Bool.and_eq_true, Bool.and_eq_true]
          refine ⟨⟨by simp; omega, by simp; omega⟩, ?_⟩
          rw [List.take_of_length_le (by omega)] at hall
          exact hall
        rw [if_pos hok]
        refine ⟨b47, g0, mb, rfl, ?_⟩
        rw [RM.fresh_hp, List.length_map, ← hmi, List.map_map]
        have e1 : imgX imgs g = imgs.map ((fun l => (l, Row.none)) ∘ toPL) := by
          unfold imgX
          rw [hmi, Nat.sub_self, List.replicate_zero, List.append_nil, List.take_length]; rfl
        rw [e1] at H
        exact H.perm (List.Perm.cons _ (List.Perm.swap _ _ _))

end Go.Proofs.YtkncbggnaobgeaaDoor
