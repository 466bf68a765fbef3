/- Texts of this session, laid together: Ref1, Eqs, Ref2, Law1, Pl1, Pl4a, Api, Api2. -/
import Derived.Test.YtkncbggnaobgeaaDoorGe
import Derived.ChangeKeysEq
import Derived.Laws.StructEq

/- Walks of functions of the program; printed by a program of this session (walk.py) out of hand-written hints. -/
namespace Go.Proofs.YtkncbggnaobgeaaDoor
open Go.RowKit
set_option linter.unusedVariables false
set_option linter.unusedSimpArgs false
set_option maxRecDepth 100000

/-- An image that was handed over. -/
def ImgIn (w : World) (A : Option Addr) (imgs : List (List Int × Int)) : Prop := imgs = [] ∨ ∃ b o cs t fr, A = some ⟨b, o, none⟩ ∧ w.heap[b]? = some (.cells cs t fr) ∧ ∀ j u, (flatI imgs)[j]? = some u → cs[o + j]? = some (.int .i64 u)
theorem img_at {w : World} {A : Option Addr} {imgs : List (List Int × Int)} (h : ImgIn w A imgs) (h8 : ∀ x ∈ imgs, x.1.length = 8) {g : Nat} (hg : g < imgs.length) :
    ∃ b o cs t fr, A = some ⟨b, o, none⟩ ∧ w.heap[b]? = some (.cells cs t fr) ∧ ∀ j, j < 9 → cs[o + g * 9 + j]? = some (.int .i64 (((imgs[g]).1 ++ [(imgs[g]).2]).getD j 0)) := by
  have hx8 := h8 _ (List.getElem_mem hg)
  obtain ⟨b, o, cs, t, fr, rfl, hb, hcs⟩ : ∃ b o cs t fr, A = some ⟨b, o, none⟩ ∧ w.heap[b]? = some (.cells cs t fr) ∧ ∀ j u, (flatI imgs)[j]? = some u → cs[o + j]? = some (.int .i64 u) := by
    rcases h with h | h
    · rw [h] at hg; simp at hg
    · exact h
  refine ⟨b, o, cs, t, fr, rfl, hb, fun j hj => ?_⟩
  have h1 := flatI_get h8 hg hj
  have hlen : j < ((imgs[g]).1 ++ [(imgs[g]).2]).length := by simp [hx8]; omega
  rw [List.getElem?_eq_getElem hlen] at h1
  have h2 := hcs _ _ h1
  rw [← Nat.add_assoc] at h2
  rw [h2]
  simp [List.getD, List.getElem?_eq_getElem hlen]
section
variable {P : Program} {w : World} {T t : TypeId} {fr : Nat × Nat} {b o k : Nat} {cs : Array Value} {ws : List Int} {c : Int}
theorem Rd.imgW (hT : tyB P T true 8 = true) (hb : w.heap[b]? = some (.cells cs t fr)) (h8 : ws.length = 8) (h : ∀ j, j < 9 → cs[o + j]? = some (.int .i64 ((ws ++ [c]).getD j 0))) : Rd P w T ⟨b, o + 0, none⟩ (YtkncbggnaobgeaaDoor.arr ws) :=
  Rd.sub hT hb h8 (by omega) (fun j hj => by
    rw [Nat.add_zero, h j (by omega)]
    simp [List.getD, List.getElem?_append_left (show j < ws.length by omega)])
theorem Rd.imgC (hT : tyB P T false k = true) (hb : w.heap[b]? = some (.cells cs t fr)) (h8 : ws.length = 8) (h : ∀ j, j < 9 → cs[o + j]? = some (.int .i64 ((ws ++ [c]).getD j 0))) : Rd P w T ⟨b, o + 8, none⟩ (.int .i64 c) :=
  Rd.one hT (by rw [cell_of hb, h 8 (by omega)]; simp [List.getD, h8])
theorem Rd.imgL (hT : tyB P T true 9 = true) (hb : w.heap[b]? = some (.cells cs t fr)) (h8 : ws.length = 8) (h : ∀ j, j < 9 → cs[o + j]? = some (.int .i64 ((ws ++ [c]).getD j 0))) : Rd P w T ⟨b, o, none⟩ (YtkncbggnaobgeaaDoor.arr (ws ++ [c])) :=
  Rd.sub hT hb (by simp [h8]) (by omega) h
end

theorem refword_any (x : Int) (w : World) : Calls Tryd.prog 167 #[.int .i64 x] w fun e w' => e = .returned (.bool (isWord x)) ∧ w' = w := by
  refine calls_walk_n (args := [.int .i64 x]) Tryd.func167 rfl rfl rfl ?_
  refine WC.seq ?_
  refine WC.region ?_
  refine WL.assign rfl rfl ?_
  refine (WL.done (WX.next ?_))
  refine WC.seq ?_
  refine WC.region ?_
  refine WL.move rfl rfl ?_
  refine WL.bin rfl rfl binv_geq rfl ?_
  refine WL.move rfl rfl ?_
  refine WL.splitD (t := 5) rfl (fun g1 => ?_) (fun g1 => ?_)
  ·
    refine WL.yes rfl rfl ?_
    refine WL.move rfl rfl ?_
    refine WL.yes rfl rfl ?_
    refine WL.bin rfl rfl binv_leq rfl ?_
    refine WL.pickT rfl rfl rfl ?_
    refine WL.assign rfl rfl ?_
    refine (WL.done (WX.next ?_))
    refine (WC.ret ?_)
    refine ret_one rfl rfl ?_
    exact ⟨by simp [isWord, g1], rfl⟩
  ·
    refine WL.no rfl rfl rfl ?_
    refine WL.no rfl rfl rfl ?_
    refine WL.pickF rfl rfl rfl ?_
    refine WL.assign rfl rfl ?_
    refine (WL.done (WX.next ?_))
    refine (WC.ret ?_)
    refine ret_one rfl rfl ?_
    exact ⟨by simp [isWord, g1], rfl⟩

theorem refwords_any (ws : List Int) (h8 : ws.length = 8) (w : World) : Calls Tryd.prog 99 #[arr ws] w fun e w' => e = .returned (.bool (isWords ws)) ∧ St w [] w' [] := by
  refine calls_walk_n (args := [arr ws]) Tryd.func99 rfl rfl rfl ?_
  have H := St.refl w
  refine WC.seq ?_
  refine WC.region ?_
  refine WL.boxArr H rfl rfl ?_
  intro b1 wx hb1 hge1 H
  refine WL.assign rfl rfl ?_
  refine (WL.done (WX.next ?_))
  refine WC.seq ?_
  refine WC.seq ?_
  refine WC.region ?_
  refine WL.assign rfl rfl ?_
  refine (WL.done (WX.next ?_))
  refine WC.block ?_
  -- loop 1: changed [3] kept [1]
  refine WC.loop (Sub.cons (t := 1) rfl (Sub.nil _)) (fun i : Nat => [(3, .int .i64 (i : Int))]) (fun q i wx => q = 8 - i ∧ i ≤ 8 ∧ (ws.take i).all isWord = true ∧ St w [] wx [(b1, .cells (arrC ws) 38)]) (8) (0) (Sub.cons (t := 3) (by rfl) (Sub.nil _)) (⟨rfl, by omega, by simp, H⟩) ?_
  rintro k g wx hI N hN
  obtain ⟨rfl, hg, hall, H⟩ := hI
  refine WC.seq ?_
  refine WC.seq ?_
  refine WC.region ?_
  refine WL.move rfl rfl ?_
  refine WL.bin rfl rfl binv_lss rfl ?_
  refine (WL.done (WX.next ?_))
  refine WC.cond_dec rfl (fun c1 => ?_) (fun c1 => ?_)
  ·
    refine (WC.skip (WX.next ?_))
    refine WC.seq ?_
    refine WC.block ?_
    refine WC.seq ?_
    refine WC.region ?_
    refine WL.move rfl rfl ?_
    refine WL.idxArr (k := g) arr38 rfl rfl (by rfl) (by omega) rfl ?_
    refine WL.load rfl (H.rdElt ty3 0 rfl (by omega)) rfl ?_
    refine WL.call call167 rfl rfl ?_
    refine Calls.mono (refword_any _ _) ?_
    rintro _ wx ⟨rfl, rfl⟩
    refine ⟨_, rfl, ?_⟩
    refine WL.notOp rfl rfl ?_
    refine (WL.done (WX.next ?_))
    refine WC.cond rfl (fun c2 => ?_) (fun c2 => ?_)
    ·
      refine WC.seq ?_
      refine WC.region ?_
      refine WL.assign rfl rfl ?_
      refine (WL.done (WX.next ?_))
      refine (WC.ret (WX.block_ret (WX.then_ret (WX.then_ret (WX.block_ret (WX.then_ret ?_))))))
      refine ret_one rfl rfl ?_
      have h : isWords ws = false := all_false_of (g := g) (by omega) (by have h := c2; simp only [Nat.zero_add, Nat.mul_one] at h; simpa using h)
      rw [h]; exact ⟨rfl, H.tail⟩
    ·
      refine (WC.skip (WX.block_normal (WX.next ?_)))
      refine WC.region ?_
      refine WL.move rfl rfl ?_
      refine WL.bin rfl rfl (iadd (by omega) (by omega)) rfl ?_
      refine WL.assign rfl rfl ?_
      refine (WL.done (WX.round ?_))
      exact hN _ (g+1) _ _ (by omega) ⟨rfl, by omega, take_all_succ (by omega) hall (by have h := c2; simp only [Nat.zero_add, Nat.mul_one] at h; simpa using h), H⟩ (Sub.cons (t := 3) (by rfl) (Sub.nil _)) (Sub.cons (t := 1) rfl (Sub.nil _))
  ·
    refine (WC.exit (WX.then_exit (WX.then_exit (WX.block_exit (WX.next ?_)))))
    refine WC.seq ?_
    refine WC.region ?_
    refine WL.assign rfl rfl ?_
    refine (WL.done (WX.next ?_))
    refine (WC.ret ?_)
    refine ret_one rfl rfl ?_
    have h : isWords ws = true := by
      have e : g = ws.length := by omega
      rw [e] at hall
      exact all_of_take hall
    rw [h]; exact ⟨rfl, H.tail⟩

theorem right_any (A : Option Addr) (m cap : Nat) (imgs : List (List Int × Int)) (hmi : m = imgs.length) (h8 : ∀ x ∈ imgs, x.1.length = 8) (w : World) (himg : ImgIn w A imgs) (hm63 : m ≤ 1073741824) : Calls Tryd.prog 25 #[.slice A m cap] w fun e w' => e = .returned (.bool (imgOk imgs)) ∧ St w [] w' [] := by
  refine calls_walk_n (args := [.slice A m cap]) Tryd.func25 rfl rfl rfl ?_
  have H := St.refl w
  refine WC.seq ?_
  refine WC.region ?_
  refine WL.assign rfl rfl ?_
  refine (WL.done (WX.next ?_))
  refine WC.seq ?_
  refine WC.seq ?_
  refine WC.region ?_
  refine WL.assign rfl rfl ?_
  refine (WL.done (WX.next ?_))
  refine WC.block ?_
  -- loop 1: changed [3] kept [0]
  refine WC.loop (Sub.cons (t := 0) rfl (Sub.nil _)) (fun i : Nat => [(3, .int .i64 (i : Int))]) (fun q i wx => q = m - i ∧ i ≤ m ∧ ((imgs.take i).all fun x => isWords x.1 && isCode x.2) = true ∧ St w [] wx []) (m) (0) (Sub.cons (t := 3) (by rfl) (Sub.nil _)) (⟨rfl, by omega, by simp, H⟩) ?_
  rintro k g wx hI N hN
  obtain ⟨rfl, hg, hall, H⟩ := hI
  refine WC.seq ?_
  refine WC.seq ?_
  refine WC.region ?_
  refine WL.move rfl rfl ?_
  refine WL.move rfl rfl ?_
  refine WL.lenSlc isl23 rfl rfl ?_
  refine WL.bin rfl rfl binv_lss rfl ?_
  refine (WL.done (WX.next ?_))
  refine WC.cond_dec rfl (fun c1 => ?_) (fun c1 => ?_)
  ·
    refine (WC.skip (WX.next ?_))
    refine WC.seq ?_
    refine WC.block ?_
    refine WC.seq ?_
    refine WC.region ?_
    have hlt : g < imgs.length := by omega
    have hx8 := h8 _ (List.getElem_mem hlt)
    obtain ⟨b, o, cs, t, fr, rfl, hb, hcell⟩ := img_at himg h8 hlt
    refine WL.move rfl rfl ?_
    refine WL.move rfl rfl ?_
    refine WL.idxSlc (k := g) slc23 rfl rfl (by rfl) (by omega) rfl ?_
    refine WL.fieldAddr fld40_0 rfl rfl ?_
    refine WL.load rfl (Rd.imgW ty38 (H.oldBlock hb (by simp)) hx8 hcell) rfl ?_
    refine WL.call call99 rfl rfl ?_
    refine Calls.mono (refwords_any (imgs[g]).1 hx8 _) ?_
    rintro _ wx ⟨rfl, Hc⟩
    refine ⟨_, rfl, ?_⟩
    replace H := H.call0 Hc
    refine WL.notOp rfl rfl ?_
    refine WL.move rfl rfl ?_
    refine WL.split (t := 17) rfl (fun g1 => ?_) (fun g1 => ?_)
    ·
      refine WL.no rfl rfl rfl ?_
      refine WL.no rfl rfl rfl ?_
      refine WL.no rfl rfl rfl ?_
      refine WL.no rfl rfl rfl ?_
      refine WL.no rfl rfl rfl ?_
      refine WL.no rfl rfl rfl ?_
      refine WL.pickT rfl rfl rfl ?_
      refine WL.move rfl rfl ?_
      refine WL.no rfl rfl rfl ?_
      refine WL.no rfl rfl rfl ?_
      refine WL.no rfl rfl rfl ?_
      refine WL.no rfl rfl rfl ?_
      refine WL.no rfl rfl rfl ?_
      refine WL.no rfl rfl rfl ?_
      refine WL.pickT rfl rfl rfl ?_
      refine (WL.done (WX.next ?_))
      refine WC.cond_true rfl (rfl) ?_
      refine WC.seq ?_
      refine WC.region ?_
      refine WL.assign rfl rfl ?_
      refine (WL.done (WX.next ?_))
      refine (WC.ret (WX.block_ret (WX.then_ret (WX.then_ret (WX.block_ret (WX.then_ret ?_))))))
      refine ret_one rfl rfl ?_
      have hw : isWords (imgs[g]).1 = false := by simpa only [Bool.not_eq_true'] using g1
      have e1 : imgOk imgs = false := by simpa using imgOk_bad hlt (by rw [hw]; rfl)
      rw [e1]
      exact ⟨rfl, H⟩
    ·
      refine WL.yes rfl rfl ?_
      refine WL.move rfl rfl ?_
      refine WL.yes rfl rfl ?_
      refine WL.move rfl rfl ?_
      refine WL.yes rfl rfl ?_
      refine WL.idxSlc (k := g) slc23 rfl rfl (by rfl) (by omega) rfl ?_
      refine WL.yes rfl rfl ?_
      refine WL.fieldAddr fld40_1 rfl rfl ?_
      refine WL.yes rfl rfl ?_
      refine WL.load rfl (Rd.imgC ty3 (H.oldBlock hb (by simp)) hx8 hcell) rfl ?_
      refine WL.yes rfl rfl ?_
      refine WL.bin rfl rfl binv_lss rfl ?_
      refine WL.pickF rfl rfl rfl ?_
      refine WL.move rfl rfl ?_
      refine WL.splitD (t := 25) rfl (fun g2 => ?_) (fun g2 => ?_)
      ·
        refine WL.no rfl rfl rfl ?_
        refine WL.no rfl rfl rfl ?_
        refine WL.no rfl rfl rfl ?_
        refine WL.no rfl rfl rfl ?_
        refine WL.no rfl rfl rfl ?_
        refine WL.no rfl rfl rfl ?_
        refine WL.pickT rfl rfl rfl ?_
        refine (WL.done (WX.next ?_))
        refine WC.cond_true rfl (rfl) ?_
        refine WC.seq ?_
        refine WC.region ?_
        refine WL.assign rfl rfl ?_
        refine (WL.done (WX.next ?_))
        refine (WC.ret (WX.block_ret (WX.then_ret (WX.then_ret (WX.block_ret (WX.then_ret ?_))))))
        refine ret_one rfl rfl ?_
        have e1 : imgOk imgs = false := by simpa using imgOk_bad hlt (by rw [isCode_no (by omega), Bool.and_false])
        rw [e1]
        exact ⟨rfl, H⟩
      ·
        refine WL.yes rfl rfl ?_
        refine WL.move rfl rfl ?_
        refine WL.yes rfl rfl ?_
        refine WL.move rfl rfl ?_
        refine WL.yes rfl rfl ?_
        refine WL.idxSlc (k := g) slc23 rfl rfl (by rfl) (by omega) rfl ?_
        refine WL.yes rfl rfl ?_
        refine WL.fieldAddr fld40_1 rfl rfl ?_
        refine WL.yes rfl rfl ?_
        refine WL.load rfl (Rd.imgC ty3 (H.oldBlock hb (by simp)) hx8 hcell) rfl ?_
        refine WL.yes rfl rfl ?_
        refine WL.bin rfl rfl binv_gtr rfl ?_
        refine WL.pickF rfl rfl rfl ?_
        refine (WL.done (WX.next ?_))
        refine WC.cond_dec rfl (fun c4 => ?_) (fun c4 => ?_)
        ·
          refine WC.seq ?_
          refine WC.region ?_
          refine WL.assign rfl rfl ?_
          refine (WL.done (WX.next ?_))
          refine (WC.ret (WX.block_ret (WX.then_ret (WX.then_ret (WX.block_ret (WX.then_ret ?_))))))
          refine ret_one rfl rfl ?_
          have e1 : imgOk imgs = false := by simpa using imgOk_bad hlt (by rw [isCode_no (by omega), Bool.and_false])
          rw [e1]
          exact ⟨rfl, H⟩
        ·
          refine (WC.skip (WX.block_normal (WX.next ?_)))
          refine WC.region ?_
          refine WL.move rfl rfl ?_
          refine WL.bin rfl rfl (iadd (by omega) (by omega)) rfl ?_
          refine WL.assign rfl rfl ?_
          refine (WL.done (WX.round ?_))
          have hgood : (isWords (imgs[g]).1 && isCode (imgs[g]).2) = true := by
            rw [Bool.and_eq_true]
            exact ⟨by simpa only [Bool.not_eq_false'] using g1, isCode_iff.2 (by omega)⟩
          exact hN _ (g+1) _ _ (by omega) ⟨rfl, by omega, by rw [List.take_add_one, List.getElem?_eq_getElem hlt, List.all_append, hall]; simpa using hgood, H⟩ (Sub.cons (t := 3) (by rfl) (Sub.nil _)) (Sub.cons (t := 0) rfl (Sub.nil _))
  ·
    refine (WC.exit (WX.then_exit (WX.then_exit (WX.block_exit (WX.next ?_)))))
    refine WC.seq ?_
    refine WC.region ?_
    refine WL.move rfl rfl ?_
    refine WL.lenSlc isl23 rfl rfl ?_
    refine WL.bin rfl rfl binv_geq rfl ?_
    refine WL.move rfl rfl ?_
    refine WL.splitD (t := 36) rfl (fun g3 => ?_) (fun g3 => ?_)
    ·
      refine WL.yes rfl rfl ?_
      refine WL.move rfl rfl ?_
      refine WL.yes rfl rfl ?_
      refine WL.lenSlc isl23 rfl rfl ?_
      refine WL.yes rfl rfl ?_
      refine WL.bin rfl rfl binv_leq rfl ?_
      refine WL.pickT rfl rfl rfl ?_
      refine WL.assign rfl rfl ?_
      refine (WL.done (WX.next ?_))
      refine (WC.ret ?_)
      refine ret_one rfl rfl ?_
      obtain rfl : g = m := by omega
      rw [List.take_of_length_le (by omega)] at hall
      refine ⟨?_, H⟩
      unfold imgOk
      rw [hall, Bool.and_true, ← hmi]
      have e1 : decide (1 ≤ g) = true := by simp; omega
      rw [e1, Bool.true_and]
      congr 2
      simp
      omega
    ·
      refine WL.no rfl rfl rfl ?_
      refine WL.no rfl rfl rfl ?_
      refine WL.no rfl rfl rfl ?_
      refine WL.pickF rfl rfl rfl ?_
      refine WL.assign rfl rfl ?_
      refine (WL.done (WX.next ?_))
      refine (WC.ret ?_)
      refine ret_one rfl rfl ?_
      obtain rfl : g = m := by omega
      have e1 : imgOk imgs = false := by simpa using imgOk_len (imgs := imgs) (by omega)
      rw [e1]
      exact ⟨rfl, H⟩

end Go.Proofs.YtkncbggnaobgeaaDoor

/- Equality of arrays and structs of integers. -/
namespace Go.Proofs.YtkncbggnaobgeaaDoor
open Go.RowKit
set_option linter.unusedVariables false
set_option linter.unusedSimpArgs false
set_option linter.unusedSectionVars false
set_option maxRecDepth 100000

section
variable {P : Program}
/-- Values of type t are n integers (n cells); equality is equality of all of them. -/
def EqI (P : Program) (t : TypeId) (n : Nat) : Prop := ∀ (d : Nat) (xs ys : List Int) (w : World), xs.length = n → ys.length = n → (Op.equalIn (d + 4) t (arr xs) (arr ys)).run P w = .ok (xs == ys) w
def intI (P : Program) (t : TypeId) : Bool := match P.underlying t with | some (.int .i64) => true | _ => false
theorem intI_out {t : TypeId} (h : intI P t = true) : P.underlying t = some (.int .i64) := by
  unfold intI at h
  cases hu : P.underlying t with
  | none => simp [hu] at h
  | some dd =>
    rw [hu] at h
    cases dd with
    | int k => cases k <;> simp at h ⊢
    | _ => simp at h
theorem run_equal_int {t : TypeId} (h : intI P t = true) (d : Nat) (a b : Int) (w : World) : (Op.equalIn (d + 1) t (.int .i64 a) (.int .i64 b)).run P w = .ok (a == b) w := by
  simp [Op.equalIn, run_underlying (intI_out h)]
theorem run_part_int {t : TypeId} (h : intI P t = true) {xs : Array Value} {o : Nat} {v : Value} (hx : xs[o]? = some v) (w : World) : (part t xs o).run P w = .ok v w := by
  simp [part, isAgg, run_underlying (intI_out h), hx]
theorem arrI_get {xs : List Int} {i : Nat} (h : i < xs.length) : (arrC xs)[i]? = some (.int .i64 xs[i]) := by
  rw [arrC_get, List.getElem?_eq_getElem h]; rfl
/-- An array of integers. -/
theorem run_items_int {e : TypeId} (he : intI P e = true) (d : Nat) (xs ys : List Int) (w : World) : ∀ is : List Nat, (∀ i ∈ is, i < xs.length ∧ i < ys.length) →
    (Op.eqItems (d + 1) e 1 (arrC xs) (arrC ys) is).run P w = .ok (is.all fun i => xs.getD i 0 == ys.getD i 0) w
  | [], _ => by simp [Op.eqItems]
  | i :: is, h => by
    obtain ⟨h1, h2⟩ := h i List.mem_cons_self
    have ih := run_items_int he d xs ys w is (fun j hj => h j (List.mem_cons_of_mem _ hj))
    have g1 : xs.getD i 0 = xs[i] := by simp [List.getD, List.getElem?_eq_getElem h1]
    have g2 : ys.getD i 0 = ys[i] := by simp [List.getD, List.getElem?_eq_getElem h2]
    simp only [Op.eqItems, Sem.run_bind, Nat.mul_one, run_part_int he (arrI_get h1), run_part_int he (arrI_get h2), Result.andThen_ok, run_equal_int he, List.all_cons, g1, g2]
    by_cases hh : xs[i] = ys[i]
    · simp [hh, ih]
    · simp [hh]
theorem list_all_eq {xs ys : List Int} {n : Nat} (hx : xs.length = n) (hy : ys.length = n) : ((List.range n).all fun i => xs.getD i 0 == ys.getD i 0) = (xs == ys) := by
  rw [Bool.eq_iff_iff, List.all_eq_true, beq_iff_eq]
  constructor
  · intro h
    apply List.ext_getElem (by omega)
    intro i h1 h2
    have := h i (List.mem_range.2 (by omega))
    simpa [List.getD, List.getElem?_eq_getElem h1, List.getElem?_eq_getElem h2] using this
  · rintro rfl i _; simp
theorem eqI_array {t e : TypeId} {n : Nat} (hu : P.underlying t = some (.array n e)) (he : intI P e = true) (hs : tyB P e false 1 = true) (hc : P.cellsOf e = 1) {i : TypeInfo} (hi : P.info? e = some i) : EqI P t n := fun d xs ys w hx hy => by
  have h1 := run_equalIn_array (P := P) (w := w) (d + 3) (arrC xs) (arrC ys) hu hi
  show (Op.equalIn (d + 3 + 1) t (.agg (arrC xs)) (.agg (arrC ys))).run P w = _
  rw [h1, hc, run_items_int he (d + 2) xs ys w (List.range n) (fun j hj => by rw [List.mem_range] at hj; omega), list_all_eq hx hy]
end
theorem eqI38 : EqI Tryd.prog 38 8 := by
  cases hi : Tryd.prog.info? 3 with
  | none => exact absurd hi (by decide +kernel)
  | some i => exact eqI_array Tryd.underlying38 (by kernel_rfl) ty3 (by kernel_rfl) hi
section
variable {P : Program}
theorem run_part_agg {t : TypeId} {n : Nat} (ht : tyB P t true n = true) {xs : List Int} {o : Nat} (w : World) : (part t (arrC xs) o).run P w = .ok (arr ((xs.drop o).take n)) w := by
  simp only [part, Sem.run_bind, tyB_isAgg ht, Result.andThen_ok, if_true, tyB_size ht, Sem.run_pure, arrC_extract]
  rfl
/-- Fields that hold integers, or arrays and structs of integers: where each lies. -/
inductive FldsI (P : Program) (N : Nat) : List Field → List (Nat × Nat) → Prop where
  | nil : FldsI P N [] []
  | int {f : Field} {fs : List Field} {sp : List (Nat × Nat)} (hn : f.name ≠ "_") (ht : intI P f.type = true) (ho : f.offset + 1 ≤ N) (h : FldsI P N fs sp) : FldsI P N (f :: fs) ((f.offset, 1) :: sp)
  | agg {f : Field} {fs : List Field} {sp : List (Nat × Nat)} {n : Nat} (hn : f.name ≠ "_") (he : EqI P f.type n) (ht : tyB P f.type true n = true) (ho : f.offset + n ≤ N) (h : FldsI P N fs sp) : FldsI P N (f :: fs) ((f.offset, n) :: sp)
theorem run_fields_int {N : Nat} (d : Nat) {xs ys : List Int} (hx : xs.length = N) (hy : ys.length = N) (w : World) {fs : List Field} {sp : List (Nat × Nat)} (h : FldsI P N fs sp) :
    (Op.eqFields (d + 4) (arrC xs) (arrC ys) fs).run P w = .ok (sp.all fun s => (xs.drop s.1).take s.2 == (ys.drop s.1).take s.2) w := by
  induction h with
  | nil => simp [Op.eqFields]
  | @int f fs sp hn ht ho h ih =>
    have h1 : f.offset < xs.length := by omega
    have h2 : f.offset < ys.length := by omega
    have e1 : (xs.drop f.offset).take 1 = [xs[f.offset]] := by rw [List.drop_eq_getElem_cons h1]; rfl
    have e2 : (ys.drop f.offset).take 1 = [ys[f.offset]] := by rw [List.drop_eq_getElem_cons h2]; rfl
    simp only [Op.eqFields, hn, ne_eq, not_false_eq_true, if_true, Sem.run_bind, run_part_int ht (arrI_get h1), run_part_int ht (arrI_get h2), Result.andThen_ok, run_equal_int ht, List.all_cons, e1, e2]
    by_cases hh : xs[f.offset] = ys[f.offset]
    · simp [hh, ih]
    · simp [hh]
  | @agg f fs sp n hn he ht ho h ih =>
    have h3 := he d ((xs.drop f.offset).take n) ((ys.drop f.offset).take n) w (by simp; omega) (by simp; omega)
    simp only [Op.eqFields, hn, ne_eq, not_false_eq_true, if_true, Sem.run_bind, run_part_agg ht, Result.andThen_ok, h3, List.all_cons]
    by_cases hh : (xs.drop f.offset).take n = (ys.drop f.offset).take n
    · simp [hh, ih]
    · have hb : ((xs.drop f.offset).take n == (ys.drop f.offset).take n) = false := by simpa using hh
      simp [hb]
/-- Equality, one level up. -/
def EqI5 (P : Program) (t : TypeId) (n : Nat) : Prop := ∀ (d : Nat) (xs ys : List Int) (w : World), xs.length = n → ys.length = n → (Op.equalIn (d + 5) t (arr xs) (arr ys)).run P w = .ok (xs == ys) w
theorem EqI.up {t : TypeId} {n : Nat} (h : EqI P t n) : EqI5 P t n := fun d xs ys w hx hy => h (d + 1) xs ys w hx hy
theorem eqI_struct {t : TypeId} {n : Nat} {fs : List Field} {sp : List (Nat × Nat)} (hu : P.underlying t = some (.struct (P.fieldsOf t))) (hf : (P.fieldsOf t).toList = fs) (hp : P.stoodInHeld t = false) (h : FldsI P n fs sp)
    (hsp : ∀ xs ys : List Int, xs.length = n → ys.length = n → (sp.all fun s => (xs.drop s.1).take s.2 == (ys.drop s.1).take s.2) = (xs == ys)) : EqI5 P t n := fun d xs ys w hx hy => by
  show (Op.equalIn (d + 4 + 1) t (.agg (arrC xs)) (.agg (arrC ys))).run P w = _
  rw [run_equalIn_agg w (d + 4) t (arrC xs) (arrC ys) hu hp, hf, run_fields_int d hx hy w h, hsp xs ys hx hy]
theorem binv_agg_eql {t : TypeId} {n : Nat} (h : EqI5 P t n) (hg : P.eqGuardType P.depth t = false) {xs ys : List Int} (hx : xs.length = n) (hy : ys.length = n) : BinV P .eql t (arr xs) (arr ys) (.bool (xs == ys)) := fun x y w => by
  have h1 : (eqGuard .eql t x y (arr xs) (arr ys)).run P w = .ok () w := run_eqGuard_agg w .eql t x y _ _ hg
  have h2 : (binOp .eql t (arr xs) (arr ys)).run P w = _ := run_eql_struct w t _ _
  have h3 : (Op.equalIn 10000 t (.agg (arrC xs)) (.agg (arrC ys))).run P w = .ok (xs == ys) w := h 9995 xs ys w hx hy
  rw [Sem.run_bind, h1, Result.andThen_ok, h2, h3]; rfl
theorem binv_agg_neq {t : TypeId} {n : Nat} (h : EqI5 P t n) (hg : P.eqGuardType P.depth t = false) {xs ys : List Int} (hx : xs.length = n) (hy : ys.length = n) : BinV P .neq t (arr xs) (arr ys) (.bool (!(xs == ys))) := fun x y w => by
  have h1 : (eqGuard .neq t x y (arr xs) (arr ys)).run P w = .ok () w := run_eqGuard_agg w .neq t x y _ _ hg
  have h2 : (binOp .neq t (arr xs) (arr ys)).run P w = _ := run_neq_struct w t _ _
  have h3 : (Op.equalIn 10000 t (.agg (arrC xs)) (.agg (arrC ys))).run P w = .ok (xs == ys) w := h 9995 xs ys w hx hy
  rw [Sem.run_bind, h1, Result.andThen_ok, h2, h3]; rfl
end
end Go.Proofs.YtkncbggnaobgeaaDoor

/- Walks of functions of the program; printed by a program of this session (walk.py) out of hand-written hints. -/
namespace Go.Proofs.YtkncbggnaobgeaaDoor
open Go.RowKit
set_option linter.unusedVariables false
set_option linter.unusedSimpArgs false
set_option maxRecDepth 100000

theorem flds40 : FldsI Tryd.prog 9 (Tryd.prog.fieldsOf 40).toList [(0, 8), (8, 1)] := by
  unfold Program.fieldsOf
  rw [Tryd.underlying40]
  exact .agg (by decide) eqI38 ty38 (by decide) (.int (by decide) (by kernel_rfl) (by decide) .nil)
theorem flds111 : FldsI Tryd.prog 2 (Tryd.prog.fieldsOf 111).toList [(0, 1), (1, 1)] := by
  unfold Program.fieldsOf
  rw [Tryd.underlying111]
  exact .int (by decide) (by kernel_rfl) (by decide) (.int (by decide) (by kernel_rfl) (by decide) .nil)
theorem split_eq {xs ys : List Int} {a b : Nat} (hx : xs.length = a + b) (hy : ys.length = a + b) : ([(0, a), (a, b)].all fun s => (xs.drop s.1).take s.2 == (ys.drop s.1).take s.2) = (xs == ys) := by
  rw [Bool.eq_iff_iff]
  simp only [List.all_cons, List.all_nil, Bool.and_true, Bool.and_eq_true, beq_iff_eq, List.drop_zero]
  constructor
  · rintro ⟨h1, h2⟩
    rw [← List.take_append_drop a xs, ← List.take_append_drop a ys, h1]
    congr 1
    rw [List.take_of_length_le (by simp; omega), List.take_of_length_le (by simp; omega)] at h2
    exact h2
  · rintro rfl; exact ⟨rfl, rfl⟩
theorem eqI40 : EqI5 Tryd.prog 40 9 := eqI_struct (by unfold Program.fieldsOf; rw [Tryd.underlying40]) rfl (by kernel_rfl) flds40 (fun xs ys hx hy => split_eq (a := 8) (b := 1) hx hy)
theorem eqI111 : EqI5 Tryd.prog 111 2 := eqI_struct (by unfold Program.fieldsOf; rw [Tryd.underlying111]) rfl (by kernel_rfl) flds111 (fun xs ys hx hy => split_eq (a := 1) (b := 1) hx hy)
theorem take_eq_succ {α : Type} {xs ys : List α} {g : Nat} (h1 : g < xs.length) (h2 : g < ys.length) (h : xs.take g = ys.take g) (he : xs[g] = ys[g]) : xs.take (g + 1) = ys.take (g + 1) := by
  rw [List.take_add_one, List.take_add_one, List.getElem?_eq_getElem h1, List.getElem?_eq_getElem h2, h, he]
theorem img_inj {x y : List Int × Int} (h : x.1.length = y.1.length) (he : x.1 ++ [x.2] = y.1 ++ [y.2]) : x = y := by
  have := List.append_inj he h
  exact Prod.ext this.1 (by simpa using this.2)

theorem sameImage_any (A A2 : Option Addr) (m m2 cap cap2 : Nat) (imgs imgs2 : List (List Int × Int)) (hmi : m = imgs.length) (hmi2 : m2 = imgs2.length) (h8 : ∀ x ∈ imgs, x.1.length = 8) (h82 : ∀ x ∈ imgs2, x.1.length = 8) (w : World) (himg : ImgIn w A imgs) (himg2 : ImgIn w A2 imgs2) (hm63 : m ≤ 1073741824) : Calls Tryd.prog 28 #[.slice A m cap, .slice A2 m2 cap2] w fun e w' => e = .returned (.bool (decide (imgs = imgs2))) ∧ St w [] w' [] := by
  refine calls_walk_n (args := [.slice A m cap, .slice A2 m2 cap2]) Tryd.func28 rfl rfl rfl ?_
  have H := St.refl w
  refine WC.seq ?_
  refine WC.region ?_
  refine WL.assign rfl rfl ?_
  refine (WL.done (WX.next ?_))
  refine WC.seq ?_
  refine WC.seq ?_
  refine WC.region ?_
  refine WL.move rfl rfl ?_
  refine WL.lenSlc isl23 rfl rfl ?_
  refine WL.move rfl rfl ?_
  refine WL.lenSlc isl23 rfl rfl ?_
  refine WL.bin rfl rfl binv_neq rfl ?_
  refine (WL.done (WX.next ?_))
  refine WC.cond_dec rfl (fun c1 => ?_) (fun c1 => ?_)
  ·
    refine WC.seq ?_
    refine WC.region ?_
    refine WL.assign rfl rfl ?_
    refine (WL.done (WX.next ?_))
    refine (WC.ret (WX.then_ret ?_))
    refine ret_one rfl rfl ?_
    have hne : ¬ imgs = imgs2 := fun h => by rw [h] at hmi; omega
    rw [decide_eq_false hne]
    exact ⟨rfl, H⟩
  ·
    have hmm : imgs.length = imgs2.length := by omega
    refine (WC.skip (WX.next ?_))
    refine WC.seq ?_
    refine WC.seq ?_
    refine WC.region ?_
    refine WL.assign rfl rfl ?_
    refine (WL.done (WX.next ?_))
    refine WC.block ?_
    -- loop 1: changed [5] kept [0, 1]
    refine WC.loop (Sub.cons (t := 0) rfl (Sub.cons (t := 1) rfl (Sub.nil _))) (fun i : Nat => [(5, .int .i64 (i : Int))]) (fun q i wx => q = m - i ∧ i ≤ m ∧ imgs.take i = imgs2.take i ∧ St w [] wx []) (m) (0) (Sub.cons (t := 5) (by rfl) (Sub.nil _)) (⟨rfl, by omega, rfl, H⟩) ?_
    rintro k g wx hI N hN
    obtain ⟨rfl, hg, hall, H⟩ := hI
    refine WC.seq ?_
    refine WC.seq ?_
    refine WC.region ?_
    refine WL.move rfl rfl ?_
    refine WL.move rfl rfl ?_
    refine WL.lenSlc isl23 rfl rfl ?_
    refine WL.bin rfl rfl binv_lss rfl ?_
    refine (WL.done (WX.next ?_))
    refine WC.cond_dec rfl (fun c2 => ?_) (fun c2 => ?_)
    ·
      refine (WC.skip (WX.next ?_))
      refine WC.seq ?_
      refine WC.block ?_
      refine WC.seq ?_
      have hlt : g < imgs.length := by omega
      have hlt2 : g < imgs2.length := by omega
      have hx8 := h8 _ (List.getElem_mem hlt)
      have hx82 := h82 _ (List.getElem_mem hlt2)
      obtain ⟨b, o, cs, t, fr, rfl, hb, hcell⟩ := img_at himg h8 hlt
      obtain ⟨b2, o2, cs2, t2, fr2, rfl, hb2, hcell2⟩ := img_at himg2 h82 hlt2
      replace H := H.drew
      refine WC.held (SX (World.drew wx) []) (by kernel_rfl) ?_
      generalize World.drew wx = wb at H ⊢
      have HB := St.refl wb
      refine WH.take 0 rfl (by kernel_rfl) (by kernel_rfl) (by kernel_rfl) (fun _ _ _ h => h) ⟨_, HB⟩ (fun w' hS => EX.move rfl) rfl ?_
      refine WH.take 1 rfl (by kernel_rfl) (by kernel_rfl) (by kernel_rfl) (fun _ _ _ h => h) ⟨_, HB⟩ (fun w' hS => EX.move rfl) rfl ?_
      refine WH.take 2 rfl (by kernel_rfl) (by kernel_rfl) (by kernel_rfl) (fun _ _ _ h => h) ⟨_, HB⟩ (fun w' hS => EX.idxSlc (k := g) slc23 rfl rfl (by rfl) (by omega)) rfl ?_
      refine WH.take 3 rfl (by kernel_rfl) (by kernel_rfl) (by kernel_rfl) (fun _ _ _ h => h) ⟨_, HB⟩ (fun w' hS => EX.load rfl (Rd.imgL ty40 (hS.block (H.oldBlock hb (by simp)) (by simp)) hx8 hcell)) rfl ?_
      refine WH.take 4 rfl (by kernel_rfl) (by kernel_rfl) (by kernel_rfl) (fun _ _ _ h => h) ⟨_, HB⟩ (fun w' hS => EX.move rfl) rfl ?_
      refine WH.take 5 rfl (by kernel_rfl) (by kernel_rfl) (by kernel_rfl) (fun _ _ _ h => h) ⟨_, HB⟩ (fun w' hS => EX.move rfl) rfl ?_
      refine WH.take 6 rfl (by kernel_rfl) (by kernel_rfl) (by kernel_rfl) (fun _ _ _ h => h) ⟨_, HB⟩ (fun w' hS => EX.idxSlc (k := g) slc23 rfl rfl (by rfl) (by omega)) rfl ?_
      refine WH.take 7 rfl (by kernel_rfl) (by kernel_rfl) (by kernel_rfl) (fun _ _ _ h => h) ⟨_, HB⟩ (fun w' hS => EX.load rfl (Rd.imgL ty40 (hS.block (H.oldBlock hb2 (by simp)) (by simp)) hx82 hcell2)) rfl ?_
      refine WH.take 8 rfl (by kernel_rfl) (by kernel_rfl) (by kernel_rfl) (fun _ _ _ h => h) ⟨_, HB⟩ (fun w' hS => EX.bin rfl rfl (binv_agg_neq eqI40 (by kernel_rfl) (by simp [hx8]) (by simp [hx82]))) rfl ?_
      refine WH.done (by kernel_rfl) ?_
      replace H := H.call HB
      refine WX.next ?_
      refine WC.cond rfl (fun c3 => ?_) (fun c3 => ?_)
      ·
        refine WC.seq ?_
        refine WC.region ?_
        refine WL.assign rfl rfl ?_
        refine (WL.done (WX.next ?_))
        refine (WC.ret (WX.block_ret (WX.then_ret (WX.then_ret (WX.block_ret (WX.then_ret ?_))))))
        refine ret_one rfl rfl ?_
        have hne : ¬ imgs = imgs2 := fun h => by subst h; simp at c3
        rw [decide_eq_false hne]
        exact ⟨rfl, H⟩
      ·
        refine (WC.skip (WX.block_normal (WX.next ?_)))
        refine WC.region ?_
        refine WL.move rfl rfl ?_
        refine WL.bin rfl rfl (iadd (by omega) (by omega)) rfl ?_
        refine WL.assign rfl rfl ?_
        refine (WL.done (WX.round ?_))
        have heq : imgs[g] = imgs2[g] := img_inj (by rw [hx8, hx82]) (by simpa using c3)
        exact hN _ (g+1) _ _ (by omega) ⟨rfl, by omega, take_eq_succ hlt hlt2 hall heq, H⟩ (Sub.cons (t := 5) (by rfl) (Sub.nil _)) (Sub.cons (t := 0) rfl (Sub.cons (t := 1) rfl (Sub.nil _)))
    ·
      refine (WC.exit (WX.then_exit (WX.then_exit (WX.block_exit (WX.next ?_)))))
      refine WC.seq ?_
      refine WC.region ?_
      refine WL.assign rfl rfl ?_
      refine (WL.done (WX.next ?_))
      refine (WC.ret ?_)
      refine ret_one rfl rfl ?_
      have heq : imgs = imgs2 := by rw [List.take_of_length_le (by omega), List.take_of_length_le (by omega)] at hall; exact hall
      rw [decide_eq_true heq]
      exact ⟨rfl, H⟩

end Go.Proofs.YtkncbggnaobgeaaDoor

/- Walks of functions of the program; printed by a program of this session (walk.py) out of hand-written hints. -/
namespace Go.Proofs.YtkncbggnaobgeaaDoor
open Go.RowKit
set_option linter.unusedVariables false
set_option linter.unusedSimpArgs false
set_option maxRecDepth 100000

theorem tmod_bounds (x : Int) {n : Int} (hn : 0 < n) : -n < x.tmod n ∧ x.tmod n < n := by
  rcases Int.le_total 0 x with h | h
  · have h1 := Int.tmod_nonneg n h
    have h2 := Int.tmod_lt_of_pos x hn
    omega
  · obtain ⟨y, hy⟩ : ∃ y, y = -x := ⟨_, rfl⟩
    have h1 := Int.tmod_nonneg n (show 0 ≤ y by omega)
    have h2 := Int.tmod_lt_of_pos y hn
    have h3 : x.tmod n = -(y.tmod n) := by rw [hy, Int.neg_tmod]; omega
    omega
theorem least_eq (x : Int) {n : Int} (hn : 0 < n) : (x.tmod n + n) % n = x % n := by
  have h := Int.mul_tdiv_add_tmod x n
  rw [Int.add_emod_right]
  conv => rhs; rw [← h]
  rw [Int.add_comm, Int.add_mul_emod_self_left]

theorem least_any (x n : Int) (hn : 0 < n ∧ n ≤ 1073741824) (w : World) : Calls Tryd.prog 33 #[.int .i64 x, .int .i64 n] w fun e w' => e = .returned (.int .i64 (x % n)) ∧ w' = w := by
  have hb := tmod_bounds x hn.1
  refine calls_walk_n (args := [.int .i64 x, .int .i64 n]) Tryd.func33 rfl rfl rfl ?_
  refine WC.seq ?_
  refine WC.region ?_
  refine WL.assign rfl rfl ?_
  refine (WL.done (WX.next ?_))
  refine WC.seq ?_
  refine WC.region ?_
  refine WL.move rfl rfl ?_
  refine WL.move rfl rfl ?_
  refine WL.bin rfl rfl (iremT (by omega)) rfl ?_
  refine WL.move rfl rfl ?_
  refine WL.bin rfl rfl (iadd (by omega) (by omega)) rfl ?_
  refine WL.move rfl rfl ?_
  refine WL.bin rfl rfl (irem (by omega) (by omega)) rfl ?_
  refine WL.assign rfl rfl ?_
  refine (WL.done (WX.next ?_))
  refine (WC.ret ?_)
  refine ret_one rfl rfl ?_
  exact ⟨by rw [least_eq x hn.1], rfl⟩

end Go.Proofs.YtkncbggnaobgeaaDoor

/- The calls of the memory as plain functions, and what the statements of layer 4 say of them. No Go in sight. -/
namespace Go.Proofs.YtkncbggnaobgeaaDoor
set_option linter.unusedVariables false
set_option linter.unusedSimpArgs false
set_option maxRecDepth 100000

def PM.load (M : PM) (at_ : Int) : Int × Int :=
  if at_ < 0 then (0, 40) else if M.has (at_ / 8) then
    (if (pShow (M.line (at_ / 8)) (M.line (at_ / 8)).ps.length).2 = 0 then ((pShow (M.line (at_ / 8)) (M.line (at_ / 8)).ps.length).1.getD (at_ % 8).toNat 0, 0) else (0, 9))
  else (0, 40)
theorem abs_hasline {R : RM} {n : Int} (h : pHas R n = true) : ∃ x, R.X[n.toNat]? = some x ∧ R.abs.line n = x.1 := by
  obtain ⟨h0, h1⟩ := pHas_iff.1 h
  have hl : n.toNat < R.X.length := by omega
  refine ⟨_, List.getElem?_eq_getElem hl, ?_⟩
  simp [PM.line, RM.abs, List.getElem?_eq_getElem hl]
theorem load_abs (R : RM) (at_ : Int) : pLoad R at_ = R.abs.load at_ := by
  unfold pLoad PM.load
  rw [abs_has]
  split
  · rfl
  · split
    · rename_i h
      obtain ⟨x, hx, he⟩ := abs_hasline h
      rw [hx, he]
    · rfl
def PM.state (M : PM) (n : Int) : Int := if M.has n then (chk (M.line n).ws (M.line n).c).1 else -1
theorem state_abs (R : RM) (n : Int) : (if pHas R n then (match R.X[n.toNat]? with | some x => (chk x.1.ws x.1.c).1 | none => 0) else -1) = R.abs.state n := by
  unfold PM.state
  rw [abs_has]
  split
  · rename_i h
    obtain ⟨x, hx, he⟩ := abs_hasline h
    rw [hx, he]
  · rfl
/-- What a line shows. -/
def shown (l : PL) : List Int := (pShow l l.ps.length).1

/-- A call of a script. -/
structure POp where
  kind : Int
  a : Int
  b : Int
  ws : List Int
  cuts : List (Int × Int)
def PM.do (M : PM) (x : POp) : PM :=
  if x.kind = 0 then M.put 1 x.a x.b else if x.kind = 1 then M.put 2 x.a x.b else if x.kind = 2 then { M with span := if 0 > x.a then 0 else x.a } else if x.kind = 3 then M.flush x.a
  else if x.kind = 4 then M.fence else if x.kind = 5 then M.evict x.a x.b else if x.kind = 6 then M.heal x.a x.ws else if x.kind = 7 then M.rot x.a x.ws x.b else if x.kind = 8 then M.crash x.cuts
  else if x.kind = 9 then { M with evs := [] } else M
/-- What it returns: a value, an errno. -/
def PM.res (M : PM) (x : POp) : Int × Int :=
  if x.kind = 0 then (0, M.putErr x.a x.b) else if x.kind = 1 then (0, M.putErr x.a x.b) else if x.kind = 2 then (0, 0) else if x.kind = 3 then (0, if M.has x.a then 0 else 40)
  else if x.kind = 4 then (0, 0) else if x.kind = 5 then (0, M.evictErr x.a x.b) else if x.kind = 6 then (0, M.healErr x.a x.ws) else if x.kind = 7 then (0, M.rotErr x.a x.ws x.b) else if x.kind = 8 then (0, if M.cutsOk x.cuts then 0 else 1)
  else if x.kind = 9 then (0, 0) else M.load x.a

/-! ### Lists of lines -/
theorem has_iff {M : PM} {n : Int} : M.has n = true ↔ 0 ≤ n ∧ n < M.ls.length := by simp [PM.has]
theorem line_mem {M : PM} {n : Int} (h : M.has n = true) : M.line n ∈ M.ls := by
  obtain ⟨h0, h1⟩ := has_iff.1 h
  have hl : n.toNat < M.ls.length := by omega
  simp [PM.line, List.getD, List.getElem?_eq_getElem hl]
theorem set_all {α : Type} {p : α → Prop} {ls : List α} {k : Nat} {x : α} (h : ∀ l ∈ ls, p l) (hx : p x) : ∀ l ∈ ls.set k x, p l := by
  intro l hl
  rcases List.mem_or_eq_of_mem_set hl with hl | rfl
  · exact h l hl
  · exact hx
/-- A property of lines that every call keeps. -/
structure Kept (p : PL → Prop) : Prop where
  put : ∀ l i v, l.ok → p l → isWord v = true → (chk l.ws l.c).1 ≠ 2 → p { l with ps := l.ps ++ [(i, v)] }
  mark : ∀ l, l.ok → p l → p { l with mark := l.ps.length }
  settle : ∀ l k, l.ok → p l → p (pSettle l k)
  heal : ∀ ws, isWords ws = true → p { ws := ws, c := enc ws, ps := [], mark := 0 }
  drop : ∀ l, l.ok → p l → p (drop0 l)
  rot : ∀ l ws c, l.ok → p l → l.ps = [] → p { l with ws := ws, c := c }
theorem foldl_cut_all {p : PL → Prop} (hp : ∀ l k, p l → p (pSettle l k)) : ∀ (cuts : List (Int × Int)) (ls : List PL), (∀ l ∈ ls, p l) → ∀ l ∈ cuts.foldl cutStep ls, p l
  | [], ls, h => h
  | c :: cuts, ls, h => by
    rw [List.foldl_cons]
    refine foldl_cut_all hp cuts _ ?_
    intro l hl
    unfold cutStep at hl
    rcases Nat.lt_or_ge c.1.toNat ls.length with hlt | hge
    · rcases List.mem_or_eq_of_mem_set hl with hl | rfl
      · exact h l hl
      · refine hp _ _ (h _ ?_)
        simp [List.getD, List.getElem?_eq_getElem hlt]
    · rw [List.set_eq_of_length_le hge] at hl
      exact h l hl
theorem Kept.do {p : PL → Prop} (hk : Kept p) {M : PM} (h : ∀ l ∈ M.ls, l.ok ∧ p l) (x : POp) : ∀ l ∈ (M.do x).ls, p l := by
  have h' : ∀ l ∈ M.ls, p l := fun l hl => (h l hl).2
  have hput : ∀ kind, ∀ l ∈ (M.put kind x.a x.b).ls, p l := by
    intro kind
    unfold PM.put
    split
    · rename_i he
      unfold PM.putErr at he
      split at he
      · cases he
      · split at he
        · rename_i hh
          split at he
          · rename_i hw
            split at he
            · cases he
            · rename_i hc
              exact set_all h' (hk.put _ _ _ (h _ (line_mem hh)).1 (h' _ (line_mem hh)) hw hc)
          · cases he
        · cases he
    · exact h'
  unfold PM.do
  split
  · exact hput 1
  split
  · exact hput 2
  split
  · exact h'
  split
  · unfold PM.flush
    split
    · rename_i hh; exact set_all h' (hk.mark _ (h _ (line_mem hh)).1 (h' _ (line_mem hh)))
    · exact h'
  split
  · unfold PM.fence
    intro l hl
    obtain ⟨y, hy, rfl⟩ := List.mem_map.1 hl
    exact hk.settle _ _ (h y hy).1 (h' y hy)
  split
  · unfold PM.evict
    split
    · rename_i he
      unfold PM.evictErr at he
      split at he
      · rename_i hh; exact set_all h' (hk.settle _ _ (h _ (line_mem hh)).1 (h' _ (line_mem hh)))
      · cases he
    · exact h'
  split
  · unfold PM.heal
    split
    · rename_i he
      unfold PM.healErr at he
      split at he
      · split at he
        · rename_i hw; exact set_all h' (hk.heal _ hw)
        · cases he
      · cases he
    · exact h'
  split
  · unfold PM.rot
    split
    · rename_i he
      unfold PM.rotErr at he
      split at he
      · rename_i hh
        split at he
        · split at he
          · rename_i hps; exact set_all h' (hk.rot _ _ _ (h _ (line_mem hh)).1 (h' _ (line_mem hh)) hps)
          · cases he
        · cases he
      · cases he
    · exact h'
  split
  · unfold PM.crash
    split
    · intro l hl
      obtain ⟨y, hy, rfl⟩ := List.mem_map.1 hl
      have hy' := foldl_cut_all (p := fun l => l.ok ∧ p l) (fun l k hl => ⟨pSettle_ok hl.1, hk.settle l k hl.1 hl.2⟩) x.cuts M.ls h y hy
      exact hk.drop _ hy'.1 hy'.2
    · exact h'
  split
  · exact h'
  · exact h'
/-- Whoever has something pending is not rotten. -/
def PL.sound (l : PL) : Prop := l.ps ≠ [] → (chk l.ws l.c).1 ≠ 2
theorem settle_clean {l : PL} {k : Nat} (h : l.ok) (hk : k ≠ 0) : chk (pSettle l k).ws (pSettle l k).c = (0, 0, 0) := by
  unfold pSettle
  rw [if_neg hk]
  exact chk_enc (pShow_words h)
theorem PL.sound_kept : Kept PL.sound := by
  refine ⟨?_, ?_, ?_, ?_, ?_, ?_⟩
  · intro l i v _ _ _ hc _; exact hc
  · intro l _ h; exact h
  · intro l k hok h
    rcases Nat.eq_zero_or_pos k with rfl | hk
    · exact h
    · intro _
      rw [settle_clean hok (by omega)]
      decide
  · intro ws hw h; exact absurd rfl h
  · intro l _ _ h; exact absurd rfl h
  · intro l ws c _ _ hps h; exact absurd hps h
/-- How much there is at most. -/
structure PM.small (M : PM) (k : Nat) : Prop where
  ev : M.evs.length ≤ k
  ps : ∀ l ∈ M.ls, l.ps.length ≤ k
theorem PM.small.mono {M : PM} {k k' : Nat} (h : M.small k) (hk : k ≤ k') : M.small k' := ⟨Nat.le_trans h.ev hk, fun l hl => Nat.le_trans (h.ps l hl) hk⟩
theorem settle_le (l : PL) (k : Nat) : (pSettle l k).ps.length ≤ l.ps.length := by
  unfold pSettle
  split
  · exact Nat.le_refl _
  · simp
theorem PM.small.put {M : PM} {k : Nat} (h : M.small k) (kind a v : Int) : (M.put kind a v).small (k + 1) := by
  unfold PM.put
  split
  · rename_i he
    unfold PM.putErr at he
    split at he
    · cases he
    · split at he
      · rename_i hh
        exact ⟨by simpa using h.ev, set_all (fun l hl => Nat.le_succ_of_le (h.ps l hl)) (by simpa using h.ps _ (line_mem hh))⟩
      · cases he
  · exact h.mono (Nat.le_succ k)
theorem PM.small.flush {M : PM} {k : Nat} (h : M.small k) (n : Int) : (M.flush n).small (k + 1) := by
  unfold PM.flush
  split
  · rename_i hh
    exact ⟨by simpa using h.ev, set_all (fun l hl => Nat.le_succ_of_le (h.ps l hl)) (show (M.line n).ps.length ≤ k + 1 from Nat.le_succ_of_le (h.ps _ (line_mem hh)))⟩
  · exact h.mono (Nat.le_succ k)
theorem PM.small.fence {M : PM} {k : Nat} (h : M.small k) : M.fence.small (k + 1) := by
  refine ⟨by simpa [PM.fence] using h.ev, fun l hl => ?_⟩
  obtain ⟨y, hy, rfl⟩ := List.mem_map.1 hl
  exact Nat.le_succ_of_le (Nat.le_trans (settle_le _ _) (h.ps y hy))
theorem PM.small.evict {M : PM} {k : Nat} (h : M.small k) (n j : Int) : (M.evict n j).small (k + 1) := by
  unfold PM.evict
  split
  · rename_i he
    unfold PM.evictErr at he
    split at he
    · rename_i hh
      exact ⟨by simpa using h.ev, set_all (fun l hl => Nat.le_succ_of_le (h.ps l hl)) (Nat.le_succ_of_le (Nat.le_trans (settle_le _ _) (h.ps _ (line_mem hh))))⟩
    · cases he
  · exact h.mono (Nat.le_succ k)
theorem PM.small.heal {M : PM} {k : Nat} (h : M.small k) (n : Int) (ws : List Int) : (M.heal n ws).small (k + 1) := by
  unfold PM.heal
  split
  · exact ⟨by simpa using h.ev, set_all (fun l hl => Nat.le_succ_of_le (h.ps l hl)) (Nat.zero_le _)⟩
  · exact h.mono (Nat.le_succ k)
theorem PM.small.rot {M : PM} {k : Nat} (h : M.small k) (n : Int) (ws : List Int) (b : Int) : (M.rot n ws b).small (k + 1) := by
  unfold PM.rot
  split
  · rename_i he
    unfold PM.rotErr at he
    split at he
    · rename_i hh
      exact ⟨by simpa using h.ev, set_all (fun l hl => Nat.le_succ_of_le (h.ps l hl)) (show (M.line n).ps.length ≤ k + 1 from Nat.le_succ_of_le (h.ps _ (line_mem hh)))⟩
    · cases he
  · exact h.mono (Nat.le_succ k)
theorem PM.small.crash {M : PM} {k : Nat} (h : M.small k) (cuts : List (Int × Int)) : (M.crash cuts).small k := by
  unfold PM.crash
  split
  · refine ⟨Nat.zero_le _, fun l hl => ?_⟩
    obtain ⟨y, _, rfl⟩ := List.mem_map.1 hl
    exact Nat.zero_le _
  · exact h
theorem PM.small.do {M : PM} {k : Nat} (h : M.small k) (x : POp) : (M.do x).small (k + 1) := by
  unfold PM.do
  split
  · exact h.put _ _ _
  split
  · exact h.put _ _ _
  split
  · exact ⟨Nat.le_succ_of_le h.ev, fun l hl => Nat.le_succ_of_le (h.ps l hl)⟩
  split
  · exact h.flush _
  split
  · exact h.fence
  split
  · exact h.evict _ _
  split
  · exact h.heal _ _
  split
  · exact h.rot _ _ _
  split
  · exact (h.crash _).mono (Nat.le_succ k)
  split
  · exact ⟨Nat.zero_le _, fun l hl => Nat.le_succ_of_le (h.ps l hl)⟩
  · exact h.mono (Nat.le_succ k)
theorem do_len (M : PM) (x : POp) : (M.do x).ls.length = M.ls.length := by
  unfold PM.do
  repeat' split
  all_goals (first | rfl | (unfold PM.put; split <;> simp) | (unfold PM.flush; split <;> simp) | (unfold PM.fence; simp) | (unfold PM.evict; split <;> simp) | (unfold PM.heal; split <;> simp) | (unfold PM.rot; split <;> simp) | (unfold PM.crash; split <;> simp [foldl_len]))
/-- A memory just made. -/
def PM.fresh (n : Nat) : PM := { ls := List.replicate n pl0, span := 0, evs := [] }
/-- A script. -/
def PM.run (M : PM) (xs : List POp) : PM := xs.foldl PM.do M
theorem run_succ (M : PM) (xs : List POp) {i : Nat} (hi : i < xs.length) : M.run (xs.take (i + 1)) = (M.run (xs.take i)).do xs[i] := by
  unfold PM.run
  rw [List.take_add_one, List.getElem?_eq_getElem hi, List.foldl_append]; rfl
theorem run_len (xs : List POp) : ∀ M : PM, (M.run xs).ls.length = M.ls.length := by
  unfold PM.run
  induction xs with
  | nil => intro M; rfl
  | cons x xs ih => intro M; rw [List.foldl_cons, ih, do_len]
theorem run_small (xs : List POp) : ∀ (M : PM) (k : Nat), M.small k → (M.run xs).small (k + xs.length) := by
  unfold PM.run
  induction xs with
  | nil => intro M k h; exact h
  | cons x xs ih => intro M k h; rw [List.foldl_cons, List.length_cons, show k + (xs.length + 1) = k + 1 + xs.length from by omega]; exact ih _ _ (h.do x)
theorem fresh_small (n : Nat) : (PM.fresh n).small 0 := ⟨Nat.le_refl _, fun l hl => by rw [List.eq_of_mem_replicate hl]; exact Nat.le_refl _⟩

/-! ### Lines one by one -/
theorem line_of {M : PM} {k : Nat} (h : k < M.ls.length) : M.line (k : Int) = M.ls[k] := by simp [PM.line, List.getD, List.getElem?_eq_getElem h]
theorem has_of {M : PM} {k : Nat} (h : k < M.ls.length) : M.has (k : Int) = true := has_iff.2 ⟨by omega, by omega⟩
theorem set_getD {α : Type} {ls : List α} {k j : Nat} {x d : α} : (ls.set k x).getD j d = if k = j ∧ k < ls.length then x else ls.getD j d := by
  simp only [List.getD, List.getElem?_set]
  by_cases h : k = j
  · subst h
    by_cases hl : k < ls.length
    · simp [hl]
    · simp [hl, List.getElem?_eq_none (Nat.not_lt.1 hl)]
  · simp [h]
theorem cutStep_eq (ls : List PL) (c : Int × Int) : cutStep ls c = ls.set c.1.toNat (pSettle (ls.getD c.1.toNat default) c.2.toNat) := rfl
theorem cut_other (cuts : List (Int × Int)) {j : Nat} {d : PL} : ∀ ls : List PL, (∀ c ∈ cuts, c.1.toNat ≠ j) → (cuts.foldl cutStep ls).getD j d = ls.getD j d := by
  induction cuts with
  | nil => intro ls _; rfl
  | cons c cuts ih =>
    intro ls h
    rw [List.foldl_cons, ih _ (fun c hc => h c (List.mem_cons_of_mem _ hc))]
    rw [cutStep_eq, set_getD, if_neg (fun hh => h c List.mem_cons_self hh.1)]
theorem cut_at {a b : List (Int × Int)} {c : Int × Int} {j : Nat} (hc : c.1.toNat = j) (ha : ∀ c ∈ a, c.1.toNat ≠ j) (hb : ∀ c ∈ b, c.1.toNat ≠ j) {ls : List PL} (hj : j < ls.length) :
    ((a ++ c :: b).foldl cutStep ls).getD j default = pSettle (ls.getD j default) c.2.toNat := by
  rw [List.foldl_append, List.foldl_cons, cut_other b _ hb]
  rw [cutStep_eq, hc, set_getD, if_pos ⟨rfl, by rw [foldl_len]; exact hj⟩, cut_other a _ ha]
/-- What a line shows survives its settling. -/
theorem shown_all {l : PL} (h : l.ok) : shown (drop0 (pSettle l l.ps.length)) = shown l := by
  rcases Nat.eq_zero_or_pos l.ps.length with h0 | hp
  · have hps : l.ps = [] := List.eq_nil_of_length_eq_zero h0
    unfold pSettle
    rw [if_pos h0]
    unfold shown drop0 pShow
    rw [hps]
  · unfold pSettle
    rw [if_neg (by omega)]
    unfold shown drop0
    simp only []
    unfold pShow
    simp only [fix_enc (pShow_words h), List.length_nil, List.take_nil]
    have e1 : fix (if (fix l.ws l.c).2.2 = 0 then (putAll (fix l.ws l.c).1 (l.ps.take l.ps.length), (0 : Int)) else (zeros8, (fix l.ws l.c).2.2)).1 (enc (if (fix l.ws l.c).2.2 = 0 then (putAll (fix l.ws l.c).1 (l.ps.take l.ps.length), (0 : Int)) else (zeros8, (fix l.ws l.c).2.2)).1) = _ := fix_enc (pShow_words (l := l) (k := l.ps.length) h)
    rw [e1]
    simp [putAll]
end Go.Proofs.YtkncbggnaobgeaaDoor

/- A line that is not rotten shows what Fix gives. No Go in sight. -/
namespace Go.Proofs.YtkncbggnaobgeaaDoor
set_option linter.unusedVariables false
set_option linter.unusedSimpArgs false
set_option maxRecDepth 100000

/-- What a line shows without what is pending. -/
def base (l : PL) : List Int := shown (drop0 l)
theorem fix_sound {l : PL} (h : l.ok) (hs : (chk l.ws l.c).1 ≠ 2) : (fix l.ws l.c).2.2 = 0 := by
  unfold fix
  rw [h.2.1, h.2.2.1]
  simp only [Bool.and_self, if_true]
  rcases chk_cases (ws := l.ws) h.2.2.1 with e | e | ⟨x, y, e, _⟩
  · rw [e]; rfl
  · rw [e] at hs; exact absurd rfl hs
  · rw [e]; rfl
theorem base_fix {l : PL} (hf : (fix l.ws l.c).2.2 = 0) : base l = (fix l.ws l.c).1 := by
  unfold base shown drop0 pShow
  simp only []
  rw [if_pos hf]; rfl
end Go.Proofs.YtkncbggnaobgeaaDoor

/- The calls of the memory for those who hold one or several: what a memory is stands in one fact, where it lies in the list of blocks. -/
namespace Go.Proofs.YtkncbggnaobgeaaDoor
open Go.RowKit
set_option linter.unusedVariables false
set_option linter.unusedSimpArgs false
set_option maxRecDepth 100000

/-- R lies at p, and is the plain memory M; there is not too much of it. -/
structure Is (R : RM) (p : Nat) (M : PM) (k : Nat) : Prop where
  p : R.p = p
  abs : R.abs = M
  ok : R.ok
  sm : M.small k
theorem L64.lt {w : World} (h : L64 w) : 3 < w.heap.size := by obtain ⟨t, fr, h⟩ := h; exact lt_of_some h
theorem Is.mem {w0 w : World} {L : Hp} {R : RM} {p k : Nat} {M : PM} (hI : Is R p M k) (H : St w0 [] w (L ++ R.hp)) (hL : L64 w0) : MemIn w R := MemIn.of H hI.ok (fun _ h => by simp at h) hL.lt
theorem Is.len {R : RM} {p k : Nat} {M : PM} (hI : Is R p M k) : R.X.length = M.ls.length := by rw [← hI.abs]; simp [RM.abs]
theorem Is.lok {R : RM} {p k : Nat} {M : PM} (hI : Is R p M k) : ∀ l ∈ M.ls, l.ok := by
  intro l hl
  rw [← hI.abs] at hl
  obtain ⟨x, hx, rfl⟩ := List.mem_map.1 hl
  exact (hI.ok.lines x hx).1
theorem Is.lens {R : RM} {p k : Nat} {M : PM} (hI : Is R p M k) : 1 ≤ M.ls.length ∧ M.ls.length ≤ 4096 := by rw [← hI.len]; exact hI.ok.len
theorem Is.evs {R : RM} {p k : Nat} {M : PM} (hI : Is R p M k) : R.evs.length ≤ k := by have := hI.sm.ev; rw [← hI.abs] at this; exact this
theorem Is.ps {R : RM} {p k : Nat} {M : PM} (hI : Is R p M k) : ∀ x ∈ R.X, x.1.ps.length ≤ k := by
  intro x hx
  have := hI.sm.ps x.1 (by rw [← hI.abs]; exact List.mem_map_of_mem hx)
  exact this
theorem Is.mono {R : RM} {p k k' : Nat} {M : PM} (hI : Is R p M k) (h : k ≤ k') : Is R p M k' := ⟨hI.p, hI.abs, hI.ok, hI.sm.mono h⟩
theorem St.swap {w0 w : World} {S : List Nat} {L A B : Hp} (H : St w0 S w ((L ++ A) ++ B)) : St w0 S w ((L ++ B) ++ A) :=
  H.perm (by rw [List.append_assoc, List.append_assoc]; exact List.Perm.append_left _ List.perm_append_comm)
section
variable {w0 w : World} {L : Hp} {R : RM} {p k : Nat} {M : PM}
abbrev ptr (p : Nat) : Value := .pointer (some ⟨p, 0, none⟩)

theorem a_new {H : Hp} (n : Int) (H0 : St w0 [] w H) (hL : L64 w0) : Calls Tryd.prog 23 #[.int .i64 n] w fun e w' => if 1 ≤ n ∧ n ≤ 4096 then ∃ p R, e = .returned (ptr p) ∧ Is R p (PM.fresh n.toNat) 0 ∧ St w0 [] w' (H ++ R.hp) else e = .returned (.pointer none) ∧ St w0 [] w' H := by
  refine (new_any n w (hL.of0 H0)).mono ?_
  intro e w' h
  split at h
  · rename_i hn
    rw [if_pos hn]
    obtain ⟨p, lb, mb, rfl, Hc⟩ := h
    refine ⟨p, RM.fresh p lb mb (List.replicate n.toNat pl0), rfl, ⟨rfl, RM.fresh_abs _ _ _ _, RM.fresh_ok (by simp; omega) (fun l hl => by rw [List.eq_of_mem_replicate hl]; exact ⟨pl0_ok, rfl⟩), fresh_small _⟩, ?_⟩
    exact (H0.call Hc).perm List.perm_append_comm
  · rename_i hn
    rw [if_neg hn]
    exact ⟨h.1, H0.call0 h.2⟩
theorem a_new_ok {H : Hp} (n : Int) (hn : 1 ≤ n ∧ n ≤ 4096) (H0 : St w0 [] w H) (hL : L64 w0) : Calls Tryd.prog 23 #[.int .i64 n] w fun e w' => ∃ p R, e = .returned (ptr p) ∧ Is R p (PM.fresh n.toNat) 0 ∧ St w0 [] w' (H ++ R.hp) :=
  (a_new n H0 hL).mono fun e w' h => by rw [if_pos hn] at h; exact h
theorem a_new_no {H : Hp} (n : Int) (hn : ¬ (1 ≤ n ∧ n ≤ 4096)) (H0 : St w0 [] w H) (hL : L64 w0) : Calls Tryd.prog 23 #[.int .i64 n] w fun e w' => e = .returned (.pointer none) ∧ St w0 [] w' H :=
  (a_new n H0 hL).mono fun e w' h => by rw [if_neg hn] at h; exact h
theorem a_lines (hI : Is R p M k) (H : St w0 [] w (L ++ R.hp)) (hL : L64 w0) : Calls Tryd.prog 26 #[ptr p] w fun e w' => e = .returned (.int .i64 (M.ls.length : Int)) ∧ w' = w := by
  have hm := hI.mem H hL
  have hl := hI.len
  obtain ⟨rfl, rfl, hok, hs⟩ := hI
  rw [← hl]
  exact lines_any R w hm
theorem a_state (n : Int) (hI : Is R p M k) (H : St w0 [] w (L ++ R.hp)) (hL : L64 w0) : Calls Tryd.prog 31 #[ptr p, .int .i64 n] w fun e w' => e = .returned (.int .i64 (M.state n)) ∧ St w0 [] w' (L ++ R.hp) := by
  have hm := hI.mem H hL
  obtain ⟨rfl, rfl, hok, hs⟩ := hI
  rw [← state_abs]
  exact (state_any R n w hm (hL.of0 H)).mono fun e w' ⟨h, Hc⟩ => ⟨h, H.call0 Hc⟩
theorem a_load (at_ : Int) (ha : at_ ≤ 9223372036854775807) (hI : Is R p M k) (H : St w0 [] w (L ++ R.hp)) (hL : L64 w0) : Calls Tryd.prog 96 #[ptr p, .int .i64 at_] w fun e w' => e = .returned (.tuple #[.int .i64 (M.load at_).1, .int .i64 (M.load at_).2]) ∧ St w0 [] w' (L ++ R.hp) := by
  have hm := hI.mem H hL
  obtain ⟨rfl, rfl, hok, hs⟩ := hI
  rw [← load_abs]
  exact (load_any R at_ ha w hm (hL.of0 H)).mono fun e w' ⟨h, Hc⟩ => ⟨h, H.call0 Hc⟩
theorem a_store (at_ val : Int) (ha : -9223372036854775808 ≤ at_ ∧ at_ ≤ 9223372036854775807) (hk : k < 1073741824) (hI : Is R p M k) (H : St w0 [] w (L ++ R.hp)) (hL : L64 w0) :
    Calls Tryd.prog 56 #[ptr p, .int .i64 at_, .int .i64 val] w fun e w' => ∃ R', e = .returned (.int .i64 (M.putErr at_ val)) ∧ Is R' p (M.put 1 at_ val) (k + 1) ∧ St w0 [] w' (L ++ R'.hp) := by
  have hm := hI.mem H hL
  have h1 := hI.evs; have h2 := hI.ps
  obtain ⟨rfl, rfl, hok, hs⟩ := hI
  exact (store_any R at_ val ha (by omega) (fun x hx => Nat.lt_of_le_of_lt (h2 x hx) hk) w hm (hL.of0 H)).mono fun e w' ⟨R', h, hp, ha', hok', Hc⟩ => ⟨R', h, ⟨hp, ha', hok', hs.put _ _ _⟩, H.callM Hc⟩
theorem a_publish (at_ val : Int) (ha : -9223372036854775808 ≤ at_ ∧ at_ ≤ 9223372036854775807) (hk : k < 1073741824) (hI : Is R p M k) (H : St w0 [] w (L ++ R.hp)) (hL : L64 w0) :
    Calls Tryd.prog 110 #[ptr p, .int .i64 at_, .int .i64 val] w fun e w' => ∃ R', e = .returned (.int .i64 (M.putErr at_ val)) ∧ Is R' p (M.put 2 at_ val) (k + 1) ∧ St w0 [] w' (L ++ R'.hp) := by
  have hm := hI.mem H hL
  have h1 := hI.evs; have h2 := hI.ps
  obtain ⟨rfl, rfl, hok, hs⟩ := hI
  exact (publish_any R at_ val ha (by omega) (fun x hx => Nat.lt_of_le_of_lt (h2 x hx) hk) w hm (hL.of0 H)).mono fun e w' ⟨R', h, hp, ha', hok', Hc⟩ => ⟨R', h, ⟨hp, ha', hok', hs.put _ _ _⟩, H.callM Hc⟩
theorem a_span (n : Int) (hn : n ≤ 9223372036854775807) (hI : Is R p M k) (H : St w0 [] w (L ++ R.hp)) (hL : L64 w0) :
    Calls Tryd.prog 61 #[ptr p, .int .i64 n] w fun e w' => ∃ R', e = .returned (.tuple #[]) ∧ Is R' p { M with span := if 0 > n then 0 else n } k ∧ St w0 [] w' (L ++ R'.hp) := by
  have hm := hI.mem H hL
  obtain ⟨rfl, rfl, hok, hs⟩ := hI
  exact (span_any R n hn w hm).mono fun e w' ⟨R', h, hp, ha', hok', Hc⟩ => ⟨R', h, ⟨hp, ha', hok', ⟨hs.ev, hs.ps⟩⟩, H.callM Hc⟩
theorem a_forget (hI : Is R p M k) (H : St w0 [] w (L ++ R.hp)) (hL : L64 w0) :
    Calls Tryd.prog 112 #[ptr p] w fun e w' => ∃ R', e = .returned (.tuple #[]) ∧ Is R' p { M with evs := [] } k ∧ St w0 [] w' (L ++ R'.hp) := by
  have hm := hI.mem H hL
  obtain ⟨rfl, rfl, hok, hs⟩ := hI
  exact (forget_any R w hm).mono fun e w' ⟨R', h, hp, ha', hok', Hc⟩ => ⟨R', h, ⟨hp, ha', hok', ⟨Nat.zero_le _, hs.ps⟩⟩, H.callM Hc⟩
theorem a_flush (n : Int) (hk : k < 1073741824) (hI : Is R p M k) (H : St w0 [] w (L ++ R.hp)) (hL : L64 w0) :
    Calls Tryd.prog 35 #[ptr p, .int .i64 n] w fun e w' => ∃ R', e = .returned (.int .i64 (if M.has n then 0 else 40)) ∧ Is R' p (M.flush n) (k + 1) ∧ St w0 [] w' (L ++ R'.hp) := by
  have hm := hI.mem H hL
  have h1 := hI.evs
  obtain ⟨rfl, rfl, hok, hs⟩ := hI
  exact (flush_any R n (by omega) w hm).mono fun e w' ⟨R', h, hp, ha', hok', Hc⟩ => ⟨R', h, ⟨hp, ha', hok', hs.flush _⟩, H.callM Hc⟩
theorem a_fence (hk : k < 1073741824) (hI : Is R p M k) (H : St w0 [] w (L ++ R.hp)) (hL : L64 w0) :
    Calls Tryd.prog 36 #[ptr p] w fun e w' => ∃ R', e = .returned (.tuple #[]) ∧ Is R' p M.fence (k + 1) ∧ St w0 [] w' (L ++ R'.hp) := by
  have hm := hI.mem H hL
  have h1 := hI.evs; have h2 := hI.ps
  obtain ⟨rfl, rfl, hok, hs⟩ := hI
  exact (fence_any R (by omega) (fun x hx => Nat.le_trans (h2 x hx) (Nat.le_of_lt hk)) w hm (hL.of0 H)).mono fun e w' ⟨R', h, hp, ha', hok', Hc⟩ => ⟨R', h, ⟨hp, ha', hok', hs.fence⟩, H.callM Hc⟩
theorem a_evict (n j : Int) (hk : k < 1073741824) (hI : Is R p M k) (H : St w0 [] w (L ++ R.hp)) (hL : L64 w0) :
    Calls Tryd.prog 40 #[ptr p, .int .i64 n, .int .i64 j] w fun e w' => ∃ R', e = .returned (.int .i64 (M.evictErr n j)) ∧ Is R' p (M.evict n j) (k + 1) ∧ St w0 [] w' (L ++ R'.hp) := by
  have hm := hI.mem H hL
  have h1 := hI.evs; have h2 := hI.ps
  obtain ⟨rfl, rfl, hok, hs⟩ := hI
  exact (evict_any R n j (by omega) (fun x hx => Nat.le_trans (h2 x hx) (Nat.le_of_lt hk)) w hm (hL.of0 H)).mono fun e w' ⟨R', h, hp, ha', hok', Hc⟩ => ⟨R', h, ⟨hp, ha', hok', hs.evict _ _⟩, H.callM Hc⟩
theorem a_heal (n : Int) (xs : List Int) (hx8 : xs.length = 8) (hk : k < 1073741824) (hI : Is R p M k) (H : St w0 [] w (L ++ R.hp)) (hL : L64 w0) :
    Calls Tryd.prog 111 #[ptr p, .int .i64 n, arr xs] w fun e w' => ∃ R', e = .returned (.int .i64 (M.healErr n xs)) ∧ Is R' p (M.heal n xs) (k + 1) ∧ St w0 [] w' (L ++ R'.hp) := by
  have hm := hI.mem H hL
  have h1 := hI.evs
  obtain ⟨rfl, rfl, hok, hs⟩ := hI
  exact (heal_any R n xs hx8 (by omega) w hm (hL.of0 H)).mono fun e w' ⟨R', h, hp, ha', hok', Hc⟩ => ⟨R', h, ⟨hp, ha', hok', hs.heal _ _⟩, H.callM Hc⟩
theorem a_rot (n : Int) (xs : List Int) (hx8 : xs.length = 8) (bits : Int) (hk : k < 1073741824) (hI : Is R p M k) (H : St w0 [] w (L ++ R.hp)) (hL : L64 w0) :
    Calls Tryd.prog 51 #[ptr p, .int .i64 n, arr xs, .int .i64 bits] w fun e w' => ∃ R', e = .returned (.int .i64 (M.rotErr n xs bits)) ∧ Is R' p (M.rot n xs bits) (k + 1) ∧ St w0 [] w' (L ++ R'.hp) := by
  have hm := hI.mem H hL
  have h1 := hI.evs
  obtain ⟨rfl, rfl, hok, hs⟩ := hI
  exact (rot_any R n xs hx8 bits (by omega) w hm).mono fun e w' ⟨R', h, hp, ha', hok', Hc⟩ => ⟨R', h, ⟨hp, ha', hok', hs.rot _ _ _⟩, H.callM Hc⟩
theorem a_crash (A0 : Option Addr) (m cap : Nat) (cuts : List (Int × Int)) (hmc : m = cuts.length) (hm63 : m ≤ 9223372036854775807) (hk : k ≤ 1073741824) (hI : Is R p M k) (H : St w0 [] w (L ++ R.hp)) (hL : L64 w0) (hc0 : CutsIn w A0 cuts (R.hp.map Prod.fst)) :
    Calls Tryd.prog 37 #[ptr p, .slice A0 m cap] w fun e w' => ∃ R', e = .returned (.int .i64 (if M.cutsOk cuts then 0 else 1)) ∧ Is R' p (M.crash cuts) k ∧ St w0 [] w' (L ++ R'.hp) := by
  have hm := hI.mem H hL
  have h2 := hI.ps
  obtain ⟨rfl, rfl, hok, hs⟩ := hI
  exact (crash_any R A0 m cap cuts hmc hm63 (fun x hx => Nat.le_trans (h2 x hx) hk) w hm (hL.of0 H) hc0).mono fun e w' ⟨R', h, hp, ha', hok', Hc⟩ => ⟨R', h, ⟨hp, ha', hok', hs.crash _⟩, H.callM Hc⟩
theorem a_copy (hk : k ≤ 1073741824) (hI : Is R p M k) (H : St w0 [] w (L ++ R.hp)) (hL : L64 w0) :
    Calls Tryd.prog 41 #[ptr p] w fun e w' => ∃ p2 R2, e = .returned (ptr p2) ∧ Is R2 p2 M k ∧ St w0 [] w' ((L ++ R.hp) ++ R2.hp) := by
  have hm := hI.mem H hL
  have h1 := hI.evs; have h2 := hI.ps
  obtain ⟨rfl, rfl, hok, hs⟩ := hI
  exact (copy_any R (by omega) (fun x hx => Nat.le_trans (h2 x hx) hk) w hm).mono fun e w' ⟨R2, h, ha, hok2, Hc⟩ => ⟨R2.p, R2, h, ⟨rfl, ha, hok2, hs⟩, (H.call Hc).perm List.perm_append_comm⟩
theorem a_image (hI : Is R p M k) (H : St w0 [] w (L ++ R.hp)) (hL : L64 w0) :
    Calls Tryd.prog 29 #[ptr p] w fun e w' => ∃ g, e = .returned (.slice (some ⟨g, 0, none⟩) M.ls.length M.ls.length) ∧ St w0 [] w' (((g, .cells (arrC (imgC M.ls)) 40) :: L) ++ R.hp) := by
  have hm := hI.mem H hL
  have hl := hI.len
  obtain ⟨rfl, rfl, hok, hs⟩ := hI
  rw [← hl]
  exact (image_any R w hm).mono fun e w' ⟨g, h, Hc⟩ => ⟨g, h, H.call Hc⟩
theorem a_seen (hI : Is R p M k) (H : St w0 [] w (L ++ R.hp)) (hL : L64 w0) :
    Calls Tryd.prog 34 #[ptr p] w fun e w' => ∃ g, e = .returned (.slice (some ⟨g, 0, none⟩) M.ls.length M.ls.length) ∧ St w0 [] w' (((g, .cells (arrC (seenC M.ls)) 38) :: L) ++ R.hp) := by
  have hm := hI.mem H hL
  have hl := hI.len
  obtain ⟨rfl, rfl, hok, hs⟩ := hI
  rw [← hl]
  exact (seen_any R w hm (hL.of0 H)).mono fun e w' ⟨g, h, Hc⟩ => ⟨g, h, H.call Hc⟩
theorem a_events (hk : k ≤ 1073741824) (hI : Is R p M k) (H : St w0 [] w (L ++ R.hp)) (hL : L64 w0) :
    Calls Tryd.prog 27 #[ptr p] w fun e w' => ∃ r : Row, e = .returned (r.val M.evs.length) ∧ r.ok 12 M.evs.length (flatE M.evs) ∧ St w0 [] w' ((r.hp 164 ++ L) ++ R.hp) := by
  have hm := hI.mem H hL
  have h1 := hI.evs
  obtain ⟨rfl, rfl, hok, hs⟩ := hI
  exact (events_any R (by omega) w hm).mono fun e w' ⟨r, h, hr, Hc⟩ => ⟨r, h, hr, by rw [List.append_assoc]; exact H.call Hc⟩
theorem a_pending (n : Int) (hk : k ≤ 1073741824) (hI : Is R p M k) (H : St w0 [] w (L ++ R.hp)) (hL : L64 w0) :
    Calls Tryd.prog 39 #[ptr p, .int .i64 n] w fun e w' => ∃ r : Row, e = .returned (r.val (M.pend n).length) ∧ r.ok 2 (M.pend n).length (flatP (M.pend n)) ∧ St w0 [] w' ((r.hp 111 ++ L) ++ R.hp) := by
  have hm := hI.mem H hL
  have h2 := hI.ps
  obtain ⟨rfl, rfl, hok, hs⟩ := hI
  exact (pending_any R n (fun x hx => Nat.le_trans (h2 x hx) hk) w hm).mono fun e w' ⟨r, h, hr, Hc⟩ => ⟨r, h, hr, by rw [List.append_assoc]; exact H.call Hc⟩
end
end Go.Proofs.YtkncbggnaobgeaaDoor

/- More for those who hold memories: made or not; images. -/
namespace Go.Proofs.YtkncbggnaobgeaaDoor
open Go.RowKit
set_option linter.unusedVariables false
set_option linter.unusedSimpArgs false
set_option maxRecDepth 100000

/-- The pointer to a memory, if there is one. -/
abbrev optr (o : Option (Nat × RM)) : Value := .pointer (o.map fun x => ⟨x.1, 0, none⟩)
/-- Lines without what is pending. -/
def bare (l : PL) : List Int × Int := (l.ws, l.c)
section
variable {w0 w : World} {L H : Hp} {R : RM} {p k : Nat} {M : PM}
theorem a_new_opt (n : Int) (H0 : St w0 [] w H) (hL : L64 w0) : Calls Tryd.prog 23 #[.int .i64 n] w fun e w' => ∃ o : Option (Nat × RM), e = .returned (optr o) ∧
    (((1 ≤ n ∧ n ≤ 4096) ∧ ∃ p R, o = some (p, R) ∧ Is R p (PM.fresh n.toNat) 0 ∧ St w0 [] w' (H ++ R.hp)) ∨ (¬ (1 ≤ n ∧ n ≤ 4096) ∧ o = none ∧ St w0 [] w' H)) := by
  refine (a_new n H0 hL).mono fun e w' h => ?_
  split at h
  · rename_i hn
    obtain ⟨p, R, rfl, hI, hs⟩ := h
    exact ⟨some (p, R), rfl, .inl ⟨hn, p, R, rfl, hI, hs⟩⟩
  · rename_i hn
    obtain ⟨rfl, hs⟩ := h
    exact ⟨none, rfl, .inr ⟨hn, rfl, hs⟩⟩
def PM.ofImg (imgs : List (List Int × Int)) : PM := { ls := imgs.map toPL, span := 0, evs := [] }
theorem imgOk_iff {imgs : List (List Int × Int)} : imgOk imgs = true ↔ (1 ≤ imgs.length ∧ imgs.length ≤ 4096) ∧ ∀ x ∈ imgs, isWords x.1 = true ∧ isCode x.2 = true := by
  simp [imgOk, Bool.and_eq_true, List.all_eq_true]
theorem a_from_opt (A : Option Addr) (m cap : Nat) (imgs : List (List Int × Int)) (hmi : m = imgs.length) (h8 : ∀ x ∈ imgs, x.1.length = 8) (himg : ImgIn w A imgs) (hm63 : m ≤ 1073741824) (H0 : St w0 [] w H) (hL : L64 w0) :
    Calls Tryd.prog 24 #[.slice A m cap] w fun e w' => ∃ o : Option (Nat × RM), e = .returned (optr o) ∧
    ((imgOk imgs = true ∧ ∃ p R, o = some (p, R) ∧ Is R p (PM.ofImg imgs) 0 ∧ St w0 [] w' (H ++ R.hp)) ∨ (imgOk imgs = false ∧ o = none ∧ St w0 [] w' H)) := by
  refine (from_any A m cap imgs hmi h8 w himg hm63).mono fun e w' h => ?_
  split at h
  · rename_i hn
    obtain ⟨p, lb, mb, rfl, Hc⟩ := h
    obtain ⟨hlen, hall⟩ := imgOk_iff.1 hn
    refine ⟨some (p, RM.fresh p lb mb (imgs.map toPL)), rfl, .inl ⟨hn, p, _, rfl, ⟨rfl, RM.fresh_abs _ _ _ _, RM.fresh_ok (by simpa using hlen) (fun l hl => ?_), ⟨Nat.le_refl _, fun l hl => ?_⟩⟩, (H0.call Hc).perm List.perm_append_comm⟩⟩
    · obtain ⟨x, hx, rfl⟩ := List.mem_map.1 hl
      exact ⟨⟨h8 x hx, (hall x hx).1, (hall x hx).2, Nat.le_refl _, fun p hp => by cases hp⟩, rfl⟩
    · obtain ⟨x, hx, rfl⟩ := List.mem_map.1 hl
      exact Nat.le_refl _
  · rename_i hn
    obtain ⟨rfl, hs⟩ := h
    exact ⟨none, rfl, .inr ⟨by simpa using hn, rfl, H0.call0 hs⟩⟩
theorem ofImg_bare (imgs : List (List Int × Int)) : (PM.ofImg imgs).ls.map bare = imgs := by
  simp [PM.ofImg, List.map_map, Function.comp_def, bare, toPL]
theorem St.dropR {S : List Nat} {X K : Hp} (H : St w0 S w ((X ++ L) ++ K)) : St w0 S w (L ++ K) := H.weaken (List.Sublist.append_right (List.sublist_append_right _ _) _)
theorem ImgIn.keep {A : Option Addr} {imgs : List (List Int × Int)} (h : ImgIn w0 A imgs) (H : St w0 [] w L) : ImgIn w A imgs := by
  rcases h with h | ⟨b, o, cs, t, fr, h1, h2, h3⟩
  · exact .inl h
  · exact .inr ⟨b, o, cs, t, fr, h1, H.oldBlock h2 (by simp), h3⟩
theorem flatI_bare (ls : List PL) : flatI (ls.map bare) = imgC ls := by
  unfold flatI imgC bare
  rw [List.flatMap_map]
theorem ImgIn.block {g : Nat} {t : TypeId} {ls : List PL} (h : w.heap[g]? = some (.cells (arrC (imgC ls)) t)) : ImgIn w (some ⟨g, 0, none⟩) (ls.map bare) := by
  refine .inr ⟨g, 0, _, t, _, rfl, h, fun j u hj => ?_⟩
  rw [flatI_bare] at hj
  rw [Nat.zero_add, arrC_get, hj]; rfl
theorem a_sameImage (A A2 : Option Addr) (m m2 cap cap2 : Nat) (imgs imgs2 : List (List Int × Int)) (hmi : m = imgs.length) (hmi2 : m2 = imgs2.length) (h8 : ∀ x ∈ imgs, x.1.length = 8) (h82 : ∀ x ∈ imgs2, x.1.length = 8) (himg : ImgIn w A imgs) (himg2 : ImgIn w A2 imgs2) (hm63 : m ≤ 1073741824) (H0 : St w0 [] w H) :
    Calls Tryd.prog 28 #[.slice A m cap, .slice A2 m2 cap2] w fun e w' => e = .returned (.bool (decide (imgs = imgs2))) ∧ St w0 [] w' H :=
  (sameImage_any A A2 m m2 cap cap2 imgs imgs2 hmi hmi2 h8 h82 w himg himg2 hm63).mono fun e w' ⟨h, Hc⟩ => ⟨h, H0.call0 Hc⟩
theorem a_right (A : Option Addr) (m cap : Nat) (imgs : List (List Int × Int)) (hmi : m = imgs.length) (h8 : ∀ x ∈ imgs, x.1.length = 8) (himg : ImgIn w A imgs) (hm63 : m ≤ 1073741824) (H0 : St w0 [] w H) :
    Calls Tryd.prog 25 #[.slice A m cap] w fun e w' => e = .returned (.bool (imgOk imgs)) ∧ St w0 [] w' H :=
  (right_any A m cap imgs hmi h8 w himg hm63).mono fun e w' ⟨h, Hc⟩ => ⟨h, H0.call0 Hc⟩
theorem Is.bare8 (hI : Is R p M k) : ∀ x ∈ M.ls.map bare, x.1.length = 8 := by
  intro x hx
  obtain ⟨l, hl, rfl⟩ := List.mem_map.1 hx
  exact (hI.lok l hl).1
end
end Go.Proofs.YtkncbggnaobgeaaDoor
