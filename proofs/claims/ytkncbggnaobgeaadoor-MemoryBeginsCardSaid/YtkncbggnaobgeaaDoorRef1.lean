/- Walks of functions of the program; printed by a program of this session (walk.py) out of hand-written hints. -/
import Derived.Test.YtkncbggnaobgeaaDoorMem15
namespace Go.Proofs.YtkncbggnaobgeaaDoor
open Go.RowKit
set_option linter.unusedVariables false
set_option linter.unusedSimpArgs false
set_option maxRecDepth 100000

/-- An image that was handed over. -/
def ImgIn (w : World) (A : Option Addr) (imgs : List (List Int × Int)) : Prop := imgs = [] ∨ ∃ b o cs t fr, A = some ⟨b, o, none⟩ ∧ w.heap[b]? = some (.cells cs t fr) ∧ ∀ j u, (flatI imgs)[j]? = some u → cs[o + j]? = some (.int .i64 u)
theorem img_at {w : World} {A : Option Addr} {imgs : List (List Int × Int)} (h : ImgIn w A imgs) (h8 : ∀ x ∈ imgs, x.1.length = 8) {g : Nat} (hg : g < imgs.length) :
    ∃ b o cs t fr, A = some ⟨b, o, none⟩ ∧ w.heap[b]? = some (.cells cs t fr) ∧ ∀ j, j < 9 → cs[o + g * 9 + j]? = some (.int .i64 (((imgs[g]).1 ++ [(imgs[g]).2]).getD j 0)) := by
  have hx8 := h8 _ (List.getElem_mem hg)
  obtain ⟨b, o, cs, t, fr, rfl, hb, hcs⟩ : ∃ b o cs t fr, A = some ⟨b, o, none⟩ ∧ w.heap[b]? = some (.cells cs t fr) ∧ ∀ j u, (flatI imgs)[j]? = some u → cs[o + j]? = some (.int .i64 u) := by
    rcases h with h | h
    · rw [h] at hg; simp at hg
    · exact h
  refine ⟨b, o, cs, t, fr, rfl, hb, fun j hj => ?_⟩
  have h1 := flatI_get h8 hg hj
  have hlen : j < ((imgs[g]).1 ++ [(imgs[g]).2]).length := by simp [hx8]; omega
  rw [List.getElem?_eq_getElem hlen] at h1
  have h2 := hcs _ _ h1
  rw [← Nat.add_assoc] at h2
  rw [h2]
  simp [List.getD, List.getElem?_eq_getElem hlen]
section
variable {P : Program} {w : World} {T t : TypeId} {fr : Nat × Nat} {b o k : Nat} {cs : Array Value} {ws : List Int} {c : Int}
theorem Rd.imgW (hT : tyB P T true 8 = true) (hb : w.heap[b]? = some (.cells cs t fr)) (h8 : ws.length = 8) (h : ∀ j, j < 9 → cs[o + j]? = some (.int .i64 ((ws ++ [c]).getD j 0))) : Rd P w T ⟨b, o + 0, none⟩ (YtkncbggnaobgeaaDoor.arr ws) :=
  Rd.sub hT hb h8 (by omega) (fun j hj => by
    rw [Nat.add_zero, h j (by omega)]
    simp [List.getD, List.getElem?_append_left (show j < ws.length by omega)])
theorem Rd.imgC (hT : tyB P T false k = true) (hb : w.heap[b]? = some (.cells cs t fr)) (h8 : ws.length = 8) (h : ∀ j, j < 9 → cs[o + j]? = some (.int .i64 ((ws ++ [c]).getD j 0))) : Rd P w T ⟨b, o + 8, none⟩ (.int .i64 c) :=
  Rd.one hT (by rw [cell_of hb, h 8 (by omega)]; simp [List.getD, h8])
theorem Rd.imgL (hT : tyB P T true 9 = true) (hb : w.heap[b]? = some (.cells cs t fr)) (h8 : ws.length = 8) (h : ∀ j, j < 9 → cs[o + j]? = some (.int .i64 ((ws ++ [c]).getD j 0))) : Rd P w T ⟨b, o, none⟩ (YtkncbggnaobgeaaDoor.arr (ws ++ [c])) :=
  Rd.sub hT hb (by simp [h8]) (by omega) h
end

theorem refword_any (x : Int) (w : World) : Calls Tryd.prog 167 #[.int .i64 x] w fun e w' => e = .returned (.bool (isWord x)) ∧ w' = w := by
  refine calls_walk_n (args := [.int .i64 x]) Tryd.func167 rfl rfl rfl ?_
  refine WC.seq ?_
  refine WC.region ?_
  refine WL.assign rfl rfl ?_
  refine (WL.done (WX.next ?_))
  refine WC.seq ?_
  refine WC.region ?_
  refine WL.move rfl rfl ?_
  refine WL.bin rfl rfl binv_geq rfl ?_
  refine WL.move rfl rfl ?_
  first | refine WL.splitD (t := 5) rfl (fun g1 => ?_) (fun g1 => ?_) | refine WL.split (t := 5) rfl (fun g1 => ?_) (fun g1 => ?_)
  · -- g1 True
    refine WL.yes rfl rfl ?_
    refine WL.move rfl rfl ?_
    refine WL.yes rfl rfl ?_
    refine WL.bin rfl rfl binv_leq rfl ?_
    refine WL.pickT rfl rfl rfl ?_
    refine WL.assign rfl rfl ?_
    refine (WL.done (WX.next ?_))
    refine (WC.ret ?_)
    refine ret_one rfl rfl ?_
    exact ⟨by simp [isWord, g1], rfl⟩
  · -- g1 False
    refine WL.no rfl rfl rfl ?_
    refine WL.no rfl rfl rfl ?_
    refine WL.pickF rfl rfl rfl ?_
    refine WL.assign rfl rfl ?_
    refine (WL.done (WX.next ?_))
    refine (WC.ret ?_)
    refine ret_one rfl rfl ?_
    exact ⟨by simp [isWord, g1], rfl⟩

theorem refwords_any (ws : List Int) (h8 : ws.length = 8) (w : World) : Calls Tryd.prog 99 #[arr ws] w fun e w' => e = .returned (.bool (isWords ws)) ∧ St w [] w' [] := by
  refine calls_walk_n (args := [arr ws]) Tryd.func99 rfl rfl rfl ?_
  have H := St.refl w
  refine WC.seq ?_
  refine WC.region ?_
  refine WL.boxArr H rfl rfl ?_
  intro b1 wx hb1 hge1 H
  refine WL.assign rfl rfl ?_
  refine (WL.done (WX.next ?_))
  refine WC.seq ?_
  refine WC.seq ?_
  refine WC.region ?_
  refine WL.assign rfl rfl ?_
  refine (WL.done (WX.next ?_))
  refine WC.block ?_
  -- loop 1: changed [3] kept [1]
  refine WC.loop (Sub.cons (t := 1) rfl (Sub.nil _)) (fun i : Nat => [(3, .int .i64 (i : Int))]) (fun q i wx => q = 8 - i ∧ i ≤ 8 ∧ (ws.take i).all isWord = true ∧ St w [] wx [(b1, .cells (arrC ws) 38)]) (8) (0) (Sub.cons (t := 3) (by first | rfl | simp) (Sub.nil _)) (⟨rfl, by omega, by simp, H⟩) ?_
  rintro k g wx hI N hN
  obtain ⟨rfl, hg, hall, H⟩ := hI
  refine WC.seq ?_
  refine WC.seq ?_
  refine WC.region ?_
  refine WL.move rfl rfl ?_
  refine WL.bin rfl rfl binv_lss rfl ?_
  refine (WL.done (WX.next ?_))
  first | refine WC.cond_dec rfl (fun c1 => ?_) (fun c1 => ?_) | refine WC.cond rfl (fun c1 => ?_) (fun c1 => ?_)
  · -- c1 T
    refine (WC.skip (WX.next ?_))
    refine WC.seq ?_
    refine WC.block ?_
    refine WC.seq ?_
    refine WC.region ?_
    refine WL.move rfl rfl ?_
    refine WL.idxArr (k := g) arr38 rfl rfl (by first | rfl | omega) (by omega) rfl ?_
    first | refine WL.load rfl (H.rdElt ty3 0 rfl (by omega)) rfl ?_
    refine WL.call call167 rfl rfl ?_
    refine Calls.mono (refword_any _ _) ?_
    rintro _ wx ⟨rfl, rfl⟩
    refine ⟨_, rfl, ?_⟩
    refine WL.notOp rfl rfl ?_
    refine (WL.done (WX.next ?_))
    first | refine WC.cond_dec rfl (fun c2 => ?_) (fun c2 => ?_) | refine WC.cond rfl (fun c2 => ?_) (fun c2 => ?_)
    · -- c2 T
      refine WC.seq ?_
      refine WC.region ?_
      refine WL.assign rfl rfl ?_
      refine (WL.done (WX.next ?_))
      refine (WC.ret (WX.block_ret (WX.then_ret (WX.then_ret (WX.block_ret (WX.then_ret ?_))))))
      refine ret_one rfl rfl ?_
      have h : isWords ws = false := all_false_of (g := g) (by omega) (by have h := c2; simp only [Nat.zero_add, Nat.mul_one] at h; simpa using h)
      rw [h]; exact ⟨rfl, H.tail⟩
    · -- c2 F
      refine (WC.skip (WX.block_normal (WX.next ?_)))
      refine WC.region ?_
      refine WL.move rfl rfl ?_
      refine WL.bin rfl rfl (iadd (by omega) (by omega)) rfl ?_
      refine WL.assign rfl rfl ?_
      refine (WL.done (WX.round ?_))
      exact hN _ (g+1) _ _ (by omega) ⟨rfl, by omega, take_all_succ (by omega) hall (by have h := c2; simp only [Nat.zero_add, Nat.mul_one] at h; simpa using h), H⟩ (Sub.cons (t := 3) (by first | rfl | simp) (Sub.nil _)) (Sub.cons (t := 1) rfl (Sub.nil _))
  · -- c1 F
    refine (WC.exit (WX.then_exit (WX.then_exit (WX.block_exit (WX.next ?_)))))
    refine WC.seq ?_
    refine WC.region ?_
    refine WL.assign rfl rfl ?_
    refine (WL.done (WX.next ?_))
    refine (WC.ret ?_)
    refine ret_one rfl rfl ?_
    have h : isWords ws = true := by
      have e : g = ws.length := by omega
      rw [e] at hall
      exact all_of_take hall
    rw [h]; exact ⟨rfl, H.tail⟩

theorem right_any (A : Option Addr) (m cap : Nat) (imgs : List (List Int × Int)) (hmi : m = imgs.length) (h8 : ∀ x ∈ imgs, x.1.length = 8) (w : World) (himg : ImgIn w A imgs) (hm63 : m ≤ 1073741824) : Calls Tryd.prog 25 #[.slice A m cap] w fun e w' => e = .returned (.bool (imgOk imgs)) ∧ St w [] w' [] := by
  refine calls_walk_n (args := [.slice A m cap]) Tryd.func25 rfl rfl rfl ?_
  have H := St.refl w
  refine WC.seq ?_
  refine WC.region ?_
  refine WL.assign rfl rfl ?_
  refine (WL.done (WX.next ?_))
  refine WC.seq ?_
  refine WC.seq ?_
  refine WC.region ?_
  refine WL.assign rfl rfl ?_
  refine (WL.done (WX.next ?_))
  refine WC.block ?_
  -- loop 1: changed [3] kept [0]
  refine WC.loop (Sub.cons (t := 0) rfl (Sub.nil _)) (fun i : Nat => [(3, .int .i64 (i : Int))]) (fun q i wx => q = m - i ∧ i ≤ m ∧ ((imgs.take i).all fun x => isWords x.1 && isCode x.2) = true ∧ St w [] wx []) (m) (0) (Sub.cons (t := 3) (by first | rfl | simp) (Sub.nil _)) (⟨rfl, by omega, by simp, H⟩) ?_
  rintro k g wx hI N hN
  obtain ⟨rfl, hg, hall, H⟩ := hI
  refine WC.seq ?_
  refine WC.seq ?_
  refine WC.region ?_
  refine WL.move rfl rfl ?_
  refine WL.move rfl rfl ?_
  refine WL.lenSlc isl23 rfl rfl ?_
  refine WL.bin rfl rfl binv_lss rfl ?_
  refine (WL.done (WX.next ?_))
  first | refine WC.cond_dec rfl (fun c1 => ?_) (fun c1 => ?_) | refine WC.cond rfl (fun c1 => ?_) (fun c1 => ?_)
  · -- c1 T
    refine (WC.skip (WX.next ?_))
    refine WC.seq ?_
    refine WC.block ?_
    refine WC.seq ?_
    refine WC.region ?_
    have hlt : g < imgs.length := by omega
    have hx8 := h8 _ (List.getElem_mem hlt)
    obtain ⟨b, o, cs, t, fr, rfl, hb, hcell⟩ := img_at himg h8 hlt
    refine WL.move rfl rfl ?_
    refine WL.move rfl rfl ?_
    refine WL.idxSlc (k := g) slc23 rfl rfl (by first | rfl | omega) (by omega) rfl ?_
    refine WL.fieldAddr fld40_0 rfl rfl ?_
    first | refine WL.load rfl (Rd.imgW ty38 (H.oldBlock hb (by simp)) hx8 hcell) rfl ?_
    refine WL.call call99 rfl rfl ?_
    refine Calls.mono (refwords_any (imgs[g]).1 hx8 _) ?_
    rintro _ wx ⟨rfl, Hc⟩
    refine ⟨_, rfl, ?_⟩
    replace H := H.call0 Hc
    refine WL.notOp rfl rfl ?_
    refine WL.move rfl rfl ?_
    first | refine WL.splitD (t := 17) rfl (fun g1 => ?_) (fun g1 => ?_) | refine WL.split (t := 17) rfl (fun g1 => ?_) (fun g1 => ?_)
    · -- g1 True
      refine WL.no rfl rfl rfl ?_
      refine WL.no rfl rfl rfl ?_
      refine WL.no rfl rfl rfl ?_
      refine WL.no rfl rfl rfl ?_
      refine WL.no rfl rfl rfl ?_
      refine WL.no rfl rfl rfl ?_
      refine WL.pickT rfl rfl rfl ?_
      refine WL.move rfl rfl ?_
      refine WL.no rfl rfl rfl ?_
      refine WL.no rfl rfl rfl ?_
      refine WL.no rfl rfl rfl ?_
      refine WL.no rfl rfl rfl ?_
      refine WL.no rfl rfl rfl ?_
      refine WL.no rfl rfl rfl ?_
      refine WL.pickT rfl rfl rfl ?_
      refine (WL.done (WX.next ?_))
      refine WC.cond_true rfl (rfl) ?_
      refine WC.seq ?_
      refine WC.region ?_
      refine WL.assign rfl rfl ?_
      refine (WL.done (WX.next ?_))
      refine (WC.ret (WX.block_ret (WX.then_ret (WX.then_ret (WX.block_ret (WX.then_ret ?_))))))
      refine ret_one rfl rfl ?_
      have hw : isWords (imgs[g]).1 = false := by simpa only [Bool.not_eq_true'] using g1
      have e1 : imgOk imgs = false := by simpa using imgOk_bad hlt (by rw [hw]; rfl)
      rw [e1]
      exact ⟨rfl, H⟩
    · -- g1 False
      refine WL.yes rfl rfl ?_
      refine WL.move rfl rfl ?_
      refine WL.yes rfl rfl ?_
      refine WL.move rfl rfl ?_
      refine WL.yes rfl rfl ?_
      refine WL.idxSlc (k := g) slc23 rfl rfl (by first | rfl | omega) (by omega) rfl ?_
      refine WL.yes rfl rfl ?_
      refine WL.fieldAddr fld40_1 rfl rfl ?_
      refine WL.yes rfl rfl ?_
      first | refine WL.load rfl (Rd.imgC ty3 (H.oldBlock hb (by simp)) hx8 hcell) rfl ?_
      refine WL.yes rfl rfl ?_
      refine WL.bin rfl rfl binv_lss rfl ?_
      refine WL.pickF rfl rfl rfl ?_
      refine WL.move rfl rfl ?_
      first | refine WL.splitD (t := 25) rfl (fun g2 => ?_) (fun g2 => ?_) | refine WL.split (t := 25) rfl (fun g2 => ?_) (fun g2 => ?_)
      · -- g2 True
        refine WL.no rfl rfl rfl ?_
        refine WL.no rfl rfl rfl ?_
        refine WL.no rfl rfl rfl ?_
        refine WL.no rfl rfl rfl ?_
        refine WL.no rfl rfl rfl ?_
        refine WL.no rfl rfl rfl ?_
        refine WL.pickT rfl rfl rfl ?_
        refine (WL.done (WX.next ?_))
        refine WC.cond_true rfl (rfl) ?_
        refine WC.seq ?_
        refine WC.region ?_
        refine WL.assign rfl rfl ?_
        refine (WL.done (WX.next ?_))
        refine (WC.ret (WX.block_ret (WX.then_ret (WX.then_ret (WX.block_ret (WX.then_ret ?_))))))
        refine ret_one rfl rfl ?_
        have e1 : imgOk imgs = false := by simpa using imgOk_bad hlt (by rw [isCode_no (by omega), Bool.and_false])
        rw [e1]
        exact ⟨rfl, H⟩
      · -- g2 False
        refine WL.yes rfl rfl ?_
        refine WL.move rfl rfl ?_
        refine WL.yes rfl rfl ?_
        refine WL.move rfl rfl ?_
        refine WL.yes rfl rfl ?_
        refine WL.idxSlc (k := g) slc23 rfl rfl (by first | rfl | omega) (by omega) rfl ?_
        refine WL.yes rfl rfl ?_
        refine WL.fieldAddr fld40_1 rfl rfl ?_
        refine WL.yes rfl rfl ?_
        first | refine WL.load rfl (Rd.imgC ty3 (H.oldBlock hb (by simp)) hx8 hcell) rfl ?_
        refine WL.yes rfl rfl ?_
        refine WL.bin rfl rfl binv_gtr rfl ?_
        refine WL.pickF rfl rfl rfl ?_
        refine (WL.done (WX.next ?_))
        first | refine WC.cond_dec rfl (fun c4 => ?_) (fun c4 => ?_) | refine WC.cond rfl (fun c4 => ?_) (fun c4 => ?_)
        · -- c4 T
          refine WC.seq ?_
          refine WC.region ?_
          refine WL.assign rfl rfl ?_
          refine (WL.done (WX.next ?_))
          refine (WC.ret (WX.block_ret (WX.then_ret (WX.then_ret (WX.block_ret (WX.then_ret ?_))))))
          refine ret_one rfl rfl ?_
          have e1 : imgOk imgs = false := by simpa using imgOk_bad hlt (by rw [isCode_no (by omega), Bool.and_false])
          rw [e1]
          exact ⟨rfl, H⟩
        · -- c4 F
          refine (WC.skip (WX.block_normal (WX.next ?_)))
          refine WC.region ?_
          refine WL.move rfl rfl ?_
          refine WL.bin rfl rfl (iadd (by omega) (by omega)) rfl ?_
          refine WL.assign rfl rfl ?_
          refine (WL.done (WX.round ?_))
          have hgood : (isWords (imgs[g]).1 && isCode (imgs[g]).2) = true := by
            rw [Bool.and_eq_true]
            exact ⟨by simpa only [Bool.not_eq_false'] using g1, isCode_iff.2 (by omega)⟩
          exact hN _ (g+1) _ _ (by omega) ⟨rfl, by omega, by rw [List.take_add_one, List.getElem?_eq_getElem hlt, List.all_append, hall]; simpa using hgood, H⟩ (Sub.cons (t := 3) (by first | rfl | simp) (Sub.nil _)) (Sub.cons (t := 0) rfl (Sub.nil _))
  · -- c1 F
    refine (WC.exit (WX.then_exit (WX.then_exit (WX.block_exit (WX.next ?_)))))
    refine WC.seq ?_
    refine WC.region ?_
    refine WL.move rfl rfl ?_
    refine WL.lenSlc isl23 rfl rfl ?_
    refine WL.bin rfl rfl binv_geq rfl ?_
    refine WL.move rfl rfl ?_
    first | refine WL.splitD (t := 36) rfl (fun g3 => ?_) (fun g3 => ?_) | refine WL.split (t := 36) rfl (fun g3 => ?_) (fun g3 => ?_)
    · -- g3 True
      refine WL.yes rfl rfl ?_
      refine WL.move rfl rfl ?_
      refine WL.yes rfl rfl ?_
      refine WL.lenSlc isl23 rfl rfl ?_
      refine WL.yes rfl rfl ?_
      refine WL.bin rfl rfl binv_leq rfl ?_
      refine WL.pickT rfl rfl rfl ?_
      refine WL.assign rfl rfl ?_
      refine (WL.done (WX.next ?_))
      refine (WC.ret ?_)
      refine ret_one rfl rfl ?_
      obtain rfl : g = m := by omega
      rw [List.take_of_length_le (by omega)] at hall
      refine ⟨?_, H⟩
      unfold imgOk
      rw [hall, Bool.and_true, ← hmi]
      have e1 : decide (1 ≤ g) = true := by simp; omega
      rw [e1, Bool.true_and]
      congr 2
      simp
      omega
    · -- g3 False
      refine WL.no rfl rfl rfl ?_
      refine WL.no rfl rfl rfl ?_
      refine WL.no rfl rfl rfl ?_
      refine WL.pickF rfl rfl rfl ?_
      refine WL.assign rfl rfl ?_
      refine (WL.done (WX.next ?_))
      refine (WC.ret ?_)
      refine ret_one rfl rfl ?_
      obtain rfl : g = m := by omega
      have e1 : imgOk imgs = false := by simpa using imgOk_len (imgs := imgs) (by omega)
      rw [e1]
      exact ⟨rfl, H⟩

end Go.Proofs.YtkncbggnaobgeaaDoor
