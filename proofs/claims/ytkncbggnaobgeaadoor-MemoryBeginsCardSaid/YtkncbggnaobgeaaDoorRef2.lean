/- Walks of functions of the program; printed by a program of this session (walk.py) out of hand-written hints. -/
import Derived.Test.YtkncbggnaobgeaaDoorEqs
namespace Go.Proofs.YtkncbggnaobgeaaDoor
open Go.RowKit
set_option linter.unusedVariables false
set_option linter.unusedSimpArgs false
set_option maxRecDepth 100000

theorem flds40 : FldsI Tryd.prog 9 (Tryd.prog.fieldsOf 40).toList [(0, 8), (8, 1)] := by
  unfold Program.fieldsOf
  rw [Tryd.underlying40]
  exact .agg (by decide) eqI38 ty38 (by decide) (.int (by decide) (by kernel_rfl) (by decide) .nil)
theorem flds111 : FldsI Tryd.prog 2 (Tryd.prog.fieldsOf 111).toList [(0, 1), (1, 1)] := by
  unfold Program.fieldsOf
  rw [Tryd.underlying111]
  exact .int (by decide) (by kernel_rfl) (by decide) (.int (by decide) (by kernel_rfl) (by decide) .nil)
theorem split_eq {xs ys : List Int} {a b : Nat} (hx : xs.length = a + b) (hy : ys.length = a + b) : ([(0, a), (a, b)].all fun s => (xs.drop s.1).take s.2 == (ys.drop s.1).take s.2) = (xs == ys) := by
  rw [Bool.eq_iff_iff]
  simp only [List.all_cons, List.all_nil, Bool.and_true, Bool.and_eq_true, beq_iff_eq, List.drop_zero]
  constructor
  · rintro ⟨h1, h2⟩
    rw [← List.take_append_drop a xs, ← List.take_append_drop a ys, h1]
    congr 1
    rw [List.take_of_length_le (by simp; omega), List.take_of_length_le (by simp; omega)] at h2
    exact h2
  · rintro rfl; exact ⟨rfl, rfl⟩
theorem eqI40 : EqI5 Tryd.prog 40 9 := eqI_struct (by unfold Program.fieldsOf; rw [Tryd.underlying40]) rfl (by kernel_rfl) flds40 (fun xs ys hx hy => split_eq (a := 8) (b := 1) hx hy)
theorem eqI111 : EqI5 Tryd.prog 111 2 := eqI_struct (by unfold Program.fieldsOf; rw [Tryd.underlying111]) rfl (by kernel_rfl) flds111 (fun xs ys hx hy => split_eq (a := 1) (b := 1) hx hy)
theorem take_eq_succ {α : Type} {xs ys : List α} {g : Nat} (h1 : g < xs.length) (h2 : g < ys.length) (h : xs.take g = ys.take g) (he : xs[g] = ys[g]) : xs.take (g + 1) = ys.take (g + 1) := by
  rw [List.take_add_one, List.take_add_one, List.getElem?_eq_getElem h1, List.getElem?_eq_getElem h2, h, he]
theorem img_inj {x y : List Int × Int} (h : x.1.length = y.1.length) (he : x.1 ++ [x.2] = y.1 ++ [y.2]) : x = y := by
  have := List.append_inj he h
  exact Prod.ext this.1 (by simpa using this.2)

theorem sameImage_any (A A2 : Option Addr) (m m2 cap cap2 : Nat) (imgs imgs2 : List (List Int × Int)) (hmi : m = imgs.length) (hmi2 : m2 = imgs2.length) (h8 : ∀ x ∈ imgs, x.1.length = 8) (h82 : ∀ x ∈ imgs2, x.1.length = 8) (w : World) (himg : ImgIn w A imgs) (himg2 : ImgIn w A2 imgs2) (hm63 : m ≤ 1073741824) : Calls Tryd.prog 28 #[.slice A m cap, .slice A2 m2 cap2] w fun e w' => e = .returned (.bool (decide (imgs = imgs2))) ∧ St w [] w' [] := by
  refine calls_walk_n (args := [.slice A m cap, .slice A2 m2 cap2]) Tryd.func28 rfl rfl rfl ?_
  have H := St.refl w
  refine WC.seq ?_
  refine WC.region ?_
  refine WL.assign rfl rfl ?_
  refine (WL.done (WX.next ?_))
  refine WC.seq ?_
  refine WC.seq ?_
  refine WC.region ?_
  refine WL.move rfl rfl ?_
  refine WL.lenSlc isl23 rfl rfl ?_
  refine WL.move rfl rfl ?_
  refine WL.lenSlc isl23 rfl rfl ?_
  refine WL.bin rfl rfl binv_neq rfl ?_
  refine (WL.done (WX.next ?_))
  first | refine WC.cond_dec rfl (fun c1 => ?_) (fun c1 => ?_) | refine WC.cond rfl (fun c1 => ?_) (fun c1 => ?_)
  · -- c1 T
    refine WC.seq ?_
    refine WC.region ?_
    refine WL.assign rfl rfl ?_
    refine (WL.done (WX.next ?_))
    refine (WC.ret (WX.then_ret ?_))
    refine ret_one rfl rfl ?_
    have hne : ¬ imgs = imgs2 := fun h => by rw [h] at hmi; omega
    rw [decide_eq_false hne]
    exact ⟨rfl, H⟩
  · -- c1 F
    have hmm : imgs.length = imgs2.length := by omega
    refine (WC.skip (WX.next ?_))
    refine WC.seq ?_
    refine WC.seq ?_
    refine WC.region ?_
    refine WL.assign rfl rfl ?_
    refine (WL.done (WX.next ?_))
    refine WC.block ?_
    -- loop 1: changed [5] kept [0, 1]
    refine WC.loop (Sub.cons (t := 0) rfl (Sub.cons (t := 1) rfl (Sub.nil _))) (fun i : Nat => [(5, .int .i64 (i : Int))]) (fun q i wx => q = m - i ∧ i ≤ m ∧ imgs.take i = imgs2.take i ∧ St w [] wx []) (m) (0) (Sub.cons (t := 5) (by first | rfl | simp) (Sub.nil _)) (⟨rfl, by omega, rfl, H⟩) ?_
    rintro k g wx hI N hN
    obtain ⟨rfl, hg, hall, H⟩ := hI
    refine WC.seq ?_
    refine WC.seq ?_
    refine WC.region ?_
    refine WL.move rfl rfl ?_
    refine WL.move rfl rfl ?_
    refine WL.lenSlc isl23 rfl rfl ?_
    refine WL.bin rfl rfl binv_lss rfl ?_
    refine (WL.done (WX.next ?_))
    first | refine WC.cond_dec rfl (fun c2 => ?_) (fun c2 => ?_) | refine WC.cond rfl (fun c2 => ?_) (fun c2 => ?_)
    · -- c2 T
      refine (WC.skip (WX.next ?_))
      refine WC.seq ?_
      refine WC.block ?_
      refine WC.seq ?_
      have hlt : g < imgs.length := by omega
      have hlt2 : g < imgs2.length := by omega
      have hx8 := h8 _ (List.getElem_mem hlt)
      have hx82 := h82 _ (List.getElem_mem hlt2)
      obtain ⟨b, o, cs, t, fr, rfl, hb, hcell⟩ := img_at himg h8 hlt
      obtain ⟨b2, o2, cs2, t2, fr2, rfl, hb2, hcell2⟩ := img_at himg2 h82 hlt2
      replace H := H.drew
      refine WC.held (SX (World.drew wx) []) (by kernel_rfl) ?_
      generalize World.drew wx = wb at H ⊢
      have HB := St.refl wb
      refine WH.take 0 rfl (by kernel_rfl) (by kernel_rfl) (by kernel_rfl) (fun _ _ _ h => h) ⟨_, HB⟩ (fun w' hS => EX.move rfl) rfl ?_
      refine WH.take 1 rfl (by kernel_rfl) (by kernel_rfl) (by kernel_rfl) (fun _ _ _ h => h) ⟨_, HB⟩ (fun w' hS => EX.move rfl) rfl ?_
      refine WH.take 2 rfl (by kernel_rfl) (by kernel_rfl) (by kernel_rfl) (fun _ _ _ h => h) ⟨_, HB⟩ (fun w' hS => EX.idxSlc (k := g) slc23 rfl rfl (by first | rfl | omega) (by omega)) rfl ?_
      first | refine WH.take 3 rfl (by kernel_rfl) (by kernel_rfl) (by kernel_rfl) (fun _ _ _ h => h) ⟨_, HB⟩ (fun w' hS => EX.load rfl (Rd.imgL ty40 (hS.block (H.oldBlock hb (by simp)) (by simp)) hx8 hcell)) rfl ?_
      refine WH.take 4 rfl (by kernel_rfl) (by kernel_rfl) (by kernel_rfl) (fun _ _ _ h => h) ⟨_, HB⟩ (fun w' hS => EX.move rfl) rfl ?_
      refine WH.take 5 rfl (by kernel_rfl) (by kernel_rfl) (by kernel_rfl) (fun _ _ _ h => h) ⟨_, HB⟩ (fun w' hS => EX.move rfl) rfl ?_
      refine WH.take 6 rfl (by kernel_rfl) (by kernel_rfl) (by kernel_rfl) (fun _ _ _ h => h) ⟨_, HB⟩ (fun w' hS => EX.idxSlc (k := g) slc23 rfl rfl (by first | rfl | omega) (by omega)) rfl ?_
      first | refine WH.take 7 rfl (by kernel_rfl) (by kernel_rfl) (by kernel_rfl) (fun _ _ _ h => h) ⟨_, HB⟩ (fun w' hS => EX.load rfl (Rd.imgL ty40 (hS.block (H.oldBlock hb2 (by simp)) (by simp)) hx82 hcell2)) rfl ?_
      refine WH.take 8 rfl (by kernel_rfl) (by kernel_rfl) (by kernel_rfl) (fun _ _ _ h => h) ⟨_, HB⟩ (fun w' hS => EX.bin rfl rfl (binv_agg_neq eqI40 (by kernel_rfl) (by simp [hx8]) (by simp [hx82]))) rfl ?_
      refine WH.done (by kernel_rfl) ?_
      replace H := H.call HB
      refine WX.next ?_
      first | refine WC.cond_dec rfl (fun c3 => ?_) (fun c3 => ?_) | refine WC.cond rfl (fun c3 => ?_) (fun c3 => ?_)
      · -- c3 T
        refine WC.seq ?_
        refine WC.region ?_
        refine WL.assign rfl rfl ?_
        refine (WL.done (WX.next ?_))
        refine (WC.ret (WX.block_ret (WX.then_ret (WX.then_ret (WX.block_ret (WX.then_ret ?_))))))
        refine ret_one rfl rfl ?_
        have hne : ¬ imgs = imgs2 := fun h => by subst h; simp at c3
        rw [decide_eq_false hne]
        exact ⟨rfl, H⟩
      · -- c3 F
        refine (WC.skip (WX.block_normal (WX.next ?_)))
        refine WC.region ?_
        refine WL.move rfl rfl ?_
        refine WL.bin rfl rfl (iadd (by omega) (by omega)) rfl ?_
        refine WL.assign rfl rfl ?_
        refine (WL.done (WX.round ?_))
        have heq : imgs[g] = imgs2[g] := img_inj (by rw [hx8, hx82]) (by simpa using c3)
        exact hN _ (g+1) _ _ (by omega) ⟨rfl, by omega, take_eq_succ hlt hlt2 hall heq, H⟩ (Sub.cons (t := 5) (by first | rfl | simp) (Sub.nil _)) (Sub.cons (t := 0) rfl (Sub.cons (t := 1) rfl (Sub.nil _)))
    · -- c2 F
      refine (WC.exit (WX.then_exit (WX.then_exit (WX.block_exit (WX.next ?_)))))
      refine WC.seq ?_
      refine WC.region ?_
      refine WL.assign rfl rfl ?_
      refine (WL.done (WX.next ?_))
      refine (WC.ret ?_)
      refine ret_one rfl rfl ?_
      have heq : imgs = imgs2 := by rw [List.take_of_length_le (by omega), List.take_of_length_le (by omega)] at hall; exact hall
      rw [decide_eq_true heq]
      exact ⟨rfl, H⟩

end Go.Proofs.YtkncbggnaobgeaaDoor
