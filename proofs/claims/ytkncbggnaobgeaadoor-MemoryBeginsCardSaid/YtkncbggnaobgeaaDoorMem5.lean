/- Walks of functions of the program; printed by a program of this session (walk.py) out of hand-written hints. -/
import Derived.Test.YtkncbggnaobgeaaDoorModb
namespace Go.Proofs.YtkncbggnaobgeaaDoor
open Go.RowKit
set_option linter.unusedVariables false
set_option linter.unusedSimpArgs false
set_option maxRecDepth 100000

theorem Row.val_cells (r : Row) (n : Nat) : (r.val n).cells.toList = [r.val n] := by cases r <;> rfl
theorem Row.val_size (r : Row) (n : Nat) : (r.val n).cells.size = 1 := by cases r <;> rfl
theorem Row.val_one (r : Row) (n : Nat) : ∀ u ∈ (r.val n).cells.toList, u.oneCell' = true := by
  rw [Row.val_cells]; intro u hu; simp only [List.mem_singleton] at hu; subst hu; cases r <;> rfl

theorem note_any (R : RM) (v : List Int) (hv : v.length = 12) (hsm : R.evs.length < 1073741824) (w : World) (hok : R.ok) (H : St w (R.hp.map Prod.fst) w R.hp) : Calls Tryd.prog 106 #[.pointer (some ⟨R.p, 0, none⟩), arr v] w fun e w' => ∃ er, e = .returned (.tuple #[]) ∧ (R.noted v er).ok ∧ St w (R.hp.map Prod.fst) w' (R.noted v er).hp := by
  refine calls_walk_n (args := [.pointer (some ⟨R.p, 0, none⟩), arr v]) Tryd.func106 rfl rfl rfl ?_
  refine WC.seq ?_
  refine WC.region ?_
  refine WL.boxArr H rfl rfl ?_
  intro b3 wx hb3 hge3 H
  refine (WL.done (WX.next ?_))
  replace H := H.drew
  refine WC.held (SX (World.drew wx) (R.hp.map Prod.fst)) (by kernel_rfl) ?_
  generalize World.drew wx = wb at H ⊢
  have hb3n : b3 ∉ R.hp.map Prod.fst := (List.nodup_cons.1 H.nd).1
  have HB : St wb (R.hp.map Prod.fst) wb R.hp := St.start H.tail.nd H.tail.sat
  refine WH.take 0 rfl (by kernel_rfl) (by kernel_rfl) (by kernel_rfl) (fun _ _ _ h => h) ⟨_, HB⟩ (fun w' hS => EX.move rfl) rfl ?_
  refine WH.take 1 rfl (by kernel_rfl) (by kernel_rfl) (by kernel_rfl) (fun _ _ _ h => h) ⟨_, HB⟩ (fun w' hS => EX.move rfl) rfl ?_
  refine WH.take 2 rfl (by kernel_rfl) (by kernel_rfl) (by kernel_rfl) (fun _ _ _ h => h) ⟨_, HB⟩ (fun w' hS => EX.nilCheck rfl) rfl ?_
  refine WH.take 3 rfl (by kernel_rfl) (by kernel_rfl) (by kernel_rfl) (fun _ _ _ h => h) ⟨_, HB⟩ (fun w' hS => EX.fieldAddr fld161_3 rfl) rfl ?_
  first | refine WH.take 5 rfl (by kernel_rfl) (by kernel_rfl) (by kernel_rfl) (fun _ _ _ h => h) ⟨_, HB⟩ (fun w' hS => EX.load rfl (hS.rdArr ty164 (H.blk 0 rfl) hb3n hv)) rfl ?_
  refine WH.hard2 4 6 rfl rfl (by kernel_rfl) ?_ ?_
  · -- op 4 first
    first | refine WL.load rfl (HB.rd1 ty30 0 rfl rfl) rfl ?_ | refine WL.load rfl (HB.rd1 ty30 1 rfl rfl) rfl ?_
    refine WL.done (WX.heldOn ⟨_, HB⟩ ?_)
    refine WH.hard 6 rfl (by kernel_rfl) ?_
    refine WL.buildSlice1 HB Tryd.underlying30 (sz := 12) (by simp only [Tryd.underlying164]; exact ty164) (by omega) zer164 rfl rfl (by rw [arr_cells, arrC_size]; exact hv) rfl ?_
    intro g wx hg hgg HB
    refine WL.done (WX.heldOn ⟨_, HB⟩ ?_)
    refine WH.hard 7 rfl (by kernel_rfl) ?_
    replace HB := St.pull4 (M := R.er.hp 164) (K := pendHp R.X) HB
    refine WL.append (m := 1) (news := intsC v) app30 HB hok.er rfl rfl (by simp [intsC, hv]) (fun j u hj => by rw [addr_add, cell_of (HB.sat _ (List.mem_append_right _ List.mem_cons_self)), arr_cells, arrC_ints, Nat.zero_add]; simpa using hj) (intsC_one v) (by simp only [maxLen]; omega) (by omega) rfl ?_
    intro r' wx hr' HB
    replace HB := St.put4 HB
    refine WL.done (WX.heldOn ⟨_, HB⟩ ?_)
    refine WH.take 8 rfl (by kernel_rfl) (by kernel_rfl) (by kernel_rfl) (fun _ _ _ h => h) ⟨_, HB⟩ (fun w' hS => EX.nilCheck rfl) rfl ?_
    refine WH.take 9 rfl (by kernel_rfl) (by kernel_rfl) (by kernel_rfl) (fun _ _ _ h => h) ⟨_, HB⟩ (fun w' hS => EX.fieldAddr fld161_3 rfl) rfl ?_
    refine WH.hard 10 rfl (by kernel_rfl) ?_
    refine WL.storeAt HB ty30 1 rfl rfl rfl (Row.val_size _ _) (Row.val_one _ _) (Nat.le_refl 4) ?_
    intro wx HB
    replace HB := HB.castH (H' := (g, .cells (arr v).cells 164) :: (R.noted v r').hp) (by
      rw [Row.val_cells]
      unfold RM.hp structO
      rw [show (R.noted v r').evs.length = R.evs.length + 1 from by simp [RM.noted]]
      rfl)
    refine WL.done (WX.heldOn ⟨_, HB⟩ ?_)
    refine WH.done (by kernel_rfl) ?_
    replace H := H.callM (L := [(b3, Obj.cells (arrC v) 164)]) (M := R.hp) HB
    replace H : St w (R.hp.map Prod.fst) wx (R.noted v r').hp := H.weaken (List.sublist_append_right [(b3, Obj.cells (arrC v) 164), (g, Obj.cells (arr v).cells 164)] _)
    refine end_none rfl ?_
    have e1 : flatE (R.evs ++ [v]) = flatE R.evs ++ intsC v := by rw [flatE_append]; simp [flatE]
    exact ⟨r', rfl, hok.noted hv (by rw [e1]; exact hr'), H⟩
  · -- op 6 first
    refine WL.buildSlice1 HB Tryd.underlying30 (sz := 12) (by simp only [Tryd.underlying164]; exact ty164) (by omega) zer164 rfl rfl (by rw [arr_cells, arrC_size]; exact hv) rfl ?_
    intro g wx hg hgg HB
    refine WL.done (WX.heldOn ⟨_, HB⟩ ?_)
    refine WH.hard 4 rfl (by kernel_rfl) ?_
    first | refine WL.load rfl (HB.rd1 ty30 0 rfl rfl) rfl ?_ | refine WL.load rfl (HB.rd1 ty30 1 rfl rfl) rfl ?_
    refine WL.done (WX.heldOn ⟨_, HB⟩ ?_)
    refine WH.hard 7 rfl (by kernel_rfl) ?_
    replace HB := St.pull4 (M := R.er.hp 164) (K := pendHp R.X) HB
    refine WL.append (m := 1) (news := intsC v) app30 HB hok.er rfl rfl (by simp [intsC, hv]) (fun j u hj => by rw [addr_add, cell_of (HB.sat _ (List.mem_append_right _ List.mem_cons_self)), arr_cells, arrC_ints, Nat.zero_add]; simpa using hj) (intsC_one v) (by simp only [maxLen]; omega) (by omega) rfl ?_
    intro r' wx hr' HB
    replace HB := St.put4 HB
    refine WL.done (WX.heldOn ⟨_, HB⟩ ?_)
    refine WH.take 8 rfl (by kernel_rfl) (by kernel_rfl) (by kernel_rfl) (fun _ _ _ h => h) ⟨_, HB⟩ (fun w' hS => EX.nilCheck rfl) rfl ?_
    refine WH.take 9 rfl (by kernel_rfl) (by kernel_rfl) (by kernel_rfl) (fun _ _ _ h => h) ⟨_, HB⟩ (fun w' hS => EX.fieldAddr fld161_3 rfl) rfl ?_
    refine WH.hard 10 rfl (by kernel_rfl) ?_
    refine WL.storeAt HB ty30 1 rfl rfl rfl (Row.val_size _ _) (Row.val_one _ _) (Nat.le_refl 4) ?_
    intro wx HB
    replace HB := HB.castH (H' := (g, .cells (arr v).cells 164) :: (R.noted v r').hp) (by
      rw [Row.val_cells]
      unfold RM.hp structO
      rw [show (R.noted v r').evs.length = R.evs.length + 1 from by simp [RM.noted]]
      rfl)
    refine WL.done (WX.heldOn ⟨_, HB⟩ ?_)
    refine WH.done (by kernel_rfl) ?_
    replace H := H.callM (L := [(b3, Obj.cells (arrC v) 164)]) (M := R.hp) HB
    replace H : St w (R.hp.map Prod.fst) wx (R.noted v r').hp := H.weaken (List.sublist_append_right [(b3, Obj.cells (arrC v) 164), (g, Obj.cells (arr v).cells 164)] _)
    refine end_none rfl ?_
    have e1 : flatE (R.evs ++ [v]) = flatE R.evs ++ intsC v := by rw [flatE_append]; simp [flatE]
    exact ⟨r', rfl, hok.noted hv (by rw [e1]; exact hr'), H⟩

end Go.Proofs.YtkncbggnaobgeaaDoor
