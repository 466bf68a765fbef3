/- Walks of functions of the program; printed by a program of this session (walk.py) out of hand-written hints. -/
import Derived.Test.YtkncbggnaobgeaaDoorMem9
namespace Go.Proofs.YtkncbggnaobgeaaDoor
open Go.RowKit
set_option linter.unusedVariables false
set_option linter.unusedSimpArgs false
set_option maxRecDepth 100000

theorem seen_any (R : RM) (w : World) (hm : MemIn w R) (hL : L64 w) : Calls Tryd.prog 34 #[.pointer (some ⟨R.p, 0, none⟩)] w fun e w' => ∃ g, e = .returned (.slice (some ⟨g, 0, none⟩) R.X.length R.X.length) ∧ St w [] w' [(g, .cells (arrC (seenC R.abs.ls)) 38)] := by
  refine calls_walk_n (args := [.pointer (some ⟨R.p, 0, none⟩)]) Tryd.func34 rfl rfl rfl ?_
  have H := hm.start
  have hlen := hm.ok.len
  have h8s := RM.l8s hm.ok
  have h3lt : 3 < w.heap.size := by obtain ⟨t, fr, h⟩ := hL; exact lt_of_some h
  refine WC.seq ?_
  refine WC.region ?_
  refine WL.assign rfl rfl ?_
  refine (WL.done (WX.next ?_))
  refine WC.seq ?_
  refine WC.region ?_
  refine WL.move rfl rfl ?_
  first | refine WL.nilCheck rfl rfl ?_ | refine WL.nilCheckFn rfl rfl ?_
  refine WL.fieldAddr fld161_0 rfl rfl ?_
  first | refine WL.load rfl (H.rd1 ty156 0 rfl rfl) rfl ?_ | refine WL.load rfl (H.rd1 ty156 1 rfl rfl) rfl ?_ | refine WL.load rfl (H.rd1 ty156 2 rfl rfl) rfl ?_ | refine WL.load rfl (H.rdA ty156 0 rfl (by decide)) rfl ?_ | refine WL.load rfl (H.rdA ty156 1 rfl (by decide)) rfl ?_ | refine WL.load rfl (H.rdA ty156 2 rfl (by decide)) rfl ?_
  refine WL.lenSlc isl156 rfl rfl ?_
  refine WL.makeS H app45 zer38' rfl rfl rfl rfl (by omega) (by omega) rfl ?_
  intro g wx hg hgg H
  rw [madeCells_zero (by omega)] at H
  refine WL.assign rfl rfl ?_
  refine (WL.done (WX.next ?_))
  refine WC.seq ?_
  refine WC.seq ?_
  refine WC.region ?_
  refine WL.move rfl rfl ?_
  first | refine WL.nilCheck rfl rfl ?_ | refine WL.nilCheckFn rfl rfl ?_
  refine WL.fieldAddr fld161_0 rfl rfl ?_
  first | refine WL.load rfl (H.rd1 ty156 0 rfl rfl) rfl ?_ | refine WL.load rfl (H.rd1 ty156 1 rfl rfl) rfl ?_ | refine WL.load rfl (H.rd1 ty156 2 rfl rfl) rfl ?_ | refine WL.load rfl (H.rdA ty156 0 rfl (by decide)) rfl ?_ | refine WL.load rfl (H.rdA ty156 1 rfl (by decide)) rfl ?_ | refine WL.load rfl (H.rdA ty156 2 rfl (by decide)) rfl ?_
  refine WL.lenSlc isl156 rfl rfl ?_
  refine WL.move rfl rfl ?_
  refine (WL.done (WX.next ?_))
  refine WC.block ?_
  -- loop 1: changed [16] kept [0, 3, 15]
  obtain ⟨g0, hg0⟩ : ∃ g0, g0 = g := ⟨_, rfl⟩
  subst hg0
  refine WC.loop (Sub.cons (t := 0) rfl (Sub.cons (t := 3) rfl (Sub.cons (t := 15) rfl (Sub.nil _)))) (fun i : Nat => [(16, .int .i64 (i : Int))]) (fun q i wx => q = R.X.length - i ∧ i ≤ R.X.length ∧ St w (R.hp.map Prod.fst) wx ((g0, .cells (arrC (seenC (R.abs.ls.take i) ++ List.replicate ((R.X.length - i) * 8) 0)) 38) :: R.hp)) (R.X.length) (0) (Sub.cons (t := 16) (by first | rfl | simp) (Sub.nil _)) (⟨rfl, by omega, H⟩) ?_
  rintro k g wx hI N hN
  obtain ⟨rfl, hg, H⟩ := hI
  refine WC.seq ?_
  refine WC.region ?_
  refine WL.bin rfl rfl binv_lss rfl ?_
  refine (WL.done (WX.next ?_))
  refine WC.seq ?_
  first | refine WC.cond_dec rfl (fun c1 => ?_) (fun c1 => ?_) | refine WC.cond rfl (fun c1 => ?_) (fun c1 => ?_)
  · -- c1 T
    refine (WC.skip (WX.next ?_))
    refine WC.seq ?_
    refine WC.block ?_
    refine WC.seq ?_
    refine WC.region ?_
    have hlt : g < R.X.length := by omega
    obtain ⟨A, l, r, B, hX, hA, hal, hok, hr, hget⟩ := hm.ok.at (k := g) hlt
    have hgn : g0 ∉ R.hp.map Prod.fst := (List.nodup_cons.1 H.nd).1
    have hlbn : R.lb ∉ [g0] := fun h => hgn (by rw [← List.mem_singleton.1 h]; exact List.mem_map_of_mem (List.mem_cons_of_mem _ List.mem_cons_self : (R.lb, _) ∈ R.hp))
    have hrn : ∀ q ∈ r.hp 111, q.1 ∉ [g0] := fun q hq h => hgn (by rw [← List.mem_singleton.1 h]; exact List.mem_map_of_mem (RM.row_mem hX q hq))
    have h3g : 3 ∉ [g0] := fun h => by have := List.mem_singleton.1 h; omega
    refine WL.move rfl rfl ?_
    refine WL.assign rfl rfl ?_
    refine (WL.done (WX.next ?_))
    replace H := H.drew
    refine WC.held (SX (World.drew wx) [g0]) (by kernel_rfl) ?_
    generalize World.drew wx = wb at H ⊢
    have HB := H.single 0 rfl
    refine WH.take 0 rfl (by kernel_rfl) (by kernel_rfl) (by kernel_rfl) (fun _ _ _ h => h) ⟨_, HB⟩ (fun w' hS => EX.move rfl) rfl ?_
    refine WH.take 1 rfl (by kernel_rfl) (by kernel_rfl) (by kernel_rfl) (fun _ _ _ h => h) ⟨_, HB⟩ (fun w' hS => EX.move rfl) rfl ?_
    refine WH.take 2 rfl (by kernel_rfl) (by kernel_rfl) (by kernel_rfl) (fun _ _ _ h => h) ⟨_, HB⟩ (fun w' hS => EX.move rfl) rfl ?_
    refine WH.take 3 rfl (by kernel_rfl) (by kernel_rfl) (by kernel_rfl) (fun _ _ _ h => h) ⟨_, HB⟩ (fun w' hS => EX.nilCheck rfl) rfl ?_
    refine WH.take 4 rfl (by kernel_rfl) (by kernel_rfl) (by kernel_rfl) (fun _ _ _ h => h) ⟨_, HB⟩ (fun w' hS => EX.fieldAddr fld161_0 rfl) rfl ?_
    first | refine WH.take 5 rfl (by kernel_rfl) (by kernel_rfl) (by kernel_rfl) (fun _ _ _ h => h) ⟨_, HB⟩ (fun w' hS => EX.load rfl (hS.rd1 ty156 (H.blk 1 rfl) (by simpa using H.ne 1 0 rfl rfl rfl) rfl)) rfl ?_ | refine WH.take 5 rfl (by kernel_rfl) (by kernel_rfl) (by kernel_rfl) (fun _ _ _ h => h) ⟨_, HB⟩ (fun w' hS => EX.load rfl (hS.rdA ty156 (H.blk 1 rfl) (by simpa using H.ne 1 0 rfl rfl rfl) (by decide))) rfl ?_ | refine WH.take 5 rfl (by kernel_rfl) (by kernel_rfl) (by kernel_rfl) (fun _ _ _ h => h) ⟨_, HB⟩ (fun w' hS => EX.load rfl (hS.rd1 ty156 (H.blk 2 rfl) (by simpa using H.ne 2 0 rfl rfl rfl) rfl)) rfl ?_ | refine WH.take 5 rfl (by kernel_rfl) (by kernel_rfl) (by kernel_rfl) (fun _ _ _ h => h) ⟨_, HB⟩ (fun w' hS => EX.load rfl (hS.rdA ty156 (H.blk 2 rfl) (by simpa using H.ne 2 0 rfl rfl rfl) (by decide))) rfl ?_
    refine WH.take 6 rfl (by kernel_rfl) (by kernel_rfl) (by kernel_rfl) (fun _ _ _ h => h) ⟨_, HB⟩ (fun w' hS => EX.move rfl) rfl ?_
    refine WH.take 7 rfl (by kernel_rfl) (by kernel_rfl) (by kernel_rfl) (fun _ _ _ h => h) ⟨_, HB⟩ (fun w' hS => EX.idxSlc (k := g) slc156 rfl rfl (by first | rfl | omega) (by omega)) rfl ?_
    refine WH.take 8 rfl (by kernel_rfl) (by kernel_rfl) (by kernel_rfl) (fun _ _ _ h => h) ⟨_, HB⟩ (fun w' hS => EX.move rfl) rfl ?_
    refine WH.take 9 rfl (by kernel_rfl) (by kernel_rfl) (by kernel_rfl) (fun _ _ _ h => h) ⟨_, HB⟩ (fun w' hS => EX.nilCheck rfl) rfl ?_
    refine WH.take 10 rfl (by kernel_rfl) (by kernel_rfl) (by kernel_rfl) (fun _ _ _ h => h) ⟨_, HB⟩ (fun w' hS => EX.fieldAddr fld161_0 rfl) rfl ?_
    first | refine WH.take 11 rfl (by kernel_rfl) (by kernel_rfl) (by kernel_rfl) (fun _ _ _ h => h) ⟨_, HB⟩ (fun w' hS => EX.load rfl (hS.rd1 ty156 (H.blk 1 rfl) (by simpa using H.ne 1 0 rfl rfl rfl) rfl)) rfl ?_ | refine WH.take 11 rfl (by kernel_rfl) (by kernel_rfl) (by kernel_rfl) (fun _ _ _ h => h) ⟨_, HB⟩ (fun w' hS => EX.load rfl (hS.rdA ty156 (H.blk 1 rfl) (by simpa using H.ne 1 0 rfl rfl rfl) (by decide))) rfl ?_ | refine WH.take 11 rfl (by kernel_rfl) (by kernel_rfl) (by kernel_rfl) (fun _ _ _ h => h) ⟨_, HB⟩ (fun w' hS => EX.load rfl (hS.rd1 ty156 (H.blk 2 rfl) (by simpa using H.ne 2 0 rfl rfl rfl) rfl)) rfl ?_ | refine WH.take 11 rfl (by kernel_rfl) (by kernel_rfl) (by kernel_rfl) (fun _ _ _ h => h) ⟨_, HB⟩ (fun w' hS => EX.load rfl (hS.rdA ty156 (H.blk 2 rfl) (by simpa using H.ne 2 0 rfl rfl rfl) (by decide))) rfl ?_
    refine WH.take 12 rfl (by kernel_rfl) (by kernel_rfl) (by kernel_rfl) (fun _ _ _ h => h) ⟨_, HB⟩ (fun w' hS => EX.move rfl) rfl ?_
    refine WH.take 13 rfl (by kernel_rfl) (by kernel_rfl) (by kernel_rfl) (fun _ _ _ h => h) ⟨_, HB⟩ (fun w' hS => EX.idxSlc (k := g) slc156 rfl rfl (by first | rfl | omega) (by omega)) rfl ?_
    refine WH.take 14 rfl (by kernel_rfl) (by kernel_rfl) (by kernel_rfl) (fun _ _ _ h => h) ⟨_, HB⟩ (fun w' hS => EX.fieldAddr fld158_1 rfl) rfl ?_
    first | refine WH.take 15 rfl (by kernel_rfl) (by kernel_rfl) (by kernel_rfl) (fun _ _ _ h => h) ⟨_, HB⟩ (fun w' hS => EX.load rfl (Rd.lineS ty52 (hS.block (RM.line_at (L := [_]) hX H) hlbn) (by omega) hok.1)) rfl ?_
    refine WH.take 16 rfl (by kernel_rfl) (by kernel_rfl) (by kernel_rfl) (fun _ _ _ h => h) ⟨_, HB⟩ (fun w' hS => EX.lenR isl52 rfl) rfl ?_
    refine WH.hard 17 rfl (by kernel_rfl) ?_
    refine WL.call call105 rfl rfl ?_
    refine Calls.mono (shows_any R.lb (0 + g * 11) (linesC A) l r _ l.ps.length _ (HB.oldBlock (RM.line_at (L := [_]) hX H) hlbn) (by omega) hok hr (fun q hq => HB.oldBlock (H.sat q (List.mem_cons_of_mem _ (RM.row_mem hX q hq))) (hrn q hq)) (Nat.le_refl _) ((hL.of H hm.n3).of HB h3g)) ?_
    rintro _ wx ⟨rfl, Hc⟩
    refine ⟨_, rfl, ?_⟩
    replace HB := HB.call0 Hc
    refine WL.done (WX.heldOn ⟨_, HB⟩ ?_)
    refine WH.take 18 rfl (by kernel_rfl) (by kernel_rfl) (by kernel_rfl) (fun _ _ _ h => h) ⟨_, HB⟩ (fun w' hS => EX.move rfl) rfl ?_
    refine WH.take 19 rfl (by kernel_rfl) (by kernel_rfl) (by kernel_rfl) (fun _ _ _ h => h) ⟨_, HB⟩ (fun w' hS => EX.extract rfl rfl) rfl ?_
    refine WH.take 20 rfl (by kernel_rfl) (by kernel_rfl) (by kernel_rfl) (fun _ _ _ h => h) ⟨_, HB⟩ (fun w' hS => EX.extract rfl rfl) rfl ?_
    refine WH.take 21 rfl (by kernel_rfl) (by kernel_rfl) (by kernel_rfl) (fun _ _ _ h => h) ⟨_, HB⟩ (fun w' hS => EX.idxSlc (k := g) slc45 rfl rfl (by first | rfl | omega) (by omega)) rfl ?_
    refine WH.hard 22 rfl (by kernel_rfl) ?_
    have himl : (seenC (R.abs.ls.take g)).length = g * 8 := by
      rw [seenC, flat_len (sz := 8) (fun l hl => pShow_len (h8s l (List.mem_of_mem_take hl))), List.length_take, abs_len]
      congr 1; omega
    have hsz : 0 + g * 8 + 8 ≤ (arrC (seenC (R.abs.ls.take g) ++ List.replicate ((R.X.length - g) * 8) 0)).size := by
      rw [arrC_size, List.length_append, List.length_replicate, himl]; omega
    refine WL.storeAt (v := arr (pShow l l.ps.length).1) HB ty38 0 rfl rfl rfl (by rw [arr_cells, arrC_size]; exact pShow_len hok.1) (arrC_one _) hsz ?_
    intro wx HB
    replace HB := HB.castH (H' := [(g0, .cells (arrC (seenC (R.abs.ls.take (g + 1)) ++ List.replicate ((R.X.length - (g + 1)) * 8) 0)) 38)]) (by
      have e1 := wr_slot (a := seenC (R.abs.ls.take g)) (v := (pShow l l.ps.length).1) (sz := 8) (m := R.X.length - (g + 1)) (o := 0 + g * 8) (pShow_len hok.1) (by omega)
      have e2 : seenC (R.abs.ls.take (g + 1)) = seenC (R.abs.ls.take g) ++ (pShow l l.ps.length).1 := flat_take (abs_get hget)
      rw [e2, ← e1, show R.X.length - (g + 1) + 1 = R.X.length - g from by omega]; rfl)
    refine WL.done (WX.heldOn ⟨_, HB⟩ ?_)
    refine WH.done (by kernel_rfl) ?_
    replace H := H.back (N := []) 0 rfl HB rfl
    refine (WX.block_normal (WX.next ?_))
    refine WC.region ?_
    refine WL.bin rfl rfl (iadd (by omega) (by omega)) rfl ?_
    refine WL.move rfl rfl ?_
    refine (WL.done (WX.round ?_))
    exact hN _ (g+1) _ _ (by omega) ⟨rfl, by omega, H⟩ (Sub.cons (t := 16) (by first | rfl | simp) (Sub.nil _)) (Sub.cons (t := 0) rfl (Sub.cons (t := 3) rfl (Sub.cons (t := 15) rfl (Sub.nil _))))
  · -- c1 F
    refine (WC.exit (WX.then_exit (WX.then_exit (WX.block_exit (WX.next ?_)))))
    refine WC.seq ?_
    refine WC.region ?_
    refine WL.move rfl rfl ?_
    refine WL.assign rfl rfl ?_
    refine (WL.done (WX.next ?_))
    refine (WC.ret ?_)
    refine ret_one rfl rfl ?_
    obtain rfl : g = R.X.length := by omega
    have e1 : R.abs.ls.take R.X.length = R.abs.ls := List.take_of_length_le (by rw [abs_len]; omega)
    rw [e1, Nat.sub_self, Nat.zero_mul, List.replicate_zero, List.append_nil] at H
    exact ⟨g0, rfl, St.sameL (L := [_]) H hm.sat⟩

end Go.Proofs.YtkncbggnaobgeaaDoor
