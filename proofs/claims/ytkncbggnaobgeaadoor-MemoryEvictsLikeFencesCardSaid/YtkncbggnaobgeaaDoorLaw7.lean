/- Walks of functions of the program; printed by a program of this session (walk.py) out of hand-written hints. -/
import Derived.Test.YtkncbggnaobgeaaDoorGh
namespace Go.Proofs.YtkncbggnaobgeaaDoor
open Go.RowKit
set_option linter.unusedVariables false
set_option linter.unusedSimpArgs false
set_option maxRecDepth 100000

theorem fenceKeeps_any (w : World) (hL : L64 w) (n : Int) (A : Option Addr) (m cap : Nat) (xs : List OpV) (hm : m = xs.length) (hm63 : m ≤ 9223372036854775807) (hx : OpsIn w A xs) (hok : ∀ v ∈ xs, v.ok w) (line : Int) (A2 : Option Addr) (m2 cap2 : Nat) (keep : List Int) (hm2 : m2 = keep.length) (hm263 : m2 ≤ 9223372036854775807) (hkp : IntsIn w A2 keep) : Calls Tryd.prog 5 #[.int .i64 n, .slice A m cap, .int .i64 line, .slice A2 m2 cap2] w fun e w' => e = .returned (.bool true) ∧ St w [] w' [] := by
  refine calls_walk_n (args := [.int .i64 n, .slice A m cap, .int .i64 line, .slice A2 m2 cap2]) Tryd.func5 rfl rfl rfl ?_
  have H := St.refl w
  refine WC.seq ?_
  refine WC.region ?_
  refine WL.assign rfl rfl ?_
  refine (WL.done (WX.next ?_))
  refine WC.seq ?_
  refine WC.region ?_
  refine WL.move rfl rfl ?_
  refine WL.move rfl rfl ?_
  refine WL.call call30 rfl rfl ?_
  refine Calls.mono (begun_any n A m cap xs hm hm63 hx hok H hL) ?_
  rintro _ wx ⟨p, R, rfl, hI, H⟩
  refine ⟨_, rfl, ?_⟩
  have hlens := hI.lens
  have hlok := hI.lok
  generalize PM.begun n (plain xs) = M at hI hlens hlok
  refine WL.assign rfl rfl ?_
  refine (WL.done (WX.next ?_))
  refine WC.seq ?_
  refine WC.seq ?_
  refine WC.region ?_
  refine WL.move rfl rfl ?_
  refine WL.bin rfl rfl (binv_ptr_eql (by kernel_rfl) _) rfl ?_
  refine (WL.done (WX.next ?_))
  refine WC.cond_false rfl (rfl) ?_
  refine (WC.skip (WX.next ?_))
  refine WC.seq ?_
  refine WC.region ?_
  refine WL.move rfl rfl ?_
  refine WL.move rfl rfl ?_
  refine WL.call call26 rfl rfl ?_
  refine Calls.mono (a_lines hI H hL) ?_
  rintro _ wx ⟨rfl, rfl⟩
  refine ⟨_, rfl, ?_⟩
  refine WL.call call33 rfl rfl ?_
  refine Calls.mono (a_least line _ (by omega)) ?_
  rintro _ wx ⟨j, rfl, hj, rfl⟩
  refine ⟨_, rfl, ?_⟩
  have hjl : j < M.ls.length := by omega
  refine WL.assign rfl rfl ?_
  refine (WL.done (WX.next ?_))
  refine WC.seq ?_
  refine WC.region ?_
  refine WL.move rfl rfl ?_
  refine WL.call call34 rfl rfl ?_
  refine Calls.mono (a_seen hI H hL) ?_
  rintro _ wx ⟨sb1, rfl, H⟩
  refine ⟨_, rfl, ?_⟩
  have hIs := hI.shown8
  refine WL.assign rfl rfl ?_
  refine (WL.done (WX.next ?_))
  refine WC.seq ?_
  refine WC.seq ?_
  refine WC.region ?_
  refine WL.move rfl rfl ?_
  refine WL.lenSlc isl45 rfl rfl ?_
  refine WL.move rfl rfl ?_
  refine WL.call call26 rfl rfl ?_
  refine Calls.mono (a_lines hI H hL) ?_
  rintro _ wx ⟨rfl, rfl⟩
  refine ⟨_, rfl, ?_⟩
  refine WL.bin rfl rfl binv_neq rfl ?_
  refine (WL.done (WX.next ?_))
  refine WC.cond_false rfl (decide_eq_false (by omega)) ?_
  refine (WC.skip (WX.next ?_))
  refine WC.seq ?_
  refine WC.seq ?_
  refine WC.region ?_
  refine WL.move rfl rfl ?_
  refine WL.move rfl rfl ?_
  refine WL.call call31 rfl rfl ?_
  refine Calls.mono (a_state (j : Int) hI H hL) ?_
  rintro _ wx ⟨rfl, H⟩
  refine ⟨_, rfl, ?_⟩
  refine WL.bin rfl rfl binv_eql rfl ?_
  refine (WL.done (WX.next ?_))
  first | refine WC.cond_dec rfl (fun c3 => ?_) (fun c3 => ?_) | refine WC.cond rfl (fun c3 => ?_) (fun c3 => ?_)
  · -- c3 T
    refine WC.seq ?_
    refine WC.region ?_
    refine WL.call call22 rfl rfl ?_
    refine Calls.mono (q_sanity hL H) ?_
    rintro _ wx ⟨rfl, Hc⟩
    refine ⟨_, rfl, ?_⟩
    replace H := H.call0 Hc
    refine WL.assign rfl rfl ?_
    refine (WL.done (WX.next ?_))
    refine (WC.ret (WX.then_ret ?_))
    refine ret_one rfl rfl ?_
    exact ⟨rfl, H.weaken (List.nil_sublist _)⟩
  · -- c3 F
    refine (WC.skip (WX.next ?_))
    refine WC.seq ?_
    refine WC.region ?_
    refine WL.move rfl rfl ?_
    refine WL.move rfl rfl ?_
    refine WL.call call35 rfl rfl ?_
    refine Calls.mono (a_flush (j : Int) (by omega) hI H hL) ?_
    rintro _ wx ⟨R, rfl, hI, H⟩
    refine ⟨_, rfl, ?_⟩
    refine WL.assign rfl rfl ?_
    refine (WL.done (WX.next ?_))
    refine WC.seq ?_
    refine WC.region ?_
    refine WL.move rfl rfl ?_
    refine WL.call call36 rfl rfl ?_
    refine Calls.mono (a_fence (by omega) hI H hL) ?_
    rintro _ wx ⟨R, rfl, hI, H⟩
    refine ⟨_, rfl, ?_⟩
    refine (WL.done (WX.next ?_))
    refine WC.seq ?_
    refine WC.region ?_
    refine WL.move rfl rfl ?_
    refine WL.move rfl rfl ?_
    refine WL.move rfl rfl ?_
    refine WL.call call38 rfl rfl ?_
    refine Calls.mono (cuts_any A2 m2 cap2 keep hm2 hm263 (hkp) (by omega) hI H hL) ?_
    rintro _ wx ⟨r, rfl, hr, H⟩
    refine ⟨_, rfl, ?_⟩
    refine WL.call call37 rfl rfl ?_
    refine Calls.mono (a_crash_row hr (by have := cutsOf_len (M.flush j).fence keep; rw [fence_len, flush_len] at this; omega) (by omega) hI H hL) ?_
    rintro _ wx ⟨R, rfl, hI, H⟩
    refine ⟨_, rfl, ?_⟩
    refine WL.assign rfl rfl ?_
    refine (WL.done (WX.next ?_))
    refine WC.seq ?_
    refine WC.region ?_
    refine WL.move rfl rfl ?_
    refine WL.call call34 rfl rfl ?_
    refine Calls.mono (a_seen hI H hL) ?_
    rintro _ wx ⟨sb2, rfl, H⟩
    refine ⟨_, rfl, ?_⟩
    have hIs2 := hI.shown8
    refine WL.assign rfl rfl ?_
    refine (WL.done (WX.next ?_))
    refine WC.seq ?_
    have hfk := fence_keeps hlok hjl keep
    have hlen : ((M.flush j).fence.crash ((M.flush j).fence.cutsOf keep)).ls.length = M.ls.length := by rw [crash_len, fence_len, flush_len]
    have hhas := has_of hjl
    have hcut := cutsOf_ok (M.flush j).fence keep
    replace H := H.drew
    refine WC.held (SX (World.drew wx) []) (by kernel_rfl) ?_
    generalize World.drew wx = wb at H ⊢
    have HB := St.refl wb
    refine WH.hard 0 rfl (by kernel_rfl) ?_
    refine WL.call call22 rfl rfl ?_
    refine Calls.mono (q_sanity hL (H.call0 HB)) ?_
    rintro _ wx ⟨rfl, Hc⟩
    refine ⟨_, rfl, ?_⟩
    replace HB := HB.call0 Hc
    refine WL.done (WX.heldOn ⟨_, HB⟩ ?_)
    refine WH.take 1 rfl (by kernel_rfl) (by kernel_rfl) (by kernel_rfl) (fun _ _ _ h => h) ⟨_, HB⟩ (fun w' hS => EX.move rfl) rfl ?_
    first | refine WH.splitD (t := 49) rfl (fun g1 => ?_) (fun g1 => ?_) | refine WH.split (t := 49) rfl (fun g1 => ?_) (fun g1 => ?_)
    · -- g1 True
      refine WH.takeYes 2 rfl (by kernel_rfl) (by kernel_rfl) (by kernel_rfl) (fun _ _ _ h => h) ⟨_, HB⟩ rfl rfl (fun w' hS => EX.move rfl) rfl ?_
      refine WH.takeYes 3 rfl (by kernel_rfl) (by kernel_rfl) (by kernel_rfl) (fun _ _ _ h => h) ⟨_, HB⟩ rfl rfl (fun w' hS => EX.bin rfl rfl (binv_eql)) rfl ?_
      refine WH.take 4 rfl (by kernel_rfl) (by kernel_rfl) (by kernel_rfl) (fun _ _ _ h => h) ⟨_, HB⟩ (fun w' hS => EX.pickT rfl rfl) rfl ?_
      refine WH.take 5 rfl (by kernel_rfl) (by kernel_rfl) (by kernel_rfl) (fun _ _ _ h => h) ⟨_, HB⟩ (fun w' hS => EX.move rfl) rfl ?_
      first | refine WH.splitD (t := 53) rfl (fun g2 => ?_) (fun g2 => ?_) | refine WH.split (t := 53) rfl (fun g2 => ?_) (fun g2 => ?_)
      · -- g2 True
        refine WH.takeYes 6 rfl (by kernel_rfl) (by kernel_rfl) (by kernel_rfl) (fun _ _ _ h => h) ⟨_, HB⟩ rfl rfl (fun w' hS => EX.move rfl) rfl ?_
        refine WH.takeYes 7 rfl (by kernel_rfl) (by kernel_rfl) (by kernel_rfl) (fun _ _ _ h => h) ⟨_, HB⟩ rfl rfl (fun w' hS => EX.bin rfl rfl (binv_eql)) rfl ?_
        refine WH.take 8 rfl (by kernel_rfl) (by kernel_rfl) (by kernel_rfl) (fun _ _ _ h => h) ⟨_, HB⟩ (fun w' hS => EX.pickT rfl rfl) rfl ?_
        refine WH.take 9 rfl (by kernel_rfl) (by kernel_rfl) (by kernel_rfl) (fun _ _ _ h => h) ⟨_, HB⟩ (fun w' hS => EX.move rfl) rfl ?_
        first | refine WH.splitD (t := 57) rfl (fun g3 => ?_) (fun g3 => ?_) | refine WH.split (t := 57) rfl (fun g3 => ?_) (fun g3 => ?_)
        · -- g3 True
          refine WH.takeYes 10 rfl (by kernel_rfl) (by kernel_rfl) (by kernel_rfl) (fun _ _ _ h => h) ⟨_, HB⟩ rfl rfl (fun w' hS => EX.move rfl) rfl ?_
          refine WH.takeYes 11 rfl (by kernel_rfl) (by kernel_rfl) (by kernel_rfl) (fun _ _ _ h => h) ⟨_, HB⟩ rfl rfl (fun w' hS => EX.lenSlc isl45 rfl) rfl ?_
          refine WH.takeYes 12 rfl (by kernel_rfl) (by kernel_rfl) (by kernel_rfl) (fun _ _ _ h => h) ⟨_, HB⟩ rfl rfl (fun w' hS => EX.move rfl) rfl ?_
          refine WH.takeYes 13 rfl (by kernel_rfl) (by kernel_rfl) (by kernel_rfl) (fun _ _ _ h => h) ⟨_, HB⟩ rfl rfl (fun w' hS => EX.lenSlc isl45 rfl) rfl ?_
          refine WH.takeYes 14 rfl (by kernel_rfl) (by kernel_rfl) (by kernel_rfl) (fun _ _ _ h => h) ⟨_, HB⟩ rfl rfl (fun w' hS => EX.bin rfl rfl (binv_eql)) rfl ?_
          refine WH.take 15 rfl (by kernel_rfl) (by kernel_rfl) (by kernel_rfl) (fun _ _ _ h => h) ⟨_, HB⟩ (fun w' hS => EX.pickT rfl rfl) rfl ?_
          refine WH.take 16 rfl (by kernel_rfl) (by kernel_rfl) (by kernel_rfl) (fun _ _ _ h => h) ⟨_, HB⟩ (fun w' hS => EX.move rfl) rfl ?_
          first | refine WH.splitD (t := 64) rfl (fun g4 => ?_) (fun g4 => ?_) | refine WH.split (t := 64) rfl (fun g4 => ?_) (fun g4 => ?_)
          · -- g4 True
            refine WH.takeYes 17 rfl (by kernel_rfl) (by kernel_rfl) (by kernel_rfl) (fun _ _ _ h => h) ⟨_, HB⟩ rfl rfl (fun w' hS => EX.move rfl) rfl ?_
            refine WH.takeYes 18 rfl (by kernel_rfl) (by kernel_rfl) (by kernel_rfl) (fun _ _ _ h => h) ⟨_, HB⟩ rfl rfl (fun w' hS => EX.move rfl) rfl ?_
            refine WH.takeYes 19 rfl (by kernel_rfl) (by kernel_rfl) (by kernel_rfl) (fun _ _ _ h => h) ⟨_, HB⟩ rfl rfl (fun w' hS => EX.idxSlc (k := j) slc45 rfl rfl (by first | rfl | omega) (by rw [hlen]; exact hjl)) rfl ?_
            first | refine WH.takeYes 20 rfl (by kernel_rfl) (by kernel_rfl) (by kernel_rfl) (fun _ _ _ h => h) ⟨_, HB⟩ rfl rfl (fun w' hS => EX.load rfl ((RowsIn.seen hIs2 (hS.block (H.sat (sb2, .cells (arrC (seenC _)) 38) (by simp)) (by simp))).rd ty38 (by omega) (by rw [List.length_map, hlen]; exact hjl) rfl)) rfl ?_
            refine WH.takeYes 21 rfl (by kernel_rfl) (by kernel_rfl) (by kernel_rfl) (fun _ _ _ h => h) ⟨_, HB⟩ rfl rfl (fun w' hS => EX.move rfl) rfl ?_
            refine WH.takeYes 22 rfl (by kernel_rfl) (by kernel_rfl) (by kernel_rfl) (fun _ _ _ h => h) ⟨_, HB⟩ rfl rfl (fun w' hS => EX.move rfl) rfl ?_
            refine WH.takeYes 23 rfl (by kernel_rfl) (by kernel_rfl) (by kernel_rfl) (fun _ _ _ h => h) ⟨_, HB⟩ rfl rfl (fun w' hS => EX.idxSlc (k := j) slc45 rfl rfl (by first | rfl | omega) (hjl)) rfl ?_
            first | refine WH.takeYes 24 rfl (by kernel_rfl) (by kernel_rfl) (by kernel_rfl) (fun _ _ _ h => h) ⟨_, HB⟩ rfl rfl (fun w' hS => EX.load rfl ((RowsIn.seen hIs (hS.block (H.sat (sb1, .cells (arrC (seenC _)) 38) (by simp)) (by simp))).rd ty38 (by omega) (by rw [List.length_map]; exact hjl) rfl)) rfl ?_
            refine WH.takeYes 25 rfl (by kernel_rfl) (by kernel_rfl) (by kernel_rfl) (fun _ _ _ h => h) ⟨_, HB⟩ rfl rfl (fun w' hS => EX.bin rfl rfl (binv_agg_eql eqI38.up (by kernel_rfl) (hIs2 _ (List.getElem_mem _)) (hIs _ (List.getElem_mem _)))) rfl ?_
            refine WH.take 26 rfl (by kernel_rfl) (by kernel_rfl) (by kernel_rfl) (fun _ _ _ h => h) ⟨_, HB⟩ (fun w' hS => EX.pickT rfl rfl) rfl ?_
            refine WH.take 27 rfl (by kernel_rfl) (by kernel_rfl) (by kernel_rfl) (fun _ _ _ h => h) ⟨_, HB⟩ (fun w' hS => EX.move rfl) rfl ?_
            first | refine WH.splitD (t := 75) rfl (fun g5 => ?_) (fun g5 => ?_) | refine WH.split (t := 75) rfl (fun g5 => ?_) (fun g5 => ?_)
            · -- g5 True
              refine WH.takeYes 28 rfl (by kernel_rfl) (by kernel_rfl) (by kernel_rfl) (fun _ _ _ h => h) ⟨_, HB⟩ rfl rfl (fun w' hS => EX.move rfl) rfl ?_
              refine WH.takeYes 29 rfl (by kernel_rfl) (by kernel_rfl) (by kernel_rfl) (fun _ _ _ h => h) ⟨_, HB⟩ rfl rfl (fun w' hS => EX.move rfl) rfl ?_
              refine WH.hard 30 rfl (by kernel_rfl) ?_
              refine WL.yes rfl rfl ?_
              refine WL.call call39 rfl rfl ?_
              refine Calls.mono (q_pending (j : Int) (by omega) hI (H.call0 HB) hL) ?_
              rintro _ wx ⟨r3, rfl, Hc⟩
              refine ⟨_, rfl, ?_⟩
              replace HB := HB.call0 Hc
              refine WL.done (WX.heldOn ⟨_, HB⟩ ?_)
              refine WH.takeYes 31 rfl (by kernel_rfl) (by kernel_rfl) (by kernel_rfl) (fun _ _ _ h => h) ⟨_, HB⟩ rfl rfl (fun w' hS => EX.lenR isl52 rfl) rfl ?_
              refine WH.takeYes 32 rfl (by kernel_rfl) (by kernel_rfl) (by kernel_rfl) (fun _ _ _ h => h) ⟨_, HB⟩ rfl rfl (fun w' hS => EX.bin rfl rfl (binv_eql)) rfl ?_
              refine WH.take 33 rfl (by kernel_rfl) (by kernel_rfl) (by kernel_rfl) (fun _ _ _ h => h) ⟨_, HB⟩ (fun w' hS => EX.pickT rfl rfl) rfl ?_
              refine WH.take 34 rfl (by kernel_rfl) (by kernel_rfl) (by kernel_rfl) (fun _ _ _ h => h) ⟨_, HB⟩ (fun w' hS => EX.assign rfl) rfl ?_
              refine WH.done (by kernel_rfl) ?_
              replace H := H.call HB
              refine WX.next ?_
              refine (WC.ret ?_)
              refine ret_one rfl rfl ?_
              refine ⟨?_, H.weaken (List.nil_sublist _)⟩
              rw [hfk.2]; rfl
            · -- g5 False
              have e1 := hfk.1
              rw [line_of hjl, line_of (by rw [hlen]; exact hjl)] at e1
              rw [List.getElem_map, List.getElem_map, e1] at g5
              simp at g5
          · -- g4 False
            omega
        · -- g3 False
          exact absurd (show (if (M.flush j).fence.cutsOk ((M.flush j).fence.cutsOf keep) then (0 : Int) else 1) = 0 by rw [hcut]; rfl) (by assumption)
      · -- g2 False
        exact absurd (show (if M.has (j : Int) then (0 : Int) else 40) = 0 by rw [hhas]; rfl) (by assumption)
    · -- g1 False
      contradiction

end Go.Proofs.YtkncbggnaobgeaaDoor
