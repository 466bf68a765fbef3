/- Texts of this session, laid together: Lg9. -/
import Derived.Test.YtkncbggnaobgeaaDoorGt

/- Walks of functions of the program; printed by a program of this session (walk.py) out of hand-written hints. -/
namespace Go.Proofs.YtkncbggnaobgeaaDoor
open Go.RowKit
set_option linter.unusedVariables false
set_option linter.unusedSimpArgs false
set_option maxRecDepth 100000

theorem decV_two (ws : List Int) (ep : Int) : ∀ e ∈ (decV ws ep).1.2, e.length = 2 := by
  unfold decV
  split
  · exact pairs_two _ _
  · intro e he; cases he
theorem decV_len (ws : List Int) (ep : Int) : (decV ws ep).1.2.length ≤ 1048575 := by
  have h := hdC_bd (ws.getD 0 0)
  unfold decV
  split
  · show (pairs _ _).length ≤ _
    rw [pairs_len]; omega
  · exact Nat.zero_le _
theorem IntsIn.adr {w : World} {r : Row} {n : Nat} {T : TypeId} {xs : List Int} (hr : r.ok 1 n (intsC xs)) (hs : ∀ q ∈ r.hp T, w.heap[q.1]? = some q.2) : IntsIn w r.adr xs := by
  obtain ⟨A, cap, h1, h2, _⟩ := IntsIn.row hr hs
  rw [Row.val_adr] at h1
  injection h1 with h1
  rw [h1]; exact h2
theorem recd_one (x : Int) (A : Option Addr) (n c : Nat) : ∀ u ∈ (Value.agg #[.int .i64 x, .slice A n c]).cells.toList, u.oneCell' = true := by
  intro u hu
  have hu : u ∈ [Value.int .i64 x, .slice A n c] := hu
  rcases List.mem_cons.1 hu with rfl | hu
  · rfl
  · rw [List.mem_singleton.1 hu]; rfl

theorem logWords_any (ls : List Int) (h8 : ls.length = 8) (num : Int) (es : List (List Int)) (A : Option Addr) (cap : Nat) (n ep : Int) (Aw : Option Addr) (capw : Nat) (ws : List Int) (hcap : ws.length ≤ capw) (hr : RngE es) (w : World) (hG : GN w) (hL : L64 w) (hx : RowsIn w A 2 es) (hxw : IntsIn w Aw ws) : Calls Tryd.prog 16 #[arr ls, .agg #[.int .i64 num, .slice A es.length cap], .int .i64 ep, .int .i64 n, .slice Aw ws.length capw] w fun e w' => e = .returned (.bool true) ∧ St w [] w' [] := by
  refine calls_walk_n (args := [arr ls, .agg #[.int .i64 num, .slice A es.length cap], .int .i64 ep, .int .i64 n, .slice Aw ws.length capw]) Tryd.func16 rfl rfl rfl ?_
  have H := St.refl w
  refine WC.seq ?_
  refine WC.region ?_
  refine WL.boxArr H rfl rfl ?_
  intro b5 wx hb5 hge5 H
  refine WL.box H rfl rfl ?_
  intro b6 wx hb6 hge6 H
  refine WL.assign rfl rfl ?_
  refine (WL.done (WX.next ?_))
  refine WC.seq ?_
  refine WC.region ?_
  refine WL.load rfl (H.rdArr ty95 1 rfl h8) rfl ?_
  refine WL.call call71 rfl rfl ?_
  refine Calls.mono (lright_any ls h8 _) ?_
  rintro _ wx ⟨rfl, Hc⟩
  refine ⟨_, rfl, ?_⟩
  replace H := H.call0 Hc
  refine WL.assign rfl rfl ?_
  refine (WL.done (WX.next ?_))
  refine WC.seq ?_
  refine WC.seq ?_
  refine WC.region ?_
  refine WL.move rfl rfl ?_
  refine WL.notOp rfl rfl ?_
  refine WL.move rfl rfl ?_
  first | refine WL.splitD (t := 27) rfl (fun g1 => ?_) (fun g1 => ?_) | refine WL.split (t := 27) rfl (fun g1 => ?_) (fun g1 => ?_)
  ·
    refine WL.no rfl rfl rfl ?_
    refine WL.no rfl rfl rfl ?_
    refine WL.no rfl rfl rfl ?_
    refine WL.no rfl rfl rfl ?_
    refine WL.pickT rfl rfl rfl ?_
    refine WL.move rfl rfl ?_
    refine WL.no rfl rfl rfl ?_
    refine WL.no rfl rfl rfl ?_
    refine WL.no rfl rfl rfl ?_
    refine WL.pickT rfl rfl rfl ?_
    refine WL.move rfl rfl ?_
    refine WL.no rfl rfl rfl ?_
    refine WL.no rfl rfl rfl ?_
    refine WL.pickT rfl rfl rfl ?_
    refine WL.move rfl rfl ?_
    refine WL.no rfl rfl rfl ?_
    refine WL.no rfl rfl rfl ?_
    refine WL.pickT rfl rfl rfl ?_
    refine (WL.done (WX.next ?_))
    refine WC.cond_true rfl (rfl) ?_
    refine WC.seq ?_
    refine WC.region ?_
    refine WL.call call59 rfl rfl ?_
    refine Calls.mono (sanity9_any _ (hG.of0 H) (hL.of0 H)) ?_
    rintro _ wx ⟨rfl, Hc⟩
    refine ⟨_, rfl, ?_⟩
    replace H := H.call0 Hc
    refine WL.assign rfl rfl ?_
    refine (WL.done (WX.next ?_))
    refine (WC.ret (WX.then_ret ?_))
    refine ret_one rfl rfl ?_
    exact ⟨rfl, H.weaken (List.nil_sublist _)⟩
  ·
    have hR := LR.of h8 (by simpa using ‹(!lRight ls) = false›)
    refine WL.yes rfl rfl ?_
    refine WL.fieldAddr fld125_1 rfl rfl ?_
    refine WL.yes rfl rfl ?_
    refine WL.load rfl (H.rd1 ty123 0 rfl rfl) rfl ?_
    refine WL.yes rfl rfl ?_
    refine WL.lenSlc isl123 rfl rfl ?_
    refine WL.yes rfl rfl ?_
    refine WL.bin rfl rfl binv_gtr rfl ?_
    refine WL.pickF rfl rfl rfl ?_
    refine WL.move rfl rfl ?_
    first | refine WL.splitD (t := 33) rfl (fun g2 => ?_) (fun g2 => ?_) | refine WL.split (t := 33) rfl (fun g2 => ?_) (fun g2 => ?_)
    ·
      refine WL.no rfl rfl rfl ?_
      refine WL.no rfl rfl rfl ?_
      refine WL.no rfl rfl rfl ?_
      refine WL.pickT rfl rfl rfl ?_
      refine WL.move rfl rfl ?_
      refine WL.no rfl rfl rfl ?_
      refine WL.no rfl rfl rfl ?_
      refine WL.pickT rfl rfl rfl ?_
      refine WL.move rfl rfl ?_
      refine WL.no rfl rfl rfl ?_
      refine WL.no rfl rfl rfl ?_
      refine WL.pickT rfl rfl rfl ?_
      refine (WL.done (WX.next ?_))
      refine WC.cond_true rfl (rfl) ?_
      refine WC.seq ?_
      refine WC.region ?_
      refine WL.call call59 rfl rfl ?_
      refine Calls.mono (sanity9_any _ (hG.of0 H) (hL.of0 H)) ?_
      rintro _ wx ⟨rfl, Hc⟩
      refine ⟨_, rfl, ?_⟩
      replace H := H.call0 Hc
      refine WL.assign rfl rfl ?_
      refine (WL.done (WX.next ?_))
      refine (WC.ret (WX.then_ret ?_))
      refine ret_one rfl rfl ?_
      exact ⟨rfl, H.weaken (List.nil_sublist _)⟩
    ·
      refine WL.yes rfl rfl ?_
      refine WL.move rfl rfl ?_
      refine WL.yes rfl rfl ?_
      refine WL.lenSlc isl43 rfl rfl ?_
      refine WL.yes rfl rfl ?_
      refine WL.bin rfl rfl binv_gtr rfl ?_
      refine WL.pickF rfl rfl rfl ?_
      refine WL.move rfl rfl ?_
      first | refine WL.splitD (t := 38) rfl (fun g3 => ?_) (fun g3 => ?_) | refine WL.split (t := 38) rfl (fun g3 => ?_) (fun g3 => ?_)
      ·
        refine WL.no rfl rfl rfl ?_
        refine WL.no rfl rfl rfl ?_
        refine WL.pickT rfl rfl rfl ?_
        refine WL.move rfl rfl ?_
        refine WL.no rfl rfl rfl ?_
        refine WL.no rfl rfl rfl ?_
        refine WL.pickT rfl rfl rfl ?_
        refine (WL.done (WX.next ?_))
        refine WC.cond_true rfl (rfl) ?_
        refine WC.seq ?_
        refine WC.region ?_
        refine WL.call call59 rfl rfl ?_
        refine Calls.mono (sanity9_any _ (hG.of0 H) (hL.of0 H)) ?_
        rintro _ wx ⟨rfl, Hc⟩
        refine ⟨_, rfl, ?_⟩
        replace H := H.call0 Hc
        refine WL.assign rfl rfl ?_
        refine (WL.done (WX.next ?_))
        refine (WC.ret (WX.then_ret ?_))
        refine ret_one rfl rfl ?_
        exact ⟨rfl, H.weaken (List.nil_sublist _)⟩
      ·
        refine WL.yes rfl rfl ?_
        refine WL.move rfl rfl ?_
        refine WL.yes rfl rfl ?_
        refine WL.bin rfl rfl binv_lss rfl ?_
        refine WL.pickF rfl rfl rfl ?_
        refine WL.move rfl rfl ?_
        first | refine WL.splitD (t := 42) rfl (fun g4 => ?_) (fun g4 => ?_) | refine WL.split (t := 42) rfl (fun g4 => ?_) (fun g4 => ?_)
        ·
          refine WL.no rfl rfl rfl ?_
          refine WL.no rfl rfl rfl ?_
          refine WL.pickT rfl rfl rfl ?_
          refine (WL.done (WX.next ?_))
          refine WC.cond_true rfl (rfl) ?_
          refine WC.seq ?_
          refine WC.region ?_
          refine WL.call call59 rfl rfl ?_
          refine Calls.mono (sanity9_any _ (hG.of0 H) (hL.of0 H)) ?_
          rintro _ wx ⟨rfl, Hc⟩
          refine ⟨_, rfl, ?_⟩
          replace H := H.call0 Hc
          refine WL.assign rfl rfl ?_
          refine (WL.done (WX.next ?_))
          refine (WC.ret (WX.then_ret ?_))
          refine ret_one rfl rfl ?_
          exact ⟨rfl, H.weaken (List.nil_sublist _)⟩
        ·
          refine WL.yes rfl rfl ?_
          refine WL.move rfl rfl ?_
          refine WL.yes rfl rfl ?_
          refine WL.bin rfl rfl binv_gtr rfl ?_
          refine WL.pickF rfl rfl rfl ?_
          refine (WL.done (WX.next ?_))
          first | refine WC.cond_dec rfl (fun c5 => ?_) (fun c5 => ?_) | refine WC.cond rfl (fun c5 => ?_) (fun c5 => ?_)
          ·
            refine WC.seq ?_
            refine WC.region ?_
            refine WL.call call59 rfl rfl ?_
            refine Calls.mono (sanity9_any _ (hG.of0 H) (hL.of0 H)) ?_
            rintro _ wx ⟨rfl, Hc⟩
            refine ⟨_, rfl, ?_⟩
            replace H := H.call0 Hc
            refine WL.assign rfl rfl ?_
            refine (WL.done (WX.next ?_))
            refine (WC.ret (WX.then_ret ?_))
            refine ret_one rfl rfl ?_
            exact ⟨rfl, H.weaken (List.nil_sublist _)⟩
          ·
            refine (WC.skip (WX.next ?_))
            refine WC.seq ?_
            refine WC.region ?_
            refine WL.move rfl rfl ?_
            refine WL.call call72 rfl rfl ?_
            refine Calls.mono (head_any n _) ?_
            rintro _ wx ⟨rfl, Hc⟩
            refine ⟨_, rfl, ?_⟩
            replace H := H.call0 Hc
            refine WL.move rfl rfl ?_
            refine WL.extract rfl rfl rfl ?_
            refine WL.extract rfl rfl rfl ?_
            refine WL.assign rfl rfl ?_
            refine WL.assign rfl rfl ?_
            refine (WL.done (WX.next ?_))
            refine WC.seq ?_
            refine WC.region ?_
            refine WL.move rfl rfl ?_
            refine WL.call call73 rfl rfl ?_
            refine Calls.mono (refHead_any n _) ?_
            rintro _ wx ⟨rfl, Hc⟩
            refine ⟨_, rfl, ?_⟩
            replace H := H.call0 Hc
            refine WL.move rfl rfl ?_
            refine WL.extract rfl rfl rfl ?_
            refine WL.extract rfl rfl rfl ?_
            refine WL.assign rfl rfl ?_
            refine WL.assign rfl rfl ?_
            refine (WL.done (WX.next ?_))
            refine WC.seq ?_
            refine WC.region ?_
            refine WL.move rfl rfl ?_
            refine WL.move rfl rfl ?_
            refine WL.call call74 rfl rfl ?_
            refine Calls.mono (decode_log_any Aw ws.length capw ws rfl hcap (by omega) ep _ (hG.of0 H) (hxw.keep H)) ?_
            rintro _ wx ⟨r1, rfl, hr1, Hc⟩
            refine ⟨_, rfl, ?_⟩
            replace H := H.call Hc
            rw [Row.val_adr]
            refine WL.move rfl rfl ?_
            refine WL.extract rfl rfl rfl ?_
            refine WL.extract rfl rfl rfl ?_
            refine WL.extract rfl rfl rfl ?_
            refine WL.alloc H zer125 rfl ?_
            intro b16 wx hb16 hge16 H
            refine WL.storeTo (cs' := #[.int .i64 (decV ws ep).1.1, .slice r1.adr (decV ws ep).1.2.length r1.cp]) H ty125 0 rfl rfl rfl rfl (recd_one _ _ _ _) (Nat.le_of_ble_eq_true rfl) rfl ?_
            intro wx H
            refine WL.assign rfl rfl ?_
            refine WL.assign rfl rfl ?_
            refine (WL.done (WX.next ?_))
            refine WC.seq ?_
            refine WC.region ?_
            refine WL.move rfl rfl ?_
            refine WL.move rfl rfl ?_
            refine WL.call call75 rfl rfl ?_
            refine Calls.mono (refDecode_log_any Aw ws.length capw ws rfl hcap (by omega) ep _ (hxw.keep H)) ?_
            rintro _ wx ⟨r2, rfl, hr2, Hc⟩
            refine ⟨_, rfl, ?_⟩
            replace H := H.call Hc
            rw [Row.val_adr]
            refine WL.move rfl rfl ?_
            refine WL.extract rfl rfl rfl ?_
            refine WL.extract rfl rfl rfl ?_
            refine WL.extract rfl rfl rfl ?_
            refine WL.alloc H zer125 rfl ?_
            intro b19 wx hb19 hge19 H
            refine WL.storeTo (cs' := #[.int .i64 (decV ws ep).1.1, .slice r2.adr (decV ws ep).1.2.length r2.cp]) H ty125 0 rfl rfl rfl rfl (recd_one _ _ _ _) (Nat.le_of_ble_eq_true rfl) rfl ?_
            intro wx H
            refine WL.assign rfl rfl ?_
            refine WL.assign rfl rfl ?_
            refine (WL.done (WX.next ?_))
            refine WC.seq ?_
            refine WC.region ?_
            refine WL.load rfl (Rd.arr ty95 (H.sat (b5, .cells (arrC ls) 95) (by simp [Value.cells])) hR.len) rfl ?_
            refine WL.load rfl (Rd.all ty125 (H.sat (b6, .cells #[.int .i64 num, .slice A es.length cap] 125) (by simp [Value.cells])) rfl) rfl ?_
            refine WL.call call76 rfl rfl ?_
            refine Calls.mono (refValid_any ls hR num es A es.length cap rfl (by omega) _ (hx.keep H)) ?_
            rintro _ wx ⟨rfl, Hc⟩
            refine ⟨_, rfl, ?_⟩
            replace H := H.call0 Hc
            refine WL.assign rfl rfl ?_
            refine (WL.done (WX.next ?_))
            refine WC.seq ?_
            refine WC.seq ?_
            replace H := H.drew
            refine WC.held (SX (World.drew wx) []) (by kernel_rfl) ?_
            generalize World.drew wx = wb at H ⊢
            have HB := St.refl wb
            refine WH.take 0 rfl (by kernel_rfl) (by kernel_rfl) (by kernel_rfl) (fun _ _ _ h => h) ⟨_, HB⟩ (fun w' hS => EX.move rfl) rfl ?_
            refine WH.take 1 rfl (by kernel_rfl) (by kernel_rfl) (by kernel_rfl) (fun _ _ _ h => h) ⟨_, HB⟩ (fun w' hS => EX.move rfl) rfl ?_
            refine WH.take 2 rfl (by kernel_rfl) (by kernel_rfl) (by kernel_rfl) (fun _ _ _ h => h) ⟨_, HB⟩ (fun w' hS => EX.bin rfl rfl (binv_neq)) rfl ?_
            refine WH.take 3 rfl (by kernel_rfl) (by kernel_rfl) (by kernel_rfl) (fun _ _ _ h => h) ⟨_, HB⟩ (fun w' hS => EX.move rfl) rfl ?_
            first | refine WH.splitD (t := 77) rfl (fun g5 => ?_) (fun g5 => ?_) | refine WH.split (t := 77) rfl (fun g5 => ?_) (fun g5 => ?_)
            ·
              first | exact absurd rfl g5 | omega | simp at g5
            ·
              refine WH.takeYes 4 rfl (by kernel_rfl) (by kernel_rfl) (by kernel_rfl) (fun _ _ _ h => h) ⟨_, HB⟩ rfl rfl (fun w' hS => EX.move rfl) rfl ?_
              refine WH.takeYes 5 rfl (by kernel_rfl) (by kernel_rfl) (by kernel_rfl) (fun _ _ _ h => h) ⟨_, HB⟩ rfl rfl (fun w' hS => EX.move rfl) rfl ?_
              refine WH.takeYes 6 rfl (by kernel_rfl) (by kernel_rfl) (by kernel_rfl) (fun _ _ _ h => h) ⟨_, HB⟩ rfl rfl (fun w' hS => EX.bin rfl rfl (binv_neq)) rfl ?_
              refine WH.take 7 rfl (by kernel_rfl) (by kernel_rfl) (by kernel_rfl) (fun _ _ _ h => h) ⟨_, HB⟩ (fun w' hS => EX.pickF rfl rfl) rfl ?_
              refine WH.take 8 rfl (by kernel_rfl) (by kernel_rfl) (by kernel_rfl) (fun _ _ _ h => h) ⟨_, HB⟩ (fun w' hS => EX.move rfl) rfl ?_
              first | refine WH.splitD (t := 82) rfl (fun g6 => ?_) (fun g6 => ?_) | refine WH.split (t := 82) rfl (fun g6 => ?_) (fun g6 => ?_)
              ·
                first | exact absurd rfl g6 | omega | simp at g6
              ·
                refine WH.takeYes 9 rfl (by kernel_rfl) (by kernel_rfl) (by kernel_rfl) (fun _ _ _ h => h) ⟨_, HB⟩ rfl rfl (fun w' hS => EX.load rfl (Rd.all ty125 (hS.block (H.sat (b16, .cells #[.int .i64 (decV ws ep).1.1, .slice r1.adr (decV ws ep).1.2.length r1.cp] 125) (by simp [Value.cells])) (by simp)) rfl)) rfl ?_
                refine WH.takeYes 11 rfl (by kernel_rfl) (by kernel_rfl) (by kernel_rfl) (fun _ _ _ h => h) ⟨_, HB⟩ rfl rfl (fun w' hS => EX.load rfl (Rd.all ty125 (hS.block (H.sat (b19, .cells #[.int .i64 (decV ws ep).1.1, .slice r2.adr (decV ws ep).1.2.length r2.cp] 125) (by simp [Value.cells])) (by simp)) rfl)) rfl ?_
                refine WH.hard2 10 12 rfl rfl (by kernel_rfl) ?_ ?_
                ·
                  refine WL.yes rfl rfl ?_
                  refine WL.buildSlice1 HB Tryd.underlying98 (sz := 2) (by simp only [Tryd.underlying125]; exact ty125) (by omega) zer125 rfl rfl rfl rfl ?_
                  intro g84 wx hg84 hgg84 HB
                  refine WL.done (WX.heldOn ⟨_, HB⟩ ?_)
                  refine WH.hard 12 rfl (by kernel_rfl) ?_
                  refine WL.yes rfl rfl ?_
                  refine WL.buildSlice1 HB Tryd.underlying98 (sz := 2) (by simp only [Tryd.underlying125]; exact ty125) (by omega) zer125 rfl rfl rfl rfl ?_
                  intro g86 wx hg86 hgg86 HB
                  refine WL.done (WX.heldOn ⟨_, HB⟩ ?_)
                  refine WH.hard 13 rfl (by kernel_rfl) ?_
                  refine WL.yes rfl rfl ?_
                  refine WL.call call77 rfl rfl ?_
                  refine Calls.mono (sameRecs_any (some ⟨g84, 0, none⟩) (some ⟨g86, 0, none⟩) 1 1 1 1 [(decV ws ep).1] [(decV ws ep).1] rfl rfl _ (recs_here (num := (decV ws ep).1.1) (es := (decV ws ep).1.2) (HB.sat (g84, .cells #[.int .i64 (decV ws ep).1.1, .slice r1.adr (decV ws ep).1.2.length r1.cp] 125) (by simp [Value.cells])) ((RowsIn.adr (T := 189) (decV_two ws ep) rfl hr1 (fun q hq => H.sat q (by simp [hq]))).keep HB)) (recs_here (num := (decV ws ep).1.1) (es := (decV ws ep).1.2) (HB.sat (g86, .cells #[.int .i64 (decV ws ep).1.1, .slice r2.adr (decV ws ep).1.2.length r2.cp] 125) (by simp [Value.cells])) ((RowsIn.adr (T := 189) (decV_two ws ep) rfl hr2 (fun q hq => H.sat q (by simp [hq]))).keep HB)) (by decide) (fun r hr => by rw [List.mem_singleton.1 hr]; exact Nat.le_trans (decV_len ws ep) (by decide))) ?_
                  rintro _ wx ⟨rfl, Hc⟩
                  refine ⟨_, rfl, ?_⟩
                  replace HB := HB.call0 Hc
                  rw [show decide ([(decV ws ep).1] = [(decV ws ep).1]) = true from decide_eq_true rfl]
                  refine WL.done (WX.heldOn ⟨_, HB⟩ ?_)
                  refine WH.takeYes 14 rfl (by kernel_rfl) (by kernel_rfl) (by kernel_rfl) (fun _ _ _ h => h) ⟨_, HB⟩ rfl rfl (fun w' hS => EX.notOp rfl) rfl ?_
                  refine WH.take 15 rfl (by kernel_rfl) (by kernel_rfl) (by kernel_rfl) (fun _ _ _ h => h) ⟨_, HB⟩ (fun w' hS => EX.pickF rfl rfl) rfl ?_
                  refine WH.take 16 rfl (by kernel_rfl) (by kernel_rfl) (by kernel_rfl) (fun _ _ _ h => h) ⟨_, HB⟩ (fun w' hS => EX.move rfl) rfl ?_
                  first | refine WH.splitD (t := 90) rfl (fun g7 => ?_) (fun g7 => ?_) | refine WH.split (t := 90) rfl (fun g7 => ?_) (fun g7 => ?_)
                  ·
                    first | exact absurd rfl g7 | omega | simp at g7
                  ·
                    refine WH.takeYes 17 rfl (by kernel_rfl) (by kernel_rfl) (by kernel_rfl) (fun _ _ _ h => h) ⟨_, HB⟩ rfl rfl (fun w' hS => EX.move rfl) rfl ?_
                    refine WH.takeYes 18 rfl (by kernel_rfl) (by kernel_rfl) (by kernel_rfl) (fun _ _ _ h => h) ⟨_, HB⟩ rfl rfl (fun w' hS => EX.move rfl) rfl ?_
                    refine WH.takeYes 19 rfl (by kernel_rfl) (by kernel_rfl) (by kernel_rfl) (fun _ _ _ h => h) ⟨_, HB⟩ rfl rfl (fun w' hS => EX.bin rfl rfl (binv_neq)) rfl ?_
                    refine WH.take 20 rfl (by kernel_rfl) (by kernel_rfl) (by kernel_rfl) (fun _ _ _ h => h) ⟨_, HB⟩ (fun w' hS => EX.pickF rfl rfl) rfl ?_
                    refine WH.take 21 rfl (by kernel_rfl) (by kernel_rfl) (by kernel_rfl) (fun _ _ _ h => h) ⟨_, HB⟩ (fun w' hS => EX.move rfl) rfl ?_
                    first | refine WH.splitD (t := 95) rfl (fun g8 => ?_) (fun g8 => ?_) | refine WH.split (t := 95) rfl (fun g8 => ?_) (fun g8 => ?_)
                    ·
                      first | exact absurd rfl g8 | omega | simp at g8
                    ·
                      refine WH.takeYes 22 rfl (by kernel_rfl) (by kernel_rfl) (by kernel_rfl) (fun _ _ _ h => h) ⟨_, HB⟩ rfl rfl (fun w' hS => EX.move rfl) rfl ?_
                      refine WH.takeYes 23 rfl (by kernel_rfl) (by kernel_rfl) (by kernel_rfl) (fun _ _ _ h => h) ⟨_, HB⟩ rfl rfl (fun w' hS => EX.move rfl) rfl ?_
                      refine WH.takeYes 24 rfl (by kernel_rfl) (by kernel_rfl) (by kernel_rfl) (fun _ _ _ h => h) ⟨_, HB⟩ rfl rfl (fun w' hS => EX.bin rfl rfl (binv_neq)) rfl ?_
                      refine WH.take 25 rfl (by kernel_rfl) (by kernel_rfl) (by kernel_rfl) (fun _ _ _ h => h) ⟨_, HB⟩ (fun w' hS => EX.pickF rfl rfl) rfl ?_
                      refine WH.take 26 rfl (by kernel_rfl) (by kernel_rfl) (by kernel_rfl) (fun _ _ _ h => h) ⟨_, HB⟩ (fun w' hS => EX.move rfl) rfl ?_
                      first | refine WH.splitD (t := 100) rfl (fun g9 => ?_) (fun g9 => ?_) | refine WH.split (t := 100) rfl (fun g9 => ?_) (fun g9 => ?_)
                      ·
                        first | exact absurd rfl g9 | omega | simp at g9
                      ·
                        refine WH.takeYes 27 rfl (by kernel_rfl) (by kernel_rfl) (by kernel_rfl) (fun _ _ _ h => h) ⟨_, HB⟩ rfl rfl (fun w' hS => EX.load rfl (Rd.all ty125 (hS.block (H.sat (b6, .cells #[.int .i64 num, .slice A es.length cap] 125) (by simp [Value.cells])) (by simp)) rfl)) rfl ?_
                        refine WH.takeYes 29 rfl (by kernel_rfl) (by kernel_rfl) (by kernel_rfl) (fun _ _ _ h => h) ⟨_, HB⟩ rfl rfl (fun w' hS => EX.load rfl (Rd.all ty125 (hS.block (H.sat (b6, .cells #[.int .i64 num, .slice A es.length cap] 125) (by simp [Value.cells])) (by simp)) rfl)) rfl ?_
                        refine WH.hard 28 rfl (by kernel_rfl) ?_
                        refine WL.yes rfl rfl ?_
                        refine WL.call call78 rfl rfl ?_
                        refine Calls.mono (size_any num A es.length cap (by omega) _) ?_
                        rintro _ wx ⟨rfl, Hc⟩
                        refine ⟨_, rfl, ?_⟩
                        replace HB := HB.call0 Hc
                        refine WL.done (WX.heldOn ⟨_, HB⟩ ?_)
                        refine WH.hard 30 rfl (by kernel_rfl) ?_
                        refine WL.yes rfl rfl ?_
                        refine WL.call call79 rfl rfl ?_
                        refine Calls.mono (refSize_any num A es.length cap (by omega) _) ?_
                        rintro _ wx ⟨rfl, Hc⟩
                        refine ⟨_, rfl, ?_⟩
                        replace HB := HB.call0 Hc
                        refine WL.done (WX.heldOn ⟨_, HB⟩ ?_)
                        refine WH.takeYes 31 rfl (by kernel_rfl) (by kernel_rfl) (by kernel_rfl) (fun _ _ _ h => h) ⟨_, HB⟩ rfl rfl (fun w' hS => EX.bin rfl rfl (binv_neq)) rfl ?_
                        refine WH.take 32 rfl (by kernel_rfl) (by kernel_rfl) (by kernel_rfl) (fun _ _ _ h => h) ⟨_, HB⟩ (fun w' hS => EX.pickF rfl rfl) rfl ?_
                        refine WH.take 33 rfl (by kernel_rfl) (by kernel_rfl) (by kernel_rfl) (fun _ _ _ h => h) ⟨_, HB⟩ (fun w' hS => EX.move rfl) rfl ?_
                        first | refine WH.splitD (t := 107) rfl (fun g10 => ?_) (fun g10 => ?_) | refine WH.split (t := 107) rfl (fun g10 => ?_) (fun g10 => ?_)
                        ·
                          first | exact absurd rfl g10 | omega | simp at g10
                        ·
                          refine WH.takeYes 34 rfl (by kernel_rfl) (by kernel_rfl) (by kernel_rfl) (fun _ _ _ h => h) ⟨_, HB⟩ rfl rfl (fun w' hS => EX.load rfl (Rd.arr ty95 (hS.block (H.sat (b5, .cells (arrC ls) 95) (by simp [Value.cells])) (by simp)) hR.len)) rfl ?_
                          refine WH.takeYes 35 rfl (by kernel_rfl) (by kernel_rfl) (by kernel_rfl) (fun _ _ _ h => h) ⟨_, HB⟩ rfl rfl (fun w' hS => EX.load rfl (Rd.all ty125 (hS.block (H.sat (b6, .cells #[.int .i64 num, .slice A es.length cap] 125) (by simp [Value.cells])) (by simp)) rfl)) rfl ?_
                          refine WH.takeYes 37 rfl (by kernel_rfl) (by kernel_rfl) (by kernel_rfl) (fun _ _ _ h => h) ⟨_, HB⟩ rfl rfl (fun w' hS => EX.move rfl) rfl ?_
                          refine WH.hard 36 rfl (by kernel_rfl) ?_
                          refine WL.yes rfl rfl ?_
                          refine WL.call call80 rfl rfl ?_
                          refine Calls.mono (lvalid_any ls hR num es A es.length cap rfl (by omega) hr _ ((hx.keep H).keep HB)) ?_
                          rintro _ wx ⟨rfl, Hc⟩
                          refine ⟨_, rfl, ?_⟩
                          replace HB := HB.call0 Hc
                          refine WL.done (WX.heldOn ⟨_, HB⟩ ?_)
                          refine WH.takeYes 38 rfl (by kernel_rfl) (by kernel_rfl) (by kernel_rfl) (fun _ _ _ h => h) ⟨_, HB⟩ rfl rfl (fun w' hS => EX.bin rfl rfl (binv_bool_neq (by kernel_rfl) _ _)) rfl ?_
                          refine WH.take 39 rfl (by kernel_rfl) (by kernel_rfl) (by kernel_rfl) (fun _ _ _ h => h) ⟨_, HB⟩ (fun w' hS => EX.pickF rfl rfl) rfl ?_
                          refine WH.take 40 rfl (by kernel_rfl) (by kernel_rfl) (by kernel_rfl) (fun _ _ _ h => h) ⟨_, HB⟩ (fun w' hS => EX.move rfl) rfl ?_
                          first | refine WH.splitD (t := 114) rfl (fun g11 => ?_) (fun g11 => ?_) | refine WH.split (t := 114) rfl (fun g11 => ?_) (fun g11 => ?_)
                          ·
                            first | exact absurd rfl g11 | omega | simp at g11
                          ·
                            refine WH.takeYes 41 rfl (by kernel_rfl) (by kernel_rfl) (by kernel_rfl) (fun _ _ _ h => h) ⟨_, HB⟩ rfl rfl (fun w' hS => EX.load rfl (Rd.arr ty95 (hS.block (H.sat (b5, .cells (arrC ls) 95) (by simp [Value.cells])) (by simp)) hR.len)) rfl ?_
                            refine WH.takeYes 43 rfl (by kernel_rfl) (by kernel_rfl) (by kernel_rfl) (fun _ _ _ h => h) ⟨_, HB⟩ rfl rfl (fun w' hS => EX.load rfl (Rd.arr ty95 (hS.block (H.sat (b5, .cells (arrC ls) 95) (by simp [Value.cells])) (by simp)) hR.len)) rfl ?_
                            refine WH.hard 42 rfl (by kernel_rfl) ?_
                            refine WL.yes rfl rfl ?_
                            refine WL.call call81 rfl rfl ?_
                            refine Calls.mono (capacity_any ls hR _) ?_
                            rintro _ wx ⟨rfl, Hc⟩
                            refine ⟨_, rfl, ?_⟩
                            replace HB := HB.call0 Hc
                            refine WL.done (WX.heldOn ⟨_, HB⟩ ?_)
                            refine WH.hard 44 rfl (by kernel_rfl) ?_
                            refine WL.yes rfl rfl ?_
                            refine WL.call call82 rfl rfl ?_
                            refine Calls.mono (refCapacity_any ls hR _) ?_
                            rintro _ wx ⟨rfl, Hc⟩
                            refine ⟨_, rfl, ?_⟩
                            replace HB := HB.call0 Hc
                            refine WL.done (WX.heldOn ⟨_, HB⟩ ?_)
                            refine WH.takeYes 45 rfl (by kernel_rfl) (by kernel_rfl) (by kernel_rfl) (fun _ _ _ h => h) ⟨_, HB⟩ rfl rfl (fun w' hS => EX.bin rfl rfl (binv_neq)) rfl ?_
                            refine WH.take 46 rfl (by kernel_rfl) (by kernel_rfl) (by kernel_rfl) (fun _ _ _ h => h) ⟨_, HB⟩ (fun w' hS => EX.pickF rfl rfl) rfl ?_
                            refine WH.take 47 rfl (by kernel_rfl) (by kernel_rfl) (by kernel_rfl) (fun _ _ _ h => h) ⟨_, HB⟩ (fun w' hS => EX.move rfl) rfl ?_
                            first | refine WH.splitD (t := 121) rfl (fun g12 => ?_) (fun g12 => ?_) | refine WH.split (t := 121) rfl (fun g12 => ?_) (fun g12 => ?_)
                            ·
                              first | exact absurd rfl g12 | omega | simp at g12
                            ·
                              refine WH.takeYes 48 rfl (by kernel_rfl) (by kernel_rfl) (by kernel_rfl) (fun _ _ _ h => h) ⟨_, HB⟩ rfl rfl (fun w' hS => EX.load rfl (Rd.arr ty95 (hS.block (H.sat (b5, .cells (arrC ls) 95) (by simp [Value.cells])) (by simp)) hR.len)) rfl ?_
                              refine WH.takeYes 50 rfl (by kernel_rfl) (by kernel_rfl) (by kernel_rfl) (fun _ _ _ h => h) ⟨_, HB⟩ rfl rfl (fun w' hS => EX.load rfl (Rd.arr ty95 (hS.block (H.sat (b5, .cells (arrC ls) 95) (by simp [Value.cells])) (by simp)) hR.len)) rfl ?_
                              refine WH.hard 49 rfl (by kernel_rfl) ?_
                              refine WL.yes rfl rfl ?_
                              refine WL.call call83 rfl rfl ?_
                              refine Calls.mono (stampAt_any ls hR _) ?_
                              rintro _ wx ⟨rfl, Hc⟩
                              refine ⟨_, rfl, ?_⟩
                              replace HB := HB.call0 Hc
                              refine WL.done (WX.heldOn ⟨_, HB⟩ ?_)
                              refine WH.hard 51 rfl (by kernel_rfl) ?_
                              refine WL.yes rfl rfl ?_
                              refine WL.call call84 rfl rfl ?_
                              refine Calls.mono (refStampAt_any ls hR _) ?_
                              rintro _ wx ⟨rfl, Hc⟩
                              refine ⟨_, rfl, ?_⟩
                              replace HB := HB.call0 Hc
                              refine WL.done (WX.heldOn ⟨_, HB⟩ ?_)
                              refine WH.takeYes 52 rfl (by kernel_rfl) (by kernel_rfl) (by kernel_rfl) (fun _ _ _ h => h) ⟨_, HB⟩ rfl rfl (fun w' hS => EX.bin rfl rfl (binv_neq)) rfl ?_
                              refine WH.take 53 rfl (by kernel_rfl) (by kernel_rfl) (by kernel_rfl) (fun _ _ _ h => h) ⟨_, HB⟩ (fun w' hS => EX.pickF rfl rfl) rfl ?_
                              refine WH.done (by kernel_rfl) ?_
                              replace H := H.call HB
                              refine WX.next ?_
                              first | refine WC.cond_dec rfl (fun c6 => ?_) (fun c6 => ?_) | refine WC.cond rfl (fun c6 => ?_) (fun c6 => ?_)
                              ·
                                first | exact absurd rfl c6 | omega | simp at c6
                              ·
                                refine (WC.skip (WX.next ?_))
                                refine WC.seq ?_
                                replace H := H.drew
                                refine WC.held (SX (World.drew wx) []) (by kernel_rfl) ?_
                                generalize World.drew wx = wb at H ⊢
                                have HB := St.refl wb
                                refine WH.hard 0 rfl (by kernel_rfl) ?_
                                refine WL.call call59 rfl rfl ?_
                                refine Calls.mono (sanity9_any _ ((hG.of0 H).of0 HB) ((hL.of0 H).of0 HB)) ?_
                                rintro _ wx ⟨rfl, Hc⟩
                                refine ⟨_, rfl, ?_⟩
                                replace HB := HB.call0 Hc
                                refine WL.done (WX.heldOn ⟨_, HB⟩ ?_)
                                refine WH.take 1 rfl (by kernel_rfl) (by kernel_rfl) (by kernel_rfl) (fun _ _ _ h => h) ⟨_, HB⟩ (fun w' hS => EX.move rfl) rfl ?_
                                first | refine WH.splitD (t := 129) rfl (fun g13 => ?_) (fun g13 => ?_) | refine WH.split (t := 129) rfl (fun g13 => ?_) (fun g13 => ?_)
                                ·
                                  refine WH.takeYes 2 rfl (by kernel_rfl) (by kernel_rfl) (by kernel_rfl) (fun _ _ _ h => h) ⟨_, HB⟩ rfl rfl (fun w' hS => EX.move rfl) rfl ?_
                                  refine WH.takeYes 3 rfl (by kernel_rfl) (by kernel_rfl) (by kernel_rfl) (fun _ _ _ h => h) ⟨_, HB⟩ rfl rfl (fun w' hS => EX.notOp rfl) rfl ?_
                                  refine WH.takeYes 4 rfl (by kernel_rfl) (by kernel_rfl) (by kernel_rfl) (fun _ _ _ h => h) ⟨_, HB⟩ rfl rfl (fun w' hS => EX.move rfl) rfl ?_
                                  first | refine WH.splitD (t := 132) rfl (fun g14 => ?_) (fun g14 => ?_) | refine WH.split (t := 132) rfl (fun g14 => ?_) (fun g14 => ?_)
                                  ·
                                    refine WH.takeNo 5 rfl (by kernel_rfl) (by kernel_rfl) (by kernel_rfl) (fun _ _ _ h => h) ⟨_, HB⟩ rfl rfl rfl ?_
                                    refine WH.takeNo 6 rfl (by kernel_rfl) (by kernel_rfl) (by kernel_rfl) (fun _ _ _ h => h) ⟨_, HB⟩ rfl rfl rfl ?_
                                    refine WH.takeNo 8 rfl (by kernel_rfl) (by kernel_rfl) (by kernel_rfl) (fun _ _ _ h => h) ⟨_, HB⟩ rfl rfl rfl ?_
                                    refine WH.takeNo 9 rfl (by kernel_rfl) (by kernel_rfl) (by kernel_rfl) (fun _ _ _ h => h) ⟨_, HB⟩ rfl rfl rfl ?_
                                    refine WH.takeNo 7 rfl (by kernel_rfl) (by kernel_rfl) (by kernel_rfl) (fun _ _ _ h => h) ⟨_, HB⟩ rfl rfl rfl ?_
                                    refine WH.takeNo 10 rfl (by kernel_rfl) (by kernel_rfl) (by kernel_rfl) (fun _ _ _ h => h) ⟨_, HB⟩ rfl rfl rfl ?_
                                    refine WH.takeNo 11 rfl (by kernel_rfl) (by kernel_rfl) (by kernel_rfl) (fun _ _ _ h => h) ⟨_, HB⟩ rfl rfl rfl ?_
                                    refine WH.takeYes 12 rfl (by kernel_rfl) (by kernel_rfl) (by kernel_rfl) (fun _ _ _ h => h) ⟨_, HB⟩ rfl rfl (fun w' hS => EX.pickT rfl rfl) rfl ?_
                                    refine WH.take 13 rfl (by kernel_rfl) (by kernel_rfl) (by kernel_rfl) (fun _ _ _ h => h) ⟨_, HB⟩ (fun w' hS => EX.pickT rfl rfl) rfl ?_
                                    refine WH.take 14 rfl (by kernel_rfl) (by kernel_rfl) (by kernel_rfl) (fun _ _ _ h => h) ⟨_, HB⟩ (fun w' hS => EX.assign rfl) rfl ?_
                                    refine WH.done (by kernel_rfl) ?_
                                    replace H := H.call HB
                                    refine WX.next ?_
                                    refine (WC.ret ?_)
                                    refine ret_one rfl rfl ?_
                                    exact ⟨rfl, H.weaken (List.nil_sublist _)⟩
                                  ·
                                    refine WH.takeYes 5 rfl (by kernel_rfl) (by kernel_rfl) (by kernel_rfl) (fun _ _ _ h => h) ⟨_, HB⟩ rfl rfl (fun w' hS => EX.load rfl (Rd.all ty125 (hS.block (H.sat (b6, .cells #[.int .i64 num, .slice A es.length cap] 125) (by simp [Value.cells])) (by simp)) rfl)) rfl ?_
                                    refine WH.takeYes 6 rfl (by kernel_rfl) (by kernel_rfl) (by kernel_rfl) (fun _ _ _ h => h) ⟨_, HB⟩ rfl rfl (fun w' hS => EX.move rfl) rfl ?_
                                    refine WH.takeYes 8 rfl (by kernel_rfl) (by kernel_rfl) (by kernel_rfl) (fun _ _ _ h => h) ⟨_, HB⟩ rfl rfl (fun w' hS => EX.load rfl (Rd.all ty125 (hS.block (H.sat (b6, .cells #[.int .i64 num, .slice A es.length cap] 125) (by simp [Value.cells])) (by simp)) rfl)) rfl ?_
                                    refine WH.takeYes 9 rfl (by kernel_rfl) (by kernel_rfl) (by kernel_rfl) (fun _ _ _ h => h) ⟨_, HB⟩ rfl rfl (fun w' hS => EX.move rfl) rfl ?_
                                    refine WH.hard 7 rfl (by kernel_rfl) ?_
                                    refine WL.yes rfl rfl ?_
                                    refine WL.call call86 rfl rfl ?_
                                    refine Calls.mono (encode_log_any num es A es.length cap rfl (by omega) ep (by omega) _ ((hG.of0 H).of0 HB) ((hx.keep H).keep HB)) ?_
                                    rintro _ wx ⟨q1, rfl, hq1, Hc⟩
                                    refine ⟨_, rfl, ?_⟩
                                    replace HB := HB.call Hc
                                    rw [Row.val_adr]
                                    refine WL.done (WX.heldOn ⟨_, HB⟩ ?_)
                                    refine WH.hard 10 rfl (by kernel_rfl) ?_
                                    refine WL.yes rfl rfl ?_
                                    refine WL.call call87 rfl rfl ?_
                                    refine Calls.mono (refEncode_log_any num es A es.length cap rfl (by omega) ep (by omega) (by omega) _ ((hx.keep H).keep HB)) ?_
                                    rintro _ wx ⟨q2, rfl, hq2, Hc⟩
                                    refine ⟨_, rfl, ?_⟩
                                    replace HB := HB.call Hc
                                    rw [Row.val_adr]
                                    refine WL.done (WX.heldOn ⟨_, HB⟩ ?_)
                                    refine WH.hard 11 rfl (by kernel_rfl) ?_
                                    refine WL.yes rfl rfl ?_
                                    refine WL.call call85 rfl rfl ?_
                                    refine Calls.mono (sameInts_any q1.adr q2.adr _ _ q1.cp q2.cp (lenc (num, es) ep) (lenc (num, es) ep) (by rw [lenc_len hx.1]; rfl) (by rw [lenc_len hx.1]; rfl) _ (IntsIn.adr (T := 3) hq1 (fun q hq => HB.sat q (by simp [hq]))) (IntsIn.adr (T := 3) hq2 (fun q hq => HB.sat q (by simp [hq]))) (by omega)) ?_
                                    rintro _ wx ⟨rfl, Hc⟩
                                    refine ⟨_, rfl, ?_⟩
                                    replace HB := HB.call0 Hc
                                    rw [show decide (lenc (num, es) ep = lenc (num, es) ep) = true from decide_eq_true rfl]
                                    refine WL.done (WX.heldOn ⟨_, HB⟩ ?_)
                                    refine WH.takeYes 12 rfl (by kernel_rfl) (by kernel_rfl) (by kernel_rfl) (fun _ _ _ h => h) ⟨_, HB⟩ rfl rfl (fun w' hS => EX.pickF rfl rfl) rfl ?_
                                    refine WH.take 13 rfl (by kernel_rfl) (by kernel_rfl) (by kernel_rfl) (fun _ _ _ h => h) ⟨_, HB⟩ (fun w' hS => EX.pickT rfl rfl) rfl ?_
                                    refine WH.take 14 rfl (by kernel_rfl) (by kernel_rfl) (by kernel_rfl) (fun _ _ _ h => h) ⟨_, HB⟩ (fun w' hS => EX.assign rfl) rfl ?_
                                    refine WH.done (by kernel_rfl) ?_
                                    replace H := H.call HB
                                    refine WX.next ?_
                                    refine (WC.ret ?_)
                                    refine ret_one rfl rfl ?_
                                    exact ⟨rfl, H.weaken (List.nil_sublist _)⟩
                                ·
                                  first | exact absurd rfl g13 | omega | simp at g13
                ·
                  refine WL.yes rfl rfl ?_
                  refine WL.buildSlice1 HB Tryd.underlying98 (sz := 2) (by simp only [Tryd.underlying125]; exact ty125) (by omega) zer125 rfl rfl rfl rfl ?_
                  intro g86 wx hg86 hgg86 HB
                  refine WL.done (WX.heldOn ⟨_, HB⟩ ?_)
                  refine WH.hard 10 rfl (by kernel_rfl) ?_
                  refine WL.yes rfl rfl ?_
                  refine WL.buildSlice1 HB Tryd.underlying98 (sz := 2) (by simp only [Tryd.underlying125]; exact ty125) (by omega) zer125 rfl rfl rfl rfl ?_
                  intro g84 wx hg84 hgg84 HB
                  refine WL.done (WX.heldOn ⟨_, HB⟩ ?_)
                  refine WH.hard 13 rfl (by kernel_rfl) ?_
                  refine WL.yes rfl rfl ?_
                  refine WL.call call77 rfl rfl ?_
                  refine Calls.mono (sameRecs_any (some ⟨g84, 0, none⟩) (some ⟨g86, 0, none⟩) 1 1 1 1 [(decV ws ep).1] [(decV ws ep).1] rfl rfl _ (recs_here (num := (decV ws ep).1.1) (es := (decV ws ep).1.2) (HB.sat (g84, .cells #[.int .i64 (decV ws ep).1.1, .slice r1.adr (decV ws ep).1.2.length r1.cp] 125) (by simp [Value.cells])) ((RowsIn.adr (T := 189) (decV_two ws ep) rfl hr1 (fun q hq => H.sat q (by simp [hq]))).keep HB)) (recs_here (num := (decV ws ep).1.1) (es := (decV ws ep).1.2) (HB.sat (g86, .cells #[.int .i64 (decV ws ep).1.1, .slice r2.adr (decV ws ep).1.2.length r2.cp] 125) (by simp [Value.cells])) ((RowsIn.adr (T := 189) (decV_two ws ep) rfl hr2 (fun q hq => H.sat q (by simp [hq]))).keep HB)) (by decide) (fun r hr => by rw [List.mem_singleton.1 hr]; exact Nat.le_trans (decV_len ws ep) (by decide))) ?_
                  rintro _ wx ⟨rfl, Hc⟩
                  refine ⟨_, rfl, ?_⟩
                  replace HB := HB.call0 Hc
                  rw [show decide ([(decV ws ep).1] = [(decV ws ep).1]) = true from decide_eq_true rfl]
                  refine WL.done (WX.heldOn ⟨_, HB⟩ ?_)
                  refine WH.takeYes 14 rfl (by kernel_rfl) (by kernel_rfl) (by kernel_rfl) (fun _ _ _ h => h) ⟨_, HB⟩ rfl rfl (fun w' hS => EX.notOp rfl) rfl ?_
                  refine WH.take 15 rfl (by kernel_rfl) (by kernel_rfl) (by kernel_rfl) (fun _ _ _ h => h) ⟨_, HB⟩ (fun w' hS => EX.pickF rfl rfl) rfl ?_
                  refine WH.take 16 rfl (by kernel_rfl) (by kernel_rfl) (by kernel_rfl) (fun _ _ _ h => h) ⟨_, HB⟩ (fun w' hS => EX.move rfl) rfl ?_
                  first | refine WH.splitD (t := 90) rfl (fun g15 => ?_) (fun g15 => ?_) | refine WH.split (t := 90) rfl (fun g15 => ?_) (fun g15 => ?_)
                  ·
                    first | exact absurd rfl g15 | omega | simp at g15
                  ·
                    refine WH.takeYes 17 rfl (by kernel_rfl) (by kernel_rfl) (by kernel_rfl) (fun _ _ _ h => h) ⟨_, HB⟩ rfl rfl (fun w' hS => EX.move rfl) rfl ?_
                    refine WH.takeYes 18 rfl (by kernel_rfl) (by kernel_rfl) (by kernel_rfl) (fun _ _ _ h => h) ⟨_, HB⟩ rfl rfl (fun w' hS => EX.move rfl) rfl ?_
                    refine WH.takeYes 19 rfl (by kernel_rfl) (by kernel_rfl) (by kernel_rfl) (fun _ _ _ h => h) ⟨_, HB⟩ rfl rfl (fun w' hS => EX.bin rfl rfl (binv_neq)) rfl ?_
                    refine WH.take 20 rfl (by kernel_rfl) (by kernel_rfl) (by kernel_rfl) (fun _ _ _ h => h) ⟨_, HB⟩ (fun w' hS => EX.pickF rfl rfl) rfl ?_
                    refine WH.take 21 rfl (by kernel_rfl) (by kernel_rfl) (by kernel_rfl) (fun _ _ _ h => h) ⟨_, HB⟩ (fun w' hS => EX.move rfl) rfl ?_
                    first | refine WH.splitD (t := 95) rfl (fun g16 => ?_) (fun g16 => ?_) | refine WH.split (t := 95) rfl (fun g16 => ?_) (fun g16 => ?_)
                    ·
                      first | exact absurd rfl g16 | omega | simp at g16
                    ·
                      refine WH.takeYes 22 rfl (by kernel_rfl) (by kernel_rfl) (by kernel_rfl) (fun _ _ _ h => h) ⟨_, HB⟩ rfl rfl (fun w' hS => EX.move rfl) rfl ?_
                      refine WH.takeYes 23 rfl (by kernel_rfl) (by kernel_rfl) (by kernel_rfl) (fun _ _ _ h => h) ⟨_, HB⟩ rfl rfl (fun w' hS => EX.move rfl) rfl ?_
                      refine WH.takeYes 24 rfl (by kernel_rfl) (by kernel_rfl) (by kernel_rfl) (fun _ _ _ h => h) ⟨_, HB⟩ rfl rfl (fun w' hS => EX.bin rfl rfl (binv_neq)) rfl ?_
                      refine WH.take 25 rfl (by kernel_rfl) (by kernel_rfl) (by kernel_rfl) (fun _ _ _ h => h) ⟨_, HB⟩ (fun w' hS => EX.pickF rfl rfl) rfl ?_
                      refine WH.take 26 rfl (by kernel_rfl) (by kernel_rfl) (by kernel_rfl) (fun _ _ _ h => h) ⟨_, HB⟩ (fun w' hS => EX.move rfl) rfl ?_
                      first | refine WH.splitD (t := 100) rfl (fun g17 => ?_) (fun g17 => ?_) | refine WH.split (t := 100) rfl (fun g17 => ?_) (fun g17 => ?_)
                      ·
                        first | exact absurd rfl g17 | omega | simp at g17
                      ·
                        refine WH.takeYes 27 rfl (by kernel_rfl) (by kernel_rfl) (by kernel_rfl) (fun _ _ _ h => h) ⟨_, HB⟩ rfl rfl (fun w' hS => EX.load rfl (Rd.all ty125 (hS.block (H.sat (b6, .cells #[.int .i64 num, .slice A es.length cap] 125) (by simp [Value.cells])) (by simp)) rfl)) rfl ?_
                        refine WH.takeYes 29 rfl (by kernel_rfl) (by kernel_rfl) (by kernel_rfl) (fun _ _ _ h => h) ⟨_, HB⟩ rfl rfl (fun w' hS => EX.load rfl (Rd.all ty125 (hS.block (H.sat (b6, .cells #[.int .i64 num, .slice A es.length cap] 125) (by simp [Value.cells])) (by simp)) rfl)) rfl ?_
                        refine WH.hard 28 rfl (by kernel_rfl) ?_
                        refine WL.yes rfl rfl ?_
                        refine WL.call call78 rfl rfl ?_
                        refine Calls.mono (size_any num A es.length cap (by omega) _) ?_
                        rintro _ wx ⟨rfl, Hc⟩
                        refine ⟨_, rfl, ?_⟩
                        replace HB := HB.call0 Hc
                        refine WL.done (WX.heldOn ⟨_, HB⟩ ?_)
                        refine WH.hard 30 rfl (by kernel_rfl) ?_
                        refine WL.yes rfl rfl ?_
                        refine WL.call call79 rfl rfl ?_
                        refine Calls.mono (refSize_any num A es.length cap (by omega) _) ?_
                        rintro _ wx ⟨rfl, Hc⟩
                        refine ⟨_, rfl, ?_⟩
                        replace HB := HB.call0 Hc
                        refine WL.done (WX.heldOn ⟨_, HB⟩ ?_)
                        refine WH.takeYes 31 rfl (by kernel_rfl) (by kernel_rfl) (by kernel_rfl) (fun _ _ _ h => h) ⟨_, HB⟩ rfl rfl (fun w' hS => EX.bin rfl rfl (binv_neq)) rfl ?_
                        refine WH.take 32 rfl (by kernel_rfl) (by kernel_rfl) (by kernel_rfl) (fun _ _ _ h => h) ⟨_, HB⟩ (fun w' hS => EX.pickF rfl rfl) rfl ?_
                        refine WH.take 33 rfl (by kernel_rfl) (by kernel_rfl) (by kernel_rfl) (fun _ _ _ h => h) ⟨_, HB⟩ (fun w' hS => EX.move rfl) rfl ?_
                        first | refine WH.splitD (t := 107) rfl (fun g18 => ?_) (fun g18 => ?_) | refine WH.split (t := 107) rfl (fun g18 => ?_) (fun g18 => ?_)
                        ·
                          first | exact absurd rfl g18 | omega | simp at g18
                        ·
                          refine WH.takeYes 34 rfl (by kernel_rfl) (by kernel_rfl) (by kernel_rfl) (fun _ _ _ h => h) ⟨_, HB⟩ rfl rfl (fun w' hS => EX.load rfl (Rd.arr ty95 (hS.block (H.sat (b5, .cells (arrC ls) 95) (by simp [Value.cells])) (by simp)) hR.len)) rfl ?_
                          refine WH.takeYes 35 rfl (by kernel_rfl) (by kernel_rfl) (by kernel_rfl) (fun _ _ _ h => h) ⟨_, HB⟩ rfl rfl (fun w' hS => EX.load rfl (Rd.all ty125 (hS.block (H.sat (b6, .cells #[.int .i64 num, .slice A es.length cap] 125) (by simp [Value.cells])) (by simp)) rfl)) rfl ?_
                          refine WH.takeYes 37 rfl (by kernel_rfl) (by kernel_rfl) (by kernel_rfl) (fun _ _ _ h => h) ⟨_, HB⟩ rfl rfl (fun w' hS => EX.move rfl) rfl ?_
                          refine WH.hard 36 rfl (by kernel_rfl) ?_
                          refine WL.yes rfl rfl ?_
                          refine WL.call call80 rfl rfl ?_
                          refine Calls.mono (lvalid_any ls hR num es A es.length cap rfl (by omega) hr _ ((hx.keep H).keep HB)) ?_
                          rintro _ wx ⟨rfl, Hc⟩
                          refine ⟨_, rfl, ?_⟩
                          replace HB := HB.call0 Hc
                          refine WL.done (WX.heldOn ⟨_, HB⟩ ?_)
                          refine WH.takeYes 38 rfl (by kernel_rfl) (by kernel_rfl) (by kernel_rfl) (fun _ _ _ h => h) ⟨_, HB⟩ rfl rfl (fun w' hS => EX.bin rfl rfl (binv_bool_neq (by kernel_rfl) _ _)) rfl ?_
                          refine WH.take 39 rfl (by kernel_rfl) (by kernel_rfl) (by kernel_rfl) (fun _ _ _ h => h) ⟨_, HB⟩ (fun w' hS => EX.pickF rfl rfl) rfl ?_
                          refine WH.take 40 rfl (by kernel_rfl) (by kernel_rfl) (by kernel_rfl) (fun _ _ _ h => h) ⟨_, HB⟩ (fun w' hS => EX.move rfl) rfl ?_
                          first | refine WH.splitD (t := 114) rfl (fun g19 => ?_) (fun g19 => ?_) | refine WH.split (t := 114) rfl (fun g19 => ?_) (fun g19 => ?_)
                          ·
                            first | exact absurd rfl g19 | omega | simp at g19
                          ·
                            refine WH.takeYes 41 rfl (by kernel_rfl) (by kernel_rfl) (by kernel_rfl) (fun _ _ _ h => h) ⟨_, HB⟩ rfl rfl (fun w' hS => EX.load rfl (Rd.arr ty95 (hS.block (H.sat (b5, .cells (arrC ls) 95) (by simp [Value.cells])) (by simp)) hR.len)) rfl ?_
                            refine WH.takeYes 43 rfl (by kernel_rfl) (by kernel_rfl) (by kernel_rfl) (fun _ _ _ h => h) ⟨_, HB⟩ rfl rfl (fun w' hS => EX.load rfl (Rd.arr ty95 (hS.block (H.sat (b5, .cells (arrC ls) 95) (by simp [Value.cells])) (by simp)) hR.len)) rfl ?_
                            refine WH.hard 42 rfl (by kernel_rfl) ?_
                            refine WL.yes rfl rfl ?_
                            refine WL.call call81 rfl rfl ?_
                            refine Calls.mono (capacity_any ls hR _) ?_
                            rintro _ wx ⟨rfl, Hc⟩
                            refine ⟨_, rfl, ?_⟩
                            replace HB := HB.call0 Hc
                            refine WL.done (WX.heldOn ⟨_, HB⟩ ?_)
                            refine WH.hard 44 rfl (by kernel_rfl) ?_
                            refine WL.yes rfl rfl ?_
                            refine WL.call call82 rfl rfl ?_
                            refine Calls.mono (refCapacity_any ls hR _) ?_
                            rintro _ wx ⟨rfl, Hc⟩
                            refine ⟨_, rfl, ?_⟩
                            replace HB := HB.call0 Hc
                            refine WL.done (WX.heldOn ⟨_, HB⟩ ?_)
                            refine WH.takeYes 45 rfl (by kernel_rfl) (by kernel_rfl) (by kernel_rfl) (fun _ _ _ h => h) ⟨_, HB⟩ rfl rfl (fun w' hS => EX.bin rfl rfl (binv_neq)) rfl ?_
                            refine WH.take 46 rfl (by kernel_rfl) (by kernel_rfl) (by kernel_rfl) (fun _ _ _ h => h) ⟨_, HB⟩ (fun w' hS => EX.pickF rfl rfl) rfl ?_
                            refine WH.take 47 rfl (by kernel_rfl) (by kernel_rfl) (by kernel_rfl) (fun _ _ _ h => h) ⟨_, HB⟩ (fun w' hS => EX.move rfl) rfl ?_
                            first | refine WH.splitD (t := 121) rfl (fun g20 => ?_) (fun g20 => ?_) | refine WH.split (t := 121) rfl (fun g20 => ?_) (fun g20 => ?_)
                            ·
                              first | exact absurd rfl g20 | omega | simp at g20
                            ·
                              refine WH.takeYes 48 rfl (by kernel_rfl) (by kernel_rfl) (by kernel_rfl) (fun _ _ _ h => h) ⟨_, HB⟩ rfl rfl (fun w' hS => EX.load rfl (Rd.arr ty95 (hS.block (H.sat (b5, .cells (arrC ls) 95) (by simp [Value.cells])) (by simp)) hR.len)) rfl ?_
                              refine WH.takeYes 50 rfl (by kernel_rfl) (by kernel_rfl) (by kernel_rfl) (fun _ _ _ h => h) ⟨_, HB⟩ rfl rfl (fun w' hS => EX.load rfl (Rd.arr ty95 (hS.block (H.sat (b5, .cells (arrC ls) 95) (by simp [Value.cells])) (by simp)) hR.len)) rfl ?_
                              refine WH.hard 49 rfl (by kernel_rfl) ?_
                              refine WL.yes rfl rfl ?_
                              refine WL.call call83 rfl rfl ?_
                              refine Calls.mono (stampAt_any ls hR _) ?_
                              rintro _ wx ⟨rfl, Hc⟩
                              refine ⟨_, rfl, ?_⟩
                              replace HB := HB.call0 Hc
                              refine WL.done (WX.heldOn ⟨_, HB⟩ ?_)
                              refine WH.hard 51 rfl (by kernel_rfl) ?_
                              refine WL.yes rfl rfl ?_
                              refine WL.call call84 rfl rfl ?_
                              refine Calls.mono (refStampAt_any ls hR _) ?_
                              rintro _ wx ⟨rfl, Hc⟩
                              refine ⟨_, rfl, ?_⟩
                              replace HB := HB.call0 Hc
                              refine WL.done (WX.heldOn ⟨_, HB⟩ ?_)
                              refine WH.takeYes 52 rfl (by kernel_rfl) (by kernel_rfl) (by kernel_rfl) (fun _ _ _ h => h) ⟨_, HB⟩ rfl rfl (fun w' hS => EX.bin rfl rfl (binv_neq)) rfl ?_
                              refine WH.take 53 rfl (by kernel_rfl) (by kernel_rfl) (by kernel_rfl) (fun _ _ _ h => h) ⟨_, HB⟩ (fun w' hS => EX.pickF rfl rfl) rfl ?_
                              refine WH.done (by kernel_rfl) ?_
                              replace H := H.call HB
                              refine WX.next ?_
                              first | refine WC.cond_dec rfl (fun c7 => ?_) (fun c7 => ?_) | refine WC.cond rfl (fun c7 => ?_) (fun c7 => ?_)
                              ·
                                first | exact absurd rfl c7 | omega | simp at c7
                              ·
                                refine (WC.skip (WX.next ?_))
                                refine WC.seq ?_
                                replace H := H.drew
                                refine WC.held (SX (World.drew wx) []) (by kernel_rfl) ?_
                                generalize World.drew wx = wb at H ⊢
                                have HB := St.refl wb
                                refine WH.hard 0 rfl (by kernel_rfl) ?_
                                refine WL.call call59 rfl rfl ?_
                                refine Calls.mono (sanity9_any _ ((hG.of0 H).of0 HB) ((hL.of0 H).of0 HB)) ?_
                                rintro _ wx ⟨rfl, Hc⟩
                                refine ⟨_, rfl, ?_⟩
                                replace HB := HB.call0 Hc
                                refine WL.done (WX.heldOn ⟨_, HB⟩ ?_)
                                refine WH.take 1 rfl (by kernel_rfl) (by kernel_rfl) (by kernel_rfl) (fun _ _ _ h => h) ⟨_, HB⟩ (fun w' hS => EX.move rfl) rfl ?_
                                first | refine WH.splitD (t := 129) rfl (fun g21 => ?_) (fun g21 => ?_) | refine WH.split (t := 129) rfl (fun g21 => ?_) (fun g21 => ?_)
                                ·
                                  refine WH.takeYes 2 rfl (by kernel_rfl) (by kernel_rfl) (by kernel_rfl) (fun _ _ _ h => h) ⟨_, HB⟩ rfl rfl (fun w' hS => EX.move rfl) rfl ?_
                                  refine WH.takeYes 3 rfl (by kernel_rfl) (by kernel_rfl) (by kernel_rfl) (fun _ _ _ h => h) ⟨_, HB⟩ rfl rfl (fun w' hS => EX.notOp rfl) rfl ?_
                                  refine WH.takeYes 4 rfl (by kernel_rfl) (by kernel_rfl) (by kernel_rfl) (fun _ _ _ h => h) ⟨_, HB⟩ rfl rfl (fun w' hS => EX.move rfl) rfl ?_
                                  first | refine WH.splitD (t := 132) rfl (fun g22 => ?_) (fun g22 => ?_) | refine WH.split (t := 132) rfl (fun g22 => ?_) (fun g22 => ?_)
                                  ·
                                    refine WH.takeNo 5 rfl (by kernel_rfl) (by kernel_rfl) (by kernel_rfl) (fun _ _ _ h => h) ⟨_, HB⟩ rfl rfl rfl ?_
                                    refine WH.takeNo 6 rfl (by kernel_rfl) (by kernel_rfl) (by kernel_rfl) (fun _ _ _ h => h) ⟨_, HB⟩ rfl rfl rfl ?_
                                    refine WH.takeNo 8 rfl (by kernel_rfl) (by kernel_rfl) (by kernel_rfl) (fun _ _ _ h => h) ⟨_, HB⟩ rfl rfl rfl ?_
                                    refine WH.takeNo 9 rfl (by kernel_rfl) (by kernel_rfl) (by kernel_rfl) (fun _ _ _ h => h) ⟨_, HB⟩ rfl rfl rfl ?_
                                    refine WH.takeNo 7 rfl (by kernel_rfl) (by kernel_rfl) (by kernel_rfl) (fun _ _ _ h => h) ⟨_, HB⟩ rfl rfl rfl ?_
                                    refine WH.takeNo 10 rfl (by kernel_rfl) (by kernel_rfl) (by kernel_rfl) (fun _ _ _ h => h) ⟨_, HB⟩ rfl rfl rfl ?_
                                    refine WH.takeNo 11 rfl (by kernel_rfl) (by kernel_rfl) (by kernel_rfl) (fun _ _ _ h => h) ⟨_, HB⟩ rfl rfl rfl ?_
                                    refine WH.takeYes 12 rfl (by kernel_rfl) (by kernel_rfl) (by kernel_rfl) (fun _ _ _ h => h) ⟨_, HB⟩ rfl rfl (fun w' hS => EX.pickT rfl rfl) rfl ?_
                                    refine WH.take 13 rfl (by kernel_rfl) (by kernel_rfl) (by kernel_rfl) (fun _ _ _ h => h) ⟨_, HB⟩ (fun w' hS => EX.pickT rfl rfl) rfl ?_
                                    refine WH.take 14 rfl (by kernel_rfl) (by kernel_rfl) (by kernel_rfl) (fun _ _ _ h => h) ⟨_, HB⟩ (fun w' hS => EX.assign rfl) rfl ?_
                                    refine WH.done (by kernel_rfl) ?_
                                    replace H := H.call HB
                                    refine WX.next ?_
                                    refine (WC.ret ?_)
                                    refine ret_one rfl rfl ?_
                                    exact ⟨rfl, H.weaken (List.nil_sublist _)⟩
                                  ·
                                    refine WH.takeYes 5 rfl (by kernel_rfl) (by kernel_rfl) (by kernel_rfl) (fun _ _ _ h => h) ⟨_, HB⟩ rfl rfl (fun w' hS => EX.load rfl (Rd.all ty125 (hS.block (H.sat (b6, .cells #[.int .i64 num, .slice A es.length cap] 125) (by simp [Value.cells])) (by simp)) rfl)) rfl ?_
                                    refine WH.takeYes 6 rfl (by kernel_rfl) (by kernel_rfl) (by kernel_rfl) (fun _ _ _ h => h) ⟨_, HB⟩ rfl rfl (fun w' hS => EX.move rfl) rfl ?_
                                    refine WH.takeYes 8 rfl (by kernel_rfl) (by kernel_rfl) (by kernel_rfl) (fun _ _ _ h => h) ⟨_, HB⟩ rfl rfl (fun w' hS => EX.load rfl (Rd.all ty125 (hS.block (H.sat (b6, .cells #[.int .i64 num, .slice A es.length cap] 125) (by simp [Value.cells])) (by simp)) rfl)) rfl ?_
                                    refine WH.takeYes 9 rfl (by kernel_rfl) (by kernel_rfl) (by kernel_rfl) (fun _ _ _ h => h) ⟨_, HB⟩ rfl rfl (fun w' hS => EX.move rfl) rfl ?_
                                    refine WH.hard 7 rfl (by kernel_rfl) ?_
                                    refine WL.yes rfl rfl ?_
                                    refine WL.call call86 rfl rfl ?_
                                    refine Calls.mono (encode_log_any num es A es.length cap rfl (by omega) ep (by omega) _ ((hG.of0 H).of0 HB) ((hx.keep H).keep HB)) ?_
                                    rintro _ wx ⟨q1, rfl, hq1, Hc⟩
                                    refine ⟨_, rfl, ?_⟩
                                    replace HB := HB.call Hc
                                    rw [Row.val_adr]
                                    refine WL.done (WX.heldOn ⟨_, HB⟩ ?_)
                                    refine WH.hard 10 rfl (by kernel_rfl) ?_
                                    refine WL.yes rfl rfl ?_
                                    refine WL.call call87 rfl rfl ?_
                                    refine Calls.mono (refEncode_log_any num es A es.length cap rfl (by omega) ep (by omega) (by omega) _ ((hx.keep H).keep HB)) ?_
                                    rintro _ wx ⟨q2, rfl, hq2, Hc⟩
                                    refine ⟨_, rfl, ?_⟩
                                    replace HB := HB.call Hc
                                    rw [Row.val_adr]
                                    refine WL.done (WX.heldOn ⟨_, HB⟩ ?_)
                                    refine WH.hard 11 rfl (by kernel_rfl) ?_
                                    refine WL.yes rfl rfl ?_
                                    refine WL.call call85 rfl rfl ?_
                                    refine Calls.mono (sameInts_any q1.adr q2.adr _ _ q1.cp q2.cp (lenc (num, es) ep) (lenc (num, es) ep) (by rw [lenc_len hx.1]; rfl) (by rw [lenc_len hx.1]; rfl) _ (IntsIn.adr (T := 3) hq1 (fun q hq => HB.sat q (by simp [hq]))) (IntsIn.adr (T := 3) hq2 (fun q hq => HB.sat q (by simp [hq]))) (by omega)) ?_
                                    rintro _ wx ⟨rfl, Hc⟩
                                    refine ⟨_, rfl, ?_⟩
                                    replace HB := HB.call0 Hc
                                    rw [show decide (lenc (num, es) ep = lenc (num, es) ep) = true from decide_eq_true rfl]
                                    refine WL.done (WX.heldOn ⟨_, HB⟩ ?_)
                                    refine WH.takeYes 12 rfl (by kernel_rfl) (by kernel_rfl) (by kernel_rfl) (fun _ _ _ h => h) ⟨_, HB⟩ rfl rfl (fun w' hS => EX.pickF rfl rfl) rfl ?_
                                    refine WH.take 13 rfl (by kernel_rfl) (by kernel_rfl) (by kernel_rfl) (fun _ _ _ h => h) ⟨_, HB⟩ (fun w' hS => EX.pickT rfl rfl) rfl ?_
                                    refine WH.take 14 rfl (by kernel_rfl) (by kernel_rfl) (by kernel_rfl) (fun _ _ _ h => h) ⟨_, HB⟩ (fun w' hS => EX.assign rfl) rfl ?_
                                    refine WH.done (by kernel_rfl) ?_
                                    replace H := H.call HB
                                    refine WX.next ?_
                                    refine (WC.ret ?_)
                                    refine ret_one rfl rfl ?_
                                    exact ⟨rfl, H.weaken (List.nil_sublist _)⟩
                                ·
                                  first | exact absurd rfl g21 | omega | simp at g21

end Go.Proofs.YtkncbggnaobgeaaDoor
