/- MemoryMatchesSpec: for every number of lines and every script, the law returns true and its arguments read behind the call as they did. No condition but the given card's own. -/
import Derived.Test.YtkncbggnaobgeaaDoorGj
import Derived.Test.YtkncbggnaobgeaaDoorGg
import Derived.Test.YtkncbggnaobgeaaDoorGh
import Derived.Test.YtkncbggnaobgeaaDoorTie
import Derived.Test.YtkncbggnaobgeaaDoorCards

/- Walks of functions of the program; printed by a program of this session (walk.py) out of hand-written hints. -/
namespace Go.Proofs.YtkncbggnaobgeaaDoor
open Go.RowKit
set_option linter.unusedVariables false
set_option linter.unusedSimpArgs false
set_option maxRecDepth 100000

theorem r_new_ok {w : World} (n : Int) (hn : 1 ≤ n ∧ n ≤ 4096) : Calls Tryd.prog 54 #[.int .i64 n] w fun e w' => ∃ p Q, e = .returned (ptr p) ∧ IsR Q p (PM.fresh n.toNat) 0 ∧ St w [] w' Q.hp :=
  (rnew_any n w).mono fun e w' ⟨p, he, h⟩ => by
    rcases h with ⟨_, _, Q, h1, h2, h3, h4⟩ | ⟨h, _⟩
    · exact ⟨p, Q, he, ⟨h1, h2, h3, fresh_small _⟩, h4⟩
    · exact absurd hn h
theorem r_new_no {w : World} (n : Int) (hn : ¬ (1 ≤ n ∧ n ≤ 4096)) : Calls Tryd.prog 54 #[.int .i64 n] w fun e w' => ∃ p, e = .returned (ptr p) ∧ St w [] w' [(p, .cells #[.slice none 0 0, .int .i64 0, .slice none 0 0] 89)] :=
  (rnew_any n w).mono fun e w' ⟨p, he, h⟩ => by
    rcases h with ⟨h1, h2, _⟩ | ⟨_, h⟩
    · exact absurd ⟨h1, h2⟩ hn
    · exact ⟨p, he, h⟩

theorem matchesSpec_any (w : World) (hL : L64 w) (n : Int) (A : Option Addr) (m cap : Nat) (xs : List OpV) (hm : m = xs.length) (hm63 : m ≤ 9223372036854775807) (hx : OpsIn w A xs) (hok : ∀ v ∈ xs, v.ok w) : Calls Tryd.prog 9 #[.int .i64 n, .slice A m cap] w fun e w' => e = .returned (.bool true) ∧ St w [] w' [] := by
  refine calls_walk_n (args := [.int .i64 n, .slice A m cap]) Tryd.func9 rfl rfl rfl ?_
  have H := St.refl w
  refine WC.seq ?_
  refine WC.region ?_
  refine WL.assign rfl rfl ?_
  refine (WL.done (WX.next ?_))
  refine WC.seq ?_
  refine WC.region ?_
  refine WL.move rfl rfl ?_
  by_cases hn : 1 ≤ n ∧ n ≤ 4096
  · -- way 0
    refine WL.call call23 rfl rfl ?_
    refine Calls.mono (a_new_ok n hn H hL) ?_
    rintro _ wx ⟨p, R, rfl, hI, H⟩
    refine ⟨_, rfl, ?_⟩
    refine WL.assign rfl rfl ?_
    refine (WL.done (WX.next ?_))
    refine WC.seq ?_
    refine WC.region ?_
    refine WL.move rfl rfl ?_
    refine WL.call call54 rfl rfl ?_
    refine Calls.mono (r_new_ok n hn) ?_
    rintro _ wx ⟨q, Q, rfl, hJ, Hc⟩
    refine ⟨_, rfl, ?_⟩
    replace H := H.call Hc
    change St w [] wx (Q.hp ++ R.hp) at H
    have hq := hJ.p
    subst hq
    have hlq := hJ.ok.len
    have hn0 := hJ.mem (H.perm List.perm_append_comm)
    refine WL.assign rfl rfl ?_
    refine (WL.done (WX.next ?_))
    refine WC.seq ?_
    refine WC.seq ?_
    refine WC.region ?_
    refine WL.move rfl rfl ?_
    refine WL.bin rfl rfl binv_gtr rfl ?_
    refine WL.move rfl rfl ?_
    first | refine WL.splitD (t := 19) rfl (fun g1 => ?_) (fun g1 => ?_) | refine WL.split (t := 19) rfl (fun g1 => ?_) (fun g1 => ?_)
    · -- g1 True
      refine WL.no rfl rfl rfl ?_
      refine WL.no rfl rfl rfl ?_
      refine WL.no rfl rfl rfl ?_
      refine WL.pickT rfl rfl rfl ?_
      refine (WL.done (WX.next ?_))
      refine WC.cond_true rfl (rfl) ?_
      refine WC.seq ?_
      refine WC.region ?_
      refine WL.call call22 rfl rfl ?_
      refine Calls.mono (q_sanity hL H) ?_
      rintro _ wx ⟨rfl, Hc⟩
      refine ⟨_, rfl, ?_⟩
      replace H := H.call0 Hc
      refine WL.assign rfl rfl ?_
      refine (WL.done (WX.next ?_))
      refine (WC.ret (WX.then_ret ?_))
      refine ret_one rfl rfl ?_
      exact ⟨rfl, H.weaken (List.nil_sublist _)⟩
    · -- g1 False
      refine WL.yes rfl rfl ?_
      refine WL.move rfl rfl ?_
      refine WL.yes rfl rfl ?_
      refine WL.lenSlc isl35 rfl rfl ?_
      refine WL.yes rfl rfl ?_
      refine WL.bin rfl rfl binv_gtr rfl ?_
      refine WL.pickF rfl rfl rfl ?_
      refine (WL.done (WX.next ?_))
      first | refine WC.cond_dec rfl (fun c2 => ?_) (fun c2 => ?_) | refine WC.cond rfl (fun c2 => ?_) (fun c2 => ?_)
      · -- c2 T
        refine WC.seq ?_
        refine WC.region ?_
        refine WL.call call22 rfl rfl ?_
        refine Calls.mono (q_sanity hL H) ?_
        rintro _ wx ⟨rfl, Hc⟩
        refine ⟨_, rfl, ?_⟩
        replace H := H.call0 Hc
        refine WL.assign rfl rfl ?_
        refine (WL.done (WX.next ?_))
        refine (WC.ret (WX.then_ret ?_))
        refine ret_one rfl rfl ?_
        exact ⟨rfl, H.weaken (List.nil_sublist _)⟩
      · -- c2 F
        refine (WC.skip (WX.next ?_))
        refine WC.seq ?_
        refine WC.seq ?_
        refine WC.region ?_
        refine WL.move rfl rfl ?_
        refine WL.bin rfl rfl (binv_ptr_eql (by kernel_rfl) _) rfl ?_
        refine WL.move rfl rfl ?_
        refine WL.known (t := 27) rfl (b := false) (rfl) ?_
        refine WL.yes rfl rfl ?_
        refine WL.move rfl rfl ?_
        refine WL.yes rfl rfl ?_
        first | refine WL.nilCheck rfl rfl ?_ | refine WL.nilCheckFn rfl rfl ?_
        refine WL.yes rfl rfl ?_
        refine WL.fieldAddr fld89_0 rfl rfl ?_
        refine WL.yes rfl rfl ?_
        first | refine WL.load rfl (Rd.q0 hn0.b0) rfl ?_ | refine WL.load rfl (Rd.one ty87 (by rw [cell_of (H.blk 0 rfl)]; rfl)) rfl ?_
        refine WL.yes rfl rfl ?_
        refine WL.lenSlc isl87 rfl rfl ?_
        refine WL.yes rfl rfl ?_
        refine WL.bin rfl rfl binv_eql rfl ?_
        refine WL.pickF rfl rfl rfl ?_
        refine (WL.done (WX.next ?_))
        refine WC.cond_false rfl (decide_eq_false (by omega)) ?_
        refine (WC.skip (WX.next ?_))
        refine WC.seq ?_
        refine WC.seq ?_
        refine WC.region ?_
        refine WL.move rfl rfl ?_
        refine WL.lenSlc isl35 rfl rfl ?_
        refine WL.move rfl rfl ?_
        refine (WL.done (WX.next ?_))
        refine WC.block ?_
        -- loop 1: changed [50] kept [1, 5, 6, 49]
        clear hn0 hlq
        obtain ⟨Q0, hQ0⟩ : ∃ Q0, Q.p = Q0 := ⟨_, rfl⟩
        rw [hQ0] at hJ ⊢
        refine WC.loop (Sub.cons (t := 1) rfl (Sub.cons (t := 5) rfl (Sub.cons (t := 6) rfl (Sub.cons (t := 49) rfl (Sub.nil _))))) (fun z : RM × RR × Nat => [(50, .int .i64 (z.2.2 : Int))]) (fun z i wx => z = m - i.2.2 ∧ i.2.2 ≤ m ∧ Is i.1 p ((PM.fresh n.toNat).run ((plain xs).take i.2.2)) i.2.2 ∧ IsR i.2.1 Q0 ((PM.fresh n.toNat).run ((plain xs).take i.2.2)) i.2.2 ∧ St w [] wx (i.2.1.hp ++ i.1.hp)) (m) ((R, Q, 0)) (Sub.cons (t := 50) (by first | rfl | simp) (Sub.nil _)) (⟨rfl, Nat.zero_le _, hI, hJ, H⟩) ?_
        rintro k9 g wx hI9 N hN
        clear hI hJ H
        obtain ⟨R, Q, g⟩ := g
        obtain ⟨rfl, hgm, hI, hJ, H⟩ := hI9
        change g ≤ m at hgm
        change Is R p ((PM.fresh n.toNat).run ((plain xs).take g)) g at hI
        change IsR Q Q0 ((PM.fresh n.toNat).run ((plain xs).take g)) g at hJ
        change St w [] wx (Q.hp ++ R.hp) at H
        refine WC.seq ?_
        refine WC.region ?_
        refine WL.bin rfl rfl binv_lss rfl ?_
        refine (WL.done (WX.next ?_))
        refine WC.seq ?_
        first | refine WC.cond_dec rfl (fun c4 => ?_) (fun c4 => ?_) | refine WC.cond rfl (fun c4 => ?_) (fun c4 => ?_)
        · -- c4 T
          change (g : Int) < (m : Int) at c4
          refine (WC.skip (WX.next ?_))
          refine WC.seq ?_
          refine WC.block ?_
          refine WC.seq ?_
          refine WC.region ?_
          refine WL.move rfl rfl ?_
          refine WL.assign rfl rfl ?_
          refine (WL.done (WX.next ?_))
          refine WC.seq ?_
          refine WC.seq ?_
          refine WC.region ?_
          refine WL.move rfl rfl ?_
          refine WL.move rfl rfl ?_
          refine WL.lenSlc isl35 rfl rfl ?_
          refine WL.bin rfl rfl (iquo (by omega) (by omega) (by omega)) rfl ?_
          refine WL.bin rfl rfl binv_eql rfl ?_
          refine (WL.done (WX.next ?_))
          first | refine WC.cond_dec rfl (fun c5 => ?_) (fun c5 => ?_) | refine WC.cond rfl (fun c5 => ?_) (fun c5 => ?_)
          · -- c5 T
            refine WC.seq ?_
            refine WC.region ?_
            refine WL.move rfl rfl ?_
            refine WL.call call41 rfl rfl ?_
            refine Calls.mono (a_copy (by omega) hI H hL) ?_
            rintro _ wx ⟨pc, Rc, rfl, hIc, H⟩
            refine ⟨_, rfl, ?_⟩
            refine WL.assign rfl rfl ?_
            refine (WL.done (WX.next ?_))
            refine WC.seq ?_
            refine WC.seq ?_
            refine WC.region ?_
            refine WL.move rfl rfl ?_
            refine WL.bin rfl rfl (binv_ptr_eql (by kernel_rfl) _) rfl ?_
            refine WL.move rfl rfl ?_
            refine WL.known (t := 62) rfl (b := false) (rfl) ?_
            refine WL.yes rfl rfl ?_
            refine WL.move rfl rfl ?_
            refine WL.yes rfl rfl ?_
            refine WL.move rfl rfl ?_
            refine WL.yes rfl rfl ?_
            refine WL.call call55 rfl rfl ?_
            refine Calls.mono (same_any hIc hJ (by omega) _ (hIc.mem H hL) (hJ.mem (L := R.hp ++ Rc.hp) (H.perm (by rw [List.append_assoc]; exact List.perm_append_comm))) (hL.of0 H)) ?_
            rintro _ wx ⟨rfl, Hc⟩
            refine ⟨_, rfl, ?_⟩
            replace H := H.call0 Hc
            refine WL.yes rfl rfl ?_
            refine WL.notOp rfl rfl ?_
            refine WL.pickF rfl rfl rfl ?_
            refine (WL.done (WX.next ?_))
            refine WC.cond_false rfl (rfl) ?_
            refine (WC.skip (WX.next ?_))
            refine WC.seq ?_
            refine WC.region ?_
            refine WL.move rfl rfl ?_
            refine WL.call call56 rfl rfl ?_
            refine Calls.mono (a_store 0 1 (by omega) (by omega) hIc H hL) ?_
            rintro _ wx ⟨Rc, rfl, hIc, H⟩
            refine ⟨_, rfl, ?_⟩
            refine (WL.done (WX.next ?_))
            refine WC.region ?_
            refine WL.move rfl rfl ?_
            refine WL.call call37 rfl rfl ?_
            refine Calls.mono (a_crash none 0 0 [] rfl (by omega) (by omega) hIc H hL (.inl rfl)) ?_
            rintro _ wx ⟨Rc, rfl, hIc, H⟩
            refine ⟨_, rfl, ?_⟩
            replace H := H.weaken (List.sublist_append_left _ _)
            refine (WL.done (WX.next ?_))
            refine WC.seq ?_
            refine WC.region ?_
            have hlt : g < xs.length := by omega
            have hv := hok _ (List.getElem_mem hlt)
            obtain ⟨b, o, cs, t, fr, rfl, hb, hcs⟩ := (hx.keep H).at hlt
            refine WL.move rfl rfl ?_
            refine WL.move rfl rfl ?_
            refine WL.move rfl rfl ?_
            refine WL.idxSlc (k := g) slc35 rfl rfl (by first | rfl | omega) (by omega) rfl ?_
            refine WL.load rfl (Rd.cellsAt ty60 hb (opC_length (A := (xs[g]).A) (cap := (xs[g]).cap) hv.x.w8) (by omega) hcs) rfl ?_
            refine WL.call call44 rfl rfl ?_
            refine Calls.mono (do_any (L := Q.hp) (xs[g]).x (xs[g]).A (xs[g]).cap hv.x hv.cuts (by omega) hI H hL) ?_
            rintro _ wx ⟨R1, rfl, hI1, H⟩
            refine ⟨_, rfl, ?_⟩
            refine WL.move rfl rfl ?_
            refine WL.extract rfl rfl rfl ?_
            refine WL.extract rfl rfl rfl ?_
            refine WL.assign rfl rfl ?_
            refine WL.assign rfl rfl ?_
            refine (WL.done (WX.next ?_))
            refine WC.seq ?_
            refine WC.region ?_
            obtain ⟨b2, o2, cs2, t2, fr2, hA2, hb2, hcs2⟩ := (hx.keep H).at hlt
            cases hA2
            refine WL.move rfl rfl ?_
            refine WL.move rfl rfl ?_
            refine WL.move rfl rfl ?_
            refine WL.idxSlc (k := g) slc35 rfl rfl (by first | rfl | omega) (by omega) rfl ?_
            refine WL.load rfl (Rd.cellsAt ty60 hb2 (opC_length (A := (xs[g]).A) (cap := (xs[g]).cap) hv.x.w8) (by omega) hcs2) rfl ?_
            refine WL.call call57 rfl rfl ?_
            refine Calls.mono (rdo_any (L := R1.hp) (xs[g]).x (xs[g]).A (xs[g]).cap hv.x hv.cuts (by omega) hJ (H.perm List.perm_append_comm)) ?_
            rintro _ wx ⟨Q1, rfl, hJ1, H⟩
            refine ⟨_, rfl, ?_⟩
            replace H := H.perm List.perm_append_comm
            refine WL.move rfl rfl ?_
            refine WL.extract rfl rfl rfl ?_
            refine WL.extract rfl rfl rfl ?_
            refine WL.assign rfl rfl ?_
            refine WL.assign rfl rfl ?_
            refine (WL.done (WX.next ?_))
            refine WC.seq ?_
            refine WC.region ?_
            refine WL.move rfl rfl ?_
            refine WL.move rfl rfl ?_
            refine WL.bin rfl rfl binv_neq rfl ?_
            refine WL.move rfl rfl ?_
            refine WL.known (t := 93) rfl (b := false) (decide_eq_false (fun h => h rfl)) ?_
            refine WL.yes rfl rfl ?_
            refine WL.move rfl rfl ?_
            refine WL.yes rfl rfl ?_
            refine WL.move rfl rfl ?_
            refine WL.yes rfl rfl ?_
            refine WL.bin rfl rfl binv_neq rfl ?_
            refine WL.pickF rfl rfl rfl ?_
            refine (WL.done (WX.next ?_))
            refine WC.cond_false rfl (decide_eq_false (fun h => h rfl)) ?_
            refine (WC.skip (WX.block_normal (WX.next ?_)))
            refine WC.region ?_
            refine WL.bin rfl rfl (iadd (by show _ ≤ (g : Int) + 1; omega) (by show (g : Int) + 1 ≤ _; omega)) rfl ?_
            refine WL.move rfl rfl ?_
            refine (WL.done (WX.round ?_))
            rw [← plain_get xs hlt, ← run_succ] at hI1 hJ1
            exact hN _ (R1, Q1, g + 1) _ _ (by show m - (g + 1) < m - g; omega) ⟨rfl, by show g + 1 ≤ m; omega, hI1, hJ1, H⟩ (Sub.cons (t := 50) (by first | rfl | simp) (Sub.nil _)) (Sub.cons (t := 1) rfl (Sub.cons (t := 5) rfl (Sub.cons (t := 6) rfl (Sub.cons (t := 49) rfl (Sub.nil _)))))
          · -- c5 F
            refine (WC.skip (WX.next ?_))
            refine WC.seq ?_
            refine WC.region ?_
            have hlt : g < xs.length := by omega
            have hv := hok _ (List.getElem_mem hlt)
            obtain ⟨b, o, cs, t, fr, rfl, hb, hcs⟩ := (hx.keep H).at hlt
            refine WL.move rfl rfl ?_
            refine WL.move rfl rfl ?_
            refine WL.move rfl rfl ?_
            refine WL.idxSlc (k := g) slc35 rfl rfl (by first | rfl | omega) (by omega) rfl ?_
            refine WL.load rfl (Rd.cellsAt ty60 hb (opC_length (A := (xs[g]).A) (cap := (xs[g]).cap) hv.x.w8) (by omega) hcs) rfl ?_
            refine WL.call call44 rfl rfl ?_
            refine Calls.mono (do_any (L := Q.hp) (xs[g]).x (xs[g]).A (xs[g]).cap hv.x hv.cuts (by omega) hI H hL) ?_
            rintro _ wx ⟨R1, rfl, hI1, H⟩
            refine ⟨_, rfl, ?_⟩
            refine WL.move rfl rfl ?_
            refine WL.extract rfl rfl rfl ?_
            refine WL.extract rfl rfl rfl ?_
            refine WL.assign rfl rfl ?_
            refine WL.assign rfl rfl ?_
            refine (WL.done (WX.next ?_))
            refine WC.seq ?_
            refine WC.region ?_
            obtain ⟨b2, o2, cs2, t2, fr2, hA2, hb2, hcs2⟩ := (hx.keep H).at hlt
            cases hA2
            refine WL.move rfl rfl ?_
            refine WL.move rfl rfl ?_
            refine WL.move rfl rfl ?_
            refine WL.idxSlc (k := g) slc35 rfl rfl (by first | rfl | omega) (by omega) rfl ?_
            refine WL.load rfl (Rd.cellsAt ty60 hb2 (opC_length (A := (xs[g]).A) (cap := (xs[g]).cap) hv.x.w8) (by omega) hcs2) rfl ?_
            refine WL.call call57 rfl rfl ?_
            refine Calls.mono (rdo_any (L := R1.hp) (xs[g]).x (xs[g]).A (xs[g]).cap hv.x hv.cuts (by omega) hJ (H.perm List.perm_append_comm)) ?_
            rintro _ wx ⟨Q1, rfl, hJ1, H⟩
            refine ⟨_, rfl, ?_⟩
            replace H := H.perm List.perm_append_comm
            refine WL.move rfl rfl ?_
            refine WL.extract rfl rfl rfl ?_
            refine WL.extract rfl rfl rfl ?_
            refine WL.assign rfl rfl ?_
            refine WL.assign rfl rfl ?_
            refine (WL.done (WX.next ?_))
            refine WC.seq ?_
            refine WC.region ?_
            refine WL.move rfl rfl ?_
            refine WL.move rfl rfl ?_
            refine WL.bin rfl rfl binv_neq rfl ?_
            refine WL.move rfl rfl ?_
            refine WL.known (t := 93) rfl (b := false) (decide_eq_false (fun h => h rfl)) ?_
            refine WL.yes rfl rfl ?_
            refine WL.move rfl rfl ?_
            refine WL.yes rfl rfl ?_
            refine WL.move rfl rfl ?_
            refine WL.yes rfl rfl ?_
            refine WL.bin rfl rfl binv_neq rfl ?_
            refine WL.pickF rfl rfl rfl ?_
            refine (WL.done (WX.next ?_))
            refine WC.cond_false rfl (decide_eq_false (fun h => h rfl)) ?_
            refine (WC.skip (WX.block_normal (WX.next ?_)))
            refine WC.region ?_
            refine WL.bin rfl rfl (iadd (by show _ ≤ (g : Int) + 1; omega) (by show (g : Int) + 1 ≤ _; omega)) rfl ?_
            refine WL.move rfl rfl ?_
            refine (WL.done (WX.round ?_))
            rw [← plain_get xs hlt, ← run_succ] at hI1 hJ1
            exact hN _ (R1, Q1, g + 1) _ _ (by show m - (g + 1) < m - g; omega) ⟨rfl, by show g + 1 ≤ m; omega, hI1, hJ1, H⟩ (Sub.cons (t := 50) (by first | rfl | simp) (Sub.nil _)) (Sub.cons (t := 1) rfl (Sub.cons (t := 5) rfl (Sub.cons (t := 6) rfl (Sub.cons (t := 49) rfl (Sub.nil _)))))
        · -- c4 F
          change ¬ (g : Int) < (m : Int) at c4
          refine (WC.exit (WX.then_exit (WX.then_exit (WX.block_exit (WX.next ?_)))))
          refine WC.seq ?_
          refine WC.region ?_
          refine WL.call call22 rfl rfl ?_
          refine Calls.mono (q_sanity hL H) ?_
          rintro _ wx ⟨rfl, Hc⟩
          refine ⟨_, rfl, ?_⟩
          replace H := H.call0 Hc
          refine WL.move rfl rfl ?_
          refine WL.known (t := 100) rfl (b := true) (rfl) ?_
          refine WL.yes rfl rfl ?_
          refine WL.move rfl rfl ?_
          refine WL.yes rfl rfl ?_
          refine WL.move rfl rfl ?_
          refine WL.yes rfl rfl ?_
          refine WL.call call55 rfl rfl ?_
          refine Calls.mono (same_any hI hJ (by omega) _ (hI.mem H hL) (hJ.mem (H.perm List.perm_append_comm)) (hL.of0 H)) ?_
          rintro _ wx ⟨rfl, Hc⟩
          refine ⟨_, rfl, ?_⟩
          replace H := H.call0 Hc
          refine WL.pickT rfl rfl rfl ?_
          refine WL.assign rfl rfl ?_
          refine (WL.done (WX.next ?_))
          refine (WC.ret ?_)
          refine ret_one rfl rfl ?_
          exact ⟨rfl, H.weaken (List.nil_sublist _)⟩
  · -- way 1
    refine WL.call call23 rfl rfl ?_
    refine Calls.mono (a_new_no n hn H hL) ?_
    rintro _ wx ⟨rfl, H⟩
    refine ⟨_, rfl, ?_⟩
    refine WL.assign rfl rfl ?_
    refine (WL.done (WX.next ?_))
    refine WC.seq ?_
    refine WC.region ?_
    refine WL.move rfl rfl ?_
    refine WL.call call54 rfl rfl ?_
    refine Calls.mono (r_new_no n hn) ?_
    rintro _ wx ⟨q, rfl, Hc⟩
    refine ⟨_, rfl, ?_⟩
    replace H := H.call Hc
    refine WL.assign rfl rfl ?_
    refine (WL.done (WX.next ?_))
    refine WC.seq ?_
    refine WC.seq ?_
    refine WC.region ?_
    refine WL.move rfl rfl ?_
    refine WL.bin rfl rfl binv_gtr rfl ?_
    refine WL.move rfl rfl ?_
    first | refine WL.splitD (t := 19) rfl (fun g2 => ?_) (fun g2 => ?_) | refine WL.split (t := 19) rfl (fun g2 => ?_) (fun g2 => ?_)
    · -- g2 True
      refine WL.no rfl rfl rfl ?_
      refine WL.no rfl rfl rfl ?_
      refine WL.no rfl rfl rfl ?_
      refine WL.pickT rfl rfl rfl ?_
      refine (WL.done (WX.next ?_))
      refine WC.cond_true rfl (rfl) ?_
      refine WC.seq ?_
      refine WC.region ?_
      refine WL.call call22 rfl rfl ?_
      refine Calls.mono (q_sanity hL H) ?_
      rintro _ wx ⟨rfl, Hc⟩
      refine ⟨_, rfl, ?_⟩
      replace H := H.call0 Hc
      refine WL.assign rfl rfl ?_
      refine (WL.done (WX.next ?_))
      refine (WC.ret (WX.then_ret ?_))
      refine ret_one rfl rfl ?_
      exact ⟨rfl, H.weaken (List.nil_sublist _)⟩
    · -- g2 False
      refine WL.yes rfl rfl ?_
      refine WL.move rfl rfl ?_
      refine WL.yes rfl rfl ?_
      refine WL.lenSlc isl35 rfl rfl ?_
      refine WL.yes rfl rfl ?_
      refine WL.bin rfl rfl binv_gtr rfl ?_
      refine WL.pickF rfl rfl rfl ?_
      refine (WL.done (WX.next ?_))
      first | refine WC.cond_dec rfl (fun c10 => ?_) (fun c10 => ?_) | refine WC.cond rfl (fun c10 => ?_) (fun c10 => ?_)
      · -- c10 T
        refine WC.seq ?_
        refine WC.region ?_
        refine WL.call call22 rfl rfl ?_
        refine Calls.mono (q_sanity hL H) ?_
        rintro _ wx ⟨rfl, Hc⟩
        refine ⟨_, rfl, ?_⟩
        replace H := H.call0 Hc
        refine WL.assign rfl rfl ?_
        refine (WL.done (WX.next ?_))
        refine (WC.ret (WX.then_ret ?_))
        refine ret_one rfl rfl ?_
        exact ⟨rfl, H.weaken (List.nil_sublist _)⟩
      · -- c10 F
        refine (WC.skip (WX.next ?_))
        refine WC.seq ?_
        refine WC.seq ?_
        refine WC.region ?_
        refine WL.move rfl rfl ?_
        refine WL.bin rfl rfl (binv_ptr_eql (by kernel_rfl) _) rfl ?_
        refine WL.move rfl rfl ?_
        refine WL.known (t := 27) rfl (b := true) (rfl) ?_
        refine WL.no rfl rfl rfl ?_
        refine WL.no rfl rfl rfl ?_
        refine WL.no rfl rfl rfl ?_
        refine WL.no rfl rfl rfl ?_
        refine WL.no rfl rfl rfl ?_
        refine WL.no rfl rfl rfl ?_
        refine WL.pickT rfl rfl rfl ?_
        refine (WL.done (WX.next ?_))
        refine WC.cond_true rfl (rfl) ?_
        refine WC.seq ?_
        refine WC.region ?_
        refine WL.call call22 rfl rfl ?_
        refine Calls.mono (q_sanity hL H) ?_
        rintro _ wx ⟨rfl, Hc⟩
        refine ⟨_, rfl, ?_⟩
        replace H := H.call0 Hc
        refine WL.move rfl rfl ?_
        refine WL.known (t := 36) rfl (b := true) (rfl) ?_
        refine WL.yes rfl rfl ?_
        refine WL.move rfl rfl ?_
        refine WL.yes rfl rfl ?_
        refine WL.bin rfl rfl (binv_ptr_eql (by kernel_rfl) _) rfl ?_
        refine WL.pickT rfl rfl rfl ?_
        refine WL.move rfl rfl ?_
        refine WL.known (t := 40) rfl (b := true) (rfl) ?_
        refine WL.yes rfl rfl ?_
        refine WL.move rfl rfl ?_
        refine WL.yes rfl rfl ?_
        first | refine WL.nilCheck rfl rfl ?_ | refine WL.nilCheckFn rfl rfl ?_
        refine WL.yes rfl rfl ?_
        refine WL.fieldAddr fld89_0 rfl rfl ?_
        refine WL.yes rfl rfl ?_
        first | refine WL.load rfl (Rd.one ty87 (by rw [cell_of (H.blk 0 rfl)]; rfl)) rfl ?_
        refine WL.yes rfl rfl ?_
        refine WL.lenSlc isl87 rfl rfl ?_
        refine WL.yes rfl rfl ?_
        refine WL.bin rfl rfl binv_eql rfl ?_
        refine WL.pickT rfl rfl rfl ?_
        refine WL.assign rfl rfl ?_
        refine (WL.done (WX.next ?_))
        refine (WC.ret (WX.then_ret ?_))
        refine ret_one rfl rfl ?_
        exact ⟨rfl, H.weaken (List.nil_sublist _)⟩

end Go.Proofs.YtkncbggnaobgeaaDoor

/- MemoryMatchesSpec: for every number of lines and every script, the law returns true and its arguments read behind the call as they did. No condition but the given card's own. -/
namespace Go.Proofs.YtkncbggnaobgeaaDoor
open Go.ChangeShapes Go.WideShapes Go.ChangeAt Go.WideMaps Go.WideElems Go.RowKit
set_option linter.unusedVariables false
set_option maxRecDepth 100000

theorem matches_met (os : Os) (args : Array Value) : laidMetH Tryd.prog Rows.memoryMatchesSpecRow.laid ((World.doorLaid Tryd.prog 31 os).forCall (fun _ _ => 0) ⟨#[], args, []⟩).memory :=
  laidMetH_of_parts3 (fuel := 8) (laidMet_of_run' 8 (by kernel_rfl) (by kernel_rfl)) (by kernel_rfl) (by kernel_rfl)

set_option maxRecDepth 100000 in
theorem matches_lifted (os : Os) (started : os.Started) (H : Type) (enc : TypeId × Value → H) :
    ReturnsInHanded {} Tryd.checked os 9 .any (fun w args => (Rows.memoryMatchesSpecSpec.pre enc Tryd.prog Tryd.f9 [] false w args ∧ laidMetH Tryd.prog Rows.memoryMatchesSpecRow.laid w) ∧ sizedMet enc Tryd.prog Tryd.f9 (OpenSpec.ofChange Rows.memoryMatchesSpecSpec) false w args)
      (Rows.memoryMatchesSpecSpec.post enc Tryd.prog Tryd.f9 false true false false) := by
  refine returnsInHanded_of_change_and (C := Tryd.checked) (X := fun w _ => laidMetH Tryd.prog Rows.memoryMatchesSpecRow.laid w) (fun _ _ _ hh h => h.of_heap hh) own started (by kernel_rfl) Tryd.func9
    (ChangeSpec.witness_shaped (enc := enc) (C := Tryd.checked) (os := os) (X := fun w _ => laidMetH Tryd.prog Rows.memoryMatchesSpecRow.laid w) false (World.doorLaid Tryd.prog 31 os) #[.int .i64 0, .slice none 0 0] 8 rfl (World.shaped_of_RefB (by kernel_rfl) (by kernel_rfl)) (by kernel_rfl) (by kernel_rfl) (by kernel_rfl) (matches_met os _)) ?_
  intro W base args ds gs before hval0 hW _ _ hL _
  have hval : ∀ (j : Nat) t v, Tryd.f9.params[j]? = some t → args[j]? = some v → Value.okWide Tryd.prog W .any base t v := hval0
  have hW' := hW
  obtain ⟨p, q, hA0, hV, _, _, _⟩ := hW
  have hA : DataW.TrodAll enc Tryd.prog W 0 (fun _ => true) true Tryd.f9.params.toList args.toList ds p := hA0
  rw [Tryd.params9] at hA hval
  obtain ⟨v0, vs0, d0, ds0, p0, q0, hargs, rfl, rfl, h0, r0⟩ := trodAll_cons hA
  obtain ⟨v1, vs1, d1, ds1, p1, q1, rfl, rfl, rfl, h1, r1⟩ := trodAll_cons r0
  obtain ⟨rfl, rfl, rfl⟩ := trodAll_nil r1
  obtain rfl : args = #[v0, v1] := by cases args; simp_all
  obtain ⟨rfl, rfl⟩ := trodVars_none hV
  rw [MakeChecks.laidMetH_plain _ _ _ (by kernel_rfl)] at hL
  have hL64 := L64.laid hL (by unfold Rows.memoryMatchesSpecRow; simp)
  obtain ⟨n, rfl, rfl, rfl, w0⟩ := open_int Tryd.underlying3 (hval 0 3 v0 rfl rfl) h0
  obtain ⟨A1, cap1, xs1, rfl, hm1, hx1, hok1⟩ := ops_open (hval 1 35 v1 rfl rfl) h1
  refine (matchesSpec_any W hL64 n A1 xs1.length cap1 xs1 rfl hm1 hx1 hok1).mono fun e W' ⟨he, st⟩ => ?_
  subst he
  exact ⟨_, rfl, post_law laidOut Tryd.underlying4 rfl rfl rfl (by kernel_rfl) hW' st⟩

theorem matches_j9 : (Rows.memoryMatchesSpecRow.inPlace == Tryd.prog.inPlace 9) = true := by kernel_rfl
theorem matches_j10 : (Rows.memoryMatchesSpecRow.unfollowed == Tryd.prog.unfollowed 9) = true := by kernel_rfl
theorem matches_j11 : (Rows.memoryMatchesSpecRow.recurses == Tryd.prog.recurses 9) = true := by kernel_rfl
theorem matches_j12 : (Rows.memoryMatchesSpecRow.named == Tryd.prog.varsNamed 9) = true := by kernel_rfl
theorem matches_joined : joinedFacts Tryd.prog 9 Tryd.f9 Rows.memoryMatchesSpecSpec Rows.memoryMatchesSpecRow = true :=
  joined_mk _ _ _ _ _ (by kernel_rfl) k_laid k_maps (by kernel_rfl) (by kernel_rfl) (by kernel_rfl) k_stops (by kernel_rfl) k_knobs matches_j9 matches_j10 matches_j11 matches_j12
    (by kernel_rfl) (by kernel_rfl) (by kernel_rfl) (by kernel_rfl) (by kernel_rfl) (by kernel_rfl) (by kernel_rfl) (by kernel_rfl) (by kernel_rfl) (by rw [k_keys]; rfl) (by kernel_rfl) k_heard head_may (by rw [head_final]; rfl) (by rw [head_make]; rfl)
    (by kernel_rfl) (by kernel_rfl) (by kernel_rfl) (by kernel_rfl)
theorem matches_name : Tryd.prog.funcNamed "alum/alumlaw04.MemoryMatchesSpec" = some 9 := by kernel_rfl
theorem matches_row : Rows.MemoryMatchesSpecSaid :=
  OpenClaim.holds_of_wide 9 Tryd.f9 rfl rfl rfl rfl rfl rfl rfl ⟨rfl, rfl, rfl, rfl, rfl⟩ rfl rfl rfl rfl rfl matches_name Tryd.func9 matches_joined
    (of_decide_eq_true (by kernel_rfl)) (by unfold Func.isWrapper; first | (rw [if_pos (by decide +kernel)]; kernel_rfl) | (rw [if_neg (by decide +kernel)]; exact ⟨rfl, rfl⟩))
    (fun os started H enc _ => matches_lifted os started H enc)

theorem matches_goes : false = Rows.memoryMatchesSpecRow.goesBy Tryd.prog := by kernel_rfl
theorem matches_stand : ([3, 35].all fun u => !Tryd.prog.wantsStandIn u) = true := by kernel_rfl
theorem memoryMatchesSpec_holds : Rows.MemoryMatchesSpecCardSaid :=
  Claim7.holds_tied_plain_at .later [] [.data, .data] true (true, "dad86e10c0c9875098f14639457c7da96153bc51d07db14731d5f5938e8d4e47") false
    matches_row (fun _ h => by cases h) (by kernel_rfl) (fun _ h => by cases h) memoryMatchesSpec_row_tie rfl ⟨rfl, rfl⟩ head_main rfl
    (fun f fn hf hfn => by
      obtain rfl : f = 9 := Option.some.inj (matches_name.symm.trans hf) |>.symm
      obtain rfl : fn = Tryd.f9 := (Option.some.inj (Tryd.func9.symm.trans hfn)).symm
      exact ⟨k_looks, fun j t ht => by
        rw [Tryd.params9] at ht
        have hm : t ∈ [3, 35] := by simpa using Array.mem_of_getElem? ht
        exact (show Tryd.prog.wantsStandIn t = false by simpa using List.all_eq_true.1 matches_stand t hm)⟩)
    matches_goes
#print axioms memoryMatchesSpec_holds
end Go.Proofs.YtkncbggnaobgeaaDoor
