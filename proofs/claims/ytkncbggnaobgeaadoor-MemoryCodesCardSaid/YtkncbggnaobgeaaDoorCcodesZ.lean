/- MemoryCodes: for every script, the law returns true and its arguments read behind the call as they did. No condition but the given card's own. -/
import Derived.Test.YtkncbggnaobgeaaDoorGh
import Derived.Test.YtkncbggnaobgeaaDoorGg
import Derived.Test.YtkncbggnaobgeaaDoorTie
import Derived.Test.YtkncbggnaobgeaaDoorCards

/- Walks of functions of the program; printed by a program of this session (walk.py) out of hand-written hints. -/
namespace Go.Proofs.YtkncbggnaobgeaaDoor
open Go.RowKit
set_option linter.unusedVariables false
set_option linter.unusedSimpArgs false
set_option maxRecDepth 100000

theorem fenceKeeps_any (w : World) (hL : L64 w) (n : Int) (A : Option Addr) (m cap : Nat) (xs : List OpV) (hm : m = xs.length) (hm63 : m ≤ 9223372036854775807) (hx : OpsIn w A xs) (hok : ∀ v ∈ xs, v.ok w) (line : Int) (A2 : Option Addr) (m2 cap2 : Nat) (keep : List Int) (hm2 : m2 = keep.length) (hm263 : m2 ≤ 9223372036854775807) (hkp : IntsIn w A2 keep) : Calls Tryd.prog 5 #[.int .i64 n, .slice A m cap, .int .i64 line, .slice A2 m2 cap2] w fun e w' => e = .returned (.bool true) ∧ St w [] w' [] := by
  refine calls_walk_n (args := [.int .i64 n, .slice A m cap, .int .i64 line, .slice A2 m2 cap2]) Tryd.func5 rfl rfl rfl ?_
  have H := St.refl w
  refine WC.seq ?_
  refine WC.region ?_
  refine WL.assign rfl rfl ?_
  refine (WL.done (WX.next ?_))
  refine WC.seq ?_
  refine WC.region ?_
  refine WL.move rfl rfl ?_
  refine WL.move rfl rfl ?_
  refine WL.call call30 rfl rfl ?_
  refine Calls.mono (begun_any n A m cap xs hm hm63 hx hok H hL) ?_
  rintro _ wx ⟨p, R, rfl, hI, H⟩
  refine ⟨_, rfl, ?_⟩
  have hlens := hI.lens
  have hlok := hI.lok
  generalize PM.begun n (plain xs) = M at hI hlens hlok
  refine WL.assign rfl rfl ?_
  refine (WL.done (WX.next ?_))
  refine WC.seq ?_
  refine WC.seq ?_
  refine WC.region ?_
  refine WL.move rfl rfl ?_
  refine WL.bin rfl rfl (binv_ptr_eql (by kernel_rfl) _) rfl ?_
  refine (WL.done (WX.next ?_))
  refine WC.cond_false rfl (rfl) ?_
  refine (WC.skip (WX.next ?_))
  refine WC.seq ?_
  refine WC.region ?_
  refine WL.move rfl rfl ?_
  refine WL.move rfl rfl ?_
  refine WL.call call26 rfl rfl ?_
  refine Calls.mono (a_lines hI H hL) ?_
  rintro _ wx ⟨rfl, rfl⟩
  refine ⟨_, rfl, ?_⟩
  refine WL.call call33 rfl rfl ?_
  refine Calls.mono (a_least line _ (by omega)) ?_
  rintro _ wx ⟨j, rfl, hj, rfl⟩
  refine ⟨_, rfl, ?_⟩
  have hjl : j < M.ls.length := by omega
  refine WL.assign rfl rfl ?_
  refine (WL.done (WX.next ?_))
  refine WC.seq ?_
  refine WC.region ?_
  refine WL.move rfl rfl ?_
  refine WL.call call34 rfl rfl ?_
  refine Calls.mono (a_seen hI H hL) ?_
  rintro _ wx ⟨sb1, rfl, H⟩
  refine ⟨_, rfl, ?_⟩
  have hIs := hI.shown8
  refine WL.assign rfl rfl ?_
  refine (WL.done (WX.next ?_))
  refine WC.seq ?_
  refine WC.seq ?_
  refine WC.region ?_
  refine WL.move rfl rfl ?_
  refine WL.lenSlc isl45 rfl rfl ?_
  refine WL.move rfl rfl ?_
  refine WL.call call26 rfl rfl ?_
  refine Calls.mono (a_lines hI H hL) ?_
  rintro _ wx ⟨rfl, rfl⟩
  refine ⟨_, rfl, ?_⟩
  refine WL.bin rfl rfl binv_neq rfl ?_
  refine (WL.done (WX.next ?_))
  refine WC.cond_false rfl (decide_eq_false (by omega)) ?_
  refine (WC.skip (WX.next ?_))
  refine WC.seq ?_
  refine WC.seq ?_
  refine WC.region ?_
  refine WL.move rfl rfl ?_
  refine WL.move rfl rfl ?_
  refine WL.call call31 rfl rfl ?_
  refine Calls.mono (a_state (j : Int) hI H hL) ?_
  rintro _ wx ⟨rfl, H⟩
  refine ⟨_, rfl, ?_⟩
  refine WL.bin rfl rfl binv_eql rfl ?_
  refine (WL.done (WX.next ?_))
  first | refine WC.cond_dec rfl (fun c3 => ?_) (fun c3 => ?_) | refine WC.cond rfl (fun c3 => ?_) (fun c3 => ?_)
  · -- c3 T
    refine WC.seq ?_
    refine WC.region ?_
    refine WL.call call22 rfl rfl ?_
    refine Calls.mono (q_sanity hL H) ?_
    rintro _ wx ⟨rfl, Hc⟩
    refine ⟨_, rfl, ?_⟩
    replace H := H.call0 Hc
    refine WL.assign rfl rfl ?_
    refine (WL.done (WX.next ?_))
    refine (WC.ret (WX.then_ret ?_))
    refine ret_one rfl rfl ?_
    exact ⟨rfl, H.weaken (List.nil_sublist _)⟩
  · -- c3 F
    refine (WC.skip (WX.next ?_))
    refine WC.seq ?_
    refine WC.region ?_
    refine WL.move rfl rfl ?_
    refine WL.move rfl rfl ?_
    refine WL.call call35 rfl rfl ?_
    refine Calls.mono (a_flush (j : Int) (by omega) hI H hL) ?_
    rintro _ wx ⟨R, rfl, hI, H⟩
    refine ⟨_, rfl, ?_⟩
    refine WL.assign rfl rfl ?_
    refine (WL.done (WX.next ?_))
    refine WC.seq ?_
    refine WC.region ?_
    refine WL.move rfl rfl ?_
    refine WL.call call36 rfl rfl ?_
    refine Calls.mono (a_fence (by omega) hI H hL) ?_
    rintro _ wx ⟨R, rfl, hI, H⟩
    refine ⟨_, rfl, ?_⟩
    refine (WL.done (WX.next ?_))
    refine WC.seq ?_
    refine WC.region ?_
    refine WL.move rfl rfl ?_
    refine WL.move rfl rfl ?_
    refine WL.move rfl rfl ?_
    refine WL.call call38 rfl rfl ?_
    refine Calls.mono (cuts_any A2 m2 cap2 keep hm2 hm263 (hkp) (by omega) hI H hL) ?_
    rintro _ wx ⟨r, rfl, hr, H⟩
    refine ⟨_, rfl, ?_⟩
    refine WL.call call37 rfl rfl ?_
    refine Calls.mono (a_crash_row hr (by have := cutsOf_len (M.flush j).fence keep; rw [fence_len, flush_len] at this; omega) (by omega) hI H hL) ?_
    rintro _ wx ⟨R, rfl, hI, H⟩
    refine ⟨_, rfl, ?_⟩
    refine WL.assign rfl rfl ?_
    refine (WL.done (WX.next ?_))
    refine WC.seq ?_
    refine WC.region ?_
    refine WL.move rfl rfl ?_
    refine WL.call call34 rfl rfl ?_
    refine Calls.mono (a_seen hI H hL) ?_
    rintro _ wx ⟨sb2, rfl, H⟩
    refine ⟨_, rfl, ?_⟩
    have hIs2 := hI.shown8
    refine WL.assign rfl rfl ?_
    refine (WL.done (WX.next ?_))
    refine WC.seq ?_
    have hfk := fence_keeps hlok hjl keep
    have hlen : ((M.flush j).fence.crash ((M.flush j).fence.cutsOf keep)).ls.length = M.ls.length := by rw [crash_len, fence_len, flush_len]
    have hhas := has_of hjl
    have hcut := cutsOf_ok (M.flush j).fence keep
    replace H := H.drew
    refine WC.held (SX (World.drew wx) []) (by kernel_rfl) ?_
    generalize World.drew wx = wb at H ⊢
    have HB := St.refl wb
    refine WH.hard 0 rfl (by kernel_rfl) ?_
    refine WL.call call22 rfl rfl ?_
    refine Calls.mono (q_sanity hL (H.call0 HB)) ?_
    rintro _ wx ⟨rfl, Hc⟩
    refine ⟨_, rfl, ?_⟩
    replace HB := HB.call0 Hc
    refine WL.done (WX.heldOn ⟨_, HB⟩ ?_)
    refine WH.take 1 rfl (by kernel_rfl) (by kernel_rfl) (by kernel_rfl) (fun _ _ _ h => h) ⟨_, HB⟩ (fun w' hS => EX.move rfl) rfl ?_
    first | refine WH.splitD (t := 49) rfl (fun g1 => ?_) (fun g1 => ?_) | refine WH.split (t := 49) rfl (fun g1 => ?_) (fun g1 => ?_)
    · -- g1 True
      refine WH.takeYes 2 rfl (by kernel_rfl) (by kernel_rfl) (by kernel_rfl) (fun _ _ _ h => h) ⟨_, HB⟩ rfl rfl (fun w' hS => EX.move rfl) rfl ?_
      refine WH.takeYes 3 rfl (by kernel_rfl) (by kernel_rfl) (by kernel_rfl) (fun _ _ _ h => h) ⟨_, HB⟩ rfl rfl (fun w' hS => EX.bin rfl rfl (binv_eql)) rfl ?_
      refine WH.take 4 rfl (by kernel_rfl) (by kernel_rfl) (by kernel_rfl) (fun _ _ _ h => h) ⟨_, HB⟩ (fun w' hS => EX.pickT rfl rfl) rfl ?_
      refine WH.take 5 rfl (by kernel_rfl) (by kernel_rfl) (by kernel_rfl) (fun _ _ _ h => h) ⟨_, HB⟩ (fun w' hS => EX.move rfl) rfl ?_
      first | refine WH.splitD (t := 53) rfl (fun g2 => ?_) (fun g2 => ?_) | refine WH.split (t := 53) rfl (fun g2 => ?_) (fun g2 => ?_)
      · -- g2 True
        refine WH.takeYes 6 rfl (by kernel_rfl) (by kernel_rfl) (by kernel_rfl) (fun _ _ _ h => h) ⟨_, HB⟩ rfl rfl (fun w' hS => EX.move rfl) rfl ?_
        refine WH.takeYes 7 rfl (by kernel_rfl) (by kernel_rfl) (by kernel_rfl) (fun _ _ _ h => h) ⟨_, HB⟩ rfl rfl (fun w' hS => EX.bin rfl rfl (binv_eql)) rfl ?_
        refine WH.take 8 rfl (by kernel_rfl) (by kernel_rfl) (by kernel_rfl) (fun _ _ _ h => h) ⟨_, HB⟩ (fun w' hS => EX.pickT rfl rfl) rfl ?_
        refine WH.take 9 rfl (by kernel_rfl) (by kernel_rfl) (by kernel_rfl) (fun _ _ _ h => h) ⟨_, HB⟩ (fun w' hS => EX.move rfl) rfl ?_
        first | refine WH.splitD (t := 57) rfl (fun g3 => ?_) (fun g3 => ?_) | refine WH.split (t := 57) rfl (fun g3 => ?_) (fun g3 => ?_)
        · -- g3 True
          refine WH.takeYes 10 rfl (by kernel_rfl) (by kernel_rfl) (by kernel_rfl) (fun _ _ _ h => h) ⟨_, HB⟩ rfl rfl (fun w' hS => EX.move rfl) rfl ?_
          refine WH.takeYes 11 rfl (by kernel_rfl) (by kernel_rfl) (by kernel_rfl) (fun _ _ _ h => h) ⟨_, HB⟩ rfl rfl (fun w' hS => EX.lenSlc isl45 rfl) rfl ?_
          refine WH.takeYes 12 rfl (by kernel_rfl) (by kernel_rfl) (by kernel_rfl) (fun _ _ _ h => h) ⟨_, HB⟩ rfl rfl (fun w' hS => EX.move rfl) rfl ?_
          refine WH.takeYes 13 rfl (by kernel_rfl) (by kernel_rfl) (by kernel_rfl) (fun _ _ _ h => h) ⟨_, HB⟩ rfl rfl (fun w' hS => EX.lenSlc isl45 rfl) rfl ?_
          refine WH.takeYes 14 rfl (by kernel_rfl) (by kernel_rfl) (by kernel_rfl) (fun _ _ _ h => h) ⟨_, HB⟩ rfl rfl (fun w' hS => EX.bin rfl rfl (binv_eql)) rfl ?_
          refine WH.take 15 rfl (by kernel_rfl) (by kernel_rfl) (by kernel_rfl) (fun _ _ _ h => h) ⟨_, HB⟩ (fun w' hS => EX.pickT rfl rfl) rfl ?_
          refine WH.take 16 rfl (by kernel_rfl) (by kernel_rfl) (by kernel_rfl) (fun _ _ _ h => h) ⟨_, HB⟩ (fun w' hS => EX.move rfl) rfl ?_
          first | refine WH.splitD (t := 64) rfl (fun g4 => ?_) (fun g4 => ?_) | refine WH.split (t := 64) rfl (fun g4 => ?_) (fun g4 => ?_)
          · -- g4 True
            refine WH.takeYes 17 rfl (by kernel_rfl) (by kernel_rfl) (by kernel_rfl) (fun _ _ _ h => h) ⟨_, HB⟩ rfl rfl (fun w' hS => EX.move rfl) rfl ?_
            refine WH.takeYes 18 rfl (by kernel_rfl) (by kernel_rfl) (by kernel_rfl) (fun _ _ _ h => h) ⟨_, HB⟩ rfl rfl (fun w' hS => EX.move rfl) rfl ?_
            refine WH.takeYes 19 rfl (by kernel_rfl) (by kernel_rfl) (by kernel_rfl) (fun _ _ _ h => h) ⟨_, HB⟩ rfl rfl (fun w' hS => EX.idxSlc (k := j) slc45 rfl rfl (by first | rfl | omega) (by rw [hlen]; exact hjl)) rfl ?_
            first | refine WH.takeYes 20 rfl (by kernel_rfl) (by kernel_rfl) (by kernel_rfl) (fun _ _ _ h => h) ⟨_, HB⟩ rfl rfl (fun w' hS => EX.load rfl ((RowsIn.seen hIs2 (hS.block (H.sat (sb2, .cells (arrC (seenC _)) 38) (by simp)) (by simp))).rd ty38 (by omega) (by rw [List.length_map, hlen]; exact hjl) rfl)) rfl ?_
            refine WH.takeYes 21 rfl (by kernel_rfl) (by kernel_rfl) (by kernel_rfl) (fun _ _ _ h => h) ⟨_, HB⟩ rfl rfl (fun w' hS => EX.move rfl) rfl ?_
            refine WH.takeYes 22 rfl (by kernel_rfl) (by kernel_rfl) (by kernel_rfl) (fun _ _ _ h => h) ⟨_, HB⟩ rfl rfl (fun w' hS => EX.move rfl) rfl ?_
            refine WH.takeYes 23 rfl (by kernel_rfl) (by kernel_rfl) (by kernel_rfl) (fun _ _ _ h => h) ⟨_, HB⟩ rfl rfl (fun w' hS => EX.idxSlc (k := j) slc45 rfl rfl (by first | rfl | omega) (hjl)) rfl ?_
            first | refine WH.takeYes 24 rfl (by kernel_rfl) (by kernel_rfl) (by kernel_rfl) (fun _ _ _ h => h) ⟨_, HB⟩ rfl rfl (fun w' hS => EX.load rfl ((RowsIn.seen hIs (hS.block (H.sat (sb1, .cells (arrC (seenC _)) 38) (by simp)) (by simp))).rd ty38 (by omega) (by rw [List.length_map]; exact hjl) rfl)) rfl ?_
            refine WH.takeYes 25 rfl (by kernel_rfl) (by kernel_rfl) (by kernel_rfl) (fun _ _ _ h => h) ⟨_, HB⟩ rfl rfl (fun w' hS => EX.bin rfl rfl (binv_agg_eql eqI38.up (by kernel_rfl) (hIs2 _ (List.getElem_mem _)) (hIs _ (List.getElem_mem _)))) rfl ?_
            refine WH.take 26 rfl (by kernel_rfl) (by kernel_rfl) (by kernel_rfl) (fun _ _ _ h => h) ⟨_, HB⟩ (fun w' hS => EX.pickT rfl rfl) rfl ?_
            refine WH.take 27 rfl (by kernel_rfl) (by kernel_rfl) (by kernel_rfl) (fun _ _ _ h => h) ⟨_, HB⟩ (fun w' hS => EX.move rfl) rfl ?_
            first | refine WH.splitD (t := 75) rfl (fun g5 => ?_) (fun g5 => ?_) | refine WH.split (t := 75) rfl (fun g5 => ?_) (fun g5 => ?_)
            · -- g5 True
              refine WH.takeYes 28 rfl (by kernel_rfl) (by kernel_rfl) (by kernel_rfl) (fun _ _ _ h => h) ⟨_, HB⟩ rfl rfl (fun w' hS => EX.move rfl) rfl ?_
              refine WH.takeYes 29 rfl (by kernel_rfl) (by kernel_rfl) (by kernel_rfl) (fun _ _ _ h => h) ⟨_, HB⟩ rfl rfl (fun w' hS => EX.move rfl) rfl ?_
              refine WH.hard 30 rfl (by kernel_rfl) ?_
              refine WL.yes rfl rfl ?_
              refine WL.call call39 rfl rfl ?_
              refine Calls.mono (q_pending (j : Int) (by omega) hI (H.call0 HB) hL) ?_
              rintro _ wx ⟨r3, rfl, Hc⟩
              refine ⟨_, rfl, ?_⟩
              replace HB := HB.call0 Hc
              refine WL.done (WX.heldOn ⟨_, HB⟩ ?_)
              refine WH.takeYes 31 rfl (by kernel_rfl) (by kernel_rfl) (by kernel_rfl) (fun _ _ _ h => h) ⟨_, HB⟩ rfl rfl (fun w' hS => EX.lenR isl52 rfl) rfl ?_
              refine WH.takeYes 32 rfl (by kernel_rfl) (by kernel_rfl) (by kernel_rfl) (fun _ _ _ h => h) ⟨_, HB⟩ rfl rfl (fun w' hS => EX.bin rfl rfl (binv_eql)) rfl ?_
              refine WH.take 33 rfl (by kernel_rfl) (by kernel_rfl) (by kernel_rfl) (fun _ _ _ h => h) ⟨_, HB⟩ (fun w' hS => EX.pickT rfl rfl) rfl ?_
              refine WH.take 34 rfl (by kernel_rfl) (by kernel_rfl) (by kernel_rfl) (fun _ _ _ h => h) ⟨_, HB⟩ (fun w' hS => EX.assign rfl) rfl ?_
              refine WH.done (by kernel_rfl) ?_
              replace H := H.call HB
              refine WX.next ?_
              refine (WC.ret ?_)
              refine ret_one rfl rfl ?_
              refine ⟨?_, H.weaken (List.nil_sublist _)⟩
              rw [hfk.2]; rfl
            · -- g5 False
              have e1 := hfk.1
              rw [line_of hjl, line_of (by rw [hlen]; exact hjl)] at e1
              rw [List.getElem_map, List.getElem_map, e1] at g5
              simp at g5
          · -- g4 False
            omega
        · -- g3 False
          exact absurd (show (if (M.flush j).fence.cutsOk ((M.flush j).fence.cutsOf keep) then (0 : Int) else 1) = 0 by rw [hcut]; rfl) (by assumption)
      · -- g2 False
        exact absurd (show (if M.has (j : Int) then (0 : Int) else 40) = 0 by rw [hhas]; rfl) (by assumption)
    · -- g1 False
      contradiction

end Go.Proofs.YtkncbggnaobgeaaDoor

/- Walks of functions of the program; printed by a program of this session (walk.py) out of hand-written hints. -/
namespace Go.Proofs.YtkncbggnaobgeaaDoor
open Go.RowKit
set_option linter.unusedVariables false
set_option linter.unusedSimpArgs false
set_option maxRecDepth 100000

theorem place_fact : ∀ i, i < 320 → ∀ j, j < 10 → (2 ≤ j ∧ i + 1 + j < 2 ^ j ∧ (j = 2 ∨ 2 ^ (j - 1) ≤ i + 1 + (j - 1))) → posn i = i + 1 + j := by decide +kernel
theorem place_stop : ∀ i, i < 320 → ∀ j, j < 10 → 2 ^ j ≤ i + 1 + j → j < 9 := by decide +kernel
theorem two_pow_cast (j : Nat) : (1 : Int) * 2 ^ j = ((2 ^ j : Nat) : Int) := by rw [Int.one_mul]; norm_cast
/-- The bits of a code up to one of them: their positions' exclusive or, and how many are 1. -/
def codeTo (c : Nat) : Nat → Nat × Nat
  | 0 => (0, 0)
  | b + 1 => if c.testBit b then ((if b < 9 then (codeTo c b).1 ^^^ 2 ^ b else (codeTo c b).1), (codeTo c b).2 + 1) else codeTo c b
theorem codeTo_all : ∀ c, c < 1024 → codeTo c 10 = (c &&& 511, popc c) := by decide +kernel
theorem codeTo_lt (c : Nat) : ∀ b, b ≤ 10 → (codeTo c b).1 < 512 ∧ (codeTo c b).2 ≤ b
  | 0, _ => by simp [codeTo]
  | b + 1, h => by
    obtain ⟨h1, h2⟩ := codeTo_lt c b (by omega)
    unfold codeTo
    split
    · refine ⟨?_, by simp; omega⟩
      show (if b < 9 then (codeTo c b).1 ^^^ 2 ^ b else (codeTo c b).1) < 512
      split
      · exact Nat.xor_lt_two_pow (n := 9) (by omega) (Nat.pow_lt_pow_right (by omega) (by omega))
      · exact h1
    · exact ⟨h1, by omega⟩
theorem one_bit {x : Int} (hx : 0 ≤ x) (b : Nat) : decide (x / 2 ^ b % 2 ^ 1 = 1) = x.toNat.testBit b := by
  rw [Nat.testBit_eq_decide_div_mod_eq, decide_eq_decide]
  obtain ⟨n, rfl⟩ := Int.eq_ofNat_of_zero_le hx
  rw [Int.toNat_natCast]
  norm_cast
theorem div_pow_cast (x b : Nat) : (x : Int) / 2 ^ b = ((x / 2 ^ b : Nat) : Int) := by norm_cast
theorem shr_pos {x b : Nat} (h : 0 < x / 2 ^ b) (hx : x < 2 ^ 40) : b < 40 := by
  rcases Nat.lt_or_ge b 40 with hl | hg
  · exact hl
  · have h1 : 2 ^ 40 ≤ 2 ^ b := Nat.pow_le_pow_right (by omega) hg
    rw [Nat.div_eq_of_lt (by omega)] at h
    omega
theorem shr_zero {x b j : Nat} (h : x / 2 ^ b = 0) (hj : b ≤ j) : x.testBit j = false := by
  have h1 : x < 2 ^ b := by
    rcases Nat.lt_or_ge x (2 ^ b) with hl | hg
    · exact hl
    · have := Nat.div_pos hg (Nat.two_pow_pos b); omega
  exact Nat.testBit_lt_two_pow (Nat.lt_of_lt_of_le h1 (Nat.pow_le_pow_right (by omega) hj))
theorem or512 : ∀ s, s < 512 → s ||| 512 = s + 512 := by decide +kernel

theorem place_any (i : Nat) (hi : i < 320) (w : World) : Calls Tryd.prog 171 #[.int .i64 (i : Int)] w fun e w' => e = .returned (.int .i64 (posn i : Int)) ∧ w' = w := by
  refine calls_walk_n (args := [.int .i64 (i : Int)]) Tryd.func171 rfl rfl rfl ?_
  refine WC.seq ?_
  refine WC.region ?_
  refine WL.assign rfl rfl ?_
  refine (WL.done (WX.next ?_))
  refine WC.seq ?_
  refine WC.region ?_
  refine WL.assign rfl rfl ?_
  refine (WL.done (WX.next ?_))
  refine WC.seq ?_
  refine WC.block ?_
  -- loop 1: changed [3] kept [0]
  refine WC.loop (Sub.cons (t := 0) rfl (Sub.nil _)) (fun j : Nat => [(3, .int .i64 (j : Int))]) (fun q j wx => q = 10 - j ∧ 2 ≤ j ∧ j < 10 ∧ (j = 2 ∨ 2 ^ (j - 1) ≤ i + 1 + (j - 1)) ∧ wx = w) (8) (2) (Sub.cons (t := 3) (by first | rfl | simp) (Sub.nil _)) (⟨rfl, by omega, by omega, .inl rfl, rfl⟩) ?_
  rintro k g wx hI N hN
  obtain ⟨rfl, hj2, hj, hlow, rfl⟩ := hI
  obtain ⟨j, rfl⟩ : ∃ j, j = g := ⟨g, rfl⟩
  refine WC.seq ?_
  refine WC.seq ?_
  refine WC.region ?_
  refine WL.move rfl rfl ?_
  refine WL.bin rfl rfl (iadd (by omega) (by omega)) rfl ?_
  refine WL.move rfl rfl ?_
  refine WL.bin rfl rfl (iadd (by omega) (by omega)) rfl ?_
  refine WL.move rfl rfl ?_
  refine WL.bin rfl rfl (ishl (m := j) rfl (by omega) (by omega) (by rw [two_pow_cast]; have := Nat.pow_lt_pow_right (a := 2) (by omega) (show j < 10 by omega); omega)) rfl ?_
  refine WL.bin rfl rfl binv_geq rfl ?_
  refine (WL.done (WX.next ?_))
  first | refine WC.cond_dec rfl (fun c1 => ?_) (fun c1 => ?_) | refine WC.cond rfl (fun c1 => ?_) (fun c1 => ?_)
  · -- c1 T
    refine (WC.skip (WX.next ?_))
    refine WC.block ?_
    refine WC.region ?_
    refine WL.move rfl rfl ?_
    refine WL.bin rfl rfl (iadd (by omega) (by omega)) rfl ?_
    refine WL.assign rfl rfl ?_
    refine (WL.done (WX.block_normal (WX.round ?_)))
    rw [two_pow_cast] at c1
    have hs := place_stop i hi j hj (by omega)
    exact hN _ (j+1) _ _ (by omega) ⟨rfl, by omega, by omega, .inr (by rw [Nat.add_sub_cancel]; omega), rfl⟩ (Sub.cons (t := 3) (by first | rfl | simp) (Sub.nil _)) (Sub.cons (t := 0) rfl (Sub.nil _))
  · -- c1 F
    refine (WC.exit (WX.then_exit (WX.then_exit (WX.block_exit (WX.next ?_)))))
    refine WC.seq ?_
    refine WC.region ?_
    refine WL.move rfl rfl ?_
    refine WL.bin rfl rfl (iadd (by omega) (by omega)) rfl ?_
    refine WL.move rfl rfl ?_
    refine WL.bin rfl rfl (iadd (by omega) (by omega)) rfl ?_
    refine WL.assign rfl rfl ?_
    refine (WL.done (WX.next ?_))
    refine (WC.ret ?_)
    refine ret_one rfl rfl ?_
    rw [two_pow_cast] at c1
    have := place_fact i hi j hj ⟨hj2, by omega, hlow⟩
    exact ⟨by rw [this]; norm_cast, rfl⟩

theorem one_any (ws : List Int) (h8 : ws.length = 8) (hw : isWords ws = true) (c : Int) (hc : 0 ≤ c ∧ c ≤ 1023) (k b : Nat) (hk : k ≤ 8) (hb : b < 64) (w : World) : Calls Tryd.prog 170 #[arr ws, .int .i64 c, .int .i64 (k : Int), .int .i64 (b : Int)] w fun e w' => e = .returned (.bool ((if k = 8 then c else ws.getD k 0).toNat.testBit b)) ∧ St w [] w' [] := by
  refine calls_walk_n (args := [arr ws, .int .i64 c, .int .i64 (k : Int), .int .i64 (b : Int)]) Tryd.func170 rfl rfl rfl ?_
  have H := St.refl w
  refine WC.seq ?_
  refine WC.region ?_
  refine WL.boxArr H rfl rfl ?_
  intro b4 wx hb4 hge4 H
  refine WL.assign rfl rfl ?_
  refine (WL.done (WX.next ?_))
  refine WC.seq ?_
  refine WC.seq ?_
  refine WC.region ?_
  refine WL.move rfl rfl ?_
  refine WL.bin rfl rfl binv_eql rfl ?_
  refine (WL.done (WX.next ?_))
  first | refine WC.cond_dec rfl (fun c1 => ?_) (fun c1 => ?_) | refine WC.cond rfl (fun c1 => ?_) (fun c1 => ?_)
  · -- c1 T
    refine WC.seq ?_
    refine WC.region ?_
    refine WL.move rfl rfl ?_
    refine WL.move rfl rfl ?_
    refine WL.bin rfl rfl (ishr (m := b) rfl (by show b ≤ 64; omega) hc.1) rfl ?_
    refine WL.bin rfl rfl (iandm (k := 1) (by decide) rfl) rfl ?_
    refine WL.bin rfl rfl binv_eql rfl ?_
    refine WL.assign rfl rfl ?_
    refine (WL.done (WX.next ?_))
    refine (WC.ret (WX.then_ret ?_))
    refine ret_one rfl rfl ?_
    rw [if_pos (by omega), ← one_bit hc.1]
    exact ⟨rfl, H.weaken (List.nil_sublist _)⟩
  · -- c1 F
    have hk8 : k < 8 := by omega
    have hwk := isWords_get hw (g := k) (by omega)
    refine (WC.skip (WX.next ?_))
    refine WC.seq ?_
    refine WC.region ?_
    refine WL.move rfl rfl ?_
    refine WL.idxArr (k := k) arr38 rfl rfl (by first | rfl | omega) (by omega) rfl ?_
    first | refine WL.load rfl ((by rw [Nat.zero_add, Nat.mul_one]; exact H.rdElt ty3 0 rfl (by omega))) rfl ?_
    refine WL.move rfl rfl ?_
    refine WL.bin rfl rfl (ishr (m := b) rfl (by show b ≤ 64; omega) hwk.1) rfl ?_
    refine WL.bin rfl rfl (iandm (k := 1) (by decide) rfl) rfl ?_
    refine WL.bin rfl rfl binv_eql rfl ?_
    refine WL.assign rfl rfl ?_
    refine (WL.done (WX.next ?_))
    refine (WC.ret ?_)
    refine ret_one rfl rfl ?_
    rw [if_neg (by omega), ← one_bit hwk.1]
    exact ⟨rfl, H.weaken (List.nil_sublist _)⟩

theorem refvalid_any (ws : List Int) (h8 : ws.length = 8) (c : Int) (w : World) : Calls Tryd.prog 103 #[arr ws, .int .i64 c] w fun e w' => e = .returned (.bool (isWords ws && isCode c)) ∧ St w [] w' [] := by
  refine calls_walk_n (args := [arr ws, .int .i64 c]) Tryd.func103 rfl rfl rfl ?_
  have H := St.refl w
  refine WC.seq ?_
  refine WC.region ?_
  refine WL.boxArr H rfl rfl ?_
  intro b2 wx hb2 hge2 H
  refine WL.assign rfl rfl ?_
  refine (WL.done (WX.next ?_))
  refine WC.seq ?_
  refine WC.seq ?_
  refine WC.region ?_
  refine WL.assign rfl rfl ?_
  refine (WL.done (WX.next ?_))
  refine WC.block ?_
  -- loop 1: changed [5] kept [1, 2]
  refine WC.loop (Sub.cons (t := 1) rfl (Sub.cons (t := 2) rfl (Sub.nil _))) (fun i : Nat => [(5, .int .i64 (i : Int))]) (fun q i wx => q = 8 - i ∧ i ≤ 8 ∧ (ws.take i).all isWord = true ∧ St w [] wx [(b2, .cells (arrC ws) 38)]) (8) (0) (Sub.cons (t := 5) (by first | rfl | simp) (Sub.nil _)) (⟨rfl, by omega, by simp, H⟩) ?_
  rintro k g wx hI N hN
  obtain ⟨rfl, hg, hall, H⟩ := hI
  refine WC.seq ?_
  refine WC.seq ?_
  refine WC.region ?_
  refine WL.move rfl rfl ?_
  refine WL.bin rfl rfl binv_lss rfl ?_
  refine (WL.done (WX.next ?_))
  first | refine WC.cond_dec rfl (fun c1 => ?_) (fun c1 => ?_) | refine WC.cond rfl (fun c1 => ?_) (fun c1 => ?_)
  · -- c1 T
    refine (WC.skip (WX.next ?_))
    refine WC.seq ?_
    refine WC.block ?_
    refine WC.seq ?_
    refine WC.region ?_
    refine WL.move rfl rfl ?_
    refine WL.idxArr (k := g) arr38 rfl rfl (by first | rfl | omega) (by omega) rfl ?_
    first | refine WL.load rfl (H.rdElt ty3 0 rfl (by omega)) rfl ?_
    refine WL.bin rfl rfl binv_lss rfl ?_
    refine WL.move rfl rfl ?_
    first | refine WL.splitD (t := 14) rfl (fun g1 => ?_) (fun g1 => ?_) | refine WL.split (t := 14) rfl (fun g1 => ?_) (fun g1 => ?_)
    · -- g1 True
      refine WL.no rfl rfl rfl ?_
      refine WL.no rfl rfl rfl ?_
      refine WL.no rfl rfl rfl ?_
      refine WL.no rfl rfl rfl ?_
      refine WL.pickT rfl rfl rfl ?_
      refine (WL.done (WX.next ?_))
      refine WC.cond_true rfl (rfl) ?_
      refine WC.seq ?_
      refine WC.region ?_
      refine WL.assign rfl rfl ?_
      refine (WL.done (WX.next ?_))
      refine (WC.ret (WX.block_ret (WX.then_ret (WX.then_ret (WX.block_ret (WX.then_ret ?_))))))
      refine ret_one rfl rfl ?_
      have hb := g1
      simp only [Nat.zero_add, Nat.mul_one] at hb
      have h : isWords ws = false := all_false_of (g := g) (by omega) (isWord_no (.inl hb))
      rw [h]; exact ⟨rfl, H.weaken (List.nil_sublist _)⟩
    · -- g1 False
      refine WL.yes rfl rfl ?_
      refine WL.move rfl rfl ?_
      refine WL.yes rfl rfl ?_
      refine WL.idxArr (k := g) arr38 rfl rfl (by first | rfl | omega) (by omega) rfl ?_
      refine WL.yes rfl rfl ?_
      first | refine WL.load rfl (H.rdElt ty3 0 rfl (by omega)) rfl ?_
      refine WL.yes rfl rfl ?_
      refine WL.bin rfl rfl binv_gtr rfl ?_
      refine WL.pickF rfl rfl rfl ?_
      refine (WL.done (WX.next ?_))
      first | refine WC.cond_dec rfl (fun c3 => ?_) (fun c3 => ?_) | refine WC.cond rfl (fun c3 => ?_) (fun c3 => ?_)
      · -- c3 T
        refine WC.seq ?_
        refine WC.region ?_
        refine WL.assign rfl rfl ?_
        refine (WL.done (WX.next ?_))
        refine (WC.ret (WX.block_ret (WX.then_ret (WX.then_ret (WX.block_ret (WX.then_ret ?_))))))
        refine ret_one rfl rfl ?_
        have hb := c3
        simp only [Nat.zero_add, Nat.mul_one] at hb
        have h : isWords ws = false := all_false_of (g := g) (by omega) (isWord_no (.inr hb))
        rw [h]; exact ⟨rfl, H.weaken (List.nil_sublist _)⟩
      · -- c3 F
        refine (WC.skip (WX.block_normal (WX.next ?_)))
        refine WC.region ?_
        refine WL.move rfl rfl ?_
        refine WL.bin rfl rfl (iadd (by omega) (by omega)) rfl ?_
        refine WL.assign rfl rfl ?_
        refine (WL.done (WX.round ?_))
        exact hN _ (g+1) _ _ (by omega) ⟨rfl, by omega, take_all_succ (by omega) hall (isWord_iff.2 (by simp only [Nat.zero_add, Nat.mul_one] at *; omega)), H⟩ (Sub.cons (t := 5) (by first | rfl | simp) (Sub.nil _)) (Sub.cons (t := 1) rfl (Sub.cons (t := 2) rfl (Sub.nil _)))
  · -- c1 F
    refine (WC.exit (WX.then_exit (WX.then_exit (WX.block_exit (WX.next ?_)))))
    refine WC.seq ?_
    refine WC.region ?_
    refine WL.move rfl rfl ?_
    refine WL.bin rfl rfl binv_geq rfl ?_
    refine WL.move rfl rfl ?_
    first | refine WL.splitD (t := 22) rfl (fun g2 => ?_) (fun g2 => ?_) | refine WL.split (t := 22) rfl (fun g2 => ?_) (fun g2 => ?_)
    · -- g2 True
      refine WL.yes rfl rfl ?_
      refine WL.move rfl rfl ?_
      refine WL.yes rfl rfl ?_
      refine WL.bin rfl rfl binv_leq rfl ?_
      refine WL.pickT rfl rfl rfl ?_
      refine WL.assign rfl rfl ?_
      refine (WL.done (WX.next ?_))
      refine (WC.ret ?_)
      refine ret_one rfl rfl ?_
      have h : isWords ws = true := all_of_take (by rw [show ws.length = g by omega]; exact hall)
      rw [h]; exact ⟨by simp [isCode]; omega, H.weaken (List.nil_sublist _)⟩
    · -- g2 False
      refine WL.no rfl rfl rfl ?_
      refine WL.no rfl rfl rfl ?_
      refine WL.pickF rfl rfl rfl ?_
      refine WL.assign rfl rfl ?_
      refine (WL.done (WX.next ?_))
      refine (WC.ret ?_)
      refine ret_one rfl rfl ?_
      have h : isWords ws = true := all_of_take (by rw [show ws.length = g by omega]; exact hall)
      rw [h, isCode_no (by omega)]; exact ⟨rfl, H.weaken (List.nil_sublist _)⟩

theorem syndrome_any (ws : List Int) (h8 : ws.length = 8) (hw : isWords ws = true) (c : Int) (hc : isCode c = true) (w : World) : Calls Tryd.prog 104 #[arr ws, .int .i64 c] w fun e w' => e = .returned (.tuple #[.int .i64 ((syn ws ^^^ (c.toNat &&& 511) : Nat) : Int), .int .i64 (((cnt ws + popc c.toNat) % 2 : Nat) : Int)]) ∧ St w [] w' [] := by
  refine calls_walk_n (args := [arr ws, .int .i64 c]) Tryd.func104 rfl rfl rfl ?_
  have H := St.refl w
  have hcr := isCode_iff.1 hc
  refine WC.seq ?_
  refine WC.region ?_
  refine WL.boxArr H rfl rfl ?_
  intro b2 wx hb2 hge2 H
  refine WL.assign rfl rfl ?_
  refine WL.assign rfl rfl ?_
  refine (WL.done (WX.next ?_))
  refine WC.seq ?_
  refine WC.region ?_
  refine WL.assign rfl rfl ?_
  refine (WL.done (WX.next ?_))
  refine WC.seq ?_
  refine WC.region ?_
  refine WL.assign rfl rfl ?_
  refine (WL.done (WX.next ?_))
  refine WC.seq ?_
  refine WC.seq ?_
  refine WC.region ?_
  refine WL.assign rfl rfl ?_
  refine (WL.done (WX.next ?_))
  refine WC.block ?_
  -- loop 1: changed [6, 7, 8] kept [1, 2]
  refine WC.loop (Sub.cons (t := 1) rfl (Sub.cons (t := 2) rfl (Sub.nil _))) (fun i : Nat => [(6, .int .i64 ((synTo ws (40 * i)).1 : Int)), (7, .int .i64 ((synTo ws (40 * i)).2 : Int)), (8, .int .i64 (i : Int))]) (fun q i wx => q = 8 - i ∧ i ≤ 8 ∧ St w [] wx [(b2, .cells (arrC ws) 38)]) (8) (0) (Sub.cons (t := 6) (by first | rfl | simp) (Sub.cons (t := 7) (by first | rfl | simp) (Sub.cons (t := 8) (by first | rfl | simp) (Sub.nil _)))) (⟨rfl, by omega, H⟩) ?_
  rintro k g wx hI N hN
  obtain ⟨rfl, hg, H⟩ := hI
  refine WC.seq ?_
  refine WC.seq ?_
  refine WC.region ?_
  refine WL.move rfl rfl ?_
  refine WL.bin rfl rfl binv_lss rfl ?_
  refine (WL.done (WX.next ?_))
  first | refine WC.cond_dec rfl (fun c1 => ?_) (fun c1 => ?_) | refine WC.cond rfl (fun c1 => ?_) (fun c1 => ?_)
  · -- c1 T
    refine (WC.skip (WX.next ?_))
    refine WC.seq ?_
    refine WC.block ?_
    refine WC.seq ?_
    refine WC.region ?_
    refine WL.assign rfl rfl ?_
    refine (WL.done (WX.next ?_))
    refine WC.block ?_
    -- loop 2: changed [6, 7, 9] kept [1, 2, 8]
    have hwg := isWords_get hw (g := g) (by omega)
    obtain ⟨x, hx⟩ : ∃ x : Nat, ws.getD g 0 = (x : Int) := ⟨(ws.getD g 0).toNat, by omega⟩
    refine WC.loop (Sub.cons (t := 1) rfl (Sub.cons (t := 2) rfl (Sub.cons (t := 8) rfl (Sub.nil _)))) (fun b : Nat => [(6, .int .i64 ((synTo ws (40 * g + b)).1 : Int)), (7, .int .i64 ((synTo ws (40 * g + b)).2 : Int)), (9, .int .i64 (b : Int))]) (fun q b wx => q = 40 - b ∧ b ≤ 40 ∧ St w [] wx [(b2, .cells (arrC ws) 38)]) (40) (0) (Sub.cons (t := 6) (by first | rfl | simp) (Sub.cons (t := 7) (by first | rfl | simp) (Sub.cons (t := 9) (by first | rfl | simp) (Sub.nil _)))) (⟨rfl, by omega, H⟩) ?_
    rintro k2 b wx hI N2 hN2
    obtain ⟨rfl, hb40, H⟩ := hI
    refine WC.seq ?_
    refine WC.seq ?_
    refine WC.region ?_
    refine WL.move rfl rfl ?_
    refine WL.idxArr (k := g) arr38 rfl rfl (by first | rfl | omega) (by omega) rfl ?_
    first | refine WL.load rfl ((by rw [Nat.zero_add, Nat.mul_one]; exact H.rdElt ty3 0 rfl (by omega))) rfl ?_
    refine WL.move rfl rfl ?_
    refine WL.bin rfl rfl (ishr (m := b) rfl (by show b ≤ 64; omega) hwg.1) rfl ?_
    refine WL.bin rfl rfl binv_gtr rfl ?_
    refine (WL.done (WX.next ?_))
    first | refine WC.cond_dec rfl (fun c2 => ?_) (fun c2 => ?_) | refine WC.cond rfl (fun c2 => ?_) (fun c2 => ?_)
    · -- c2 T
      have hb : b < 40 := shr_pos (x := x) (by rw [hx, div_pow_cast] at c2; exact_mod_cast c2) (by omega)
      have hsy := synTo_lt ws (40 * g + b) (by omega)
      have hpo := posn_facts (40 * g + b) (by omega)
      refine (WC.skip (WX.next ?_))
      refine WC.seq ?_
      refine WC.block ?_
      refine WC.seq ?_
      refine WC.region ?_
      first | refine WL.load rfl (H.rdArr ty38 0 rfl h8) rfl ?_
      refine WL.move rfl rfl ?_
      refine WL.move rfl rfl ?_
      refine WL.move rfl rfl ?_
      refine WL.call call170 rfl rfl ?_
      refine Calls.mono (one_any ws h8 hw c hcr g b (by omega) (by omega) _) ?_
      rintro _ wx ⟨rfl, Hc⟩
      refine ⟨_, rfl, ?_⟩
      replace H := H.call0 Hc
      refine WL.assign rfl rfl ?_
      refine (WL.done (WX.next ?_))
      refine WC.seq ?_
      refine WC.region ?_
      refine WL.move rfl rfl ?_
      refine (WL.done (WX.next ?_))
      first | refine WC.cond_dec rfl (fun c3 => ?_) (fun c3 => ?_) | refine WC.cond rfl (fun c3 => ?_) (fun c3 => ?_)
      · -- c3 T
        refine WC.seq ?_
        refine WC.region ?_
        refine WL.move rfl rfl ?_
        refine WL.move rfl rfl ?_
        refine WL.bin rfl rfl (imul (by omega) (by omega)) rfl ?_
        refine WL.move rfl rfl ?_
        refine WL.bin rfl rfl (iadd (by omega) (by omega)) rfl ?_
        refine WL.call call171 rfl rfl ?_
        refine Calls.mono (place_any (40 * g + b) (by omega) _) ?_
        rintro _ wx ⟨rfl, rfl⟩
        refine ⟨_, rfl, ?_⟩
        refine WL.bin rfl rfl (ixorN (a := (synTo ws (40 * g + b)).1) (b := posn (40 * g + b)) rfl rfl (by omega) (by omega)) rfl ?_
        refine WL.assign rfl rfl ?_
        refine (WL.done (WX.next ?_))
        refine WC.region ?_
        refine WL.move rfl rfl ?_
        refine WL.bin rfl rfl (iadd (by omega) (by omega)) rfl ?_
        refine WL.assign rfl rfl ?_
        refine (WL.done (WX.block_normal (WX.next ?_)))
        refine WC.region ?_
        refine WL.move rfl rfl ?_
        refine WL.bin rfl rfl (iadd (by omega) (by omega)) rfl ?_
        refine WL.assign rfl rfl ?_
        refine (WL.done (WX.round ?_))
        have hbit : bitAt ws (40 * g + b) = true := by
          unfold bitAt
          rw [show (40 * g + b) / 40 = g from by omega, show (40 * g + b) % 40 = b from by omega]
          rw [if_neg (by omega)] at c3
          exact c3
        have hs : synTo ws (40 * g + (b + 1)) = ((synTo ws (40 * g + b)).1 ^^^ posn (40 * g + b), (synTo ws (40 * g + b)).2 + 1) := by
          rw [show 40 * g + (b + 1) = (40 * g + b) + 1 from by omega, synTo, hbit]; rfl
        exact hN2 _ (b + 1) _ _ (by omega) ⟨rfl, by omega, H⟩ (Sub.cons (t := 6) (by rw [hs]; rfl) (Sub.cons (t := 7) (by rw [hs]; rfl) (Sub.cons (t := 9) rfl (Sub.nil _)))) (Sub.cons (t := 1) rfl (Sub.cons (t := 2) rfl (Sub.cons (t := 8) rfl (Sub.nil _))))
      · -- c3 F
        refine (WC.skip (WX.block_normal (WX.next ?_)))
        refine WC.region ?_
        refine WL.move rfl rfl ?_
        refine WL.bin rfl rfl (iadd (by omega) (by omega)) rfl ?_
        refine WL.assign rfl rfl ?_
        refine (WL.done (WX.round ?_))
        have hbit : bitAt ws (40 * g + b) = false := by
          unfold bitAt
          rw [show (40 * g + b) / 40 = g from by omega, show (40 * g + b) % 40 = b from by omega]
          rw [if_neg (by omega)] at c3
          exact c3
        have hs : synTo ws (40 * g + (b + 1)) = synTo ws (40 * g + b) := by
          rw [show 40 * g + (b + 1) = (40 * g + b) + 1 from by omega, synTo, hbit]; rfl
        exact hN2 _ (b + 1) _ _ (by omega) ⟨rfl, by omega, H⟩ (Sub.cons (t := 6) (by rw [hs]; rfl) (Sub.cons (t := 7) (by rw [hs]; rfl) (Sub.cons (t := 9) rfl (Sub.nil _)))) (Sub.cons (t := 1) rfl (Sub.cons (t := 2) rfl (Sub.cons (t := 8) rfl (Sub.nil _))))
    · -- c2 F
      have hz0 : (ws.getD g 0).toNat / 2 ^ b = 0 := by rw [hx, div_pow_cast] at c2; rw [hx, Int.toNat_natCast]; exact Nat.eq_zero_of_not_pos (fun h => c2 (by exact_mod_cast h))
      refine (WC.exit (WX.then_exit (WX.then_exit (WX.block_exit (WX.block_normal (WX.next ?_))))))
      refine WC.region ?_
      refine WL.move rfl rfl ?_
      refine WL.bin rfl rfl (iadd (by omega) (by omega)) rfl ?_
      refine WL.assign rfl rfl ?_
      refine (WL.done (WX.round ?_))
      have hskip : synTo ws (40 * (g + 1)) = synTo ws (40 * g + b) := by
        rw [show 40 * (g + 1) = (40 * g + b) + (40 - b) from by omega]
        refine synTo_skip ws (40 * g + b) (40 - b) (fun j h1 h2 => ?_)
        unfold bitAt
        rw [show j / 40 = g from by omega]
        exact shr_zero hz0 (by omega)
      exact hN _ (g + 1) _ _ (by omega) ⟨rfl, by omega, H⟩ (Sub.cons (t := 6) (by rw [hskip]; rfl) (Sub.cons (t := 7) (by rw [hskip]; rfl) (Sub.cons (t := 8) rfl (Sub.nil _)))) (Sub.cons (t := 1) rfl (Sub.cons (t := 2) rfl (Sub.nil _)))
  · -- c1 F
    refine (WC.exit (WX.then_exit (WX.then_exit (WX.block_exit (WX.next ?_)))))
    refine WC.seq ?_
    refine WC.seq ?_
    refine WC.region ?_
    refine WL.assign rfl rfl ?_
    refine (WL.done (WX.next ?_))
    refine WC.block ?_
    -- loop 3: changed [6, 7, 11] kept [1, 2]
    obtain rfl : g = 8 := by omega
    refine WC.loop (Sub.cons (t := 1) rfl (Sub.cons (t := 2) rfl (Sub.nil _))) (fun b : Nat => [(6, .int .i64 ((syn ws ^^^ (codeTo c.toNat b).1 : Nat) : Int)), (7, .int .i64 ((cnt ws + (codeTo c.toNat b).2 : Nat) : Int)), (11, .int .i64 (b : Int))]) (fun q b wx => q = 10 - b ∧ b ≤ 10 ∧ St w [] wx [(b2, .cells (arrC ws) 38)]) (10) (0) (Sub.cons (t := 6) (by rw [show codeTo c.toNat 0 = (0, 0) from rfl, Nat.xor_zero]; rfl) (Sub.cons (t := 7) (by rw [show codeTo c.toNat 0 = (0, 0) from rfl]; rfl) (Sub.cons (t := 11) rfl (Sub.nil _)))) (⟨rfl, by omega, H⟩) ?_
    rintro k3 b wx hI N3 hN3
    obtain ⟨rfl, hb10, H⟩ := hI
    refine WC.seq ?_
    refine WC.seq ?_
    refine WC.region ?_
    refine WL.move rfl rfl ?_
    refine WL.bin rfl rfl binv_lss rfl ?_
    refine (WL.done (WX.next ?_))
    first | refine WC.cond_dec rfl (fun c4 => ?_) (fun c4 => ?_) | refine WC.cond rfl (fun c4 => ?_) (fun c4 => ?_)
    · -- c4 T
      have hct := codeTo_lt c.toNat b (by omega)
      have hsl := syn_lt ws
      have hcl := cnt_le ws
      have hxl : syn ws ^^^ (codeTo c.toNat b).1 < 512 := Nat.xor_lt_two_pow (n := 9) (by omega) (by omega)
      refine (WC.skip (WX.next ?_))
      refine WC.seq ?_
      refine WC.block ?_
      refine WC.seq ?_
      refine WC.region ?_
      first | refine WL.load rfl (H.rdArr ty38 0 rfl h8) rfl ?_
      refine WL.move rfl rfl ?_
      refine WL.move rfl rfl ?_
      refine WL.call call170 rfl rfl ?_
      refine Calls.mono (one_any ws h8 hw c hcr 8 b (by omega) (by omega) _) ?_
      rintro _ wx ⟨rfl, Hc⟩
      refine ⟨_, rfl, ?_⟩
      replace H := H.call0 Hc
      refine WL.assign rfl rfl ?_
      refine (WL.done (WX.next ?_))
      refine WC.seq ?_
      refine WC.seq ?_
      refine WC.region ?_
      refine WL.move rfl rfl ?_
      refine WL.move rfl rfl ?_
      first | refine WL.splitD (t := 49) rfl (fun g1 => ?_) (fun g1 => ?_) | refine WL.split (t := 49) rfl (fun g1 => ?_) (fun g1 => ?_)
      · -- g1 True
        refine WL.yes rfl rfl ?_
        refine WL.move rfl rfl ?_
        refine WL.yes rfl rfl ?_
        refine WL.bin rfl rfl binv_lss rfl ?_
        refine WL.pickT rfl rfl rfl ?_
        refine (WL.done (WX.next ?_))
        first | refine WC.cond_dec rfl (fun c5 => ?_) (fun c5 => ?_) | refine WC.cond rfl (fun c5 => ?_) (fun c5 => ?_)
        · -- c5 T
          refine WC.region ?_
          refine WL.move rfl rfl ?_
          refine WL.move rfl rfl ?_
          refine WL.bin rfl rfl (ishl (m := b) rfl (by omega) (by omega) (by rw [two_pow_cast]; have := Nat.pow_lt_pow_right (a := 2) (by omega) (show b < 10 by omega); omega)) rfl ?_
          refine WL.bin rfl rfl (ixorN (a := syn ws ^^^ (codeTo c.toNat b).1) (b := 2 ^ b) rfl (two_pow_cast b) (by omega) (by have := Nat.pow_lt_pow_right (a := 2) (by omega) (show b < 10 by omega); omega)) rfl ?_
          refine WL.assign rfl rfl ?_
          refine (WL.done (WX.next ?_))
          refine WC.seq ?_
          refine WC.region ?_
          refine WL.move rfl rfl ?_
          refine (WL.done (WX.next ?_))
          refine WC.cond_true rfl (g1) ?_
          refine WC.region ?_
          refine WL.move rfl rfl ?_
          refine WL.bin rfl rfl (iadd (by omega) (by omega)) rfl ?_
          refine WL.assign rfl rfl ?_
          refine (WL.done (WX.block_normal (WX.next ?_)))
          refine WC.region ?_
          refine WL.move rfl rfl ?_
          refine WL.bin rfl rfl (iadd (by omega) (by omega)) rfl ?_
          refine WL.assign rfl rfl ?_
          refine (WL.done (WX.round ?_))
          have hbit : c.toNat.testBit b = true := by simpa using g1
          have hs : codeTo c.toNat (b + 1) = ((codeTo c.toNat b).1 ^^^ 2 ^ b, (codeTo c.toNat b).2 + 1) := by simp [codeTo, hbit, show b < 9 by omega]
          exact hN3 _ (b + 1) _ _ (by omega) ⟨rfl, by omega, H⟩ (Sub.cons (t := 6) (by rw [hs]; rw [← Nat.xor_assoc]; rfl) (Sub.cons (t := 7) (by rw [hs]; rfl) (Sub.cons (t := 11) rfl (Sub.nil _)))) (Sub.cons (t := 1) rfl (Sub.cons (t := 2) rfl (Sub.nil _)))
        · -- c5 F
          refine (WC.skip (WX.next ?_))
          refine WC.seq ?_
          refine WC.region ?_
          refine WL.move rfl rfl ?_
          refine (WL.done (WX.next ?_))
          refine WC.cond_true rfl (g1) ?_
          refine WC.region ?_
          refine WL.move rfl rfl ?_
          refine WL.bin rfl rfl (iadd (by omega) (by omega)) rfl ?_
          refine WL.assign rfl rfl ?_
          refine (WL.done (WX.block_normal (WX.next ?_)))
          refine WC.region ?_
          refine WL.move rfl rfl ?_
          refine WL.bin rfl rfl (iadd (by omega) (by omega)) rfl ?_
          refine WL.assign rfl rfl ?_
          refine (WL.done (WX.round ?_))
          have hbit : c.toNat.testBit b = true := by simpa using g1
          have hs : codeTo c.toNat (b + 1) = ((codeTo c.toNat b).1, (codeTo c.toNat b).2 + 1) := by simp [codeTo, hbit, show ¬ b < 9 by omega]
          exact hN3 _ (b + 1) _ _ (by omega) ⟨rfl, by omega, H⟩ (Sub.cons (t := 6) (by rw [hs]; rfl) (Sub.cons (t := 7) (by rw [hs]; rfl) (Sub.cons (t := 11) rfl (Sub.nil _)))) (Sub.cons (t := 1) rfl (Sub.cons (t := 2) rfl (Sub.nil _)))
      · -- g1 False
        refine WL.no rfl rfl rfl ?_
        refine WL.no rfl rfl rfl ?_
        refine WL.pickF rfl rfl rfl ?_
        refine (WL.done (WX.next ?_))
        refine WC.cond_false rfl (rfl) ?_
        refine (WC.skip (WX.next ?_))
        refine WC.seq ?_
        refine WC.region ?_
        refine WL.move rfl rfl ?_
        refine (WL.done (WX.next ?_))
        refine WC.cond_false rfl (g1) ?_
        refine (WC.skip (WX.block_normal (WX.next ?_)))
        refine WC.region ?_
        refine WL.move rfl rfl ?_
        refine WL.bin rfl rfl (iadd (by omega) (by omega)) rfl ?_
        refine WL.assign rfl rfl ?_
        refine (WL.done (WX.round ?_))
        have hbit : c.toNat.testBit b = false := by simpa using g1
        have hs : codeTo c.toNat (b + 1) = codeTo c.toNat b := by simp [codeTo, hbit]
        exact hN3 _ (b + 1) _ _ (by omega) ⟨rfl, by omega, H⟩ (Sub.cons (t := 6) (by rw [hs]; rfl) (Sub.cons (t := 7) (by rw [hs]; rfl) (Sub.cons (t := 11) rfl (Sub.nil _)))) (Sub.cons (t := 1) rfl (Sub.cons (t := 2) rfl (Sub.nil _)))
    · -- c4 F
      have hct := codeTo_lt c.toNat b (by omega)
      have hcl := cnt_le ws
      refine (WC.exit (WX.then_exit (WX.then_exit (WX.block_exit (WX.next ?_)))))
      refine WC.seq ?_
      refine WC.region ?_
      refine WL.move rfl rfl ?_
      refine WL.move rfl rfl ?_
      refine WL.bin rfl rfl (irem (by omega) (by omega)) rfl ?_
      refine WL.assign rfl rfl ?_
      refine WL.assign rfl rfl ?_
      refine (WL.done (WX.next ?_))
      refine (WC.ret ?_)
      refine ret_two rfl rfl rfl ?_
      obtain rfl : b = 10 := by omega
      rw [codeTo_all c.toNat (by omega)]
      exact ⟨rfl, H.weaken (List.nil_sublist _)⟩

end Go.Proofs.YtkncbggnaobgeaaDoor

/- Walks of functions of the program; printed by a program of this session (walk.py) out of hand-written hints. -/
namespace Go.Proofs.YtkncbggnaobgeaaDoor
open Go.RowKit
set_option linter.unusedVariables false
set_option linter.unusedSimpArgs false
set_option maxRecDepth 100000

theorem syn0_any (ws : List Int) (h8 : ws.length = 8) (hw : isWords ws = true) (w : World) : Calls Tryd.prog 104 #[arr ws, .int .i64 0] w fun e w' => e = .returned (.tuple #[.int .i64 (syn ws : Int), .int .i64 ((cnt ws % 2 : Nat) : Int)]) ∧ St w [] w' [] := by
  refine (syndrome_any ws h8 hw 0 (by decide) w).mono fun e w' ⟨h, Hc⟩ => ⟨?_, Hc⟩
  rw [h]
  simp [popc]
theorem syn1_any (ws : List Int) (h8 : ws.length = 8) (hw : isWords ws = true) (w : World) : Calls Tryd.prog 104 #[arr ws, .int .i64 (syn ws : Int)] w fun e w' => ∃ z : Int, e = .returned (.tuple #[.int .i64 z, .int .i64 (((cnt ws + popc (syn ws)) % 2 : Nat) : Int)]) ∧ St w [] w' [] :=
  (syndrome_any ws h8 hw (syn ws : Int) (isCode_iff.2 (by have := syn_lt ws; omega)) w).mono fun e w' ⟨h, Hc⟩ => ⟨_, h, Hc⟩
theorem log2_at : ∀ b, b < 9 → log2 (2 ^ b) = b ∧ isPow2 (2 ^ b) = true ∧ 2 ^ b ≠ 0 := by decide +kernel
theorem isPow2_at : ∀ s, s < 512 → s ≠ 0 → (∀ b, b < 9 → s ≠ 2 ^ b) → isPow2 s = false := by decide +kernel
theorem findPos_at {i : Nat} (hi : i < 320) : findPos (posn i) = some i := by
  unfold findPos
  rw [List.find?_eq_some_iff_getElem]
  refine ⟨by simp, i, by simpa using hi, by simp, fun j hj => ?_⟩
  simp only [List.getElem_range, Bool.not_eq_eq_eq_not, Bool.not_true, beq_eq_false_iff_ne, ne_eq]
  intro h
  have := posn_inj (by omega) hi h
  omega
theorem findPos_no {s : Nat} (h : ∀ j, j < 320 → posn j ≠ s) : findPos s = none := by
  unfold findPos
  rw [List.find?_eq_none]
  intro j hj
  simpa using h j (List.mem_range.1 hj)

theorem refencode_any (ws : List Int) (h8 : ws.length = 8) (w : World) : Calls Tryd.prog 32 #[arr ws] w fun e w' => e = .returned (.int .i64 (enc ws)) ∧ St w [] w' [] := by
  refine calls_walk_n (args := [arr ws]) Tryd.func32 rfl rfl rfl ?_
  have H := St.refl w
  refine WC.seq ?_
  refine WC.region ?_
  refine WL.boxArr H rfl rfl ?_
  intro b1 wx hb1 hge1 H
  refine WL.assign rfl rfl ?_
  refine (WL.done (WX.next ?_))
  refine WC.seq ?_
  refine WC.region ?_
  first | refine WL.load rfl (H.rdArr ty38 0 rfl h8) rfl ?_
  refine WL.call call103 rfl rfl ?_
  refine Calls.mono (refvalid_any ws h8 0 _) ?_
  rintro _ wx ⟨rfl, Hc⟩
  refine ⟨_, rfl, ?_⟩
  replace H := H.call0 Hc
  refine WL.assign rfl rfl ?_
  refine (WL.done (WX.next ?_))
  refine WC.seq ?_
  refine WC.seq ?_
  refine WC.region ?_
  refine WL.move rfl rfl ?_
  refine WL.notOp rfl rfl ?_
  refine (WL.done (WX.next ?_))
  first | refine WC.cond_dec rfl (fun c1 => ?_) (fun c1 => ?_) | refine WC.cond rfl (fun c1 => ?_) (fun c1 => ?_)
  · -- c1 T
    refine WC.seq ?_
    refine WC.region ?_
    refine WL.assign rfl rfl ?_
    refine (WL.done (WX.next ?_))
    refine (WC.ret (WX.then_ret ?_))
    refine ret_one rfl rfl ?_
    have hw : isWords ws = false := by
      have h : (isWords ws && isCode 0) = false := by simpa only [Bool.not_eq_true'] using c1
      rw [show isCode 0 = true from by decide, Bool.and_true] at h; exact h
    refine ⟨?_, H.weaken (List.nil_sublist _)⟩
    unfold enc
    rw [hw]; rfl
  · -- c1 F
    have hw : isWords ws = true := by
      have h : (isWords ws && isCode 0) = true := by simpa only [Bool.not_eq_false'] using c1
      rw [Bool.and_eq_true] at h; exact h.1
    have hsl := syn_lt ws
    refine (WC.skip (WX.next ?_))
    refine WC.seq ?_
    refine WC.region ?_
    first | refine WL.load rfl (H.rdArr ty38 0 rfl h8) rfl ?_
    refine WL.call call104 rfl rfl ?_
    refine Calls.mono (syn0_any ws h8 hw _) ?_
    rintro _ wx ⟨rfl, Hc⟩
    refine ⟨_, rfl, ?_⟩
    replace H := H.call0 Hc
    refine WL.move rfl rfl ?_
    refine WL.extract rfl rfl rfl ?_
    refine WL.extract rfl rfl rfl ?_
    refine WL.assign rfl rfl ?_
    refine WL.assign rfl rfl ?_
    refine (WL.done (WX.next ?_))
    refine WC.seq ?_
    refine WC.region ?_
    first | refine WL.load rfl (H.rdArr ty38 0 rfl h8) rfl ?_
    refine WL.move rfl rfl ?_
    refine WL.call call104 rfl rfl ?_
    refine Calls.mono (syn1_any ws h8 hw _) ?_
    rintro _ wx ⟨z, rfl, Hc⟩
    refine ⟨_, rfl, ?_⟩
    replace H := H.call0 Hc
    refine WL.move rfl rfl ?_
    refine WL.extract rfl rfl rfl ?_
    refine WL.extract rfl rfl rfl ?_
    refine WL.assign rfl rfl ?_
    refine WL.assign rfl rfl ?_
    refine (WL.done (WX.next ?_))
    refine WC.seq ?_
    refine WC.region ?_
    refine WL.move rfl rfl ?_
    refine WL.move rfl rfl ?_
    refine WL.bin rfl rfl (imul (by omega) (by omega)) rfl ?_
    refine WL.bin rfl rfl (iadd (by omega) (by omega)) rfl ?_
    refine WL.assign rfl rfl ?_
    refine (WL.done (WX.next ?_))
    refine (WC.ret ?_)
    refine ret_one rfl rfl ?_
    refine ⟨?_, H.weaken (List.nil_sublist _)⟩
    unfold enc
    rw [if_pos hw]
    congr 2
    split
    · rename_i hp
      rw [hp, or512 _ hsl]; omega
    · rename_i hp
      rw [show (cnt ws + popc (syn ws)) % 2 = 0 by omega]; omega

theorem refexists_any (x y : Int) (w : World) : Calls Tryd.prog 160 #[.int .i64 x, .int .i64 y] w fun e w' => e = .returned (.bool (decide ((0 ≤ x ∧ x < 8 ∧ 0 ≤ y ∧ y < 40) ∨ (x = 8 ∧ 0 ≤ y ∧ y < 10)))) ∧ w' = w := by
  refine calls_walk_n (args := [.int .i64 x, .int .i64 y]) Tryd.func160 rfl rfl rfl ?_
  refine WC.seq ?_
  refine WC.region ?_
  refine WL.assign rfl rfl ?_
  refine (WL.done (WX.next ?_))
  refine WC.seq ?_
  refine WC.seq ?_
  refine WC.region ?_
  refine WL.move rfl rfl ?_
  refine WL.bin rfl rfl binv_eql rfl ?_
  refine (WL.done (WX.next ?_))
  first | refine WC.cond_dec rfl (fun c1 => ?_) (fun c1 => ?_) | refine WC.cond rfl (fun c1 => ?_) (fun c1 => ?_)
  · -- c1 T
    refine WC.seq ?_
    refine WC.region ?_
    refine WL.move rfl rfl ?_
    refine WL.bin rfl rfl binv_geq rfl ?_
    refine WL.move rfl rfl ?_
    first | refine WL.splitD (t := 9) rfl (fun g1 => ?_) (fun g1 => ?_) | refine WL.split (t := 9) rfl (fun g1 => ?_) (fun g1 => ?_)
    · -- g1 True
      refine WL.yes rfl rfl ?_
      refine WL.move rfl rfl ?_
      refine WL.yes rfl rfl ?_
      refine WL.bin rfl rfl binv_leq rfl ?_
      refine WL.pickT rfl rfl rfl ?_
      refine WL.assign rfl rfl ?_
      refine (WL.done (WX.next ?_))
      refine (WC.ret (WX.then_ret ?_))
      refine ret_one rfl rfl ?_
      refine ⟨congrArg (fun b => Ending.returned (Value.bool b)) ?_, rfl⟩
      first
      | exact decide_eq_decide.2 (by omega)
      | exact (decide_eq_false (by omega)).symm
    · -- g1 False
      refine WL.no rfl rfl rfl ?_
      refine WL.no rfl rfl rfl ?_
      refine WL.pickF rfl rfl rfl ?_
      refine WL.assign rfl rfl ?_
      refine (WL.done (WX.next ?_))
      refine (WC.ret (WX.then_ret ?_))
      refine ret_one rfl rfl ?_
      refine ⟨congrArg (fun b => Ending.returned (Value.bool b)) ?_, rfl⟩
      first
      | exact decide_eq_decide.2 (by omega)
      | exact (decide_eq_false (by omega)).symm
  · -- c1 F
    refine (WC.skip (WX.next ?_))
    refine WC.seq ?_
    refine WC.region ?_
    refine WL.move rfl rfl ?_
    refine WL.bin rfl rfl binv_geq rfl ?_
    refine WL.move rfl rfl ?_
    first | refine WL.splitD (t := 15) rfl (fun g2 => ?_) (fun g2 => ?_) | refine WL.split (t := 15) rfl (fun g2 => ?_) (fun g2 => ?_)
    · -- g2 True
      refine WL.yes rfl rfl ?_
      refine WL.move rfl rfl ?_
      refine WL.yes rfl rfl ?_
      refine WL.bin rfl rfl binv_lss rfl ?_
      refine WL.pickT rfl rfl rfl ?_
      refine WL.move rfl rfl ?_
      first | refine WL.splitD (t := 19) rfl (fun g3 => ?_) (fun g3 => ?_) | refine WL.split (t := 19) rfl (fun g3 => ?_) (fun g3 => ?_)
      · -- g3 True
        refine WL.yes rfl rfl ?_
        refine WL.move rfl rfl ?_
        refine WL.yes rfl rfl ?_
        refine WL.bin rfl rfl binv_geq rfl ?_
        refine WL.pickT rfl rfl rfl ?_
        refine WL.move rfl rfl ?_
        first | refine WL.splitD (t := 23) rfl (fun g4 => ?_) (fun g4 => ?_) | refine WL.split (t := 23) rfl (fun g4 => ?_) (fun g4 => ?_)
        · -- g4 True
          refine WL.yes rfl rfl ?_
          refine WL.move rfl rfl ?_
          refine WL.yes rfl rfl ?_
          refine WL.bin rfl rfl binv_lss rfl ?_
          refine WL.pickT rfl rfl rfl ?_
          refine WL.assign rfl rfl ?_
          refine (WL.done (WX.next ?_))
          refine (WC.ret ?_)
          refine ret_one rfl rfl ?_
          refine ⟨congrArg (fun b => Ending.returned (Value.bool b)) ?_, rfl⟩
          first
          | exact decide_eq_decide.2 (by omega)
          | exact (decide_eq_false (by omega)).symm
        · -- g4 False
          refine WL.no rfl rfl rfl ?_
          refine WL.no rfl rfl rfl ?_
          refine WL.pickF rfl rfl rfl ?_
          refine WL.assign rfl rfl ?_
          refine (WL.done (WX.next ?_))
          refine (WC.ret ?_)
          refine ret_one rfl rfl ?_
          refine ⟨congrArg (fun b => Ending.returned (Value.bool b)) ?_, rfl⟩
          first
          | exact decide_eq_decide.2 (by omega)
          | exact (decide_eq_false (by omega)).symm
      · -- g3 False
        refine WL.no rfl rfl rfl ?_
        refine WL.no rfl rfl rfl ?_
        refine WL.pickF rfl rfl rfl ?_
        refine WL.move rfl rfl ?_
        refine WL.no rfl rfl rfl ?_
        refine WL.no rfl rfl rfl ?_
        refine WL.pickF rfl rfl rfl ?_
        refine WL.assign rfl rfl ?_
        refine (WL.done (WX.next ?_))
        refine (WC.ret ?_)
        refine ret_one rfl rfl ?_
        refine ⟨congrArg (fun b => Ending.returned (Value.bool b)) ?_, rfl⟩
        first
        | exact decide_eq_decide.2 (by omega)
        | exact (decide_eq_false (by omega)).symm
    · -- g2 False
      refine WL.no rfl rfl rfl ?_
      refine WL.no rfl rfl rfl ?_
      refine WL.pickF rfl rfl rfl ?_
      refine WL.move rfl rfl ?_
      refine WL.no rfl rfl rfl ?_
      refine WL.no rfl rfl rfl ?_
      refine WL.pickF rfl rfl rfl ?_
      refine WL.move rfl rfl ?_
      refine WL.no rfl rfl rfl ?_
      refine WL.no rfl rfl rfl ?_
      refine WL.pickF rfl rfl rfl ?_
      refine WL.assign rfl rfl ?_
      refine (WL.done (WX.next ?_))
      refine (WC.ret ?_)
      refine ret_one rfl rfl ?_
      refine ⟨congrArg (fun b => Ending.returned (Value.bool b)) ?_, rfl⟩
      first
      | exact decide_eq_decide.2 (by omega)
      | exact (decide_eq_false (by omega)).symm

end Go.Proofs.YtkncbggnaobgeaaDoor

/- Walks of functions of the program; printed by a program of this session (walk.py) out of hand-written hints. -/
namespace Go.Proofs.YtkncbggnaobgeaaDoor
open Go.RowKit
set_option linter.unusedVariables false
set_option linter.unusedSimpArgs false
set_option maxRecDepth 100000

theorem codes_any (w : World) (hL : L64 w) (n : Int) (A : Option Addr) (m cap : Nat) (xs : List OpV) (hm : m = xs.length) (hm63 : m ≤ 9223372036854775807) (hx : OpsIn w A xs) (hok : ∀ v ∈ xs, v.ok w) : Calls Tryd.prog 4 #[.int .i64 n, .slice A m cap] w fun e w' => e = .returned (.bool true) ∧ St w [] w' [] := by
  refine calls_walk_n (args := [.int .i64 n, .slice A m cap]) Tryd.func4 rfl rfl rfl ?_
  have H := St.refl w
  refine WC.seq ?_
  refine WC.region ?_
  refine WL.assign rfl rfl ?_
  refine (WL.done (WX.next ?_))
  refine WC.seq ?_
  refine WC.region ?_
  refine WL.move rfl rfl ?_
  refine WL.move rfl rfl ?_
  refine WL.call call30 rfl rfl ?_
  refine Calls.mono (begun_any n A m cap xs hm hm63 hx hok H hL) ?_
  rintro _ wx ⟨p, R, rfl, hI, H⟩
  refine ⟨_, rfl, ?_⟩
  have hlens := hI.lens
  have hlok := hI.lok
  generalize PM.begun n (plain xs) = M at hI hlens hlok
  refine WL.assign rfl rfl ?_
  refine (WL.done (WX.next ?_))
  refine WC.seq ?_
  refine WC.seq ?_
  refine WC.region ?_
  refine WL.move rfl rfl ?_
  refine WL.bin rfl rfl (binv_ptr_eql (by kernel_rfl) _) rfl ?_
  refine (WL.done (WX.next ?_))
  refine WC.cond_false rfl (rfl) ?_
  refine (WC.skip (WX.next ?_))
  refine WC.seq ?_
  refine WC.region ?_
  refine WL.move rfl rfl ?_
  refine WL.call call29 rfl rfl ?_
  refine Calls.mono (a_image hI H hL) ?_
  rintro _ wx ⟨sg, rfl, H⟩
  refine ⟨_, rfl, ?_⟩
  have hb8 := hI.bare8
  refine WL.assign rfl rfl ?_
  refine (WL.done (WX.next ?_))
  refine WC.seq ?_
  refine WC.seq ?_
  refine WC.region ?_
  refine WL.move rfl rfl ?_
  refine WL.lenSlc isl23 rfl rfl ?_
  refine WL.move rfl rfl ?_
  refine WL.call call26 rfl rfl ?_
  refine Calls.mono (a_lines hI H hL) ?_
  rintro _ wx ⟨rfl, rfl⟩
  refine ⟨_, rfl, ?_⟩
  refine WL.bin rfl rfl binv_neq rfl ?_
  refine (WL.done (WX.next ?_))
  refine WC.cond_false rfl (decide_eq_false (by omega)) ?_
  refine (WC.skip (WX.next ?_))
  refine WC.seq ?_
  refine WC.seq ?_
  refine WC.region ?_
  refine WL.move rfl rfl ?_
  refine WL.lenSlc isl23 rfl rfl ?_
  refine WL.move rfl rfl ?_
  refine (WL.done (WX.next ?_))
  refine WC.block ?_
  -- loop 1: changed [22] kept [5, 6, 21]
  refine WC.loop (Sub.cons (t := 5) rfl (Sub.cons (t := 6) rfl (Sub.cons (t := 21) rfl (Sub.nil _)))) (fun i : Nat => [(22, .int .i64 (i : Int))]) (fun q i wx => q = M.ls.length - i ∧ i ≤ M.ls.length ∧ St w [] wx (((sg, .cells (arrC (imgC M.ls)) 40) :: []) ++ R.hp)) (M.ls.length) (0) (Sub.cons (t := 22) (by first | rfl | simp) (Sub.nil _)) (⟨rfl, Nat.zero_le _, H⟩) ?_
  rintro k i wx hI2 N hN
  obtain ⟨rfl, hg, H⟩ := hI2
  refine WC.seq ?_
  refine WC.region ?_
  refine WL.bin rfl rfl binv_lss rfl ?_
  refine (WL.done (WX.next ?_))
  refine WC.seq ?_
  first | refine WC.cond_dec rfl (fun c3 => ?_) (fun c3 => ?_) | refine WC.cond rfl (fun c3 => ?_) (fun c3 => ?_)
  · -- c3 T
    refine (WC.skip (WX.next ?_))
    refine WC.seq ?_
    refine WC.block ?_
    refine WC.seq ?_
    refine WC.region ?_
    refine WL.move rfl rfl ?_
    refine WL.assign rfl rfl ?_
    refine (WL.done (WX.next ?_))
    refine WC.seq ?_
    replace H := H.drew
    refine WC.held (SX (World.drew wx) []) (by kernel_rfl) ?_
    generalize World.drew wx = wb at H ⊢
    have HB := St.refl wb
    have hlt : i < M.ls.length := by omega
    have hlt' : i < (M.ls.map bare).length := by rw [List.length_map]; exact hlt
    have hx8 := hb8 _ (List.getElem_mem hlt')
    obtain ⟨b, o, cs, t, fr, hA, hb, hcell⟩ := img_at (ImgIn.block (H.sat (sg, .cells (arrC (imgC M.ls)) 40) (by simp))) hb8 hlt'
    cases hA
    refine WH.take 0 rfl (by kernel_rfl) (by kernel_rfl) (by kernel_rfl) (fun _ _ _ h => h) ⟨_, HB⟩ (fun w' hS => EX.move rfl) rfl ?_
    refine WH.take 1 rfl (by kernel_rfl) (by kernel_rfl) (by kernel_rfl) (fun _ _ _ h => h) ⟨_, HB⟩ (fun w' hS => EX.move rfl) rfl ?_
    refine WH.hard 2 rfl (by kernel_rfl) ?_
    refine WL.call call31 rfl rfl ?_
    refine Calls.mono (q_state (i : Int) hI (H.call0 HB) hL) ?_
    rintro _ wx ⟨rfl, Hc⟩
    refine ⟨_, rfl, ?_⟩
    replace HB := HB.call0 Hc
    refine WL.done (WX.heldOn ⟨_, HB⟩ ?_)
    refine WH.take 3 rfl (by kernel_rfl) (by kernel_rfl) (by kernel_rfl) (fun _ _ _ h => h) ⟨_, HB⟩ (fun w' hS => EX.bin rfl rfl (binv_eql)) rfl ?_
    refine WH.take 4 rfl (by kernel_rfl) (by kernel_rfl) (by kernel_rfl) (fun _ _ _ h => h) ⟨_, HB⟩ (fun w' hS => EX.move rfl) rfl ?_
    first | refine WH.splitD (t := 29) rfl (fun g1 => ?_) (fun g1 => ?_) | refine WH.split (t := 29) rfl (fun g1 => ?_) (fun g1 => ?_)
    · -- g1 True
      refine WH.takeYes 5 rfl (by kernel_rfl) (by kernel_rfl) (by kernel_rfl) (fun _ _ _ h => h) ⟨_, HB⟩ rfl rfl (fun w' hS => EX.move rfl) rfl ?_
      refine WH.takeYes 6 rfl (by kernel_rfl) (by kernel_rfl) (by kernel_rfl) (fun _ _ _ h => h) ⟨_, HB⟩ rfl rfl (fun w' hS => EX.move rfl) rfl ?_
      refine WH.takeYes 7 rfl (by kernel_rfl) (by kernel_rfl) (by kernel_rfl) (fun _ _ _ h => h) ⟨_, HB⟩ rfl rfl (fun w' hS => EX.idxSlc (k := i) slc23 rfl rfl (by first | rfl | omega) (hlt)) rfl ?_
      refine WH.takeYes 8 rfl (by kernel_rfl) (by kernel_rfl) (by kernel_rfl) (fun _ _ _ h => h) ⟨_, HB⟩ rfl rfl (fun w' hS => EX.fieldAddr fld40_1 rfl) rfl ?_
      first | refine WH.takeYes 9 rfl (by kernel_rfl) (by kernel_rfl) (by kernel_rfl) (fun _ _ _ h => h) ⟨_, HB⟩ rfl rfl (fun w' hS => EX.load rfl (Rd.imgC ty3 (hS.block hb (by simp)) hx8 hcell)) rfl ?_
      refine WH.takeYes 10 rfl (by kernel_rfl) (by kernel_rfl) (by kernel_rfl) (fun _ _ _ h => h) ⟨_, HB⟩ rfl rfl (fun w' hS => EX.move rfl) rfl ?_
      refine WH.takeYes 11 rfl (by kernel_rfl) (by kernel_rfl) (by kernel_rfl) (fun _ _ _ h => h) ⟨_, HB⟩ rfl rfl (fun w' hS => EX.move rfl) rfl ?_
      refine WH.takeYes 12 rfl (by kernel_rfl) (by kernel_rfl) (by kernel_rfl) (fun _ _ _ h => h) ⟨_, HB⟩ rfl rfl (fun w' hS => EX.idxSlc (k := i) slc23 rfl rfl (by first | rfl | omega) (hlt)) rfl ?_
      refine WH.takeYes 13 rfl (by kernel_rfl) (by kernel_rfl) (by kernel_rfl) (fun _ _ _ h => h) ⟨_, HB⟩ rfl rfl (fun w' hS => EX.fieldAddr fld40_0 rfl) rfl ?_
      first | refine WH.takeYes 14 rfl (by kernel_rfl) (by kernel_rfl) (by kernel_rfl) (fun _ _ _ h => h) ⟨_, HB⟩ rfl rfl (fun w' hS => EX.load rfl (Rd.imgW ty38 (hS.block hb (by simp)) hx8 hcell)) rfl ?_
      refine WH.hard 15 rfl (by kernel_rfl) ?_
      refine WL.yes rfl rfl ?_
      refine WL.call call32 rfl rfl ?_
      refine Calls.mono (refencode_any _ hx8 _) ?_
      rintro _ wx ⟨rfl, Hc⟩
      refine ⟨_, rfl, ?_⟩
      replace HB := HB.call0 Hc
      refine WL.done (WX.heldOn ⟨_, HB⟩ ?_)
      refine WH.takeYes 16 rfl (by kernel_rfl) (by kernel_rfl) (by kernel_rfl) (fun _ _ _ h => h) ⟨_, HB⟩ rfl rfl (fun w' hS => EX.bin rfl rfl (binv_neq)) rfl ?_
      refine WH.take 17 rfl (by kernel_rfl) (by kernel_rfl) (by kernel_rfl) (fun _ _ _ h => h) ⟨_, HB⟩ (fun w' hS => EX.pickT rfl rfl) rfl ?_
      refine WH.done (by kernel_rfl) ?_
      replace H := H.call HB
      refine WX.next ?_
      first | refine WC.cond_dec rfl (fun c4 => ?_) (fun c4 => ?_) | refine WC.cond rfl (fun c4 => ?_) (fun c4 => ?_)
      · -- c4 T
        have hst : M.state (i : Int) = 0 := by assumption
        have hcc : (M.ls[i]).c = enc (M.ls[i]).ws := clean_code (by unfold PM.state at hst; rw [has_of hlt, if_pos rfl, line_of hlt] at hst; exact hst)
        exact absurd (by simpa [bare] using hcc) c4
      · -- c4 F
        refine (WC.skip (WX.block_normal (WX.next ?_)))
        refine WC.region ?_
        refine WL.bin rfl rfl (iadd (by omega) (by omega)) rfl ?_
        refine WL.move rfl rfl ?_
        refine (WL.done (WX.round ?_))
        exact hN _ (i+1) _ _ (by omega) ⟨rfl, by omega, H⟩ (Sub.cons (t := 22) (by first | rfl | simp) (Sub.nil _)) (Sub.cons (t := 5) rfl (Sub.cons (t := 6) rfl (Sub.cons (t := 21) rfl (Sub.nil _))))
    · -- g1 False
      refine WH.takeNo 5 rfl (by kernel_rfl) (by kernel_rfl) (by kernel_rfl) (fun _ _ _ h => h) ⟨_, HB⟩ rfl rfl rfl ?_
      refine WH.takeNo 6 rfl (by kernel_rfl) (by kernel_rfl) (by kernel_rfl) (fun _ _ _ h => h) ⟨_, HB⟩ rfl rfl rfl ?_
      refine WH.takeNo 7 rfl (by kernel_rfl) (by kernel_rfl) (by kernel_rfl) (fun _ _ _ h => h) ⟨_, HB⟩ rfl rfl rfl ?_
      refine WH.takeNo 8 rfl (by kernel_rfl) (by kernel_rfl) (by kernel_rfl) (fun _ _ _ h => h) ⟨_, HB⟩ rfl rfl rfl ?_
      refine WH.takeNo 9 rfl (by kernel_rfl) (by kernel_rfl) (by kernel_rfl) (fun _ _ _ h => h) ⟨_, HB⟩ rfl rfl rfl ?_
      refine WH.takeNo 10 rfl (by kernel_rfl) (by kernel_rfl) (by kernel_rfl) (fun _ _ _ h => h) ⟨_, HB⟩ rfl rfl rfl ?_
      refine WH.takeNo 11 rfl (by kernel_rfl) (by kernel_rfl) (by kernel_rfl) (fun _ _ _ h => h) ⟨_, HB⟩ rfl rfl rfl ?_
      refine WH.takeNo 12 rfl (by kernel_rfl) (by kernel_rfl) (by kernel_rfl) (fun _ _ _ h => h) ⟨_, HB⟩ rfl rfl rfl ?_
      refine WH.takeNo 13 rfl (by kernel_rfl) (by kernel_rfl) (by kernel_rfl) (fun _ _ _ h => h) ⟨_, HB⟩ rfl rfl rfl ?_
      refine WH.takeNo 14 rfl (by kernel_rfl) (by kernel_rfl) (by kernel_rfl) (fun _ _ _ h => h) ⟨_, HB⟩ rfl rfl rfl ?_
      refine WH.takeNo 15 rfl (by kernel_rfl) (by kernel_rfl) (by kernel_rfl) (fun _ _ _ h => h) ⟨_, HB⟩ rfl rfl rfl ?_
      refine WH.takeNo 16 rfl (by kernel_rfl) (by kernel_rfl) (by kernel_rfl) (fun _ _ _ h => h) ⟨_, HB⟩ rfl rfl rfl ?_
      refine WH.take 17 rfl (by kernel_rfl) (by kernel_rfl) (by kernel_rfl) (fun _ _ _ h => h) ⟨_, HB⟩ (fun w' hS => EX.pickF rfl rfl) rfl ?_
      refine WH.done (by kernel_rfl) ?_
      replace H := H.call HB
      refine WX.next ?_
      refine WC.cond_false rfl (rfl) ?_
      refine (WC.skip (WX.block_normal (WX.next ?_)))
      refine WC.region ?_
      refine WL.bin rfl rfl (iadd (by omega) (by omega)) rfl ?_
      refine WL.move rfl rfl ?_
      refine (WL.done (WX.round ?_))
      exact hN _ (i+1) _ _ (by omega) ⟨rfl, by omega, H⟩ (Sub.cons (t := 22) (by first | rfl | simp) (Sub.nil _)) (Sub.cons (t := 5) rfl (Sub.cons (t := 6) rfl (Sub.cons (t := 21) rfl (Sub.nil _))))
  · -- c3 F
    refine (WC.exit (WX.then_exit (WX.then_exit (WX.block_exit (WX.next ?_)))))
    refine WC.seq ?_
    refine WC.region ?_
    refine WL.call call22 rfl rfl ?_
    refine Calls.mono (q_sanity hL H) ?_
    rintro _ wx ⟨rfl, Hc⟩
    refine ⟨_, rfl, ?_⟩
    replace H := H.call0 Hc
    refine WL.assign rfl rfl ?_
    refine (WL.done (WX.next ?_))
    refine (WC.ret ?_)
    refine ret_one rfl rfl ?_
    exact ⟨rfl, H.weaken (List.nil_sublist _)⟩

end Go.Proofs.YtkncbggnaobgeaaDoor

/- MemoryCodes: for every script, the law returns true and its arguments read behind the call as they did. No condition but the given card's own. -/
namespace Go.Proofs.YtkncbggnaobgeaaDoor
open Go.ChangeShapes Go.WideShapes Go.ChangeAt Go.WideMaps Go.WideElems Go.RowKit
set_option linter.unusedVariables false
set_option maxRecDepth 100000

theorem codes_met (os : Os) (args : Array Value) : laidMetH Tryd.prog Rows.memoryCodesRow.laid ((World.doorLaid Tryd.prog 31 os).forCall (fun _ _ => 0) ⟨#[], args, []⟩).memory :=
  laidMetH_of_parts3 (fuel := 8) (laidMet_of_run' 8 (by kernel_rfl) (by kernel_rfl)) (by kernel_rfl) (by kernel_rfl)

set_option maxRecDepth 100000 in
theorem codes_lifted (os : Os) (started : os.Started) (H : Type) (enc : TypeId × Value → H) :
    ReturnsInHanded {} Tryd.checked os 4 .any (fun w args => (Rows.memoryCodesSpec.pre enc Tryd.prog Tryd.f4 [] false w args ∧ laidMetH Tryd.prog Rows.memoryCodesRow.laid w) ∧ sizedMet enc Tryd.prog Tryd.f4 (OpenSpec.ofChange Rows.memoryCodesSpec) false w args)
      (Rows.memoryCodesSpec.post enc Tryd.prog Tryd.f4 false true false false) := by
  refine returnsInHanded_of_change_and (C := Tryd.checked) (X := fun w _ => laidMetH Tryd.prog Rows.memoryCodesRow.laid w) (fun _ _ _ hh h => h.of_heap hh) own started (by kernel_rfl) Tryd.func4
    (ChangeSpec.witness_shaped (enc := enc) (C := Tryd.checked) (os := os) (X := fun w _ => laidMetH Tryd.prog Rows.memoryCodesRow.laid w) false (World.doorLaid Tryd.prog 31 os) #[.int .i64 0, .slice none 0 0] 8 rfl (World.shaped_of_RefB (by kernel_rfl) (by kernel_rfl)) (by kernel_rfl) (by kernel_rfl) (by kernel_rfl) (codes_met os _)) ?_
  intro W base args ds gs before hval0 hW _ _ hL _
  have hval : ∀ (j : Nat) t v, Tryd.f4.params[j]? = some t → args[j]? = some v → Value.okWide Tryd.prog W .any base t v := hval0
  have hW' := hW
  obtain ⟨p, q, hA0, hV, _, _, _⟩ := hW
  have hA : DataW.TrodAll enc Tryd.prog W 0 (fun _ => true) true Tryd.f4.params.toList args.toList ds p := hA0
  rw [Tryd.params4] at hA hval
  obtain ⟨v0, vs0, d0, ds0, p0, q0, hargs, rfl, rfl, h0, r0⟩ := trodAll_cons hA
  obtain ⟨v1, vs1, d1, ds1, p1, q1, rfl, rfl, rfl, h1, r1⟩ := trodAll_cons r0
  obtain ⟨rfl, rfl, rfl⟩ := trodAll_nil r1
  obtain rfl : args = #[v0, v1] := by cases args; simp_all
  obtain ⟨rfl, rfl⟩ := trodVars_none hV
  rw [MakeChecks.laidMetH_plain _ _ _ (by kernel_rfl)] at hL
  have hL64 := L64.laid hL (by unfold Rows.memoryCodesRow; simp)
  obtain ⟨n, rfl, rfl, rfl, w0⟩ := open_int Tryd.underlying3 (hval 0 3 v0 rfl rfl) h0
  obtain ⟨A1, cap1, xs1, rfl, hm1, hx1, hok1⟩ := ops_open (hval 1 35 v1 rfl rfl) h1
  refine (codes_any W hL64 n A1 xs1.length cap1 xs1 rfl hm1 hx1 hok1).mono fun e W' ⟨he, st⟩ => ?_
  subst he
  exact ⟨_, rfl, post_law laidOut Tryd.underlying4 rfl rfl rfl (by kernel_rfl) hW' st⟩

theorem codes_j9 : (Rows.memoryCodesRow.inPlace == Tryd.prog.inPlace 4) = true := by kernel_rfl
theorem codes_j10 : (Rows.memoryCodesRow.unfollowed == Tryd.prog.unfollowed 4) = true := by kernel_rfl
theorem codes_j11 : (Rows.memoryCodesRow.recurses == Tryd.prog.recurses 4) = true := by kernel_rfl
theorem codes_j12 : (Rows.memoryCodesRow.named == Tryd.prog.varsNamed 4) = true := by kernel_rfl
theorem codes_joined : joinedFacts Tryd.prog 4 Tryd.f4 Rows.memoryCodesSpec Rows.memoryCodesRow = true :=
  joined_mk _ _ _ _ _ (by kernel_rfl) k_laid k_maps (by kernel_rfl) (by kernel_rfl) (by kernel_rfl) k_stops (by kernel_rfl) k_knobs codes_j9 codes_j10 codes_j11 codes_j12
    (by kernel_rfl) (by kernel_rfl) (by kernel_rfl) (by kernel_rfl) (by kernel_rfl) (by kernel_rfl) (by kernel_rfl) (by kernel_rfl) (by kernel_rfl) (by rw [k_keys]; rfl) (by kernel_rfl) k_heard head_may (by rw [head_final]; rfl) (by rw [head_make]; rfl)
    (by kernel_rfl) (by kernel_rfl) (by kernel_rfl) (by kernel_rfl)
theorem codes_name : Tryd.prog.funcNamed "alum/alumlaw04.MemoryCodes" = some 4 := by kernel_rfl
theorem codes_row : Rows.MemoryCodesSaid :=
  OpenClaim.holds_of_wide 4 Tryd.f4 rfl rfl rfl rfl rfl rfl rfl ⟨rfl, rfl, rfl, rfl, rfl⟩ rfl rfl rfl rfl rfl codes_name Tryd.func4 codes_joined
    (of_decide_eq_true (by kernel_rfl)) (by unfold Func.isWrapper; first | (rw [if_pos (by decide +kernel)]; kernel_rfl) | (rw [if_neg (by decide +kernel)]; exact ⟨rfl, rfl⟩))
    (fun os started H enc _ => codes_lifted os started H enc)

theorem codes_goes : false = Rows.memoryCodesRow.goesBy Tryd.prog := by kernel_rfl
theorem codes_stand : ([3, 35].all fun u => !Tryd.prog.wantsStandIn u) = true := by kernel_rfl
theorem memoryCodes_holds : Rows.MemoryCodesCardSaid :=
  Claim7.holds_tied_plain_at .later [] [.data, .data] true (true, "dad86e10c0c9875098f14639457c7da96153bc51d07db14731d5f5938e8d4e47") false
    codes_row (fun _ h => by cases h) (by kernel_rfl) (fun _ h => by cases h) memoryCodes_row_tie rfl ⟨rfl, rfl⟩ head_main rfl
    (fun f fn hf hfn => by
      obtain rfl : f = 4 := Option.some.inj (codes_name.symm.trans hf) |>.symm
      obtain rfl : fn = Tryd.f4 := (Option.some.inj (Tryd.func4.symm.trans hfn)).symm
      exact ⟨k_looks, fun j t ht => by
        rw [Tryd.params4] at ht
        have hm : t ∈ [3, 35] := by simpa using Array.mem_of_getElem? ht
        exact (show Tryd.prog.wantsStandIn t = false by simpa using List.all_eq_true.1 codes_stand t hm)⟩)
    codes_goes
#print axioms memoryCodes_holds
end Go.Proofs.YtkncbggnaobgeaaDoor
