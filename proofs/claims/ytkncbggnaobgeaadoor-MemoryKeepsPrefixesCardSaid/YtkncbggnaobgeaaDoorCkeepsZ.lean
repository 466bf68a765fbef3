/- MemoryKeepsPrefixes: for every script and failure, the law returns true and its arguments read behind the call as they did. No condition but the given card's own. -/
import Derived.Test.YtkncbggnaobgeaaDoorGh
import Derived.Test.YtkncbggnaobgeaaDoorGg
import Derived.Test.YtkncbggnaobgeaaDoorTie
import Derived.Test.YtkncbggnaobgeaaDoorCards

/- Walks of functions of the program; printed by a program of this session (walk.py) out of hand-written hints. -/
namespace Go.Proofs.YtkncbggnaobgeaaDoor
open Go.RowKit
set_option linter.unusedVariables false
set_option linter.unusedSimpArgs false
set_option maxRecDepth 100000

theorem fenceKeeps_any (w : World) (hL : L64 w) (n : Int) (A : Option Addr) (m cap : Nat) (xs : List OpV) (hm : m = xs.length) (hm63 : m ≤ 9223372036854775807) (hx : OpsIn w A xs) (hok : ∀ v ∈ xs, v.ok w) (line : Int) (A2 : Option Addr) (m2 cap2 : Nat) (keep : List Int) (hm2 : m2 = keep.length) (hm263 : m2 ≤ 9223372036854775807) (hkp : IntsIn w A2 keep) : Calls Tryd.prog 5 #[.int .i64 n, .slice A m cap, .int .i64 line, .slice A2 m2 cap2] w fun e w' => e = .returned (.bool true) ∧ St w [] w' [] := by
  refine calls_walk_n (args := [.int .i64 n, .slice A m cap, .int .i64 line, .slice A2 m2 cap2]) Tryd.func5 rfl rfl rfl ?_
  have H := St.refl w
  refine WC.seq ?_
  refine WC.region ?_
  refine WL.assign rfl rfl ?_
  refine (WL.done (WX.next ?_))
  refine WC.seq ?_
  refine WC.region ?_
  refine WL.move rfl rfl ?_
  refine WL.move rfl rfl ?_
  refine WL.call call30 rfl rfl ?_
  refine Calls.mono (begun_any n A m cap xs hm hm63 hx hok H hL) ?_
  rintro _ wx ⟨p, R, rfl, hI, H⟩
  refine ⟨_, rfl, ?_⟩
  have hlens := hI.lens
  have hlok := hI.lok
  generalize PM.begun n (plain xs) = M at hI hlens hlok
  refine WL.assign rfl rfl ?_
  refine (WL.done (WX.next ?_))
  refine WC.seq ?_
  refine WC.seq ?_
  refine WC.region ?_
  refine WL.move rfl rfl ?_
  refine WL.bin rfl rfl (binv_ptr_eql (by kernel_rfl) _) rfl ?_
  refine (WL.done (WX.next ?_))
  refine WC.cond_false rfl (rfl) ?_
  refine (WC.skip (WX.next ?_))
  refine WC.seq ?_
  refine WC.region ?_
  refine WL.move rfl rfl ?_
  refine WL.move rfl rfl ?_
  refine WL.call call26 rfl rfl ?_
  refine Calls.mono (a_lines hI H hL) ?_
  rintro _ wx ⟨rfl, rfl⟩
  refine ⟨_, rfl, ?_⟩
  refine WL.call call33 rfl rfl ?_
  refine Calls.mono (a_least line _ (by omega)) ?_
  rintro _ wx ⟨j, rfl, hj, rfl⟩
  refine ⟨_, rfl, ?_⟩
  have hjl : j < M.ls.length := by omega
  refine WL.assign rfl rfl ?_
  refine (WL.done (WX.next ?_))
  refine WC.seq ?_
  refine WC.region ?_
  refine WL.move rfl rfl ?_
  refine WL.call call34 rfl rfl ?_
  refine Calls.mono (a_seen hI H hL) ?_
  rintro _ wx ⟨sb1, rfl, H⟩
  refine ⟨_, rfl, ?_⟩
  have hIs := hI.shown8
  refine WL.assign rfl rfl ?_
  refine (WL.done (WX.next ?_))
  refine WC.seq ?_
  refine WC.seq ?_
  refine WC.region ?_
  refine WL.move rfl rfl ?_
  refine WL.lenSlc isl45 rfl rfl ?_
  refine WL.move rfl rfl ?_
  refine WL.call call26 rfl rfl ?_
  refine Calls.mono (a_lines hI H hL) ?_
  rintro _ wx ⟨rfl, rfl⟩
  refine ⟨_, rfl, ?_⟩
  refine WL.bin rfl rfl binv_neq rfl ?_
  refine (WL.done (WX.next ?_))
  refine WC.cond_false rfl (decide_eq_false (by omega)) ?_
  refine (WC.skip (WX.next ?_))
  refine WC.seq ?_
  refine WC.seq ?_
  refine WC.region ?_
  refine WL.move rfl rfl ?_
  refine WL.move rfl rfl ?_
  refine WL.call call31 rfl rfl ?_
  refine Calls.mono (a_state (j : Int) hI H hL) ?_
  rintro _ wx ⟨rfl, H⟩
  refine ⟨_, rfl, ?_⟩
  refine WL.bin rfl rfl binv_eql rfl ?_
  refine (WL.done (WX.next ?_))
  first | refine WC.cond_dec rfl (fun c3 => ?_) (fun c3 => ?_) | refine WC.cond rfl (fun c3 => ?_) (fun c3 => ?_)
  · -- c3 T
    refine WC.seq ?_
    refine WC.region ?_
    refine WL.call call22 rfl rfl ?_
    refine Calls.mono (q_sanity hL H) ?_
    rintro _ wx ⟨rfl, Hc⟩
    refine ⟨_, rfl, ?_⟩
    replace H := H.call0 Hc
    refine WL.assign rfl rfl ?_
    refine (WL.done (WX.next ?_))
    refine (WC.ret (WX.then_ret ?_))
    refine ret_one rfl rfl ?_
    exact ⟨rfl, H.weaken (List.nil_sublist _)⟩
  · -- c3 F
    refine (WC.skip (WX.next ?_))
    refine WC.seq ?_
    refine WC.region ?_
    refine WL.move rfl rfl ?_
    refine WL.move rfl rfl ?_
    refine WL.call call35 rfl rfl ?_
    refine Calls.mono (a_flush (j : Int) (by omega) hI H hL) ?_
    rintro _ wx ⟨R, rfl, hI, H⟩
    refine ⟨_, rfl, ?_⟩
    refine WL.assign rfl rfl ?_
    refine (WL.done (WX.next ?_))
    refine WC.seq ?_
    refine WC.region ?_
    refine WL.move rfl rfl ?_
    refine WL.call call36 rfl rfl ?_
    refine Calls.mono (a_fence (by omega) hI H hL) ?_
    rintro _ wx ⟨R, rfl, hI, H⟩
    refine ⟨_, rfl, ?_⟩
    refine (WL.done (WX.next ?_))
    refine WC.seq ?_
    refine WC.region ?_
    refine WL.move rfl rfl ?_
    refine WL.move rfl rfl ?_
    refine WL.move rfl rfl ?_
    refine WL.call call38 rfl rfl ?_
    refine Calls.mono (cuts_any A2 m2 cap2 keep hm2 hm263 (hkp) (by omega) hI H hL) ?_
    rintro _ wx ⟨r, rfl, hr, H⟩
    refine ⟨_, rfl, ?_⟩
    refine WL.call call37 rfl rfl ?_
    refine Calls.mono (a_crash_row hr (by have := cutsOf_len (M.flush j).fence keep; rw [fence_len, flush_len] at this; omega) (by omega) hI H hL) ?_
    rintro _ wx ⟨R, rfl, hI, H⟩
    refine ⟨_, rfl, ?_⟩
    refine WL.assign rfl rfl ?_
    refine (WL.done (WX.next ?_))
    refine WC.seq ?_
    refine WC.region ?_
    refine WL.move rfl rfl ?_
    refine WL.call call34 rfl rfl ?_
    refine Calls.mono (a_seen hI H hL) ?_
    rintro _ wx ⟨sb2, rfl, H⟩
    refine ⟨_, rfl, ?_⟩
    have hIs2 := hI.shown8
    refine WL.assign rfl rfl ?_
    refine (WL.done (WX.next ?_))
    refine WC.seq ?_
    have hfk := fence_keeps hlok hjl keep
    have hlen : ((M.flush j).fence.crash ((M.flush j).fence.cutsOf keep)).ls.length = M.ls.length := by rw [crash_len, fence_len, flush_len]
    have hhas := has_of hjl
    have hcut := cutsOf_ok (M.flush j).fence keep
    replace H := H.drew
    refine WC.held (SX (World.drew wx) []) (by kernel_rfl) ?_
    generalize World.drew wx = wb at H ⊢
    have HB := St.refl wb
    refine WH.hard 0 rfl (by kernel_rfl) ?_
    refine WL.call call22 rfl rfl ?_
    refine Calls.mono (q_sanity hL (H.call0 HB)) ?_
    rintro _ wx ⟨rfl, Hc⟩
    refine ⟨_, rfl, ?_⟩
    replace HB := HB.call0 Hc
    refine WL.done (WX.heldOn ⟨_, HB⟩ ?_)
    refine WH.take 1 rfl (by kernel_rfl) (by kernel_rfl) (by kernel_rfl) (fun _ _ _ h => h) ⟨_, HB⟩ (fun w' hS => EX.move rfl) rfl ?_
    first | refine WH.splitD (t := 49) rfl (fun g1 => ?_) (fun g1 => ?_) | refine WH.split (t := 49) rfl (fun g1 => ?_) (fun g1 => ?_)
    · -- g1 True
      refine WH.takeYes 2 rfl (by kernel_rfl) (by kernel_rfl) (by kernel_rfl) (fun _ _ _ h => h) ⟨_, HB⟩ rfl rfl (fun w' hS => EX.move rfl) rfl ?_
      refine WH.takeYes 3 rfl (by kernel_rfl) (by kernel_rfl) (by kernel_rfl) (fun _ _ _ h => h) ⟨_, HB⟩ rfl rfl (fun w' hS => EX.bin rfl rfl (binv_eql)) rfl ?_
      refine WH.take 4 rfl (by kernel_rfl) (by kernel_rfl) (by kernel_rfl) (fun _ _ _ h => h) ⟨_, HB⟩ (fun w' hS => EX.pickT rfl rfl) rfl ?_
      refine WH.take 5 rfl (by kernel_rfl) (by kernel_rfl) (by kernel_rfl) (fun _ _ _ h => h) ⟨_, HB⟩ (fun w' hS => EX.move rfl) rfl ?_
      first | refine WH.splitD (t := 53) rfl (fun g2 => ?_) (fun g2 => ?_) | refine WH.split (t := 53) rfl (fun g2 => ?_) (fun g2 => ?_)
      · -- g2 True
        refine WH.takeYes 6 rfl (by kernel_rfl) (by kernel_rfl) (by kernel_rfl) (fun _ _ _ h => h) ⟨_, HB⟩ rfl rfl (fun w' hS => EX.move rfl) rfl ?_
        refine WH.takeYes 7 rfl (by kernel_rfl) (by kernel_rfl) (by kernel_rfl) (fun _ _ _ h => h) ⟨_, HB⟩ rfl rfl (fun w' hS => EX.bin rfl rfl (binv_eql)) rfl ?_
        refine WH.take 8 rfl (by kernel_rfl) (by kernel_rfl) (by kernel_rfl) (fun _ _ _ h => h) ⟨_, HB⟩ (fun w' hS => EX.pickT rfl rfl) rfl ?_
        refine WH.take 9 rfl (by kernel_rfl) (by kernel_rfl) (by kernel_rfl) (fun _ _ _ h => h) ⟨_, HB⟩ (fun w' hS => EX.move rfl) rfl ?_
        first | refine WH.splitD (t := 57) rfl (fun g3 => ?_) (fun g3 => ?_) | refine WH.split (t := 57) rfl (fun g3 => ?_) (fun g3 => ?_)
        · -- g3 True
          refine WH.takeYes 10 rfl (by kernel_rfl) (by kernel_rfl) (by kernel_rfl) (fun _ _ _ h => h) ⟨_, HB⟩ rfl rfl (fun w' hS => EX.move rfl) rfl ?_
          refine WH.takeYes 11 rfl (by kernel_rfl) (by kernel_rfl) (by kernel_rfl) (fun _ _ _ h => h) ⟨_, HB⟩ rfl rfl (fun w' hS => EX.lenSlc isl45 rfl) rfl ?_
          refine WH.takeYes 12 rfl (by kernel_rfl) (by kernel_rfl) (by kernel_rfl) (fun _ _ _ h => h) ⟨_, HB⟩ rfl rfl (fun w' hS => EX.move rfl) rfl ?_
          refine WH.takeYes 13 rfl (by kernel_rfl) (by kernel_rfl) (by kernel_rfl) (fun _ _ _ h => h) ⟨_, HB⟩ rfl rfl (fun w' hS => EX.lenSlc isl45 rfl) rfl ?_
          refine WH.takeYes 14 rfl (by kernel_rfl) (by kernel_rfl) (by kernel_rfl) (fun _ _ _ h => h) ⟨_, HB⟩ rfl rfl (fun w' hS => EX.bin rfl rfl (binv_eql)) rfl ?_
          refine WH.take 15 rfl (by kernel_rfl) (by kernel_rfl) (by kernel_rfl) (fun _ _ _ h => h) ⟨_, HB⟩ (fun w' hS => EX.pickT rfl rfl) rfl ?_
          refine WH.take 16 rfl (by kernel_rfl) (by kernel_rfl) (by kernel_rfl) (fun _ _ _ h => h) ⟨_, HB⟩ (fun w' hS => EX.move rfl) rfl ?_
          first | refine WH.splitD (t := 64) rfl (fun g4 => ?_) (fun g4 => ?_) | refine WH.split (t := 64) rfl (fun g4 => ?_) (fun g4 => ?_)
          · -- g4 True
            refine WH.takeYes 17 rfl (by kernel_rfl) (by kernel_rfl) (by kernel_rfl) (fun _ _ _ h => h) ⟨_, HB⟩ rfl rfl (fun w' hS => EX.move rfl) rfl ?_
            refine WH.takeYes 18 rfl (by kernel_rfl) (by kernel_rfl) (by kernel_rfl) (fun _ _ _ h => h) ⟨_, HB⟩ rfl rfl (fun w' hS => EX.move rfl) rfl ?_
            refine WH.takeYes 19 rfl (by kernel_rfl) (by kernel_rfl) (by kernel_rfl) (fun _ _ _ h => h) ⟨_, HB⟩ rfl rfl (fun w' hS => EX.idxSlc (k := j) slc45 rfl rfl (by first | rfl | omega) (by rw [hlen]; exact hjl)) rfl ?_
            first | refine WH.takeYes 20 rfl (by kernel_rfl) (by kernel_rfl) (by kernel_rfl) (fun _ _ _ h => h) ⟨_, HB⟩ rfl rfl (fun w' hS => EX.load rfl ((RowsIn.seen hIs2 (hS.block (H.sat (sb2, .cells (arrC (seenC _)) 38) (by simp)) (by simp))).rd ty38 (by omega) (by rw [List.length_map, hlen]; exact hjl) rfl)) rfl ?_
            refine WH.takeYes 21 rfl (by kernel_rfl) (by kernel_rfl) (by kernel_rfl) (fun _ _ _ h => h) ⟨_, HB⟩ rfl rfl (fun w' hS => EX.move rfl) rfl ?_
            refine WH.takeYes 22 rfl (by kernel_rfl) (by kernel_rfl) (by kernel_rfl) (fun _ _ _ h => h) ⟨_, HB⟩ rfl rfl (fun w' hS => EX.move rfl) rfl ?_
            refine WH.takeYes 23 rfl (by kernel_rfl) (by kernel_rfl) (by kernel_rfl) (fun _ _ _ h => h) ⟨_, HB⟩ rfl rfl (fun w' hS => EX.idxSlc (k := j) slc45 rfl rfl (by first | rfl | omega) (hjl)) rfl ?_
            first | refine WH.takeYes 24 rfl (by kernel_rfl) (by kernel_rfl) (by kernel_rfl) (fun _ _ _ h => h) ⟨_, HB⟩ rfl rfl (fun w' hS => EX.load rfl ((RowsIn.seen hIs (hS.block (H.sat (sb1, .cells (arrC (seenC _)) 38) (by simp)) (by simp))).rd ty38 (by omega) (by rw [List.length_map]; exact hjl) rfl)) rfl ?_
            refine WH.takeYes 25 rfl (by kernel_rfl) (by kernel_rfl) (by kernel_rfl) (fun _ _ _ h => h) ⟨_, HB⟩ rfl rfl (fun w' hS => EX.bin rfl rfl (binv_agg_eql eqI38.up (by kernel_rfl) (hIs2 _ (List.getElem_mem _)) (hIs _ (List.getElem_mem _)))) rfl ?_
            refine WH.take 26 rfl (by kernel_rfl) (by kernel_rfl) (by kernel_rfl) (fun _ _ _ h => h) ⟨_, HB⟩ (fun w' hS => EX.pickT rfl rfl) rfl ?_
            refine WH.take 27 rfl (by kernel_rfl) (by kernel_rfl) (by kernel_rfl) (fun _ _ _ h => h) ⟨_, HB⟩ (fun w' hS => EX.move rfl) rfl ?_
            first | refine WH.splitD (t := 75) rfl (fun g5 => ?_) (fun g5 => ?_) | refine WH.split (t := 75) rfl (fun g5 => ?_) (fun g5 => ?_)
            · -- g5 True
              refine WH.takeYes 28 rfl (by kernel_rfl) (by kernel_rfl) (by kernel_rfl) (fun _ _ _ h => h) ⟨_, HB⟩ rfl rfl (fun w' hS => EX.move rfl) rfl ?_
              refine WH.takeYes 29 rfl (by kernel_rfl) (by kernel_rfl) (by kernel_rfl) (fun _ _ _ h => h) ⟨_, HB⟩ rfl rfl (fun w' hS => EX.move rfl) rfl ?_
              refine WH.hard 30 rfl (by kernel_rfl) ?_
              refine WL.yes rfl rfl ?_
              refine WL.call call39 rfl rfl ?_
              refine Calls.mono (q_pending (j : Int) (by omega) hI (H.call0 HB) hL) ?_
              rintro _ wx ⟨r3, rfl, Hc⟩
              refine ⟨_, rfl, ?_⟩
              replace HB := HB.call0 Hc
              refine WL.done (WX.heldOn ⟨_, HB⟩ ?_)
              refine WH.takeYes 31 rfl (by kernel_rfl) (by kernel_rfl) (by kernel_rfl) (fun _ _ _ h => h) ⟨_, HB⟩ rfl rfl (fun w' hS => EX.lenR isl52 rfl) rfl ?_
              refine WH.takeYes 32 rfl (by kernel_rfl) (by kernel_rfl) (by kernel_rfl) (fun _ _ _ h => h) ⟨_, HB⟩ rfl rfl (fun w' hS => EX.bin rfl rfl (binv_eql)) rfl ?_
              refine WH.take 33 rfl (by kernel_rfl) (by kernel_rfl) (by kernel_rfl) (fun _ _ _ h => h) ⟨_, HB⟩ (fun w' hS => EX.pickT rfl rfl) rfl ?_
              refine WH.take 34 rfl (by kernel_rfl) (by kernel_rfl) (by kernel_rfl) (fun _ _ _ h => h) ⟨_, HB⟩ (fun w' hS => EX.assign rfl) rfl ?_
              refine WH.done (by kernel_rfl) ?_
              replace H := H.call HB
              refine WX.next ?_
              refine (WC.ret ?_)
              refine ret_one rfl rfl ?_
              refine ⟨?_, H.weaken (List.nil_sublist _)⟩
              rw [hfk.2]; rfl
            · -- g5 False
              have e1 := hfk.1
              rw [line_of hjl, line_of (by rw [hlen]; exact hjl)] at e1
              rw [List.getElem_map, List.getElem_map, e1] at g5
              simp at g5
          · -- g4 False
            omega
        · -- g3 False
          exact absurd (show (if (M.flush j).fence.cutsOk ((M.flush j).fence.cutsOf keep) then (0 : Int) else 1) = 0 by rw [hcut]; rfl) (by assumption)
      · -- g2 False
        exact absurd (show (if M.has (j : Int) then (0 : Int) else 40) = 0 by rw [hhas]; rfl) (by assumption)
    · -- g1 False
      contradiction

end Go.Proofs.YtkncbggnaobgeaaDoor

/- Walks of functions of the program; printed by a program of this session (walk.py) out of hand-written hints. -/
namespace Go.Proofs.YtkncbggnaobgeaaDoor
open Go.RowKit
set_option linter.unusedVariables false
set_option linter.unusedSimpArgs false
set_option maxRecDepth 100000

theorem place_fact : ∀ i, i < 320 → ∀ j, j < 10 → (2 ≤ j ∧ i + 1 + j < 2 ^ j ∧ (j = 2 ∨ 2 ^ (j - 1) ≤ i + 1 + (j - 1))) → posn i = i + 1 + j := by decide +kernel
theorem place_stop : ∀ i, i < 320 → ∀ j, j < 10 → 2 ^ j ≤ i + 1 + j → j < 9 := by decide +kernel
theorem two_pow_cast (j : Nat) : (1 : Int) * 2 ^ j = ((2 ^ j : Nat) : Int) := by rw [Int.one_mul]; norm_cast
/-- The bits of a code up to one of them: their positions' exclusive or, and how many are 1. -/
def codeTo (c : Nat) : Nat → Nat × Nat
  | 0 => (0, 0)
  | b + 1 => if c.testBit b then ((if b < 9 then (codeTo c b).1 ^^^ 2 ^ b else (codeTo c b).1), (codeTo c b).2 + 1) else codeTo c b
theorem codeTo_all : ∀ c, c < 1024 → codeTo c 10 = (c &&& 511, popc c) := by decide +kernel
theorem codeTo_lt (c : Nat) : ∀ b, b ≤ 10 → (codeTo c b).1 < 512 ∧ (codeTo c b).2 ≤ b
  | 0, _ => by simp [codeTo]
  | b + 1, h => by
    obtain ⟨h1, h2⟩ := codeTo_lt c b (by omega)
    unfold codeTo
    split
    · refine ⟨?_, by simp; omega⟩
      show (if b < 9 then (codeTo c b).1 ^^^ 2 ^ b else (codeTo c b).1) < 512
      split
      · exact Nat.xor_lt_two_pow (n := 9) (by omega) (Nat.pow_lt_pow_right (by omega) (by omega))
      · exact h1
    · exact ⟨h1, by omega⟩
theorem one_bit {x : Int} (hx : 0 ≤ x) (b : Nat) : decide (x / 2 ^ b % 2 ^ 1 = 1) = x.toNat.testBit b := by
  rw [Nat.testBit_eq_decide_div_mod_eq, decide_eq_decide]
  obtain ⟨n, rfl⟩ := Int.eq_ofNat_of_zero_le hx
  rw [Int.toNat_natCast]
  norm_cast
theorem div_pow_cast (x b : Nat) : (x : Int) / 2 ^ b = ((x / 2 ^ b : Nat) : Int) := by norm_cast
theorem shr_pos {x b : Nat} (h : 0 < x / 2 ^ b) (hx : x < 2 ^ 40) : b < 40 := by
  rcases Nat.lt_or_ge b 40 with hl | hg
  · exact hl
  · have h1 : 2 ^ 40 ≤ 2 ^ b := Nat.pow_le_pow_right (by omega) hg
    rw [Nat.div_eq_of_lt (by omega)] at h
    omega
theorem shr_zero {x b j : Nat} (h : x / 2 ^ b = 0) (hj : b ≤ j) : x.testBit j = false := by
  have h1 : x < 2 ^ b := by
    rcases Nat.lt_or_ge x (2 ^ b) with hl | hg
    · exact hl
    · have := Nat.div_pos hg (Nat.two_pow_pos b); omega
  exact Nat.testBit_lt_two_pow (Nat.lt_of_lt_of_le h1 (Nat.pow_le_pow_right (by omega) hj))
theorem or512 : ∀ s, s < 512 → s ||| 512 = s + 512 := by decide +kernel

theorem place_any (i : Nat) (hi : i < 320) (w : World) : Calls Tryd.prog 171 #[.int .i64 (i : Int)] w fun e w' => e = .returned (.int .i64 (posn i : Int)) ∧ w' = w := by
  refine calls_walk_n (args := [.int .i64 (i : Int)]) Tryd.func171 rfl rfl rfl ?_
  refine WC.seq ?_
  refine WC.region ?_
  refine WL.assign rfl rfl ?_
  refine (WL.done (WX.next ?_))
  refine WC.seq ?_
  refine WC.region ?_
  refine WL.assign rfl rfl ?_
  refine (WL.done (WX.next ?_))
  refine WC.seq ?_
  refine WC.block ?_
  -- loop 1: changed [3] kept [0]
  refine WC.loop (Sub.cons (t := 0) rfl (Sub.nil _)) (fun j : Nat => [(3, .int .i64 (j : Int))]) (fun q j wx => q = 10 - j ∧ 2 ≤ j ∧ j < 10 ∧ (j = 2 ∨ 2 ^ (j - 1) ≤ i + 1 + (j - 1)) ∧ wx = w) (8) (2) (Sub.cons (t := 3) (by first | rfl | simp) (Sub.nil _)) (⟨rfl, by omega, by omega, .inl rfl, rfl⟩) ?_
  rintro k g wx hI N hN
  obtain ⟨rfl, hj2, hj, hlow, rfl⟩ := hI
  obtain ⟨j, rfl⟩ : ∃ j, j = g := ⟨g, rfl⟩
  refine WC.seq ?_
  refine WC.seq ?_
  refine WC.region ?_
  refine WL.move rfl rfl ?_
  refine WL.bin rfl rfl (iadd (by omega) (by omega)) rfl ?_
  refine WL.move rfl rfl ?_
  refine WL.bin rfl rfl (iadd (by omega) (by omega)) rfl ?_
  refine WL.move rfl rfl ?_
  refine WL.bin rfl rfl (ishl (m := j) rfl (by omega) (by omega) (by rw [two_pow_cast]; have := Nat.pow_lt_pow_right (a := 2) (by omega) (show j < 10 by omega); omega)) rfl ?_
  refine WL.bin rfl rfl binv_geq rfl ?_
  refine (WL.done (WX.next ?_))
  first | refine WC.cond_dec rfl (fun c1 => ?_) (fun c1 => ?_) | refine WC.cond rfl (fun c1 => ?_) (fun c1 => ?_)
  · -- c1 T
    refine (WC.skip (WX.next ?_))
    refine WC.block ?_
    refine WC.region ?_
    refine WL.move rfl rfl ?_
    refine WL.bin rfl rfl (iadd (by omega) (by omega)) rfl ?_
    refine WL.assign rfl rfl ?_
    refine (WL.done (WX.block_normal (WX.round ?_)))
    rw [two_pow_cast] at c1
    have hs := place_stop i hi j hj (by omega)
    exact hN _ (j+1) _ _ (by omega) ⟨rfl, by omega, by omega, .inr (by rw [Nat.add_sub_cancel]; omega), rfl⟩ (Sub.cons (t := 3) (by first | rfl | simp) (Sub.nil _)) (Sub.cons (t := 0) rfl (Sub.nil _))
  · -- c1 F
    refine (WC.exit (WX.then_exit (WX.then_exit (WX.block_exit (WX.next ?_)))))
    refine WC.seq ?_
    refine WC.region ?_
    refine WL.move rfl rfl ?_
    refine WL.bin rfl rfl (iadd (by omega) (by omega)) rfl ?_
    refine WL.move rfl rfl ?_
    refine WL.bin rfl rfl (iadd (by omega) (by omega)) rfl ?_
    refine WL.assign rfl rfl ?_
    refine (WL.done (WX.next ?_))
    refine (WC.ret ?_)
    refine ret_one rfl rfl ?_
    rw [two_pow_cast] at c1
    have := place_fact i hi j hj ⟨hj2, by omega, hlow⟩
    exact ⟨by rw [this]; norm_cast, rfl⟩

theorem one_any (ws : List Int) (h8 : ws.length = 8) (hw : isWords ws = true) (c : Int) (hc : 0 ≤ c ∧ c ≤ 1023) (k b : Nat) (hk : k ≤ 8) (hb : b < 64) (w : World) : Calls Tryd.prog 170 #[arr ws, .int .i64 c, .int .i64 (k : Int), .int .i64 (b : Int)] w fun e w' => e = .returned (.bool ((if k = 8 then c else ws.getD k 0).toNat.testBit b)) ∧ St w [] w' [] := by
  refine calls_walk_n (args := [arr ws, .int .i64 c, .int .i64 (k : Int), .int .i64 (b : Int)]) Tryd.func170 rfl rfl rfl ?_
  have H := St.refl w
  refine WC.seq ?_
  refine WC.region ?_
  refine WL.boxArr H rfl rfl ?_
  intro b4 wx hb4 hge4 H
  refine WL.assign rfl rfl ?_
  refine (WL.done (WX.next ?_))
  refine WC.seq ?_
  refine WC.seq ?_
  refine WC.region ?_
  refine WL.move rfl rfl ?_
  refine WL.bin rfl rfl binv_eql rfl ?_
  refine (WL.done (WX.next ?_))
  first | refine WC.cond_dec rfl (fun c1 => ?_) (fun c1 => ?_) | refine WC.cond rfl (fun c1 => ?_) (fun c1 => ?_)
  · -- c1 T
    refine WC.seq ?_
    refine WC.region ?_
    refine WL.move rfl rfl ?_
    refine WL.move rfl rfl ?_
    refine WL.bin rfl rfl (ishr (m := b) rfl (by show b ≤ 64; omega) hc.1) rfl ?_
    refine WL.bin rfl rfl (iandm (k := 1) (by decide) rfl) rfl ?_
    refine WL.bin rfl rfl binv_eql rfl ?_
    refine WL.assign rfl rfl ?_
    refine (WL.done (WX.next ?_))
    refine (WC.ret (WX.then_ret ?_))
    refine ret_one rfl rfl ?_
    rw [if_pos (by omega), ← one_bit hc.1]
    exact ⟨rfl, H.weaken (List.nil_sublist _)⟩
  · -- c1 F
    have hk8 : k < 8 := by omega
    have hwk := isWords_get hw (g := k) (by omega)
    refine (WC.skip (WX.next ?_))
    refine WC.seq ?_
    refine WC.region ?_
    refine WL.move rfl rfl ?_
    refine WL.idxArr (k := k) arr38 rfl rfl (by first | rfl | omega) (by omega) rfl ?_
    first | refine WL.load rfl ((by rw [Nat.zero_add, Nat.mul_one]; exact H.rdElt ty3 0 rfl (by omega))) rfl ?_
    refine WL.move rfl rfl ?_
    refine WL.bin rfl rfl (ishr (m := b) rfl (by show b ≤ 64; omega) hwk.1) rfl ?_
    refine WL.bin rfl rfl (iandm (k := 1) (by decide) rfl) rfl ?_
    refine WL.bin rfl rfl binv_eql rfl ?_
    refine WL.assign rfl rfl ?_
    refine (WL.done (WX.next ?_))
    refine (WC.ret ?_)
    refine ret_one rfl rfl ?_
    rw [if_neg (by omega), ← one_bit hwk.1]
    exact ⟨rfl, H.weaken (List.nil_sublist _)⟩

theorem refvalid_any (ws : List Int) (h8 : ws.length = 8) (c : Int) (w : World) : Calls Tryd.prog 103 #[arr ws, .int .i64 c] w fun e w' => e = .returned (.bool (isWords ws && isCode c)) ∧ St w [] w' [] := by
  refine calls_walk_n (args := [arr ws, .int .i64 c]) Tryd.func103 rfl rfl rfl ?_
  have H := St.refl w
  refine WC.seq ?_
  refine WC.region ?_
  refine WL.boxArr H rfl rfl ?_
  intro b2 wx hb2 hge2 H
  refine WL.assign rfl rfl ?_
  refine (WL.done (WX.next ?_))
  refine WC.seq ?_
  refine WC.seq ?_
  refine WC.region ?_
  refine WL.assign rfl rfl ?_
  refine (WL.done (WX.next ?_))
  refine WC.block ?_
  -- loop 1: changed [5] kept [1, 2]
  refine WC.loop (Sub.cons (t := 1) rfl (Sub.cons (t := 2) rfl (Sub.nil _))) (fun i : Nat => [(5, .int .i64 (i : Int))]) (fun q i wx => q = 8 - i ∧ i ≤ 8 ∧ (ws.take i).all isWord = true ∧ St w [] wx [(b2, .cells (arrC ws) 38)]) (8) (0) (Sub.cons (t := 5) (by first | rfl | simp) (Sub.nil _)) (⟨rfl, by omega, by simp, H⟩) ?_
  rintro k g wx hI N hN
  obtain ⟨rfl, hg, hall, H⟩ := hI
  refine WC.seq ?_
  refine WC.seq ?_
  refine WC.region ?_
  refine WL.move rfl rfl ?_
  refine WL.bin rfl rfl binv_lss rfl ?_
  refine (WL.done (WX.next ?_))
  first | refine WC.cond_dec rfl (fun c1 => ?_) (fun c1 => ?_) | refine WC.cond rfl (fun c1 => ?_) (fun c1 => ?_)
  · -- c1 T
    refine (WC.skip (WX.next ?_))
    refine WC.seq ?_
    refine WC.block ?_
    refine WC.seq ?_
    refine WC.region ?_
    refine WL.move rfl rfl ?_
    refine WL.idxArr (k := g) arr38 rfl rfl (by first | rfl | omega) (by omega) rfl ?_
    first | refine WL.load rfl (H.rdElt ty3 0 rfl (by omega)) rfl ?_
    refine WL.bin rfl rfl binv_lss rfl ?_
    refine WL.move rfl rfl ?_
    first | refine WL.splitD (t := 14) rfl (fun g1 => ?_) (fun g1 => ?_) | refine WL.split (t := 14) rfl (fun g1 => ?_) (fun g1 => ?_)
    · -- g1 True
      refine WL.no rfl rfl rfl ?_
      refine WL.no rfl rfl rfl ?_
      refine WL.no rfl rfl rfl ?_
      refine WL.no rfl rfl rfl ?_
      refine WL.pickT rfl rfl rfl ?_
      refine (WL.done (WX.next ?_))
      refine WC.cond_true rfl (rfl) ?_
      refine WC.seq ?_
      refine WC.region ?_
      refine WL.assign rfl rfl ?_
      refine (WL.done (WX.next ?_))
      refine (WC.ret (WX.block_ret (WX.then_ret (WX.then_ret (WX.block_ret (WX.then_ret ?_))))))
      refine ret_one rfl rfl ?_
      have hb := g1
      simp only [Nat.zero_add, Nat.mul_one] at hb
      have h : isWords ws = false := all_false_of (g := g) (by omega) (isWord_no (.inl hb))
      rw [h]; exact ⟨rfl, H.weaken (List.nil_sublist _)⟩
    · -- g1 False
      refine WL.yes rfl rfl ?_
      refine WL.move rfl rfl ?_
      refine WL.yes rfl rfl ?_
      refine WL.idxArr (k := g) arr38 rfl rfl (by first | rfl | omega) (by omega) rfl ?_
      refine WL.yes rfl rfl ?_
      first | refine WL.load rfl (H.rdElt ty3 0 rfl (by omega)) rfl ?_
      refine WL.yes rfl rfl ?_
      refine WL.bin rfl rfl binv_gtr rfl ?_
      refine WL.pickF rfl rfl rfl ?_
      refine (WL.done (WX.next ?_))
      first | refine WC.cond_dec rfl (fun c3 => ?_) (fun c3 => ?_) | refine WC.cond rfl (fun c3 => ?_) (fun c3 => ?_)
      · -- c3 T
        refine WC.seq ?_
        refine WC.region ?_
        refine WL.assign rfl rfl ?_
        refine (WL.done (WX.next ?_))
        refine (WC.ret (WX.block_ret (WX.then_ret (WX.then_ret (WX.block_ret (WX.then_ret ?_))))))
        refine ret_one rfl rfl ?_
        have hb := c3
        simp only [Nat.zero_add, Nat.mul_one] at hb
        have h : isWords ws = false := all_false_of (g := g) (by omega) (isWord_no (.inr hb))
        rw [h]; exact ⟨rfl, H.weaken (List.nil_sublist _)⟩
      · -- c3 F
        refine (WC.skip (WX.block_normal (WX.next ?_)))
        refine WC.region ?_
        refine WL.move rfl rfl ?_
        refine WL.bin rfl rfl (iadd (by omega) (by omega)) rfl ?_
        refine WL.assign rfl rfl ?_
        refine (WL.done (WX.round ?_))
        exact hN _ (g+1) _ _ (by omega) ⟨rfl, by omega, take_all_succ (by omega) hall (isWord_iff.2 (by simp only [Nat.zero_add, Nat.mul_one] at *; omega)), H⟩ (Sub.cons (t := 5) (by first | rfl | simp) (Sub.nil _)) (Sub.cons (t := 1) rfl (Sub.cons (t := 2) rfl (Sub.nil _)))
  · -- c1 F
    refine (WC.exit (WX.then_exit (WX.then_exit (WX.block_exit (WX.next ?_)))))
    refine WC.seq ?_
    refine WC.region ?_
    refine WL.move rfl rfl ?_
    refine WL.bin rfl rfl binv_geq rfl ?_
    refine WL.move rfl rfl ?_
    first | refine WL.splitD (t := 22) rfl (fun g2 => ?_) (fun g2 => ?_) | refine WL.split (t := 22) rfl (fun g2 => ?_) (fun g2 => ?_)
    · -- g2 True
      refine WL.yes rfl rfl ?_
      refine WL.move rfl rfl ?_
      refine WL.yes rfl rfl ?_
      refine WL.bin rfl rfl binv_leq rfl ?_
      refine WL.pickT rfl rfl rfl ?_
      refine WL.assign rfl rfl ?_
      refine (WL.done (WX.next ?_))
      refine (WC.ret ?_)
      refine ret_one rfl rfl ?_
      have h : isWords ws = true := all_of_take (by rw [show ws.length = g by omega]; exact hall)
      rw [h]; exact ⟨by simp [isCode]; omega, H.weaken (List.nil_sublist _)⟩
    · -- g2 False
      refine WL.no rfl rfl rfl ?_
      refine WL.no rfl rfl rfl ?_
      refine WL.pickF rfl rfl rfl ?_
      refine WL.assign rfl rfl ?_
      refine (WL.done (WX.next ?_))
      refine (WC.ret ?_)
      refine ret_one rfl rfl ?_
      have h : isWords ws = true := all_of_take (by rw [show ws.length = g by omega]; exact hall)
      rw [h, isCode_no (by omega)]; exact ⟨rfl, H.weaken (List.nil_sublist _)⟩

theorem syndrome_any (ws : List Int) (h8 : ws.length = 8) (hw : isWords ws = true) (c : Int) (hc : isCode c = true) (w : World) : Calls Tryd.prog 104 #[arr ws, .int .i64 c] w fun e w' => e = .returned (.tuple #[.int .i64 ((syn ws ^^^ (c.toNat &&& 511) : Nat) : Int), .int .i64 (((cnt ws + popc c.toNat) % 2 : Nat) : Int)]) ∧ St w [] w' [] := by
  refine calls_walk_n (args := [arr ws, .int .i64 c]) Tryd.func104 rfl rfl rfl ?_
  have H := St.refl w
  have hcr := isCode_iff.1 hc
  refine WC.seq ?_
  refine WC.region ?_
  refine WL.boxArr H rfl rfl ?_
  intro b2 wx hb2 hge2 H
  refine WL.assign rfl rfl ?_
  refine WL.assign rfl rfl ?_
  refine (WL.done (WX.next ?_))
  refine WC.seq ?_
  refine WC.region ?_
  refine WL.assign rfl rfl ?_
  refine (WL.done (WX.next ?_))
  refine WC.seq ?_
  refine WC.region ?_
  refine WL.assign rfl rfl ?_
  refine (WL.done (WX.next ?_))
  refine WC.seq ?_
  refine WC.seq ?_
  refine WC.region ?_
  refine WL.assign rfl rfl ?_
  refine (WL.done (WX.next ?_))
  refine WC.block ?_
  -- loop 1: changed [6, 7, 8] kept [1, 2]
  refine WC.loop (Sub.cons (t := 1) rfl (Sub.cons (t := 2) rfl (Sub.nil _))) (fun i : Nat => [(6, .int .i64 ((synTo ws (40 * i)).1 : Int)), (7, .int .i64 ((synTo ws (40 * i)).2 : Int)), (8, .int .i64 (i : Int))]) (fun q i wx => q = 8 - i ∧ i ≤ 8 ∧ St w [] wx [(b2, .cells (arrC ws) 38)]) (8) (0) (Sub.cons (t := 6) (by first | rfl | simp) (Sub.cons (t := 7) (by first | rfl | simp) (Sub.cons (t := 8) (by first | rfl | simp) (Sub.nil _)))) (⟨rfl, by omega, H⟩) ?_
  rintro k g wx hI N hN
  obtain ⟨rfl, hg, H⟩ := hI
  refine WC.seq ?_
  refine WC.seq ?_
  refine WC.region ?_
  refine WL.move rfl rfl ?_
  refine WL.bin rfl rfl binv_lss rfl ?_
  refine (WL.done (WX.next ?_))
  first | refine WC.cond_dec rfl (fun c1 => ?_) (fun c1 => ?_) | refine WC.cond rfl (fun c1 => ?_) (fun c1 => ?_)
  · -- c1 T
    refine (WC.skip (WX.next ?_))
    refine WC.seq ?_
    refine WC.block ?_
    refine WC.seq ?_
    refine WC.region ?_
    refine WL.assign rfl rfl ?_
    refine (WL.done (WX.next ?_))
    refine WC.block ?_
    -- loop 2: changed [6, 7, 9] kept [1, 2, 8]
    have hwg := isWords_get hw (g := g) (by omega)
    obtain ⟨x, hx⟩ : ∃ x : Nat, ws.getD g 0 = (x : Int) := ⟨(ws.getD g 0).toNat, by omega⟩
    refine WC.loop (Sub.cons (t := 1) rfl (Sub.cons (t := 2) rfl (Sub.cons (t := 8) rfl (Sub.nil _)))) (fun b : Nat => [(6, .int .i64 ((synTo ws (40 * g + b)).1 : Int)), (7, .int .i64 ((synTo ws (40 * g + b)).2 : Int)), (9, .int .i64 (b : Int))]) (fun q b wx => q = 40 - b ∧ b ≤ 40 ∧ St w [] wx [(b2, .cells (arrC ws) 38)]) (40) (0) (Sub.cons (t := 6) (by first | rfl | simp) (Sub.cons (t := 7) (by first | rfl | simp) (Sub.cons (t := 9) (by first | rfl | simp) (Sub.nil _)))) (⟨rfl, by omega, H⟩) ?_
    rintro k2 b wx hI N2 hN2
    obtain ⟨rfl, hb40, H⟩ := hI
    refine WC.seq ?_
    refine WC.seq ?_
    refine WC.region ?_
    refine WL.move rfl rfl ?_
    refine WL.idxArr (k := g) arr38 rfl rfl (by first | rfl | omega) (by omega) rfl ?_
    first | refine WL.load rfl ((by rw [Nat.zero_add, Nat.mul_one]; exact H.rdElt ty3 0 rfl (by omega))) rfl ?_
    refine WL.move rfl rfl ?_
    refine WL.bin rfl rfl (ishr (m := b) rfl (by show b ≤ 64; omega) hwg.1) rfl ?_
    refine WL.bin rfl rfl binv_gtr rfl ?_
    refine (WL.done (WX.next ?_))
    first | refine WC.cond_dec rfl (fun c2 => ?_) (fun c2 => ?_) | refine WC.cond rfl (fun c2 => ?_) (fun c2 => ?_)
    · -- c2 T
      have hb : b < 40 := shr_pos (x := x) (by rw [hx, div_pow_cast] at c2; exact_mod_cast c2) (by omega)
      have hsy := synTo_lt ws (40 * g + b) (by omega)
      have hpo := posn_facts (40 * g + b) (by omega)
      refine (WC.skip (WX.next ?_))
      refine WC.seq ?_
      refine WC.block ?_
      refine WC.seq ?_
      refine WC.region ?_
      first | refine WL.load rfl (H.rdArr ty38 0 rfl h8) rfl ?_
      refine WL.move rfl rfl ?_
      refine WL.move rfl rfl ?_
      refine WL.move rfl rfl ?_
      refine WL.call call170 rfl rfl ?_
      refine Calls.mono (one_any ws h8 hw c hcr g b (by omega) (by omega) _) ?_
      rintro _ wx ⟨rfl, Hc⟩
      refine ⟨_, rfl, ?_⟩
      replace H := H.call0 Hc
      refine WL.assign rfl rfl ?_
      refine (WL.done (WX.next ?_))
      refine WC.seq ?_
      refine WC.region ?_
      refine WL.move rfl rfl ?_
      refine (WL.done (WX.next ?_))
      first | refine WC.cond_dec rfl (fun c3 => ?_) (fun c3 => ?_) | refine WC.cond rfl (fun c3 => ?_) (fun c3 => ?_)
      · -- c3 T
        refine WC.seq ?_
        refine WC.region ?_
        refine WL.move rfl rfl ?_
        refine WL.move rfl rfl ?_
        refine WL.bin rfl rfl (imul (by omega) (by omega)) rfl ?_
        refine WL.move rfl rfl ?_
        refine WL.bin rfl rfl (iadd (by omega) (by omega)) rfl ?_
        refine WL.call call171 rfl rfl ?_
        refine Calls.mono (place_any (40 * g + b) (by omega) _) ?_
        rintro _ wx ⟨rfl, rfl⟩
        refine ⟨_, rfl, ?_⟩
        refine WL.bin rfl rfl (ixorN (a := (synTo ws (40 * g + b)).1) (b := posn (40 * g + b)) rfl rfl (by omega) (by omega)) rfl ?_
        refine WL.assign rfl rfl ?_
        refine (WL.done (WX.next ?_))
        refine WC.region ?_
        refine WL.move rfl rfl ?_
        refine WL.bin rfl rfl (iadd (by omega) (by omega)) rfl ?_
        refine WL.assign rfl rfl ?_
        refine (WL.done (WX.block_normal (WX.next ?_)))
        refine WC.region ?_
        refine WL.move rfl rfl ?_
        refine WL.bin rfl rfl (iadd (by omega) (by omega)) rfl ?_
        refine WL.assign rfl rfl ?_
        refine (WL.done (WX.round ?_))
        have hbit : bitAt ws (40 * g + b) = true := by
          unfold bitAt
          rw [show (40 * g + b) / 40 = g from by omega, show (40 * g + b) % 40 = b from by omega]
          rw [if_neg (by omega)] at c3
          exact c3
        have hs : synTo ws (40 * g + (b + 1)) = ((synTo ws (40 * g + b)).1 ^^^ posn (40 * g + b), (synTo ws (40 * g + b)).2 + 1) := by
          rw [show 40 * g + (b + 1) = (40 * g + b) + 1 from by omega, synTo, hbit]; rfl
        exact hN2 _ (b + 1) _ _ (by omega) ⟨rfl, by omega, H⟩ (Sub.cons (t := 6) (by rw [hs]; rfl) (Sub.cons (t := 7) (by rw [hs]; rfl) (Sub.cons (t := 9) rfl (Sub.nil _)))) (Sub.cons (t := 1) rfl (Sub.cons (t := 2) rfl (Sub.cons (t := 8) rfl (Sub.nil _))))
      · -- c3 F
        refine (WC.skip (WX.block_normal (WX.next ?_)))
        refine WC.region ?_
        refine WL.move rfl rfl ?_
        refine WL.bin rfl rfl (iadd (by omega) (by omega)) rfl ?_
        refine WL.assign rfl rfl ?_
        refine (WL.done (WX.round ?_))
        have hbit : bitAt ws (40 * g + b) = false := by
          unfold bitAt
          rw [show (40 * g + b) / 40 = g from by omega, show (40 * g + b) % 40 = b from by omega]
          rw [if_neg (by omega)] at c3
          exact c3
        have hs : synTo ws (40 * g + (b + 1)) = synTo ws (40 * g + b) := by
          rw [show 40 * g + (b + 1) = (40 * g + b) + 1 from by omega, synTo, hbit]; rfl
        exact hN2 _ (b + 1) _ _ (by omega) ⟨rfl, by omega, H⟩ (Sub.cons (t := 6) (by rw [hs]; rfl) (Sub.cons (t := 7) (by rw [hs]; rfl) (Sub.cons (t := 9) rfl (Sub.nil _)))) (Sub.cons (t := 1) rfl (Sub.cons (t := 2) rfl (Sub.cons (t := 8) rfl (Sub.nil _))))
    · -- c2 F
      have hz0 : (ws.getD g 0).toNat / 2 ^ b = 0 := by rw [hx, div_pow_cast] at c2; rw [hx, Int.toNat_natCast]; exact Nat.eq_zero_of_not_pos (fun h => c2 (by exact_mod_cast h))
      refine (WC.exit (WX.then_exit (WX.then_exit (WX.block_exit (WX.block_normal (WX.next ?_))))))
      refine WC.region ?_
      refine WL.move rfl rfl ?_
      refine WL.bin rfl rfl (iadd (by omega) (by omega)) rfl ?_
      refine WL.assign rfl rfl ?_
      refine (WL.done (WX.round ?_))
      have hskip : synTo ws (40 * (g + 1)) = synTo ws (40 * g + b) := by
        rw [show 40 * (g + 1) = (40 * g + b) + (40 - b) from by omega]
        refine synTo_skip ws (40 * g + b) (40 - b) (fun j h1 h2 => ?_)
        unfold bitAt
        rw [show j / 40 = g from by omega]
        exact shr_zero hz0 (by omega)
      exact hN _ (g + 1) _ _ (by omega) ⟨rfl, by omega, H⟩ (Sub.cons (t := 6) (by rw [hskip]; rfl) (Sub.cons (t := 7) (by rw [hskip]; rfl) (Sub.cons (t := 8) rfl (Sub.nil _)))) (Sub.cons (t := 1) rfl (Sub.cons (t := 2) rfl (Sub.nil _)))
  · -- c1 F
    refine (WC.exit (WX.then_exit (WX.then_exit (WX.block_exit (WX.next ?_)))))
    refine WC.seq ?_
    refine WC.seq ?_
    refine WC.region ?_
    refine WL.assign rfl rfl ?_
    refine (WL.done (WX.next ?_))
    refine WC.block ?_
    -- loop 3: changed [6, 7, 11] kept [1, 2]
    obtain rfl : g = 8 := by omega
    refine WC.loop (Sub.cons (t := 1) rfl (Sub.cons (t := 2) rfl (Sub.nil _))) (fun b : Nat => [(6, .int .i64 ((syn ws ^^^ (codeTo c.toNat b).1 : Nat) : Int)), (7, .int .i64 ((cnt ws + (codeTo c.toNat b).2 : Nat) : Int)), (11, .int .i64 (b : Int))]) (fun q b wx => q = 10 - b ∧ b ≤ 10 ∧ St w [] wx [(b2, .cells (arrC ws) 38)]) (10) (0) (Sub.cons (t := 6) (by rw [show codeTo c.toNat 0 = (0, 0) from rfl, Nat.xor_zero]; rfl) (Sub.cons (t := 7) (by rw [show codeTo c.toNat 0 = (0, 0) from rfl]; rfl) (Sub.cons (t := 11) rfl (Sub.nil _)))) (⟨rfl, by omega, H⟩) ?_
    rintro k3 b wx hI N3 hN3
    obtain ⟨rfl, hb10, H⟩ := hI
    refine WC.seq ?_
    refine WC.seq ?_
    refine WC.region ?_
    refine WL.move rfl rfl ?_
    refine WL.bin rfl rfl binv_lss rfl ?_
    refine (WL.done (WX.next ?_))
    first | refine WC.cond_dec rfl (fun c4 => ?_) (fun c4 => ?_) | refine WC.cond rfl (fun c4 => ?_) (fun c4 => ?_)
    · -- c4 T
      have hct := codeTo_lt c.toNat b (by omega)
      have hsl := syn_lt ws
      have hcl := cnt_le ws
      have hxl : syn ws ^^^ (codeTo c.toNat b).1 < 512 := Nat.xor_lt_two_pow (n := 9) (by omega) (by omega)
      refine (WC.skip (WX.next ?_))
      refine WC.seq ?_
      refine WC.block ?_
      refine WC.seq ?_
      refine WC.region ?_
      first | refine WL.load rfl (H.rdArr ty38 0 rfl h8) rfl ?_
      refine WL.move rfl rfl ?_
      refine WL.move rfl rfl ?_
      refine WL.call call170 rfl rfl ?_
      refine Calls.mono (one_any ws h8 hw c hcr 8 b (by omega) (by omega) _) ?_
      rintro _ wx ⟨rfl, Hc⟩
      refine ⟨_, rfl, ?_⟩
      replace H := H.call0 Hc
      refine WL.assign rfl rfl ?_
      refine (WL.done (WX.next ?_))
      refine WC.seq ?_
      refine WC.seq ?_
      refine WC.region ?_
      refine WL.move rfl rfl ?_
      refine WL.move rfl rfl ?_
      first | refine WL.splitD (t := 49) rfl (fun g1 => ?_) (fun g1 => ?_) | refine WL.split (t := 49) rfl (fun g1 => ?_) (fun g1 => ?_)
      · -- g1 True
        refine WL.yes rfl rfl ?_
        refine WL.move rfl rfl ?_
        refine WL.yes rfl rfl ?_
        refine WL.bin rfl rfl binv_lss rfl ?_
        refine WL.pickT rfl rfl rfl ?_
        refine (WL.done (WX.next ?_))
        first | refine WC.cond_dec rfl (fun c5 => ?_) (fun c5 => ?_) | refine WC.cond rfl (fun c5 => ?_) (fun c5 => ?_)
        · -- c5 T
          refine WC.region ?_
          refine WL.move rfl rfl ?_
          refine WL.move rfl rfl ?_
          refine WL.bin rfl rfl (ishl (m := b) rfl (by omega) (by omega) (by rw [two_pow_cast]; have := Nat.pow_lt_pow_right (a := 2) (by omega) (show b < 10 by omega); omega)) rfl ?_
          refine WL.bin rfl rfl (ixorN (a := syn ws ^^^ (codeTo c.toNat b).1) (b := 2 ^ b) rfl (two_pow_cast b) (by omega) (by have := Nat.pow_lt_pow_right (a := 2) (by omega) (show b < 10 by omega); omega)) rfl ?_
          refine WL.assign rfl rfl ?_
          refine (WL.done (WX.next ?_))
          refine WC.seq ?_
          refine WC.region ?_
          refine WL.move rfl rfl ?_
          refine (WL.done (WX.next ?_))
          refine WC.cond_true rfl (g1) ?_
          refine WC.region ?_
          refine WL.move rfl rfl ?_
          refine WL.bin rfl rfl (iadd (by omega) (by omega)) rfl ?_
          refine WL.assign rfl rfl ?_
          refine (WL.done (WX.block_normal (WX.next ?_)))
          refine WC.region ?_
          refine WL.move rfl rfl ?_
          refine WL.bin rfl rfl (iadd (by omega) (by omega)) rfl ?_
          refine WL.assign rfl rfl ?_
          refine (WL.done (WX.round ?_))
          have hbit : c.toNat.testBit b = true := by simpa using g1
          have hs : codeTo c.toNat (b + 1) = ((codeTo c.toNat b).1 ^^^ 2 ^ b, (codeTo c.toNat b).2 + 1) := by simp [codeTo, hbit, show b < 9 by omega]
          exact hN3 _ (b + 1) _ _ (by omega) ⟨rfl, by omega, H⟩ (Sub.cons (t := 6) (by rw [hs]; rw [← Nat.xor_assoc]; rfl) (Sub.cons (t := 7) (by rw [hs]; rfl) (Sub.cons (t := 11) rfl (Sub.nil _)))) (Sub.cons (t := 1) rfl (Sub.cons (t := 2) rfl (Sub.nil _)))
        · -- c5 F
          refine (WC.skip (WX.next ?_))
          refine WC.seq ?_
          refine WC.region ?_
          refine WL.move rfl rfl ?_
          refine (WL.done (WX.next ?_))
          refine WC.cond_true rfl (g1) ?_
          refine WC.region ?_
          refine WL.move rfl rfl ?_
          refine WL.bin rfl rfl (iadd (by omega) (by omega)) rfl ?_
          refine WL.assign rfl rfl ?_
          refine (WL.done (WX.block_normal (WX.next ?_)))
          refine WC.region ?_
          refine WL.move rfl rfl ?_
          refine WL.bin rfl rfl (iadd (by omega) (by omega)) rfl ?_
          refine WL.assign rfl rfl ?_
          refine (WL.done (WX.round ?_))
          have hbit : c.toNat.testBit b = true := by simpa using g1
          have hs : codeTo c.toNat (b + 1) = ((codeTo c.toNat b).1, (codeTo c.toNat b).2 + 1) := by simp [codeTo, hbit, show ¬ b < 9 by omega]
          exact hN3 _ (b + 1) _ _ (by omega) ⟨rfl, by omega, H⟩ (Sub.cons (t := 6) (by rw [hs]; rfl) (Sub.cons (t := 7) (by rw [hs]; rfl) (Sub.cons (t := 11) rfl (Sub.nil _)))) (Sub.cons (t := 1) rfl (Sub.cons (t := 2) rfl (Sub.nil _)))
      · -- g1 False
        refine WL.no rfl rfl rfl ?_
        refine WL.no rfl rfl rfl ?_
        refine WL.pickF rfl rfl rfl ?_
        refine (WL.done (WX.next ?_))
        refine WC.cond_false rfl (rfl) ?_
        refine (WC.skip (WX.next ?_))
        refine WC.seq ?_
        refine WC.region ?_
        refine WL.move rfl rfl ?_
        refine (WL.done (WX.next ?_))
        refine WC.cond_false rfl (g1) ?_
        refine (WC.skip (WX.block_normal (WX.next ?_)))
        refine WC.region ?_
        refine WL.move rfl rfl ?_
        refine WL.bin rfl rfl (iadd (by omega) (by omega)) rfl ?_
        refine WL.assign rfl rfl ?_
        refine (WL.done (WX.round ?_))
        have hbit : c.toNat.testBit b = false := by simpa using g1
        have hs : codeTo c.toNat (b + 1) = codeTo c.toNat b := by simp [codeTo, hbit]
        exact hN3 _ (b + 1) _ _ (by omega) ⟨rfl, by omega, H⟩ (Sub.cons (t := 6) (by rw [hs]; rfl) (Sub.cons (t := 7) (by rw [hs]; rfl) (Sub.cons (t := 11) rfl (Sub.nil _)))) (Sub.cons (t := 1) rfl (Sub.cons (t := 2) rfl (Sub.nil _)))
    · -- c4 F
      have hct := codeTo_lt c.toNat b (by omega)
      have hcl := cnt_le ws
      refine (WC.exit (WX.then_exit (WX.then_exit (WX.block_exit (WX.next ?_)))))
      refine WC.seq ?_
      refine WC.region ?_
      refine WL.move rfl rfl ?_
      refine WL.move rfl rfl ?_
      refine WL.bin rfl rfl (irem (by omega) (by omega)) rfl ?_
      refine WL.assign rfl rfl ?_
      refine WL.assign rfl rfl ?_
      refine (WL.done (WX.next ?_))
      refine (WC.ret ?_)
      refine ret_two rfl rfl rfl ?_
      obtain rfl : b = 10 := by omega
      rw [codeTo_all c.toNat (by omega)]
      exact ⟨rfl, H.weaken (List.nil_sublist _)⟩

end Go.Proofs.YtkncbggnaobgeaaDoor

/- Walks of functions of the program; printed by a program of this session (walk.py) out of hand-written hints. -/
namespace Go.Proofs.YtkncbggnaobgeaaDoor
open Go.RowKit
set_option linter.unusedVariables false
set_option linter.unusedSimpArgs false
set_option maxRecDepth 100000

theorem syn0_any (ws : List Int) (h8 : ws.length = 8) (hw : isWords ws = true) (w : World) : Calls Tryd.prog 104 #[arr ws, .int .i64 0] w fun e w' => e = .returned (.tuple #[.int .i64 (syn ws : Int), .int .i64 ((cnt ws % 2 : Nat) : Int)]) ∧ St w [] w' [] := by
  refine (syndrome_any ws h8 hw 0 (by decide) w).mono fun e w' ⟨h, Hc⟩ => ⟨?_, Hc⟩
  rw [h]
  simp [popc]
theorem syn1_any (ws : List Int) (h8 : ws.length = 8) (hw : isWords ws = true) (w : World) : Calls Tryd.prog 104 #[arr ws, .int .i64 (syn ws : Int)] w fun e w' => ∃ z : Int, e = .returned (.tuple #[.int .i64 z, .int .i64 (((cnt ws + popc (syn ws)) % 2 : Nat) : Int)]) ∧ St w [] w' [] :=
  (syndrome_any ws h8 hw (syn ws : Int) (isCode_iff.2 (by have := syn_lt ws; omega)) w).mono fun e w' ⟨h, Hc⟩ => ⟨_, h, Hc⟩
theorem log2_at : ∀ b, b < 9 → log2 (2 ^ b) = b ∧ isPow2 (2 ^ b) = true ∧ 2 ^ b ≠ 0 := by decide +kernel
theorem isPow2_at : ∀ s, s < 512 → s ≠ 0 → (∀ b, b < 9 → s ≠ 2 ^ b) → isPow2 s = false := by decide +kernel
theorem findPos_at {i : Nat} (hi : i < 320) : findPos (posn i) = some i := by
  unfold findPos
  rw [List.find?_eq_some_iff_getElem]
  refine ⟨by simp, i, by simpa using hi, by simp, fun j hj => ?_⟩
  simp only [List.getElem_range, Bool.not_eq_eq_eq_not, Bool.not_true, beq_eq_false_iff_ne, ne_eq]
  intro h
  have := posn_inj (by omega) hi h
  omega
theorem findPos_no {s : Nat} (h : ∀ j, j < 320 → posn j ≠ s) : findPos s = none := by
  unfold findPos
  rw [List.find?_eq_none]
  intro j hj
  simpa using h j (List.mem_range.1 hj)

theorem refencode_any (ws : List Int) (h8 : ws.length = 8) (w : World) : Calls Tryd.prog 32 #[arr ws] w fun e w' => e = .returned (.int .i64 (enc ws)) ∧ St w [] w' [] := by
  refine calls_walk_n (args := [arr ws]) Tryd.func32 rfl rfl rfl ?_
  have H := St.refl w
  refine WC.seq ?_
  refine WC.region ?_
  refine WL.boxArr H rfl rfl ?_
  intro b1 wx hb1 hge1 H
  refine WL.assign rfl rfl ?_
  refine (WL.done (WX.next ?_))
  refine WC.seq ?_
  refine WC.region ?_
  first | refine WL.load rfl (H.rdArr ty38 0 rfl h8) rfl ?_
  refine WL.call call103 rfl rfl ?_
  refine Calls.mono (refvalid_any ws h8 0 _) ?_
  rintro _ wx ⟨rfl, Hc⟩
  refine ⟨_, rfl, ?_⟩
  replace H := H.call0 Hc
  refine WL.assign rfl rfl ?_
  refine (WL.done (WX.next ?_))
  refine WC.seq ?_
  refine WC.seq ?_
  refine WC.region ?_
  refine WL.move rfl rfl ?_
  refine WL.notOp rfl rfl ?_
  refine (WL.done (WX.next ?_))
  first | refine WC.cond_dec rfl (fun c1 => ?_) (fun c1 => ?_) | refine WC.cond rfl (fun c1 => ?_) (fun c1 => ?_)
  · -- c1 T
    refine WC.seq ?_
    refine WC.region ?_
    refine WL.assign rfl rfl ?_
    refine (WL.done (WX.next ?_))
    refine (WC.ret (WX.then_ret ?_))
    refine ret_one rfl rfl ?_
    have hw : isWords ws = false := by
      have h : (isWords ws && isCode 0) = false := by simpa only [Bool.not_eq_true'] using c1
      rw [show isCode 0 = true from by decide, Bool.and_true] at h; exact h
    refine ⟨?_, H.weaken (List.nil_sublist _)⟩
    unfold enc
    rw [hw]; rfl
  · -- c1 F
    have hw : isWords ws = true := by
      have h : (isWords ws && isCode 0) = true := by simpa only [Bool.not_eq_false'] using c1
      rw [Bool.and_eq_true] at h; exact h.1
    have hsl := syn_lt ws
    refine (WC.skip (WX.next ?_))
    refine WC.seq ?_
    refine WC.region ?_
    first | refine WL.load rfl (H.rdArr ty38 0 rfl h8) rfl ?_
    refine WL.call call104 rfl rfl ?_
    refine Calls.mono (syn0_any ws h8 hw _) ?_
    rintro _ wx ⟨rfl, Hc⟩
    refine ⟨_, rfl, ?_⟩
    replace H := H.call0 Hc
    refine WL.move rfl rfl ?_
    refine WL.extract rfl rfl rfl ?_
    refine WL.extract rfl rfl rfl ?_
    refine WL.assign rfl rfl ?_
    refine WL.assign rfl rfl ?_
    refine (WL.done (WX.next ?_))
    refine WC.seq ?_
    refine WC.region ?_
    first | refine WL.load rfl (H.rdArr ty38 0 rfl h8) rfl ?_
    refine WL.move rfl rfl ?_
    refine WL.call call104 rfl rfl ?_
    refine Calls.mono (syn1_any ws h8 hw _) ?_
    rintro _ wx ⟨z, rfl, Hc⟩
    refine ⟨_, rfl, ?_⟩
    replace H := H.call0 Hc
    refine WL.move rfl rfl ?_
    refine WL.extract rfl rfl rfl ?_
    refine WL.extract rfl rfl rfl ?_
    refine WL.assign rfl rfl ?_
    refine WL.assign rfl rfl ?_
    refine (WL.done (WX.next ?_))
    refine WC.seq ?_
    refine WC.region ?_
    refine WL.move rfl rfl ?_
    refine WL.move rfl rfl ?_
    refine WL.bin rfl rfl (imul (by omega) (by omega)) rfl ?_
    refine WL.bin rfl rfl (iadd (by omega) (by omega)) rfl ?_
    refine WL.assign rfl rfl ?_
    refine (WL.done (WX.next ?_))
    refine (WC.ret ?_)
    refine ret_one rfl rfl ?_
    refine ⟨?_, H.weaken (List.nil_sublist _)⟩
    unfold enc
    rw [if_pos hw]
    congr 2
    split
    · rename_i hp
      rw [hp, or512 _ hsl]; omega
    · rename_i hp
      rw [show (cnt ws + popc (syn ws)) % 2 = 0 by omega]; omega

theorem refexists_any (x y : Int) (w : World) : Calls Tryd.prog 160 #[.int .i64 x, .int .i64 y] w fun e w' => e = .returned (.bool (decide ((0 ≤ x ∧ x < 8 ∧ 0 ≤ y ∧ y < 40) ∨ (x = 8 ∧ 0 ≤ y ∧ y < 10)))) ∧ w' = w := by
  refine calls_walk_n (args := [.int .i64 x, .int .i64 y]) Tryd.func160 rfl rfl rfl ?_
  refine WC.seq ?_
  refine WC.region ?_
  refine WL.assign rfl rfl ?_
  refine (WL.done (WX.next ?_))
  refine WC.seq ?_
  refine WC.seq ?_
  refine WC.region ?_
  refine WL.move rfl rfl ?_
  refine WL.bin rfl rfl binv_eql rfl ?_
  refine (WL.done (WX.next ?_))
  first | refine WC.cond_dec rfl (fun c1 => ?_) (fun c1 => ?_) | refine WC.cond rfl (fun c1 => ?_) (fun c1 => ?_)
  · -- c1 T
    refine WC.seq ?_
    refine WC.region ?_
    refine WL.move rfl rfl ?_
    refine WL.bin rfl rfl binv_geq rfl ?_
    refine WL.move rfl rfl ?_
    first | refine WL.splitD (t := 9) rfl (fun g1 => ?_) (fun g1 => ?_) | refine WL.split (t := 9) rfl (fun g1 => ?_) (fun g1 => ?_)
    · -- g1 True
      refine WL.yes rfl rfl ?_
      refine WL.move rfl rfl ?_
      refine WL.yes rfl rfl ?_
      refine WL.bin rfl rfl binv_leq rfl ?_
      refine WL.pickT rfl rfl rfl ?_
      refine WL.assign rfl rfl ?_
      refine (WL.done (WX.next ?_))
      refine (WC.ret (WX.then_ret ?_))
      refine ret_one rfl rfl ?_
      refine ⟨congrArg (fun b => Ending.returned (Value.bool b)) ?_, rfl⟩
      first
      | exact decide_eq_decide.2 (by omega)
      | exact (decide_eq_false (by omega)).symm
    · -- g1 False
      refine WL.no rfl rfl rfl ?_
      refine WL.no rfl rfl rfl ?_
      refine WL.pickF rfl rfl rfl ?_
      refine WL.assign rfl rfl ?_
      refine (WL.done (WX.next ?_))
      refine (WC.ret (WX.then_ret ?_))
      refine ret_one rfl rfl ?_
      refine ⟨congrArg (fun b => Ending.returned (Value.bool b)) ?_, rfl⟩
      first
      | exact decide_eq_decide.2 (by omega)
      | exact (decide_eq_false (by omega)).symm
  · -- c1 F
    refine (WC.skip (WX.next ?_))
    refine WC.seq ?_
    refine WC.region ?_
    refine WL.move rfl rfl ?_
    refine WL.bin rfl rfl binv_geq rfl ?_
    refine WL.move rfl rfl ?_
    first | refine WL.splitD (t := 15) rfl (fun g2 => ?_) (fun g2 => ?_) | refine WL.split (t := 15) rfl (fun g2 => ?_) (fun g2 => ?_)
    · -- g2 True
      refine WL.yes rfl rfl ?_
      refine WL.move rfl rfl ?_
      refine WL.yes rfl rfl ?_
      refine WL.bin rfl rfl binv_lss rfl ?_
      refine WL.pickT rfl rfl rfl ?_
      refine WL.move rfl rfl ?_
      first | refine WL.splitD (t := 19) rfl (fun g3 => ?_) (fun g3 => ?_) | refine WL.split (t := 19) rfl (fun g3 => ?_) (fun g3 => ?_)
      · -- g3 True
        refine WL.yes rfl rfl ?_
        refine WL.move rfl rfl ?_
        refine WL.yes rfl rfl ?_
        refine WL.bin rfl rfl binv_geq rfl ?_
        refine WL.pickT rfl rfl rfl ?_
        refine WL.move rfl rfl ?_
        first | refine WL.splitD (t := 23) rfl (fun g4 => ?_) (fun g4 => ?_) | refine WL.split (t := 23) rfl (fun g4 => ?_) (fun g4 => ?_)
        · -- g4 True
          refine WL.yes rfl rfl ?_
          refine WL.move rfl rfl ?_
          refine WL.yes rfl rfl ?_
          refine WL.bin rfl rfl binv_lss rfl ?_
          refine WL.pickT rfl rfl rfl ?_
          refine WL.assign rfl rfl ?_
          refine (WL.done (WX.next ?_))
          refine (WC.ret ?_)
          refine ret_one rfl rfl ?_
          refine ⟨congrArg (fun b => Ending.returned (Value.bool b)) ?_, rfl⟩
          first
          | exact decide_eq_decide.2 (by omega)
          | exact (decide_eq_false (by omega)).symm
        · -- g4 False
          refine WL.no rfl rfl rfl ?_
          refine WL.no rfl rfl rfl ?_
          refine WL.pickF rfl rfl rfl ?_
          refine WL.assign rfl rfl ?_
          refine (WL.done (WX.next ?_))
          refine (WC.ret ?_)
          refine ret_one rfl rfl ?_
          refine ⟨congrArg (fun b => Ending.returned (Value.bool b)) ?_, rfl⟩
          first
          | exact decide_eq_decide.2 (by omega)
          | exact (decide_eq_false (by omega)).symm
      · -- g3 False
        refine WL.no rfl rfl rfl ?_
        refine WL.no rfl rfl rfl ?_
        refine WL.pickF rfl rfl rfl ?_
        refine WL.move rfl rfl ?_
        refine WL.no rfl rfl rfl ?_
        refine WL.no rfl rfl rfl ?_
        refine WL.pickF rfl rfl rfl ?_
        refine WL.assign rfl rfl ?_
        refine (WL.done (WX.next ?_))
        refine (WC.ret ?_)
        refine ret_one rfl rfl ?_
        refine ⟨congrArg (fun b => Ending.returned (Value.bool b)) ?_, rfl⟩
        first
        | exact decide_eq_decide.2 (by omega)
        | exact (decide_eq_false (by omega)).symm
    · -- g2 False
      refine WL.no rfl rfl rfl ?_
      refine WL.no rfl rfl rfl ?_
      refine WL.pickF rfl rfl rfl ?_
      refine WL.move rfl rfl ?_
      refine WL.no rfl rfl rfl ?_
      refine WL.no rfl rfl rfl ?_
      refine WL.pickF rfl rfl rfl ?_
      refine WL.move rfl rfl ?_
      refine WL.no rfl rfl rfl ?_
      refine WL.no rfl rfl rfl ?_
      refine WL.pickF rfl rfl rfl ?_
      refine WL.assign rfl rfl ?_
      refine (WL.done (WX.next ?_))
      refine (WC.ret ?_)
      refine ret_one rfl rfl ?_
      refine ⟨congrArg (fun b => Ending.returned (Value.bool b)) ?_, rfl⟩
      first
      | exact decide_eq_decide.2 (by omega)
      | exact (decide_eq_false (by omega)).symm

end Go.Proofs.YtkncbggnaobgeaaDoor

/- Walks of functions of the program; printed by a program of this session (walk.py) out of hand-written hints. -/
namespace Go.Proofs.YtkncbggnaobgeaaDoor
open Go.RowKit
set_option linter.unusedVariables false
set_option linter.unusedSimpArgs false
set_option maxRecDepth 100000

/-- What a line shows without what is pending. -/
def base (l : PL) : List Int := shown (drop0 l)
theorem fix_sound {l : PL} (h : l.ok) (hs : (chk l.ws l.c).1 ≠ 2) : (fix l.ws l.c).2.2 = 0 := by
  unfold fix
  rw [h.2.1, h.2.2.1]
  simp only [Bool.and_self, if_true]
  rcases chk_cases (ws := l.ws) h.2.2.1 with e | e | ⟨x, y, e, _⟩
  · rw [e]; rfl
  · rw [e] at hs; exact absurd rfl hs
  · rw [e]; rfl
theorem base_fix {l : PL} (hf : (fix l.ws l.c).2.2 = 0) : base l = (fix l.ws l.c).1 := by
  unfold base shown drop0 pShow
  simp only []
  rw [if_pos hf]; rfl
/-- What a crash leaves of a line of which it keeps k pending stores. -/
theorem shown_cut {l : PL} (h : l.ok) (hs : l.sound) {k : Nat} (hk : k ≤ l.ps.length) : base (pSettle l k) = putAll (base l) (l.ps.take k) := by
  rcases Nat.eq_zero_or_pos k with h0 | hp
  · subst h0; rfl
  · have hps : l.ps ≠ [] := fun e => by rw [e] at hk; simp at hk; omega
    have hf := fix_sound h (hs hps)
    rw [base_fix hf]
    have hw := pShow_words (k := k) h
    have e1 : (pSettle l k).ws = (pShow l k).1 ∧ (pSettle l k).c = enc (pShow l k).1 := by unfold pSettle; rw [if_neg (by omega)]; exact ⟨rfl, rfl⟩
    have e2 : (fix (pSettle l k).ws (pSettle l k).c).2.2 = 0 := by rw [e1.1, e1.2, fix_enc hw]
    rw [base_fix e2, e1.1, e1.2, fix_enc hw]
    show (pShow l k).1 = _
    unfold pShow
    rw [if_pos hf]
theorem base_drop (l : PL) : base (drop0 l) = base l := rfl
theorem shown_drop (l : PL) : shown (drop0 l) = base l := rfl
/-- The view that a crash with these cuts leaves, put together store by store. -/
def wantTo (M : PM) (cs : List (Int × Int)) (i : Nat) : List (List Int) := (cs.take i).foldl (fun W c => W.set c.1.toNat (putAll (W.getD c.1.toNat []) ((M.line c.1).ps.take c.2.toNat))) (M.ls.map base)
theorem wantTo_succ {M : PM} {cs : List (Int × Int)} {i : Nat} (hi : i < cs.length) : wantTo M cs (i + 1) = (wantTo M cs i).set (cs[i]).1.toNat (putAll ((wantTo M cs i).getD (cs[i]).1.toNat []) ((M.line (cs[i]).1).ps.take (cs[i]).2.toNat)) := by
  unfold wantTo
  rw [List.take_add_one, List.getElem?_eq_getElem hi, List.foldl_append]; rfl
theorem wantTo_len (M : PM) (cs : List (Int × Int)) : ∀ i, (wantTo M cs i).length = M.ls.length := by
  have key : ∀ (l : List (Int × Int)) (W : List (List Int)), (l.foldl (fun W c => W.set c.1.toNat (putAll (W.getD c.1.toNat []) ((M.line c.1).ps.take c.2.toNat))) W).length = W.length := by
    intro l
    induction l with
    | nil => intro W; rfl
    | cons c l ih => intro W; rw [List.foldl_cons, ih]; simp
  intro i
  unfold wantTo
  rw [key]; simp
theorem putAllLen (ws : List Int) (ps : List (Int × Int)) : (putAll ws ps).length = ws.length := by
  unfold putAll
  induction ps generalizing ws with
  | nil => rfl
  | cons p ps ih => rw [List.foldl_cons, ih]; simp
theorem base8 {l : PL} (h : l.ok) : (base l).length = 8 := pShow_len h.1
theorem wantTo_8 {M : PM} (hok : ∀ l ∈ M.ls, l.ok) (cs : List (Int × Int)) : ∀ i, ∀ r ∈ wantTo M cs i, r.length = 8 := by
  have key : ∀ (l : List (Int × Int)) (W : List (List Int)), (∀ r ∈ W, r.length = 8) → ∀ r ∈ l.foldl (fun W c => W.set c.1.toNat (putAll (W.getD c.1.toNat []) ((M.line c.1).ps.take c.2.toNat))) W, r.length = 8 := by
    intro l
    induction l with
    | nil => intro W h; exact h
    | cons c l ih =>
      intro W h
      rw [List.foldl_cons]
      refine ih _ (fun r hr => ?_)
      rcases Nat.lt_or_ge c.1.toNat W.length with hl | hg
      · rcases List.mem_or_eq_of_mem_set hr with hr | rfl
        · exact h r hr
        · rw [putAllLen, List.getD, List.getElem?_eq_getElem hl]; exact h _ (List.getElem_mem hl)
      · rw [List.set_eq_of_length_le hg] at hr; exact h r hr
  intro i
  unfold wantTo
  refine key _ _ (fun r hr => ?_)
  obtain ⟨l, hl, rfl⟩ := List.mem_map.1 hr
  exact base8 (hok l hl)
theorem want_other {M : PM} {j : Nat} : ∀ (l : List (Int × Int)) (W : List (List Int)), (∀ c ∈ l, c.1.toNat ≠ j) → (l.foldl (fun W c => W.set c.1.toNat (putAll (W.getD c.1.toNat []) ((M.line c.1).ps.take c.2.toNat))) W).getD j [] = W.getD j []
  | [], W, h => rfl
  | c :: l, W, h => by
    rw [List.foldl_cons, want_other l _ (fun c hc => h c (List.mem_cons_of_mem _ hc)), set_getD, if_neg (fun hh => h c List.mem_cons_self hh.1)]
/-- P4.7: each line shows what a prefix of its pending stores makes of what was durable. -/
theorem keeps_prefixes {M : PM} (hok : ∀ l ∈ M.ls, l.ok) (hs : ∀ l ∈ M.ls, l.sound) (keep : List Int) : (M.crash (M.cutsOf keep)).ls.map shown = wantTo M (M.cutsOf keep) (M.cutsOf keep).length := by
  have hc := cutsOf_ok M keep
  apply List.ext_getElem?
  intro j
  rcases Nat.lt_or_ge j M.ls.length with hj | hj
  · have hl : (M.crash (M.cutsOf keep)).ls.length = M.ls.length := crash_len _ _
    have hwl := wantTo_len M (M.cutsOf keep) (M.cutsOf keep).length
    have goal : shown ((M.crash (M.cutsOf keep)).line j) = (wantTo M (M.cutsOf keep) (M.cutsOf keep).length).getD j [] := by
      rw [crash_line hc hj, shown_drop]
      unfold wantTo
      rw [List.take_length]
      have hb0 : (M.ls.map base).getD j [] = base (M.line j) := by simp [PM.line, List.getD, List.getElem?_eq_getElem hj]
      by_cases hex : ∃ c ∈ M.cutsOf keep, c.1.toNat = j
      · obtain ⟨c, hcm, hcj⟩ := hex
        obtain ⟨i, hi, h1, h2, h3, h4⟩ := cutsTo_mem hcm
        have hij : i = j := by rw [h1, Int.toNat_natCast] at hcj; exact hcj
        subst hij
        obtain ⟨a, b, hab⟩ := List.append_of_mem hcm
        have hasc := cutsTo_asc M keep M.ls.length
        have hasc' : (M.cutsOf keep).Pairwise fun a b => a.1 < b.1 := hasc
        rw [hab] at hasc'
        obtain ⟨p1, p2, p3⟩ := List.pairwise_append.1 hasc'
        have hA : ∀ d ∈ a, d.1.toNat ≠ i := fun d hd he => by
          have := p3 d hd c List.mem_cons_self
          obtain ⟨i', _, h1', _⟩ := cutsTo_mem (show d ∈ M.cutsOf keep from by rw [hab]; exact List.mem_append_left _ hd)
          omega
        have hB : ∀ d ∈ b, d.1.toNat ≠ i := fun d hd he => by
          have := (List.pairwise_cons.1 p2).1 d hd
          obtain ⟨i', _, h1', _⟩ := cutsTo_mem (show d ∈ M.cutsOf keep from by rw [hab]; exact List.mem_append_right _ (List.mem_cons_of_mem _ hd))
          omega
        have hlm := line_mem (has_of hj)
        have hlenA : c.1.toNat < (a.foldl (fun W c => W.set c.1.toNat (putAll (W.getD c.1.toNat []) ((M.line c.1).ps.take c.2.toNat))) (M.ls.map base)).length := by
          have key : ∀ (l : List (Int × Int)) (W : List (List Int)), (l.foldl (fun W c => W.set c.1.toNat (putAll (W.getD c.1.toNat []) ((M.line c.1).ps.take c.2.toNat))) W).length = W.length := by
            intro l
            induction l with
            | nil => intro W; rfl
            | cons c l ih => intro W; rw [List.foldl_cons, ih]; simp
          rw [key, hcj]
          simpa using hj
        rw [hab, cut_at hcj hA hB hj, List.foldl_append, List.foldl_cons, want_other b _ hB, set_getD, if_pos ⟨hcj, hlenA⟩, hcj, want_other a _ hA, hb0, h1]
        have hg : M.ls.getD i default = M.line i := rfl
        rw [hg]
        exact shown_cut (hok _ hlm) (hs _ hlm) (by omega)
      · have hno : ∀ c ∈ M.cutsOf keep, c.1.toNat ≠ j := fun c hc he => hex ⟨c, hc, he⟩
        rw [cut_other _ _ hno, want_other _ _ hno, hb0]; rfl
    rw [List.getElem?_map, List.getElem?_eq_getElem (show j < (M.crash (M.cutsOf keep)).ls.length by omega), List.getElem?_eq_getElem (show j < (wantTo M (M.cutsOf keep) (M.cutsOf keep).length).length by omega)]
    rw [line_of (show j < (M.crash (M.cutsOf keep)).ls.length by omega), List.getD, List.getElem?_eq_getElem (show j < (wantTo M (M.cutsOf keep) (M.cutsOf keep).length).length by omega)] at goal
    simp only [Option.getD_some] at goal
    simp [goal]
  · rw [List.getElem?_eq_none (by rw [List.length_map, crash_len]; exact hj), List.getElem?_eq_none (by rw [wantTo_len]; exact hj)]
theorem flatten_set {s : Nat} : ∀ (rows : List (List Int)) (k j : Nat) (z : Int), (∀ r ∈ rows, r.length = s) → k < rows.length → j < s → (rows.set k ((rows.getD k []).set j z)).flatten = rows.flatten.set (k * s + j) z
  | [], k, j, z, h, hk, hj => by simp at hk
  | r :: rows, 0, j, z, h, hk, hj => by
    have hr := h r List.mem_cons_self
    simp only [List.set_cons_zero, List.getD_cons_zero, List.flatten_cons, Nat.zero_mul, Nat.zero_add]
    rw [List.set_append_left _ _ (by omega)]
  | r :: rows, k + 1, j, z, h, hk, hj => by
    have hr := h r List.mem_cons_self
    have ih := flatten_set rows k j z (fun x hx => h x (List.mem_cons_of_mem _ hx)) (by simpa using hk) hj
    simp only [List.set_cons_succ, List.getD_cons_succ, List.flatten_cons]
    rw [ih, List.set_append_right _ _ (by rw [hr, Nat.add_mul]; omega), hr]
    congr 2
    rw [Nat.add_mul]; omega

end Go.Proofs.YtkncbggnaobgeaaDoor

/- Walks of functions of the program; printed by a program of this session (walk.py) out of hand-written hints. -/
namespace Go.Proofs.YtkncbggnaobgeaaDoor
open Go.RowKit
set_option linter.unusedVariables false
set_option linter.unusedSimpArgs false
set_option maxRecDepth 100000

theorem pend_le {R : RM} {p k : Nat} {M : PM} (hI : Is R p M k) (g : Nat) : (M.pend (g : Int)).length ≤ k := by
  unfold PM.pend
  split
  · rename_i h; exact hI.sm.ps _ (line_mem h)
  · exact Nat.zero_le _

theorem lineOf_any (x : POp) (A : Option Addr) (cap : Nat) (len : Int) (hx : x.ok) (w : World) : Calls Tryd.prog 43 #[.agg (opC x A cap).toArray, .int .i64 len] w fun e w' => e = .returned (.int .i64 (x.line len)) ∧ St w [] w' [] := by
  refine calls_walk_n (args := [.agg (opC x A cap).toArray, .int .i64 len]) Tryd.func43 rfl rfl rfl ?_
  have H := St.refl w
  refine WC.seq ?_
  refine WC.region ?_
  refine WL.box (v := .agg (opC x A cap).toArray) H rfl rfl ?_
  intro b2 wx hb2 hge2 H
  change St w [] wx [(b2, .cells (opC x A cap).toArray 60)] at H
  have hxa := hx.a
  refine WL.assign rfl rfl ?_
  refine (WL.done (WX.next ?_))
  refine WC.seq ?_
  refine WC.region ?_
  refine WL.assign rfl rfl ?_
  refine (WL.done (WX.next ?_))
  refine WC.seq ?_
  refine WC.seq ?_
  refine WC.region ?_
  refine WL.fieldAddr fld60_0 rfl rfl ?_
  first | refine WL.load rfl (H.rd1 ty3 0 rfl rfl) rfl ?_
  refine (WL.done (WX.next ?_))
  refine WC.block ?_
  refine WC.seq ?_
  refine WC.seq ?_
  refine WC.region ?_
  refine WL.bin rfl rfl binv_eql rfl ?_
  refine WL.assign rfl rfl ?_
  refine (WL.done (WX.next ?_))
  first | refine WC.cond_dec rfl (fun c1 => ?_) (fun c1 => ?_) | refine WC.cond rfl (fun c1 => ?_) (fun c1 => ?_)
  · -- c1 T
    refine (WC.skip (WX.next ?_))
    first | refine WC.cond_dec rfl (fun c2 => ?_) (fun c2 => ?_) | refine WC.cond rfl (fun c2 => ?_) (fun c2 => ?_)
    · -- c2 T
      refine WC.seq ?_
      refine WC.region ?_
      refine WL.fieldAddr fld60_1 rfl rfl ?_
      first | refine WL.load rfl (H.rd1 ty3 0 rfl rfl) rfl ?_
      refine WL.bin rfl rfl binv_geq rfl ?_
      refine (WL.done (WX.next ?_))
      first | refine WC.cond_dec rfl (fun c3 => ?_) (fun c3 => ?_) | refine WC.cond rfl (fun c3 => ?_) (fun c3 => ?_)
      · -- c3 T
        refine WC.region ?_
        refine WL.fieldAddr fld60_1 rfl rfl ?_
        first | refine WL.load rfl (H.rd1 ty3 0 rfl rfl) rfl ?_
        first | refine WL.bin rfl rfl (iquo (by omega) (by omega) (by omega)) rfl ?_ | refine WL.bin rfl rfl (iquoT (by omega) (by omega) (by omega)) rfl ?_
        refine WL.assign rfl rfl ?_
        refine (WL.done (WX.block_normal (WX.next ?_)))
        refine WC.seq ?_
        refine WC.seq ?_
        refine WC.region ?_
        refine WL.move rfl rfl ?_
        refine WL.move rfl rfl ?_
        refine WL.bin rfl rfl binv_geq rfl ?_
        refine (WL.done (WX.next ?_))
        first | refine WC.cond_dec rfl (fun c4 => ?_) (fun c4 => ?_) | refine WC.cond rfl (fun c4 => ?_) (fun c4 => ?_)
        · -- c4 T
          refine WC.seq ?_
          refine WC.region ?_
          refine WL.assign rfl rfl ?_
          refine (WL.done (WX.next ?_))
          refine (WC.ret (WX.then_ret ?_))
          refine ret_one rfl rfl ?_
          refine ⟨congrArg (fun z => Ending.returned (Value.int .i64 z)) ?_, H.weaken (List.nil_sublist _)⟩
          unfold POp.line POp.line0
          (repeat' split) <;> omega
        · -- c4 F
          refine (WC.skip (WX.next ?_))
          refine WC.seq ?_
          refine WC.region ?_
          refine WL.move rfl rfl ?_
          refine WL.assign rfl rfl ?_
          refine (WL.done (WX.next ?_))
          refine (WC.ret ?_)
          refine ret_one rfl rfl ?_
          refine ⟨congrArg (fun z => Ending.returned (Value.int .i64 z)) ?_, H.weaken (List.nil_sublist _)⟩
          unfold POp.line POp.line0
          (repeat' split) <;> omega
      · -- c3 F
        refine (WC.skip (WX.block_normal (WX.next ?_)))
        refine WC.seq ?_
        refine WC.seq ?_
        refine WC.region ?_
        refine WL.move rfl rfl ?_
        refine WL.move rfl rfl ?_
        refine WL.bin rfl rfl binv_geq rfl ?_
        refine (WL.done (WX.next ?_))
        first | refine WC.cond_dec rfl (fun c5 => ?_) (fun c5 => ?_) | refine WC.cond rfl (fun c5 => ?_) (fun c5 => ?_)
        · -- c5 T
          refine WC.seq ?_
          refine WC.region ?_
          refine WL.assign rfl rfl ?_
          refine (WL.done (WX.next ?_))
          refine (WC.ret (WX.then_ret ?_))
          refine ret_one rfl rfl ?_
          refine ⟨congrArg (fun z => Ending.returned (Value.int .i64 z)) ?_, H.weaken (List.nil_sublist _)⟩
          unfold POp.line POp.line0
          (repeat' split) <;> omega
        · -- c5 F
          refine (WC.skip (WX.next ?_))
          refine WC.seq ?_
          refine WC.region ?_
          refine WL.move rfl rfl ?_
          refine WL.assign rfl rfl ?_
          refine (WL.done (WX.next ?_))
          refine (WC.ret ?_)
          refine ret_one rfl rfl ?_
          refine ⟨congrArg (fun z => Ending.returned (Value.int .i64 z)) ?_, H.weaken (List.nil_sublist _)⟩
          unfold POp.line POp.line0
          (repeat' split) <;> omega
    · -- c2 F
      refine WC.seq ?_
      refine WC.seq ?_
      refine WC.region ?_
      refine WL.bin rfl rfl binv_eql rfl ?_
      refine WL.assign rfl rfl ?_
      refine (WL.done (WX.next ?_))
      first | refine WC.cond_dec rfl (fun c6 => ?_) (fun c6 => ?_) | refine WC.cond rfl (fun c6 => ?_) (fun c6 => ?_)
      · -- c6 T
        refine (WC.skip (WX.next ?_))
        first | refine WC.cond_dec rfl (fun c7 => ?_) (fun c7 => ?_) | refine WC.cond rfl (fun c7 => ?_) (fun c7 => ?_)
        · -- c7 T
          refine WC.region ?_
          refine WL.fieldAddr fld60_1 rfl rfl ?_
          first | refine WL.load rfl (H.rd1 ty3 0 rfl rfl) rfl ?_
          refine WL.assign rfl rfl ?_
          refine (WL.done (WX.block_normal (WX.next ?_)))
          refine WC.seq ?_
          refine WC.seq ?_
          refine WC.region ?_
          refine WL.move rfl rfl ?_
          refine WL.move rfl rfl ?_
          refine WL.bin rfl rfl binv_geq rfl ?_
          refine (WL.done (WX.next ?_))
          first | refine WC.cond_dec rfl (fun c8 => ?_) (fun c8 => ?_) | refine WC.cond rfl (fun c8 => ?_) (fun c8 => ?_)
          · -- c8 T
            refine WC.seq ?_
            refine WC.region ?_
            refine WL.assign rfl rfl ?_
            refine (WL.done (WX.next ?_))
            refine (WC.ret (WX.then_ret ?_))
            refine ret_one rfl rfl ?_
            refine ⟨congrArg (fun z => Ending.returned (Value.int .i64 z)) ?_, H.weaken (List.nil_sublist _)⟩
            unfold POp.line POp.line0
            (repeat' split) <;> omega
          · -- c8 F
            refine (WC.skip (WX.next ?_))
            refine WC.seq ?_
            refine WC.region ?_
            refine WL.move rfl rfl ?_
            refine WL.assign rfl rfl ?_
            refine (WL.done (WX.next ?_))
            refine (WC.ret ?_)
            refine ret_one rfl rfl ?_
            refine ⟨congrArg (fun z => Ending.returned (Value.int .i64 z)) ?_, H.weaken (List.nil_sublist _)⟩
            unfold POp.line POp.line0
            (repeat' split) <;> omega
        · -- c7 F
          refine (WC.skip (WX.block_normal (WX.next ?_)))
          refine WC.seq ?_
          refine WC.seq ?_
          refine WC.region ?_
          refine WL.move rfl rfl ?_
          refine WL.move rfl rfl ?_
          refine WL.bin rfl rfl binv_geq rfl ?_
          refine (WL.done (WX.next ?_))
          first | refine WC.cond_dec rfl (fun c9 => ?_) (fun c9 => ?_) | refine WC.cond rfl (fun c9 => ?_) (fun c9 => ?_)
          · -- c9 T
            refine WC.seq ?_
            refine WC.region ?_
            refine WL.assign rfl rfl ?_
            refine (WL.done (WX.next ?_))
            refine (WC.ret (WX.then_ret ?_))
            refine ret_one rfl rfl ?_
            refine ⟨congrArg (fun z => Ending.returned (Value.int .i64 z)) ?_, H.weaken (List.nil_sublist _)⟩
            unfold POp.line POp.line0
            (repeat' split) <;> omega
          · -- c9 F
            refine (WC.skip (WX.next ?_))
            refine WC.seq ?_
            refine WC.region ?_
            refine WL.move rfl rfl ?_
            refine WL.assign rfl rfl ?_
            refine (WL.done (WX.next ?_))
            refine (WC.ret ?_)
            refine ret_one rfl rfl ?_
            refine ⟨congrArg (fun z => Ending.returned (Value.int .i64 z)) ?_, H.weaken (List.nil_sublist _)⟩
            unfold POp.line POp.line0
            (repeat' split) <;> omega
      · -- c6 F
        refine WC.seq ?_
        refine WC.region ?_
        refine WL.bin rfl rfl binv_eql rfl ?_
        refine WL.assign rfl rfl ?_
        refine (WL.done (WX.next ?_))
        first | refine WC.cond_dec rfl (fun c10 => ?_) (fun c10 => ?_) | refine WC.cond rfl (fun c10 => ?_) (fun c10 => ?_)
        · -- c10 T
          refine (WC.skip (WX.next ?_))
          first | refine WC.cond_dec rfl (fun c11 => ?_) (fun c11 => ?_) | refine WC.cond rfl (fun c11 => ?_) (fun c11 => ?_)
          · -- c11 T
            refine WC.region ?_
            refine WL.fieldAddr fld60_1 rfl rfl ?_
            first | refine WL.load rfl (H.rd1 ty3 0 rfl rfl) rfl ?_
            refine WL.assign rfl rfl ?_
            refine (WL.done (WX.block_normal (WX.next ?_)))
            refine WC.seq ?_
            refine WC.seq ?_
            refine WC.region ?_
            refine WL.move rfl rfl ?_
            refine WL.move rfl rfl ?_
            refine WL.bin rfl rfl binv_geq rfl ?_
            refine (WL.done (WX.next ?_))
            first | refine WC.cond_dec rfl (fun c12 => ?_) (fun c12 => ?_) | refine WC.cond rfl (fun c12 => ?_) (fun c12 => ?_)
            · -- c12 T
              refine WC.seq ?_
              refine WC.region ?_
              refine WL.assign rfl rfl ?_
              refine (WL.done (WX.next ?_))
              refine (WC.ret (WX.then_ret ?_))
              refine ret_one rfl rfl ?_
              refine ⟨congrArg (fun z => Ending.returned (Value.int .i64 z)) ?_, H.weaken (List.nil_sublist _)⟩
              unfold POp.line POp.line0
              (repeat' split) <;> omega
            · -- c12 F
              refine (WC.skip (WX.next ?_))
              refine WC.seq ?_
              refine WC.region ?_
              refine WL.move rfl rfl ?_
              refine WL.assign rfl rfl ?_
              refine (WL.done (WX.next ?_))
              refine (WC.ret ?_)
              refine ret_one rfl rfl ?_
              refine ⟨congrArg (fun z => Ending.returned (Value.int .i64 z)) ?_, H.weaken (List.nil_sublist _)⟩
              unfold POp.line POp.line0
              (repeat' split) <;> omega
          · -- c11 F
            refine (WC.skip (WX.block_normal (WX.next ?_)))
            refine WC.seq ?_
            refine WC.seq ?_
            refine WC.region ?_
            refine WL.move rfl rfl ?_
            refine WL.move rfl rfl ?_
            refine WL.bin rfl rfl binv_geq rfl ?_
            refine (WL.done (WX.next ?_))
            first | refine WC.cond_dec rfl (fun c13 => ?_) (fun c13 => ?_) | refine WC.cond rfl (fun c13 => ?_) (fun c13 => ?_)
            · -- c13 T
              refine WC.seq ?_
              refine WC.region ?_
              refine WL.assign rfl rfl ?_
              refine (WL.done (WX.next ?_))
              refine (WC.ret (WX.then_ret ?_))
              refine ret_one rfl rfl ?_
              refine ⟨congrArg (fun z => Ending.returned (Value.int .i64 z)) ?_, H.weaken (List.nil_sublist _)⟩
              unfold POp.line POp.line0
              (repeat' split) <;> omega
            · -- c13 F
              refine (WC.skip (WX.next ?_))
              refine WC.seq ?_
              refine WC.region ?_
              refine WL.move rfl rfl ?_
              refine WL.assign rfl rfl ?_
              refine (WL.done (WX.next ?_))
              refine (WC.ret ?_)
              refine ret_one rfl rfl ?_
              refine ⟨congrArg (fun z => Ending.returned (Value.int .i64 z)) ?_, H.weaken (List.nil_sublist _)⟩
              unfold POp.line POp.line0
              (repeat' split) <;> omega
        · -- c10 F
          refine WC.seq ?_
          refine WC.region ?_
          refine WL.bin rfl rfl binv_eql rfl ?_
          refine WL.assign rfl rfl ?_
          refine (WL.done (WX.next ?_))
          first | refine WC.cond_dec rfl (fun c14 => ?_) (fun c14 => ?_) | refine WC.cond rfl (fun c14 => ?_) (fun c14 => ?_)
          · -- c14 T
            refine (WC.skip (WX.next ?_))
            first | refine WC.cond_dec rfl (fun c15 => ?_) (fun c15 => ?_) | refine WC.cond rfl (fun c15 => ?_) (fun c15 => ?_)
            · -- c15 T
              refine WC.region ?_
              refine WL.fieldAddr fld60_1 rfl rfl ?_
              first | refine WL.load rfl (H.rd1 ty3 0 rfl rfl) rfl ?_
              refine WL.assign rfl rfl ?_
              refine (WL.done (WX.block_normal (WX.next ?_)))
              refine WC.seq ?_
              refine WC.seq ?_
              refine WC.region ?_
              refine WL.move rfl rfl ?_
              refine WL.move rfl rfl ?_
              refine WL.bin rfl rfl binv_geq rfl ?_
              refine (WL.done (WX.next ?_))
              first | refine WC.cond_dec rfl (fun c16 => ?_) (fun c16 => ?_) | refine WC.cond rfl (fun c16 => ?_) (fun c16 => ?_)
              · -- c16 T
                refine WC.seq ?_
                refine WC.region ?_
                refine WL.assign rfl rfl ?_
                refine (WL.done (WX.next ?_))
                refine (WC.ret (WX.then_ret ?_))
                refine ret_one rfl rfl ?_
                refine ⟨congrArg (fun z => Ending.returned (Value.int .i64 z)) ?_, H.weaken (List.nil_sublist _)⟩
                unfold POp.line POp.line0
                (repeat' split) <;> omega
              · -- c16 F
                refine (WC.skip (WX.next ?_))
                refine WC.seq ?_
                refine WC.region ?_
                refine WL.move rfl rfl ?_
                refine WL.assign rfl rfl ?_
                refine (WL.done (WX.next ?_))
                refine (WC.ret ?_)
                refine ret_one rfl rfl ?_
                refine ⟨congrArg (fun z => Ending.returned (Value.int .i64 z)) ?_, H.weaken (List.nil_sublist _)⟩
                unfold POp.line POp.line0
                (repeat' split) <;> omega
            · -- c15 F
              refine (WC.skip (WX.block_normal (WX.next ?_)))
              refine WC.seq ?_
              refine WC.seq ?_
              refine WC.region ?_
              refine WL.move rfl rfl ?_
              refine WL.move rfl rfl ?_
              refine WL.bin rfl rfl binv_geq rfl ?_
              refine (WL.done (WX.next ?_))
              first | refine WC.cond_dec rfl (fun c17 => ?_) (fun c17 => ?_) | refine WC.cond rfl (fun c17 => ?_) (fun c17 => ?_)
              · -- c17 T
                refine WC.seq ?_
                refine WC.region ?_
                refine WL.assign rfl rfl ?_
                refine (WL.done (WX.next ?_))
                refine (WC.ret (WX.then_ret ?_))
                refine ret_one rfl rfl ?_
                refine ⟨congrArg (fun z => Ending.returned (Value.int .i64 z)) ?_, H.weaken (List.nil_sublist _)⟩
                unfold POp.line POp.line0
                (repeat' split) <;> omega
              · -- c17 F
                refine (WC.skip (WX.next ?_))
                refine WC.seq ?_
                refine WC.region ?_
                refine WL.move rfl rfl ?_
                refine WL.assign rfl rfl ?_
                refine (WL.done (WX.next ?_))
                refine (WC.ret ?_)
                refine ret_one rfl rfl ?_
                refine ⟨congrArg (fun z => Ending.returned (Value.int .i64 z)) ?_, H.weaken (List.nil_sublist _)⟩
                unfold POp.line POp.line0
                (repeat' split) <;> omega
          · -- c14 F
            refine WC.region ?_
            refine WL.bin rfl rfl binv_eql rfl ?_
            refine WL.assign rfl rfl ?_
            refine (WL.done (WX.next ?_))
            first | refine WC.cond_dec rfl (fun c18 => ?_) (fun c18 => ?_) | refine WC.cond rfl (fun c18 => ?_) (fun c18 => ?_)
            · -- c18 T
              refine WC.region ?_
              refine WL.fieldAddr fld60_1 rfl rfl ?_
              first | refine WL.load rfl (H.rd1 ty3 0 rfl rfl) rfl ?_
              refine WL.assign rfl rfl ?_
              refine (WL.done (WX.block_normal (WX.next ?_)))
              refine WC.seq ?_
              refine WC.seq ?_
              refine WC.region ?_
              refine WL.move rfl rfl ?_
              refine WL.move rfl rfl ?_
              refine WL.bin rfl rfl binv_geq rfl ?_
              refine (WL.done (WX.next ?_))
              first | refine WC.cond_dec rfl (fun c19 => ?_) (fun c19 => ?_) | refine WC.cond rfl (fun c19 => ?_) (fun c19 => ?_)
              · -- c19 T
                refine WC.seq ?_
                refine WC.region ?_
                refine WL.assign rfl rfl ?_
                refine (WL.done (WX.next ?_))
                refine (WC.ret (WX.then_ret ?_))
                refine ret_one rfl rfl ?_
                refine ⟨congrArg (fun z => Ending.returned (Value.int .i64 z)) ?_, H.weaken (List.nil_sublist _)⟩
                unfold POp.line POp.line0
                (repeat' split) <;> omega
              · -- c19 F
                refine (WC.skip (WX.next ?_))
                refine WC.seq ?_
                refine WC.region ?_
                refine WL.move rfl rfl ?_
                refine WL.assign rfl rfl ?_
                refine (WL.done (WX.next ?_))
                refine (WC.ret ?_)
                refine ret_one rfl rfl ?_
                refine ⟨congrArg (fun z => Ending.returned (Value.int .i64 z)) ?_, H.weaken (List.nil_sublist _)⟩
                unfold POp.line POp.line0
                (repeat' split) <;> omega
            · -- c18 F
              refine (WC.skip (WX.block_normal (WX.next ?_)))
              refine WC.seq ?_
              refine WC.seq ?_
              refine WC.region ?_
              refine WL.move rfl rfl ?_
              refine WL.move rfl rfl ?_
              refine WL.bin rfl rfl binv_geq rfl ?_
              refine (WL.done (WX.next ?_))
              first | refine WC.cond_dec rfl (fun c20 => ?_) (fun c20 => ?_) | refine WC.cond rfl (fun c20 => ?_) (fun c20 => ?_)
              · -- c20 T
                refine WC.seq ?_
                refine WC.region ?_
                refine WL.assign rfl rfl ?_
                refine (WL.done (WX.next ?_))
                refine (WC.ret (WX.then_ret ?_))
                refine ret_one rfl rfl ?_
                refine ⟨congrArg (fun z => Ending.returned (Value.int .i64 z)) ?_, H.weaken (List.nil_sublist _)⟩
                unfold POp.line POp.line0
                (repeat' split) <;> omega
              · -- c20 F
                refine (WC.skip (WX.next ?_))
                refine WC.seq ?_
                refine WC.region ?_
                refine WL.move rfl rfl ?_
                refine WL.assign rfl rfl ?_
                refine (WL.done (WX.next ?_))
                refine (WC.ret ?_)
                refine ret_one rfl rfl ?_
                refine ⟨congrArg (fun z => Ending.returned (Value.int .i64 z)) ?_, H.weaken (List.nil_sublist _)⟩
                unfold POp.line POp.line0
                (repeat' split) <;> omega
  · -- c1 F
    refine WC.region ?_
    refine WL.bin rfl rfl binv_eql rfl ?_
    refine WL.assign rfl rfl ?_
    refine (WL.done (WX.next ?_))
    first | refine WC.cond_dec rfl (fun c21 => ?_) (fun c21 => ?_) | refine WC.cond rfl (fun c21 => ?_) (fun c21 => ?_)
    · -- c21 T
      refine WC.seq ?_
      refine WC.region ?_
      refine WL.fieldAddr fld60_1 rfl rfl ?_
      first | refine WL.load rfl (H.rd1 ty3 0 rfl rfl) rfl ?_
      refine WL.bin rfl rfl binv_geq rfl ?_
      refine (WL.done (WX.next ?_))
      first | refine WC.cond_dec rfl (fun c22 => ?_) (fun c22 => ?_) | refine WC.cond rfl (fun c22 => ?_) (fun c22 => ?_)
      · -- c22 T
        refine WC.region ?_
        refine WL.fieldAddr fld60_1 rfl rfl ?_
        first | refine WL.load rfl (H.rd1 ty3 0 rfl rfl) rfl ?_
        first | refine WL.bin rfl rfl (iquo (by omega) (by omega) (by omega)) rfl ?_ | refine WL.bin rfl rfl (iquoT (by omega) (by omega) (by omega)) rfl ?_
        refine WL.assign rfl rfl ?_
        refine (WL.done (WX.block_normal (WX.next ?_)))
        refine WC.seq ?_
        refine WC.seq ?_
        refine WC.region ?_
        refine WL.move rfl rfl ?_
        refine WL.move rfl rfl ?_
        refine WL.bin rfl rfl binv_geq rfl ?_
        refine (WL.done (WX.next ?_))
        first | refine WC.cond_dec rfl (fun c23 => ?_) (fun c23 => ?_) | refine WC.cond rfl (fun c23 => ?_) (fun c23 => ?_)
        · -- c23 T
          refine WC.seq ?_
          refine WC.region ?_
          refine WL.assign rfl rfl ?_
          refine (WL.done (WX.next ?_))
          refine (WC.ret (WX.then_ret ?_))
          refine ret_one rfl rfl ?_
          refine ⟨congrArg (fun z => Ending.returned (Value.int .i64 z)) ?_, H.weaken (List.nil_sublist _)⟩
          unfold POp.line POp.line0
          (repeat' split) <;> omega
        · -- c23 F
          refine (WC.skip (WX.next ?_))
          refine WC.seq ?_
          refine WC.region ?_
          refine WL.move rfl rfl ?_
          refine WL.assign rfl rfl ?_
          refine (WL.done (WX.next ?_))
          refine (WC.ret ?_)
          refine ret_one rfl rfl ?_
          refine ⟨congrArg (fun z => Ending.returned (Value.int .i64 z)) ?_, H.weaken (List.nil_sublist _)⟩
          unfold POp.line POp.line0
          (repeat' split) <;> omega
      · -- c22 F
        refine (WC.skip (WX.block_normal (WX.next ?_)))
        refine WC.seq ?_
        refine WC.seq ?_
        refine WC.region ?_
        refine WL.move rfl rfl ?_
        refine WL.move rfl rfl ?_
        refine WL.bin rfl rfl binv_geq rfl ?_
        refine (WL.done (WX.next ?_))
        first | refine WC.cond_dec rfl (fun c24 => ?_) (fun c24 => ?_) | refine WC.cond rfl (fun c24 => ?_) (fun c24 => ?_)
        · -- c24 T
          refine WC.seq ?_
          refine WC.region ?_
          refine WL.assign rfl rfl ?_
          refine (WL.done (WX.next ?_))
          refine (WC.ret (WX.then_ret ?_))
          refine ret_one rfl rfl ?_
          refine ⟨congrArg (fun z => Ending.returned (Value.int .i64 z)) ?_, H.weaken (List.nil_sublist _)⟩
          unfold POp.line POp.line0
          (repeat' split) <;> omega
        · -- c24 F
          refine (WC.skip (WX.next ?_))
          refine WC.seq ?_
          refine WC.region ?_
          refine WL.move rfl rfl ?_
          refine WL.assign rfl rfl ?_
          refine (WL.done (WX.next ?_))
          refine (WC.ret ?_)
          refine ret_one rfl rfl ?_
          refine ⟨congrArg (fun z => Ending.returned (Value.int .i64 z)) ?_, H.weaken (List.nil_sublist _)⟩
          unfold POp.line POp.line0
          (repeat' split) <;> omega
    · -- c21 F
      refine WC.seq ?_
      refine WC.seq ?_
      refine WC.region ?_
      refine WL.bin rfl rfl binv_eql rfl ?_
      refine WL.assign rfl rfl ?_
      refine (WL.done (WX.next ?_))
      first | refine WC.cond_dec rfl (fun c25 => ?_) (fun c25 => ?_) | refine WC.cond rfl (fun c25 => ?_) (fun c25 => ?_)
      · -- c25 T
        refine (WC.skip (WX.next ?_))
        first | refine WC.cond_dec rfl (fun c26 => ?_) (fun c26 => ?_) | refine WC.cond rfl (fun c26 => ?_) (fun c26 => ?_)
        · -- c26 T
          refine WC.region ?_
          refine WL.fieldAddr fld60_1 rfl rfl ?_
          first | refine WL.load rfl (H.rd1 ty3 0 rfl rfl) rfl ?_
          refine WL.assign rfl rfl ?_
          refine (WL.done (WX.block_normal (WX.next ?_)))
          refine WC.seq ?_
          refine WC.seq ?_
          refine WC.region ?_
          refine WL.move rfl rfl ?_
          refine WL.move rfl rfl ?_
          refine WL.bin rfl rfl binv_geq rfl ?_
          refine (WL.done (WX.next ?_))
          first | refine WC.cond_dec rfl (fun c27 => ?_) (fun c27 => ?_) | refine WC.cond rfl (fun c27 => ?_) (fun c27 => ?_)
          · -- c27 T
            refine WC.seq ?_
            refine WC.region ?_
            refine WL.assign rfl rfl ?_
            refine (WL.done (WX.next ?_))
            refine (WC.ret (WX.then_ret ?_))
            refine ret_one rfl rfl ?_
            refine ⟨congrArg (fun z => Ending.returned (Value.int .i64 z)) ?_, H.weaken (List.nil_sublist _)⟩
            unfold POp.line POp.line0
            (repeat' split) <;> omega
          · -- c27 F
            refine (WC.skip (WX.next ?_))
            refine WC.seq ?_
            refine WC.region ?_
            refine WL.move rfl rfl ?_
            refine WL.assign rfl rfl ?_
            refine (WL.done (WX.next ?_))
            refine (WC.ret ?_)
            refine ret_one rfl rfl ?_
            refine ⟨congrArg (fun z => Ending.returned (Value.int .i64 z)) ?_, H.weaken (List.nil_sublist _)⟩
            unfold POp.line POp.line0
            (repeat' split) <;> omega
        · -- c26 F
          refine (WC.skip (WX.block_normal (WX.next ?_)))
          refine WC.seq ?_
          refine WC.seq ?_
          refine WC.region ?_
          refine WL.move rfl rfl ?_
          refine WL.move rfl rfl ?_
          refine WL.bin rfl rfl binv_geq rfl ?_
          refine (WL.done (WX.next ?_))
          first | refine WC.cond_dec rfl (fun c28 => ?_) (fun c28 => ?_) | refine WC.cond rfl (fun c28 => ?_) (fun c28 => ?_)
          · -- c28 T
            refine WC.seq ?_
            refine WC.region ?_
            refine WL.assign rfl rfl ?_
            refine (WL.done (WX.next ?_))
            refine (WC.ret (WX.then_ret ?_))
            refine ret_one rfl rfl ?_
            refine ⟨congrArg (fun z => Ending.returned (Value.int .i64 z)) ?_, H.weaken (List.nil_sublist _)⟩
            unfold POp.line POp.line0
            (repeat' split) <;> omega
          · -- c28 F
            refine (WC.skip (WX.next ?_))
            refine WC.seq ?_
            refine WC.region ?_
            refine WL.move rfl rfl ?_
            refine WL.assign rfl rfl ?_
            refine (WL.done (WX.next ?_))
            refine (WC.ret ?_)
            refine ret_one rfl rfl ?_
            refine ⟨congrArg (fun z => Ending.returned (Value.int .i64 z)) ?_, H.weaken (List.nil_sublist _)⟩
            unfold POp.line POp.line0
            (repeat' split) <;> omega
      · -- c25 F
        refine WC.seq ?_
        refine WC.region ?_
        refine WL.bin rfl rfl binv_eql rfl ?_
        refine WL.assign rfl rfl ?_
        refine (WL.done (WX.next ?_))
        first | refine WC.cond_dec rfl (fun c29 => ?_) (fun c29 => ?_) | refine WC.cond rfl (fun c29 => ?_) (fun c29 => ?_)
        · -- c29 T
          refine (WC.skip (WX.next ?_))
          first | refine WC.cond_dec rfl (fun c30 => ?_) (fun c30 => ?_) | refine WC.cond rfl (fun c30 => ?_) (fun c30 => ?_)
          · -- c30 T
            refine WC.region ?_
            refine WL.fieldAddr fld60_1 rfl rfl ?_
            first | refine WL.load rfl (H.rd1 ty3 0 rfl rfl) rfl ?_
            refine WL.assign rfl rfl ?_
            refine (WL.done (WX.block_normal (WX.next ?_)))
            refine WC.seq ?_
            refine WC.seq ?_
            refine WC.region ?_
            refine WL.move rfl rfl ?_
            refine WL.move rfl rfl ?_
            refine WL.bin rfl rfl binv_geq rfl ?_
            refine (WL.done (WX.next ?_))
            first | refine WC.cond_dec rfl (fun c31 => ?_) (fun c31 => ?_) | refine WC.cond rfl (fun c31 => ?_) (fun c31 => ?_)
            · -- c31 T
              refine WC.seq ?_
              refine WC.region ?_
              refine WL.assign rfl rfl ?_
              refine (WL.done (WX.next ?_))
              refine (WC.ret (WX.then_ret ?_))
              refine ret_one rfl rfl ?_
              refine ⟨congrArg (fun z => Ending.returned (Value.int .i64 z)) ?_, H.weaken (List.nil_sublist _)⟩
              unfold POp.line POp.line0
              (repeat' split) <;> omega
            · -- c31 F
              refine (WC.skip (WX.next ?_))
              refine WC.seq ?_
              refine WC.region ?_
              refine WL.move rfl rfl ?_
              refine WL.assign rfl rfl ?_
              refine (WL.done (WX.next ?_))
              refine (WC.ret ?_)
              refine ret_one rfl rfl ?_
              refine ⟨congrArg (fun z => Ending.returned (Value.int .i64 z)) ?_, H.weaken (List.nil_sublist _)⟩
              unfold POp.line POp.line0
              (repeat' split) <;> omega
          · -- c30 F
            refine (WC.skip (WX.block_normal (WX.next ?_)))
            refine WC.seq ?_
            refine WC.seq ?_
            refine WC.region ?_
            refine WL.move rfl rfl ?_
            refine WL.move rfl rfl ?_
            refine WL.bin rfl rfl binv_geq rfl ?_
            refine (WL.done (WX.next ?_))
            first | refine WC.cond_dec rfl (fun c32 => ?_) (fun c32 => ?_) | refine WC.cond rfl (fun c32 => ?_) (fun c32 => ?_)
            · -- c32 T
              refine WC.seq ?_
              refine WC.region ?_
              refine WL.assign rfl rfl ?_
              refine (WL.done (WX.next ?_))
              refine (WC.ret (WX.then_ret ?_))
              refine ret_one rfl rfl ?_
              refine ⟨congrArg (fun z => Ending.returned (Value.int .i64 z)) ?_, H.weaken (List.nil_sublist _)⟩
              unfold POp.line POp.line0
              (repeat' split) <;> omega
            · -- c32 F
              refine (WC.skip (WX.next ?_))
              refine WC.seq ?_
              refine WC.region ?_
              refine WL.move rfl rfl ?_
              refine WL.assign rfl rfl ?_
              refine (WL.done (WX.next ?_))
              refine (WC.ret ?_)
              refine ret_one rfl rfl ?_
              refine ⟨congrArg (fun z => Ending.returned (Value.int .i64 z)) ?_, H.weaken (List.nil_sublist _)⟩
              unfold POp.line POp.line0
              (repeat' split) <;> omega
        · -- c29 F
          refine WC.seq ?_
          refine WC.region ?_
          refine WL.bin rfl rfl binv_eql rfl ?_
          refine WL.assign rfl rfl ?_
          refine (WL.done (WX.next ?_))
          first | refine WC.cond_dec rfl (fun c33 => ?_) (fun c33 => ?_) | refine WC.cond rfl (fun c33 => ?_) (fun c33 => ?_)
          · -- c33 T
            refine (WC.skip (WX.next ?_))
            first | refine WC.cond_dec rfl (fun c34 => ?_) (fun c34 => ?_) | refine WC.cond rfl (fun c34 => ?_) (fun c34 => ?_)
            · -- c34 T
              refine WC.region ?_
              refine WL.fieldAddr fld60_1 rfl rfl ?_
              first | refine WL.load rfl (H.rd1 ty3 0 rfl rfl) rfl ?_
              refine WL.assign rfl rfl ?_
              refine (WL.done (WX.block_normal (WX.next ?_)))
              refine WC.seq ?_
              refine WC.seq ?_
              refine WC.region ?_
              refine WL.move rfl rfl ?_
              refine WL.move rfl rfl ?_
              refine WL.bin rfl rfl binv_geq rfl ?_
              refine (WL.done (WX.next ?_))
              first | refine WC.cond_dec rfl (fun c35 => ?_) (fun c35 => ?_) | refine WC.cond rfl (fun c35 => ?_) (fun c35 => ?_)
              · -- c35 T
                refine WC.seq ?_
                refine WC.region ?_
                refine WL.assign rfl rfl ?_
                refine (WL.done (WX.next ?_))
                refine (WC.ret (WX.then_ret ?_))
                refine ret_one rfl rfl ?_
                refine ⟨congrArg (fun z => Ending.returned (Value.int .i64 z)) ?_, H.weaken (List.nil_sublist _)⟩
                unfold POp.line POp.line0
                (repeat' split) <;> omega
              · -- c35 F
                refine (WC.skip (WX.next ?_))
                refine WC.seq ?_
                refine WC.region ?_
                refine WL.move rfl rfl ?_
                refine WL.assign rfl rfl ?_
                refine (WL.done (WX.next ?_))
                refine (WC.ret ?_)
                refine ret_one rfl rfl ?_
                refine ⟨congrArg (fun z => Ending.returned (Value.int .i64 z)) ?_, H.weaken (List.nil_sublist _)⟩
                unfold POp.line POp.line0
                (repeat' split) <;> omega
            · -- c34 F
              refine (WC.skip (WX.block_normal (WX.next ?_)))
              refine WC.seq ?_
              refine WC.seq ?_
              refine WC.region ?_
              refine WL.move rfl rfl ?_
              refine WL.move rfl rfl ?_
              refine WL.bin rfl rfl binv_geq rfl ?_
              refine (WL.done (WX.next ?_))
              first | refine WC.cond_dec rfl (fun c36 => ?_) (fun c36 => ?_) | refine WC.cond rfl (fun c36 => ?_) (fun c36 => ?_)
              · -- c36 T
                refine WC.seq ?_
                refine WC.region ?_
                refine WL.assign rfl rfl ?_
                refine (WL.done (WX.next ?_))
                refine (WC.ret (WX.then_ret ?_))
                refine ret_one rfl rfl ?_
                refine ⟨congrArg (fun z => Ending.returned (Value.int .i64 z)) ?_, H.weaken (List.nil_sublist _)⟩
                unfold POp.line POp.line0
                (repeat' split) <;> omega
              · -- c36 F
                refine (WC.skip (WX.next ?_))
                refine WC.seq ?_
                refine WC.region ?_
                refine WL.move rfl rfl ?_
                refine WL.assign rfl rfl ?_
                refine (WL.done (WX.next ?_))
                refine (WC.ret ?_)
                refine ret_one rfl rfl ?_
                refine ⟨congrArg (fun z => Ending.returned (Value.int .i64 z)) ?_, H.weaken (List.nil_sublist _)⟩
                unfold POp.line POp.line0
                (repeat' split) <;> omega
          · -- c33 F
            refine WC.region ?_
            refine WL.bin rfl rfl binv_eql rfl ?_
            refine WL.assign rfl rfl ?_
            refine (WL.done (WX.next ?_))
            first | refine WC.cond_dec rfl (fun c37 => ?_) (fun c37 => ?_) | refine WC.cond rfl (fun c37 => ?_) (fun c37 => ?_)
            · -- c37 T
              refine WC.region ?_
              refine WL.fieldAddr fld60_1 rfl rfl ?_
              first | refine WL.load rfl (H.rd1 ty3 0 rfl rfl) rfl ?_
              refine WL.assign rfl rfl ?_
              refine (WL.done (WX.block_normal (WX.next ?_)))
              refine WC.seq ?_
              refine WC.seq ?_
              refine WC.region ?_
              refine WL.move rfl rfl ?_
              refine WL.move rfl rfl ?_
              refine WL.bin rfl rfl binv_geq rfl ?_
              refine (WL.done (WX.next ?_))
              first | refine WC.cond_dec rfl (fun c38 => ?_) (fun c38 => ?_) | refine WC.cond rfl (fun c38 => ?_) (fun c38 => ?_)
              · -- c38 T
                refine WC.seq ?_
                refine WC.region ?_
                refine WL.assign rfl rfl ?_
                refine (WL.done (WX.next ?_))
                refine (WC.ret (WX.then_ret ?_))
                refine ret_one rfl rfl ?_
                refine ⟨congrArg (fun z => Ending.returned (Value.int .i64 z)) ?_, H.weaken (List.nil_sublist _)⟩
                unfold POp.line POp.line0
                (repeat' split) <;> omega
              · -- c38 F
                refine (WC.skip (WX.next ?_))
                refine WC.seq ?_
                refine WC.region ?_
                refine WL.move rfl rfl ?_
                refine WL.assign rfl rfl ?_
                refine (WL.done (WX.next ?_))
                refine (WC.ret ?_)
                refine ret_one rfl rfl ?_
                refine ⟨congrArg (fun z => Ending.returned (Value.int .i64 z)) ?_, H.weaken (List.nil_sublist _)⟩
                unfold POp.line POp.line0
                (repeat' split) <;> omega
            · -- c37 F
              refine (WC.skip (WX.block_normal (WX.next ?_)))
              refine WC.seq ?_
              refine WC.seq ?_
              refine WC.region ?_
              refine WL.move rfl rfl ?_
              refine WL.move rfl rfl ?_
              refine WL.bin rfl rfl binv_geq rfl ?_
              refine (WL.done (WX.next ?_))
              first | refine WC.cond_dec rfl (fun c39 => ?_) (fun c39 => ?_) | refine WC.cond rfl (fun c39 => ?_) (fun c39 => ?_)
              · -- c39 T
                refine WC.seq ?_
                refine WC.region ?_
                refine WL.assign rfl rfl ?_
                refine (WL.done (WX.next ?_))
                refine (WC.ret (WX.then_ret ?_))
                refine ret_one rfl rfl ?_
                refine ⟨congrArg (fun z => Ending.returned (Value.int .i64 z)) ?_, H.weaken (List.nil_sublist _)⟩
                unfold POp.line POp.line0
                (repeat' split) <;> omega
              · -- c39 F
                refine (WC.skip (WX.next ?_))
                refine WC.seq ?_
                refine WC.region ?_
                refine WL.move rfl rfl ?_
                refine WL.assign rfl rfl ?_
                refine (WL.done (WX.next ?_))
                refine (WC.ret ?_)
                refine ret_one rfl rfl ?_
                refine ⟨congrArg (fun z => Ending.returned (Value.int .i64 z)) ?_, H.weaken (List.nil_sublist _)⟩
                unfold POp.line POp.line0
                (repeat' split) <;> omega

theorem apart_any (w : World) (hL : L64 w) (n : Int) (A : Option Addr) (m cap : Nat) (xs : List OpV) (hm : m = xs.length) (hm63 : m ≤ 9223372036854775807) (hx : OpsIn w A xs) (hok : ∀ v ∈ xs, v.ok w) (x y : OpV) (hxo : x.ok w) (hyo : y.ok w) : Calls Tryd.prog 7 #[.int .i64 n, .slice A m cap, .agg x.cells.toArray, .agg y.cells.toArray] w fun e w' => e = .returned (.bool true) ∧ St w [] w' [] := by
  refine calls_walk_n (args := [.int .i64 n, .slice A m cap, .agg x.cells.toArray, .agg y.cells.toArray]) Tryd.func7 rfl rfl rfl ?_
  have H := St.refl w
  refine WC.seq ?_
  refine WC.region ?_
  refine WL.box (v := .agg x.cells.toArray) H rfl rfl ?_
  intro bx wx hbx hgex H
  change St w [] wx [(bx, .cells (opC x.x x.A x.cap).toArray 60)] at H
  refine WL.box (v := .agg y.cells.toArray) H rfl rfl ?_
  intro bz wx hby hgey H
  change St w [] wx [(bz, .cells (opC y.x y.A y.cap).toArray 60), (bx, .cells (opC x.x x.A x.cap).toArray 60)] at H
  refine WL.assign rfl rfl ?_
  refine (WL.done (WX.next ?_))
  refine WC.seq ?_
  refine WC.region ?_
  refine WL.move rfl rfl ?_
  refine WL.move rfl rfl ?_
  refine WL.call call30 rfl rfl ?_
  refine Calls.mono (begun_any n A m cap xs hm hm63 hx hok H hL) ?_
  rintro _ wx ⟨p, R, rfl, hI, H⟩
  refine ⟨_, rfl, ?_⟩
  have hlens := hI.lens
  have hlok := hI.lok
  generalize PM.begun n (plain xs) = M at hI hlens hlok
  refine WL.assign rfl rfl ?_
  refine (WL.done (WX.next ?_))
  refine WC.seq ?_
  refine WC.seq ?_
  refine WC.region ?_
  refine WL.move rfl rfl ?_
  refine WL.bin rfl rfl (binv_ptr_eql (by kernel_rfl) _) rfl ?_
  refine (WL.done (WX.next ?_))
  refine WC.cond_false rfl (rfl) ?_
  refine (WC.skip (WX.next ?_))
  refine WC.seq ?_
  replace H := H.drew
  refine WC.held (SX (World.drew wx) []) (by kernel_rfl) ?_
  generalize World.drew wx = wb at H ⊢
  have HB := St.refl wb
  first | refine WH.take 0 rfl (by kernel_rfl) (by kernel_rfl) (by kernel_rfl) (fun _ _ _ h => h) ⟨_, HB⟩ (fun w' hS => EX.load rfl (Rd.opAll hxo.x.w8 (hS.block (H.blk 1 rfl) (by simp)))) rfl ?_
  refine WH.take 1 rfl (by kernel_rfl) (by kernel_rfl) (by kernel_rfl) (fun _ _ _ h => h) ⟨_, HB⟩ (fun w' hS => EX.move rfl) rfl ?_
  first | refine WH.take 4 rfl (by kernel_rfl) (by kernel_rfl) (by kernel_rfl) (fun _ _ _ h => h) ⟨_, HB⟩ (fun w' hS => EX.load rfl (Rd.opAll hyo.x.w8 (hS.block (H.blk 0 rfl) (by simp)))) rfl ?_
  refine WH.take 5 rfl (by kernel_rfl) (by kernel_rfl) (by kernel_rfl) (fun _ _ _ h => h) ⟨_, HB⟩ (fun w' hS => EX.move rfl) rfl ?_
  refine WH.hard 2 rfl (by kernel_rfl) ?_
  refine WL.call call26 rfl rfl ?_
  refine Calls.mono (m_lines hI ((hI.mem H hL).old HB)) ?_
  rintro _ wx ⟨rfl, rfl⟩
  refine ⟨_, rfl, ?_⟩
  refine WL.done (WX.heldOn ⟨_, HB⟩ ?_)
  refine WH.hard 3 rfl (by kernel_rfl) ?_
  refine WL.call call43 rfl rfl ?_
  refine Calls.mono (lineOf_any x.x x.A x.cap _ hxo.x _) ?_
  rintro _ wx ⟨rfl, Hc⟩
  refine ⟨_, rfl, ?_⟩
  replace HB := HB.call0 Hc
  refine WL.done (WX.heldOn ⟨_, HB⟩ ?_)
  refine WH.hard 6 rfl (by kernel_rfl) ?_
  refine WL.call call26 rfl rfl ?_
  refine Calls.mono (m_lines hI ((hI.mem H hL).old HB)) ?_
  rintro _ wx ⟨rfl, rfl⟩
  refine ⟨_, rfl, ?_⟩
  refine WL.done (WX.heldOn ⟨_, HB⟩ ?_)
  refine WH.hard 7 rfl (by kernel_rfl) ?_
  refine WL.call call43 rfl rfl ?_
  refine Calls.mono (lineOf_any y.x y.A y.cap _ hyo.x _) ?_
  rintro _ wx ⟨rfl, Hc⟩
  refine ⟨_, rfl, ?_⟩
  replace HB := HB.call0 Hc
  refine WL.done (WX.heldOn ⟨_, HB⟩ ?_)
  refine WH.take 8 rfl (by kernel_rfl) (by kernel_rfl) (by kernel_rfl) (fun _ _ _ h => h) ⟨_, HB⟩ (fun w' hS => EX.assign rfl) rfl ?_
  refine WH.take 9 rfl (by kernel_rfl) (by kernel_rfl) (by kernel_rfl) (fun _ _ _ h => h) ⟨_, HB⟩ (fun w' hS => EX.assign rfl) rfl ?_
  refine WH.done (by kernel_rfl) ?_
  replace H := H.call HB
  refine WX.next ?_
  refine WC.seq ?_
  refine WC.seq ?_
  refine WC.region ?_
  refine WL.move rfl rfl ?_
  refine WL.bin rfl rfl binv_lss rfl ?_
  refine WL.move rfl rfl ?_
  first | refine WL.splitD (t := 37) rfl (fun g1 => ?_) (fun g1 => ?_) | refine WL.split (t := 37) rfl (fun g1 => ?_) (fun g1 => ?_)
  · -- g1 True
    refine WL.no rfl rfl rfl ?_
    refine WL.no rfl rfl rfl ?_
    refine WL.pickT rfl rfl rfl ?_
    refine WL.move rfl rfl ?_
    refine WL.no rfl rfl rfl ?_
    refine WL.no rfl rfl rfl ?_
    refine WL.no rfl rfl rfl ?_
    refine WL.pickT rfl rfl rfl ?_
    refine (WL.done (WX.next ?_))
    refine WC.cond_true rfl (rfl) ?_
    refine WC.seq ?_
    refine WC.region ?_
    refine WL.call call22 rfl rfl ?_
    refine Calls.mono (q_sanity hL H) ?_
    rintro _ wx ⟨rfl, Hc⟩
    refine ⟨_, rfl, ?_⟩
    replace H := H.call0 Hc
    refine WL.assign rfl rfl ?_
    refine (WL.done (WX.next ?_))
    refine (WC.ret (WX.then_ret ?_))
    refine ret_one rfl rfl ?_
    exact ⟨rfl, H.weaken (List.nil_sublist _)⟩
  · -- g1 False
    refine WL.yes rfl rfl ?_
    refine WL.move rfl rfl ?_
    refine WL.yes rfl rfl ?_
    refine WL.bin rfl rfl binv_lss rfl ?_
    refine WL.pickF rfl rfl rfl ?_
    refine WL.move rfl rfl ?_
    first | refine WL.splitD (t := 41) rfl (fun g2 => ?_) (fun g2 => ?_) | refine WL.split (t := 41) rfl (fun g2 => ?_) (fun g2 => ?_)
    · -- g2 True
      refine WL.no rfl rfl rfl ?_
      refine WL.no rfl rfl rfl ?_
      refine WL.no rfl rfl rfl ?_
      refine WL.pickT rfl rfl rfl ?_
      refine (WL.done (WX.next ?_))
      refine WC.cond_true rfl (rfl) ?_
      refine WC.seq ?_
      refine WC.region ?_
      refine WL.call call22 rfl rfl ?_
      refine Calls.mono (q_sanity hL H) ?_
      rintro _ wx ⟨rfl, Hc⟩
      refine ⟨_, rfl, ?_⟩
      replace H := H.call0 Hc
      refine WL.assign rfl rfl ?_
      refine (WL.done (WX.next ?_))
      refine (WC.ret (WX.then_ret ?_))
      refine ret_one rfl rfl ?_
      exact ⟨rfl, H.weaken (List.nil_sublist _)⟩
    · -- g2 False
      refine WL.yes rfl rfl ?_
      refine WL.move rfl rfl ?_
      refine WL.yes rfl rfl ?_
      refine WL.move rfl rfl ?_
      refine WL.yes rfl rfl ?_
      refine WL.bin rfl rfl binv_eql rfl ?_
      refine WL.pickF rfl rfl rfl ?_
      refine (WL.done (WX.next ?_))
      first | refine WC.cond_dec rfl (fun c4 => ?_) (fun c4 => ?_) | refine WC.cond rfl (fun c4 => ?_) (fun c4 => ?_)
      · -- c4 T
        refine WC.seq ?_
        refine WC.region ?_
        refine WL.call call22 rfl rfl ?_
        refine Calls.mono (q_sanity hL H) ?_
        rintro _ wx ⟨rfl, Hc⟩
        refine ⟨_, rfl, ?_⟩
        replace H := H.call0 Hc
        refine WL.assign rfl rfl ?_
        refine (WL.done (WX.next ?_))
        refine (WC.ret (WX.then_ret ?_))
        refine ret_one rfl rfl ?_
        exact ⟨rfl, H.weaken (List.nil_sublist _)⟩
      · -- c4 F
        refine (WC.skip (WX.next ?_))
        refine WC.seq ?_
        refine WC.region ?_
        obtain ⟨pp, hpp⟩ : ∃ pp : Nat, x.x.line M.ls.length = pp := ⟨(x.x.line M.ls.length).toNat, by omega⟩
        obtain ⟨qq, hqq⟩ : ∃ qq : Nat, y.x.line M.ls.length = qq := ⟨(y.x.line M.ls.length).toNat, by omega⟩
        have hap := apart hpp hqq (by omega)
        have heq1 : ((M.do x.x).do y.x).ls.map bare = ((M.do y.x).do x.x).ls.map bare := by rw [hap.1]
        have heq2 : ((M.do x.x).do y.x).ls.map shown = ((M.do y.x).do x.x).ls.map shown := by rw [hap.1]
        refine WL.move rfl rfl ?_
        refine WL.call call41 rfl rfl ?_
        refine Calls.mono (a_copy (by omega) hI H hL) ?_
        rintro _ wx ⟨pn, Rn, rfl, hIn, H⟩
        refine ⟨_, rfl, ?_⟩
        replace H := H.swap
        refine WL.assign rfl rfl ?_
        refine (WL.done (WX.next ?_))
        refine WC.seq ?_
        refine WC.seq ?_
        refine WC.region ?_
        refine WL.move rfl rfl ?_
        refine WL.bin rfl rfl (binv_ptr_eql (by kernel_rfl) _) rfl ?_
        refine (WL.done (WX.next ?_))
        refine WC.cond_false rfl (rfl) ?_
        refine (WC.skip (WX.next ?_))
        refine WC.seq ?_
        refine WC.region ?_
        refine WL.move rfl rfl ?_
        first | refine WL.load rfl (Rd.opAll hxo.x.w8 (H.blk 1 rfl)) rfl ?_
        refine WL.call call44 rfl rfl ?_
        refine Calls.mono (do_any x.x x.A x.cap hxo.x hxo.cuts (by omega) hI H hL) ?_
        rintro _ wx ⟨R, rfl, hI, H⟩
        refine ⟨_, rfl, ?_⟩
        refine WL.move rfl rfl ?_
        refine WL.extract rfl rfl rfl ?_
        refine WL.extract rfl rfl rfl ?_
        refine WL.assign rfl rfl ?_
        refine WL.assign rfl rfl ?_
        refine (WL.done (WX.next ?_))
        refine WC.seq ?_
        refine WC.region ?_
        refine WL.move rfl rfl ?_
        first | refine WL.load rfl (Rd.opAll hyo.x.w8 (H.blk 0 rfl)) rfl ?_
        refine WL.call call44 rfl rfl ?_
        refine Calls.mono (do_any y.x y.A y.cap hyo.x hyo.cuts (by omega) hI H hL) ?_
        rintro _ wx ⟨R, rfl, hI, H⟩
        refine ⟨_, rfl, ?_⟩
        replace H := H.swap
        refine WL.move rfl rfl ?_
        refine WL.extract rfl rfl rfl ?_
        refine WL.extract rfl rfl rfl ?_
        refine WL.assign rfl rfl ?_
        refine WL.assign rfl rfl ?_
        refine (WL.done (WX.next ?_))
        refine WC.seq ?_
        refine WC.region ?_
        refine WL.move rfl rfl ?_
        first | refine WL.load rfl (Rd.opAll hyo.x.w8 (H.blk 0 rfl)) rfl ?_
        refine WL.call call44 rfl rfl ?_
        refine Calls.mono (do_any y.x y.A y.cap hyo.x hyo.cuts (by omega) hIn H hL) ?_
        rintro _ wx ⟨Rn, rfl, hIn, H⟩
        refine ⟨_, rfl, ?_⟩
        refine WL.move rfl rfl ?_
        refine WL.extract rfl rfl rfl ?_
        refine WL.extract rfl rfl rfl ?_
        refine WL.assign rfl rfl ?_
        refine WL.assign rfl rfl ?_
        refine (WL.done (WX.next ?_))
        refine WC.seq ?_
        refine WC.region ?_
        refine WL.move rfl rfl ?_
        first | refine WL.load rfl (Rd.opAll hxo.x.w8 (H.blk 1 rfl)) rfl ?_
        refine WL.call call44 rfl rfl ?_
        refine Calls.mono (do_any x.x x.A x.cap hxo.x hxo.cuts (by omega) hIn H hL) ?_
        rintro _ wx ⟨Rn, rfl, hIn, H⟩
        refine ⟨_, rfl, ?_⟩
        refine WL.move rfl rfl ?_
        refine WL.extract rfl rfl rfl ?_
        refine WL.extract rfl rfl rfl ?_
        refine WL.assign rfl rfl ?_
        refine WL.assign rfl rfl ?_
        refine (WL.done (WX.next ?_))
        refine WC.seq ?_
        refine WC.seq ?_
        refine WC.region ?_
        have hmm := hI.mem H.swap hL
        have hmn := hIn.mem H hL
        refine WL.move rfl rfl ?_
        refine WL.move rfl rfl ?_
        refine WL.bin rfl rfl binv_neq rfl ?_
        refine WL.move rfl rfl ?_
        refine WL.known (t := 78) rfl (b := false) (decide_eq_false (fun h => h hap.2.1)) ?_
        refine WL.yes rfl rfl ?_
        refine WL.move rfl rfl ?_
        refine WL.yes rfl rfl ?_
        refine WL.move rfl rfl ?_
        refine WL.yes rfl rfl ?_
        refine WL.bin rfl rfl binv_neq rfl ?_
        refine WL.pickF rfl rfl rfl ?_
        refine WL.move rfl rfl ?_
        refine WL.known (t := 83) rfl (b := false) (decide_eq_false (fun h => h hap.2.2)) ?_
        refine WL.yes rfl rfl ?_
        refine WL.move rfl rfl ?_
        refine WL.yes rfl rfl ?_
        refine WL.call call29 rfl rfl ?_
        refine Calls.mono (m_image hI hmm) ?_
        rintro _ wx ⟨ga, rfl, Hc⟩
        refine ⟨_, rfl, ?_⟩
        replace H := H.call Hc
        replace hmm := hmm.old Hc
        replace hmn := hmn.old Hc
        refine WL.yes rfl rfl ?_
        refine WL.move rfl rfl ?_
        refine WL.yes rfl rfl ?_
        refine WL.call call29 rfl rfl ?_
        refine Calls.mono (m_image hIn hmn) ?_
        rintro _ wx ⟨gb, rfl, Hc⟩
        refine ⟨_, rfl, ?_⟩
        replace H := H.call Hc
        replace hmm := hmm.old Hc
        replace hmn := hmn.old Hc
        refine WL.yes rfl rfl ?_
        refine WL.call call28 rfl rfl ?_
        refine Calls.mono (sameImage_any _ _ _ _ _ _ _ _ (by simp) (by simp) hI.bare8 hIn.bare8 _ (ImgIn.block (H.blk 1 rfl)) (ImgIn.block (H.blk 0 rfl)) (by have := hI.lens; omega)) ?_
        rintro _ wx ⟨rfl, Hc⟩
        refine ⟨_, rfl, ?_⟩
        replace H := H.call0 Hc
        replace hmm := hmm.old Hc
        replace hmn := hmn.old Hc
        refine WL.yes rfl rfl ?_
        refine WL.notOp rfl rfl ?_
        refine WL.pickF rfl rfl rfl ?_
        refine WL.move rfl rfl ?_
        refine WL.known (t := 91) rfl (b := false) (by rw [decide_eq_true heq1]; rfl) ?_
        refine WL.yes rfl rfl ?_
        refine WL.move rfl rfl ?_
        refine WL.yes rfl rfl ?_
        refine WL.call call34 rfl rfl ?_
        refine Calls.mono (m_seen hI hmm (hL.of0 H)) ?_
        rintro _ wx ⟨sa, rfl, Hc⟩
        refine ⟨_, rfl, ?_⟩
        replace H := H.call Hc
        replace hmm := hmm.old Hc
        replace hmn := hmn.old Hc
        refine WL.yes rfl rfl ?_
        refine WL.move rfl rfl ?_
        refine WL.yes rfl rfl ?_
        refine WL.call call34 rfl rfl ?_
        refine Calls.mono (m_seen hIn hmn (hL.of0 H)) ?_
        rintro _ wx ⟨sm, rfl, Hc⟩
        refine ⟨_, rfl, ?_⟩
        replace H := H.call Hc
        replace hmm := hmm.old Hc
        replace hmn := hmn.old Hc
        refine WL.yes rfl rfl ?_
        refine WL.call call42 rfl rfl ?_
        refine Calls.mono (sameSeen_any _ _ _ _ _ _ _ _ (by simp) (by simp) _ (RowsIn.seen hI.shown8 (H.blk 1 rfl)) (RowsIn.seen hIn.shown8 (H.blk 0 rfl)) (by have := hI.lens; omega)) ?_
        rintro _ wx ⟨rfl, Hc⟩
        refine ⟨_, rfl, ?_⟩
        replace H := H.call0 Hc
        replace hmm := hmm.old Hc
        replace hmn := hmn.old Hc
        refine WL.yes rfl rfl ?_
        refine WL.notOp rfl rfl ?_
        refine WL.pickF rfl rfl rfl ?_
        refine (WL.done (WX.next ?_))
        refine WC.cond_false rfl (by rw [decide_eq_true heq2]; rfl) ?_
        refine (WC.skip (WX.next ?_))
        refine WC.seq ?_
        refine WC.seq ?_
        refine WC.region ?_
        refine WL.assign rfl rfl ?_
        refine (WL.done (WX.next ?_))
        refine WC.block ?_
        -- loop 1: changed [21] kept [9, 12]
        replace H := H.weaken (List.nil_sublist _)
        have hlx := hI.lens
        refine WC.loop (Sub.cons (t := 9) rfl (Sub.cons (t := 12) rfl (Sub.nil _))) (fun i : Nat => [(21, .int .i64 (i : Int))]) (fun q i wx => q = ((M.do x.x).do y.x).ls.length - i ∧ i ≤ ((M.do x.x).do y.x).ls.length ∧ St w [] wx [] ∧ MemIn wx R ∧ MemIn wx Rn) (((M.do x.x).do y.x).ls.length) (0) (Sub.cons (t := 21) (by first | rfl | simp) (Sub.nil _)) (⟨rfl, Nat.zero_le _, H, hmm, hmn⟩) ?_
        rintro k g wx hI N hN
        obtain ⟨rfl, hg, H, hmm, hmn⟩ := hI
        refine WC.seq ?_
        refine WC.seq ?_
        refine WC.region ?_
        refine WL.move rfl rfl ?_
        refine WL.move rfl rfl ?_
        refine WL.call call26 rfl rfl ?_
        refine Calls.mono (m_lines hI hmm) ?_
        rintro _ wx ⟨rfl, rfl⟩
        refine ⟨_, rfl, ?_⟩
        refine WL.bin rfl rfl binv_lss rfl ?_
        refine (WL.done (WX.next ?_))
        first | refine WC.cond_dec rfl (fun c7 => ?_) (fun c7 => ?_) | refine WC.cond rfl (fun c7 => ?_) (fun c7 => ?_)
        · -- c7 T
          refine (WC.skip (WX.next ?_))
          refine WC.seq ?_
          refine WC.block ?_
          refine WC.seq ?_
          refine WC.region ?_
          refine WL.move rfl rfl ?_
          refine WL.move rfl rfl ?_
          refine WL.call call39 rfl rfl ?_
          refine Calls.mono (m_pending (g : Int) (by omega) hI hmm) ?_
          rintro _ wx ⟨r1, rfl, hr1, Hc⟩
          refine ⟨_, rfl, ?_⟩
          replace H := H.call Hc
          replace hmm := hmm.old Hc
          replace hmn := hmn.old Hc
          refine WL.move rfl rfl ?_
          refine WL.move rfl rfl ?_
          refine WL.call call39 rfl rfl ?_
          refine Calls.mono (m_pending (g : Int) (by omega) hIn hmn) ?_
          rintro _ wx ⟨r2, rfl, hr2, Hc⟩
          refine ⟨_, rfl, ?_⟩
          replace H := H.call Hc
          replace hmm := hmm.old Hc
          replace hmn := hmn.old Hc
          refine WL.call call45 rfl rfl ?_
          refine Calls.mono (m_sameStores hr1 hr2 (fun q hq => H.sat q (by simp [hq])) (fun q hq => H.sat q (by simp [hq])) (Nat.le_trans (pend_le hI g) (by omega))) ?_
          rintro _ wx ⟨rfl, Hc⟩
          refine ⟨_, rfl, ?_⟩
          replace H := H.call0 Hc
          replace hmm := hmm.old Hc
          replace hmn := hmn.old Hc
          refine WL.notOp rfl rfl ?_
          refine (WL.done (WX.next ?_))
          first | refine WC.cond_dec rfl (fun c8 => ?_) (fun c8 => ?_) | refine WC.cond rfl (fun c8 => ?_) (fun c8 => ?_)
          · -- c8 T
            exact absurd c8 (by rw [decide_eq_true (pend_ls hap.1 g)]; decide)
          · -- c8 F
            refine (WC.skip (WX.block_normal (WX.next ?_)))
            refine WC.region ?_
            refine WL.move rfl rfl ?_
            refine WL.bin rfl rfl (iadd (by omega) (by omega)) rfl ?_
            refine WL.assign rfl rfl ?_
            refine (WL.done (WX.round ?_))
            exact hN _ (g+1) _ _ (by omega) ⟨rfl, by omega, H.weaken (List.nil_sublist _), hmm, hmn⟩ (Sub.cons (t := 21) (by first | rfl | simp) (Sub.nil _)) (Sub.cons (t := 9) rfl (Sub.cons (t := 12) rfl (Sub.nil _)))
        · -- c7 F
          refine (WC.exit (WX.then_exit (WX.then_exit (WX.block_exit (WX.next ?_)))))
          refine WC.seq ?_
          refine WC.region ?_
          refine WL.call call22 rfl rfl ?_
          refine Calls.mono (sanity4_any _ (hL.of0 H)) ?_
          rintro _ wx ⟨rfl, Hc⟩
          refine ⟨_, rfl, ?_⟩
          replace H := H.call0 Hc
          refine WL.assign rfl rfl ?_
          refine (WL.done (WX.next ?_))
          refine (WC.ret ?_)
          refine ret_one rfl rfl ?_
          exact ⟨rfl, H.weaken (List.nil_sublist _)⟩

end Go.Proofs.YtkncbggnaobgeaaDoor

/- Walks of functions of the program; printed by a program of this session (walk.py) out of hand-written hints. -/
namespace Go.Proofs.YtkncbggnaobgeaaDoor
open Go.RowKit
set_option linter.unusedVariables false
set_option linter.unusedSimpArgs false
set_option maxRecDepth 100000

theorem a_from_bare {w0 w : World} {L : Hp} {R : RM} {p k : Nat} {M : PM} {g : Nat} (hI : Is R p M k) (H : St w0 [] w (((g, .cells (arrC (imgC M.ls)) 40) :: L) ++ R.hp)) (hL : L64 w0) :
    Calls Tryd.prog 24 #[.slice (some ⟨g, 0, none⟩) M.ls.length M.ls.length] w fun e w' => ∃ p2 R2, e = .returned (ptr p2) ∧ Is R2 p2 (PM.ofImg (M.ls.map bare)) 0 ∧ St w0 [] w' ((L ++ R.hp) ++ R2.hp) := by
  have hlens := hI.lens
  have hok : imgOk (M.ls.map bare) = true := imgOk_iff.2 ⟨by simpa using hlens, fun x hx => by
    obtain ⟨l, hl, rfl⟩ := List.mem_map.1 hx
    have := hI.lok l hl
    exact ⟨this.2.1, this.2.2.1⟩⟩
  refine (a_from_opt (some ⟨g, 0, none⟩) M.ls.length M.ls.length (M.ls.map bare) (by simp) hI.bare8 (ImgIn.block (H.blk 0 rfl)) (by omega) H hL).mono fun e w' h => ?_
  obtain ⟨o, rfl, h⟩ := h
  rcases h with ⟨_, p2, R2, rfl, hI2, H2⟩ | ⟨hb, _⟩
  · exact ⟨p2, R2, rfl, hI2, H2.weaken (List.sublist_cons_self _ _)⟩
  · rw [hok] at hb; cases hb
theorem still_shown (M : PM) : (PM.ofImg (M.ls.map bare)).ls.map shown = M.ls.map base := by
  simp [PM.ofImg, List.map_map, Function.comp_def]
  intro l _; rfl
theorem still_len (M : PM) : (PM.ofImg (M.ls.map bare)).ls.length = M.ls.length := by simp [PM.ofImg]
/-- One cut's loop. -/
def wantIn (W : List (List Int)) (k : Nat) (ps : List (Int × Int)) (j : Nat) : List (List Int) := W.set k (putAll (W.getD k []) (ps.take j))
theorem wantIn_zero (W : List (List Int)) (k : Nat) (ps : List (Int × Int)) : wantIn W k ps 0 = W := by
  unfold wantIn
  rw [List.take_zero]
  show W.set k (W.getD k []) = W
  apply List.ext_getElem?
  intro i
  rw [List.getElem?_set]
  split
  · rename_i h; subst h
    split
    · rename_i h2; simp [List.getD, List.getElem?_eq_getElem h2]
    · rename_i h2; rw [List.getElem?_eq_none (by omega)]
  · rfl
theorem wantIn_succ {W : List (List Int)} {k : Nat} {ps : List (Int × Int)} {j : Nat} (h8 : ∀ r ∈ W, r.length = 8) (hk : k < W.length) (hj : j < ps.length) (hp : 0 ≤ (ps[j]).1 ∧ (ps[j]).1 < 8) : (wantIn W k ps j).flatten.set (k * 8 + (ps[j]).1.toNat) (ps[j]).2 = (wantIn W k ps (j + 1)).flatten := by
  have hW : ∀ r ∈ wantIn W k ps j, r.length = 8 := by
    intro r hr
    rcases List.mem_or_eq_of_mem_set hr with hr | rfl
    · exact h8 r hr
    · rw [putAll_len, List.getD, List.getElem?_eq_getElem hk]; exact h8 _ (List.getElem_mem hk)
  rw [← flatten_set _ _ _ _ hW (by unfold wantIn; simpa using hk) (by omega)]
  unfold wantIn
  rw [set_getD, if_pos ⟨rfl, hk⟩, List.set_set, putAll_succ hj]
theorem wantIn_8 {W : List (List Int)} {k : Nat} {ps : List (Int × Int)} {j : Nat} (h8 : ∀ r ∈ W, r.length = 8) (hk : k < W.length) : ∀ r ∈ wantIn W k ps j, r.length = 8 := by
  intro r hr
  rcases List.mem_or_eq_of_mem_set hr with hr | rfl
  · exact h8 r hr
  · rw [putAll_len, List.getD, List.getElem?_eq_getElem hk]; exact h8 _ (List.getElem_mem hk)
theorem crash_pend {M : PM} (keep : List Int) (n : Int) : ((M.crash (M.cutsOf keep)).pend n).length = 0 := by
  unfold PM.pend
  split
  · rename_i h
    have hm := line_mem h
    unfold PM.crash at hm
    rw [if_pos (cutsOf_ok M keep)] at hm
    obtain ⟨y, _, hy⟩ := List.mem_map.1 hm
    unfold PM.crash
    rw [if_pos (cutsOf_ok M keep)]
    rw [← hy]; rfl
  · rfl
theorem m_events {w : World} {R : RM} {p k : Nat} {M : PM} (hk : k ≤ 1073741824) (hI : Is R p M k) (hm : MemIn w R) :
    Calls Tryd.prog 27 #[ptr p] w fun e w' => ∃ r : Row, e = .returned (r.val M.evs.length) ∧ r.ok 12 M.evs.length (flatE M.evs) ∧ St w [] w' (r.hp 164) := by
  have h1 := hI.evs
  obtain ⟨rfl, rfl, hok, hs⟩ := hI
  exact events_any R (by omega) w hm
theorem crash_evs {M : PM} (keep : List Int) : (M.crash (M.cutsOf keep)).evs.length = 0 := by
  unfold PM.crash
  rw [if_pos (cutsOf_ok M keep)]; rfl

theorem begun_sound {w0 w : World} {L : Hp} (n : Int) (A : Option Addr) (m cap : Nat) (xs : List OpV) (hm : m = xs.length) (hm63 : m ≤ 9223372036854775807) (hx : OpsIn w0 A xs) (hok : ∀ v ∈ xs, v.ok w0) (H : St w0 [] w L) (hL : L64 w0) : Calls Tryd.prog 30 #[.int .i64 n, .slice A m cap] w fun e w' => ∃ p R, e = .returned (ptr p) ∧ Is R p (PM.begun n (plain xs)) 80 ∧ (∀ l ∈ (PM.begun n (plain xs)).ls, l.sound) ∧ St w0 [] w' (L ++ R.hp) := by
  refine calls_walk_n (args := [.int .i64 n, .slice A m cap]) Tryd.func30 rfl rfl rfl ?_
  have hn8 := mod8 n
  refine WC.seq ?_
  refine WC.region ?_
  refine WL.assign rfl rfl ?_
  refine (WL.done (WX.next ?_))
  refine WC.seq ?_
  refine WC.region ?_
  refine WL.move rfl rfl ?_
  refine WL.bin rfl rfl (iandm (k := 3) (by decide) rfl) rfl ?_
  refine WL.bin rfl rfl (iadd (by show _ ≤ 1 + n % 8; omega) (by show 1 + n % 8 ≤ _; omega)) rfl ?_
  refine WL.call call23 rfl rfl ?_
  refine Calls.mono (a_new_ok (1 + n % 8) (by omega) H hL) ?_
  rintro _ wx ⟨p, R0, rfl, hI, H⟩
  refine ⟨_, rfl, ?_⟩
  have hs0 : ∀ l ∈ ((PM.fresh (1 + n % 8).toNat).run ((plain xs).take 0)).ls, l.sound := fun l hl h => absurd (by rw [List.take_zero] at hl; rw [List.eq_of_mem_replicate hl]; rfl) h
  refine WL.assign rfl rfl ?_
  refine (WL.done (WX.next ?_))
  refine WC.seq ?_
  refine WC.seq ?_
  refine WC.region ?_
  refine WL.assign rfl rfl ?_
  refine (WL.done (WX.next ?_))
  refine WC.block ?_
  -- loop 1: changed [6] kept [1, 5]
  refine WC.loop (Sub.cons (t := 1) rfl (Sub.cons (t := 5) rfl (Sub.nil _))) (fun q : RM × Nat => [(6, .int .i64 (q.2 : Int))]) (fun q i wx => q = 80 - i.2 ∧ i.2 ≤ 80 ∧ i.2 ≤ m ∧ Is i.1 p ((PM.fresh (1 + n % 8).toNat).run ((plain xs).take i.2)) i.2 ∧ (∀ l ∈ ((PM.fresh (1 + n % 8).toNat).run ((plain xs).take i.2)).ls, l.sound) ∧ St w0 [] wx (L ++ i.1.hp)) (80) ((R0, 0)) (Sub.cons (t := 6) (by first | rfl | simp) (Sub.nil _)) (⟨rfl, by show 0 ≤ 80; omega, Nat.zero_le _, hI, hs0, H⟩) ?_
  rintro k g wx hI N hN
  obtain ⟨R, g⟩ := g
  obtain ⟨rfl, hg80, hgm, hI, hs, H⟩ := hI
  change g ≤ 80 at hg80
  change g ≤ m at hgm
  change Is R p ((PM.fresh (1 + n % 8).toNat).run ((plain xs).take g)) g at hI
  change St w0 [] wx (L ++ R.hp) at H
  have hso := PL.sound_kept.do (fun l hl => ⟨hI.lok l hl, hs l hl⟩)
  change ∀ l ∈ ((PM.fresh (1 + n % 8).toNat).run ((plain xs).take g)).ls, l.sound at hs
  refine WC.seq ?_
  refine WC.seq ?_
  refine WC.region ?_
  refine WL.move rfl rfl ?_
  refine WL.move rfl rfl ?_
  refine WL.lenSlc isl35 rfl rfl ?_
  refine WL.bin rfl rfl binv_lss rfl ?_
  refine WL.move rfl rfl ?_
  first | refine WL.splitD (t := 15) rfl (fun g1 => ?_) (fun g1 => ?_) | refine WL.split (t := 15) rfl (fun g1 => ?_) (fun g1 => ?_)
  · -- g1 True
    refine WL.yes rfl rfl ?_
    refine WL.move rfl rfl ?_
    refine WL.yes rfl rfl ?_
    refine WL.bin rfl rfl binv_lss rfl ?_
    refine WL.pickT rfl rfl rfl ?_
    refine WL.move rfl rfl ?_
    first | refine WL.splitD (t := 19) rfl (fun g2 => ?_) (fun g2 => ?_) | refine WL.split (t := 19) rfl (fun g2 => ?_) (fun g2 => ?_)
    · -- g2 True
      refine WL.yes rfl rfl ?_
      refine WL.move rfl rfl ?_
      refine WL.yes rfl rfl ?_
      refine WL.bin rfl rfl (binv_ptr_neq (by kernel_rfl) _) rfl ?_
      refine WL.pickT rfl rfl rfl ?_
      refine (WL.done (WX.next ?_))
      first | refine WC.cond_dec rfl (fun c1 => ?_) (fun c1 => ?_) | refine WC.cond rfl (fun c1 => ?_) (fun c1 => ?_)
      · -- c1 T
        refine (WC.skip (WX.next ?_))
        refine WC.seq ?_
        refine WC.block ?_
        refine WC.region ?_
        have hlt : g < xs.length := by omega
        have hv := hok _ (List.getElem_mem hlt)
        obtain ⟨b, o, cs, t, fr, rfl, hb, hcs⟩ := (hx.keep H).at hlt
        refine WL.move rfl rfl ?_
        refine WL.move rfl rfl ?_
        refine WL.move rfl rfl ?_
        refine WL.idxSlc (k := g) slc35 rfl rfl (by first | rfl | omega) (by omega) rfl ?_
        refine WL.load rfl (Rd.cellsAt ty60 hb (opC_length (A := (xs[g]).A) (cap := (xs[g]).cap) hv.x.w8) (by omega) hcs) rfl ?_
        refine WL.call call44 rfl rfl ?_
        refine Calls.mono (do_any (L := L) (xs[g]).x (xs[g]).A (xs[g]).cap hv.x hv.cuts (by omega) hI H hL) ?_
        rintro _ wx ⟨R1, rfl, hI, H⟩
        refine ⟨_, rfl, ?_⟩
        refine (WL.done (WX.block_normal (WX.next ?_)))
        refine WC.region ?_
        refine WL.move rfl rfl ?_
        refine WL.bin rfl rfl (iadd (by omega) (by omega)) rfl ?_
        refine WL.assign rfl rfl ?_
        refine (WL.done (WX.round ?_))
        rw [← plain_get xs hlt, ← run_succ] at hI
        replace hso := hso (xs[g]).x
        rw [← plain_get xs hlt, ← run_succ] at hso
        exact hN _ (R1, g + 1) _ _ (by show 80 - (g + 1) < 80 - g; omega) ⟨rfl, by show g + 1 ≤ 80; omega, by show g + 1 ≤ m; omega, hI, hso, H⟩ (Sub.cons (t := 6) (by first | rfl | simp) (Sub.nil _)) (Sub.cons (t := 1) rfl (Sub.cons (t := 5) rfl (Sub.nil _)))
      · -- c1 F
        exact absurd c1 (by simp)
    · -- g2 False
      refine WL.no rfl rfl rfl ?_
      refine WL.no rfl rfl rfl ?_
      refine WL.pickF rfl rfl rfl ?_
      refine (WL.done (WX.next ?_))
      refine WC.cond_false rfl (rfl) ?_
      refine (WC.exit (WX.then_exit (WX.then_exit (WX.block_exit (WX.next ?_)))))
      refine WC.seq ?_
      refine WC.region ?_
      refine WL.move rfl rfl ?_
      refine WL.assign rfl rfl ?_
      refine (WL.done (WX.next ?_))
      refine (WC.ret ?_)
      refine ret_one rfl rfl ?_
      have e1 : (plain xs).take g = (plain xs).take 80 := by
        rcases Nat.lt_or_ge g 80 with hl | hge
        · rw [List.take_of_length_le (by rw [plain_len]; omega), List.take_of_length_le (by rw [plain_len]; omega)]
        · rw [show g = 80 by omega]
      rw [e1] at hI hs
      exact ⟨p, R, rfl, hI.mono (by omega), hs, H⟩
  · -- g1 False
    refine WL.no rfl rfl rfl ?_
    refine WL.no rfl rfl rfl ?_
    refine WL.pickF rfl rfl rfl ?_
    refine WL.move rfl rfl ?_
    refine WL.no rfl rfl rfl ?_
    refine WL.no rfl rfl rfl ?_
    refine WL.pickF rfl rfl rfl ?_
    refine (WL.done (WX.next ?_))
    refine WC.cond_false rfl (rfl) ?_
    refine (WC.exit (WX.then_exit (WX.then_exit (WX.block_exit (WX.next ?_)))))
    refine WC.seq ?_
    refine WC.region ?_
    refine WL.move rfl rfl ?_
    refine WL.assign rfl rfl ?_
    refine (WL.done (WX.next ?_))
    refine (WC.ret ?_)
    refine ret_one rfl rfl ?_
    have e1 : (plain xs).take g = (plain xs).take 80 := by
      rcases Nat.lt_or_ge g 80 with hl | hge
      · rw [List.take_of_length_le (by rw [plain_len]; omega), List.take_of_length_le (by rw [plain_len]; omega)]
      · rw [show g = 80 by omega]
    rw [e1] at hI hs
    exact ⟨p, R, rfl, hI.mono (by omega), hs, H⟩

theorem keepsPrefixes_any (w : World) (hL : L64 w) (n : Int) (A : Option Addr) (m cap : Nat) (xs : List OpV) (hm : m = xs.length) (hm63 : m ≤ 9223372036854775807) (hx : OpsIn w A xs) (hok : ∀ v ∈ xs, v.ok w) (A2 : Option Addr) (m2 cap2 : Nat) (keep : List Int) (hm2 : m2 = keep.length) (hm263 : m2 ≤ 9223372036854775807) (hkp : IntsIn w A2 keep) : Calls Tryd.prog 11 #[.int .i64 n, .slice A m cap, .slice A2 m2 cap2] w fun e w' => e = .returned (.bool true) ∧ St w [] w' [] := by
  refine calls_walk_n (args := [.int .i64 n, .slice A m cap, .slice A2 m2 cap2]) Tryd.func11 rfl rfl rfl ?_
  have H := St.refl w
  refine WC.seq ?_
  refine WC.region ?_
  refine WL.assign rfl rfl ?_
  refine (WL.done (WX.next ?_))
  refine WC.seq ?_
  refine WC.region ?_
  refine WL.move rfl rfl ?_
  refine WL.move rfl rfl ?_
  refine WL.call call30 rfl rfl ?_
  refine Calls.mono (begun_sound n A m cap xs hm hm63 hx hok H hL) ?_
  rintro _ wx ⟨p, R, rfl, hI, hso, H⟩
  refine ⟨_, rfl, ?_⟩
  have hlens := hI.lens
  have hlok := hI.lok
  generalize PM.begun n (plain xs) = M at hI hlens hlok hso
  refine WL.assign rfl rfl ?_
  refine (WL.done (WX.next ?_))
  refine WC.seq ?_
  refine WC.seq ?_
  refine WC.region ?_
  refine WL.move rfl rfl ?_
  refine WL.bin rfl rfl (binv_ptr_eql (by kernel_rfl) _) rfl ?_
  refine (WL.done (WX.next ?_))
  refine WC.cond_false rfl (rfl) ?_
  refine (WC.skip (WX.next ?_))
  refine WC.seq ?_
  refine WC.region ?_
  refine WL.move rfl rfl ?_
  refine WL.move rfl rfl ?_
  refine WL.call call38 rfl rfl ?_
  refine Calls.mono (cuts_any A2 m2 cap2 keep hm2 hm263 (hkp) (by omega) hI H hL) ?_
  rintro _ wx ⟨r, rfl, hr, H⟩
  refine ⟨_, rfl, ?_⟩
  refine WL.assign rfl rfl ?_
  refine (WL.done (WX.next ?_))
  refine WC.seq ?_
  refine WC.region ?_
  refine WL.move rfl rfl ?_
  refine WL.call call29 rfl rfl ?_
  refine Calls.mono (a_image hI H hL) ?_
  rintro _ wx ⟨gi, rfl, H⟩
  refine ⟨_, rfl, ?_⟩
  refine WL.call call24 rfl rfl ?_
  refine Calls.mono (a_from_bare hI H hL) ?_
  rintro _ wx ⟨ps, Rs, rfl, hIs, H⟩
  refine ⟨_, rfl, ?_⟩
  refine WL.assign rfl rfl ?_
  refine (WL.done (WX.next ?_))
  refine WC.seq ?_
  refine WC.seq ?_
  refine WC.region ?_
  refine WL.move rfl rfl ?_
  refine WL.bin rfl rfl (binv_ptr_eql (by kernel_rfl) _) rfl ?_
  refine (WL.done (WX.next ?_))
  refine WC.cond_false rfl (rfl) ?_
  refine (WC.skip (WX.next ?_))
  refine WC.seq ?_
  refine WC.region ?_
  refine WL.move rfl rfl ?_
  refine WL.call call34 rfl rfl ?_
  refine Calls.mono (a_seen hIs H hL) ?_
  rintro _ wx ⟨gw, rfl, H⟩
  refine ⟨_, rfl, ?_⟩
  rw [seenC_rows, still_shown] at H
  rw [still_len]
  replace H := H.weaken (List.sublist_append_left _ _)
  change St w [] wx (((gw, .cells (arrC (wantTo M (M.cutsOf keep) 0).flatten) 38) :: (r.hp 109 ++ [])) ++ R.hp) at H
  have hcl := cutsOf_len M keep
  refine WL.assign rfl rfl ?_
  refine (WL.done (WX.next ?_))
  refine WC.seq ?_
  refine WC.seq ?_
  refine WC.region ?_
  refine WL.move rfl rfl ?_
  refine WL.lenSlc isl45 rfl rfl ?_
  refine WL.move rfl rfl ?_
  refine WL.call call26 rfl rfl ?_
  refine Calls.mono (a_lines hI H hL) ?_
  rintro _ wx ⟨rfl, rfl⟩
  refine ⟨_, rfl, ?_⟩
  refine WL.bin rfl rfl binv_neq rfl ?_
  refine (WL.done (WX.next ?_))
  refine WC.cond_false rfl (decide_eq_false (by omega)) ?_
  refine (WC.skip (WX.next ?_))
  refine WC.seq ?_
  refine WC.seq ?_
  refine WC.region ?_
  refine WL.move rfl rfl ?_
  refine WL.lenR isl50 rfl rfl ?_
  refine WL.move rfl rfl ?_
  refine (WL.done (WX.next ?_))
  refine WC.block ?_
  -- loop 1: changed [38] kept [7, 8, 10, 36, 37]
  refine WC.loop (Sub.cons (t := 7) rfl (Sub.cons (t := 8) rfl (Sub.cons (t := 10) rfl (Sub.cons (t := 36) rfl (Sub.cons (t := 37) rfl (Sub.nil _)))))) (fun i : Nat => [(38, .int .i64 (i : Int))]) (fun q i wx => q = (M.cutsOf keep).length - i ∧ i ≤ (M.cutsOf keep).length ∧ St w [] wx (((gw, .cells (arrC (wantTo M (M.cutsOf keep) i).flatten) 38) :: (r.hp 109 ++ [])) ++ R.hp)) ((M.cutsOf keep).length) (0) (Sub.cons (t := 38) (by first | rfl | simp) (Sub.nil _)) (⟨rfl, Nat.zero_le _, H⟩) ?_
  rintro k i wx hI0 N hN
  obtain ⟨rfl, hi, H⟩ := hI0
  refine WC.seq ?_
  refine WC.region ?_
  refine WL.bin rfl rfl binv_lss rfl ?_
  refine (WL.done (WX.next ?_))
  refine WC.seq ?_
  first | refine WC.cond_dec rfl (fun c4 => ?_) (fun c4 => ?_) | refine WC.cond rfl (fun c4 => ?_) (fun c4 => ?_)
  · -- c4 T
    refine (WC.skip (WX.next ?_))
    refine WC.seq ?_
    refine WC.block ?_
    refine WC.seq ?_
    refine WC.region ?_
    have hit : i < (M.cutsOf keep).length := by omega
    obtain ⟨c, hceq⟩ : ∃ c, c = (M.cutsOf keep)[i] := ⟨_, rfl⟩
    obtain ⟨li, hil, hc1, hcp, hc2, hc3⟩ := cutsTo_mem (show c ∈ M.cutsOf keep from hceq ▸ List.getElem_mem hit)
    obtain ⟨g1, cap1, cur, rfl⟩ := Row.is_some hr (by omega)
    have hp := Row.getP hr hit
    rw [← hceq] at hp
    rw [← hc1] at hcp hc3
    have hix : 0 + i * 2 = 2 * i := by omega
    have hlm : M.line c.1 ∈ M.ls := by rw [hc1]; exact line_mem (has_of hil)
    have hpb := hI.sm.ps _ hlm
    have hw8 := wantTo_8 hlok (M.cutsOf keep) i
    have hwl := wantTo_len M (M.cutsOf keep) i
    refine WL.idxSlc (k := i) slc50 rfl rfl (by first | rfl | omega) (by omega) rfl ?_
    first | refine WL.load rfl (Rd.pair ty109 (H.sat (g1, .cells cur 109) (by simp [Row.hp])) (by rw [hix]; exact hp.1) (by rw [hix]; exact hp.2)) rfl ?_
    refine WL.alloc H zer109 rfl ?_
    intro b12 wx hb12 hge12 H
    first | (refine WL.storeAt H ty109 0 rfl rfl rfl rfl (by simp [Value.cells, Value.oneCell']) (by first | decide | (simp only [wr_size]; decide) | simp [wr_size]) ?_)
    intro wx H
    refine (WL.done (WX.next ?_))
    refine WC.seq ?_
    refine WC.region ?_
    change St w [] wx ((b12, .cells #[.int .i64 c.1, .int .i64 c.2] 109) :: (((gw, .cells (arrC (wantTo M (M.cutsOf keep) i).flatten) 38) :: ((Row.some g1 cap1 cur).hp 109 ++ [])) ++ R.hp)) at H
    refine WL.move rfl rfl ?_
    refine WL.fieldAddr fld109_0 rfl rfl ?_
    first | refine WL.load rfl (H.rd1 ty3 0 rfl rfl) rfl ?_ | refine WL.load rfl (H.rdA ty3 0 rfl (by decide)) rfl ?_
    refine WL.call call39 rfl rfl ?_
    refine Calls.mono (m_pending c.1 (by omega) hI (hI.mem (L := (b12, .cells #[.int .i64 c.1, .int .i64 c.2] 109) :: (gw, .cells (arrC (wantTo M (M.cutsOf keep) i).flatten) 38) :: ((Row.some g1 cap1 cur).hp 109 ++ [])) H hL)) ?_
    rintro _ wx ⟨r2, rfl, hr2, Hc⟩
    refine ⟨_, rfl, ?_⟩
    replace H := H.call Hc
    replace H := H.perm List.perm_append_comm
    have hpe : M.pend c.1 = (M.line c.1).ps := by rw [hc1]; exact pend_of hil
    rw [hpe] at hr2 ⊢
    refine WL.assign rfl rfl ?_
    refine (WL.done (WX.next ?_))
    refine WC.seq ?_
    refine WC.region ?_
    refine WL.assign rfl rfl ?_
    refine (WL.done (WX.next ?_))
    refine WC.block ?_
    -- loop 2: changed [14] kept [7, 8, 10, 12, 13, 36, 37, 38]
    refine WC.loop (Sub.cons (t := 7) rfl (Sub.cons (t := 8) rfl (Sub.cons (t := 10) rfl (Sub.cons (t := 12) rfl (Sub.cons (t := 13) rfl (Sub.cons (t := 36) rfl (Sub.cons (t := 37) rfl (Sub.cons (t := 38) rfl (Sub.nil _))))))))) (fun j : Nat => [(14, .int .i64 (j : Int))]) (fun q j wx => q = c.2.toNat - j ∧ j ≤ c.2.toNat ∧ St w [] wx (((b12, .cells #[.int .i64 c.1, .int .i64 c.2] 109) :: (gw, .cells (arrC (wantIn (wantTo M (M.cutsOf keep) i) li (M.line c.1).ps j).flatten) 38) :: (((Row.some g1 cap1 cur).hp 109 ++ []) ++ R.hp)) ++ r2.hp 111)) (c.2.toNat) (0) (Sub.cons (t := 14) (by first | rfl | simp) (Sub.nil _)) (⟨rfl, Nat.zero_le _, by rw [wantIn_zero]; exact H⟩) ?_
    rintro k g wx hI0 N2 hN2
    obtain ⟨rfl, hg, H⟩ := hI0
    refine WC.seq ?_
    refine WC.seq ?_
    refine WC.region ?_
    refine WL.move rfl rfl ?_
    refine WL.fieldAddr fld109_1 rfl rfl ?_
    first | refine WL.load rfl (H.rd1 ty3 0 rfl rfl) rfl ?_ | refine WL.load rfl (H.rdA ty3 0 rfl (by decide)) rfl ?_
    refine WL.bin rfl rfl binv_lss rfl ?_
    refine WL.move rfl rfl ?_
    first | refine WL.splitD (t := 50) rfl (fun g1 => ?_) (fun g1 => ?_) | refine WL.split (t := 50) rfl (fun g1 => ?_) (fun g1 => ?_)
    · -- g1 True
      refine WL.yes rfl rfl ?_
      refine WL.move rfl rfl ?_
      refine WL.yes rfl rfl ?_
      refine WL.move rfl rfl ?_
      refine WL.yes rfl rfl ?_
      refine WL.lenR isl52 rfl rfl ?_
      refine WL.yes rfl rfl ?_
      refine WL.bin rfl rfl binv_lss rfl ?_
      refine WL.pickT rfl rfl rfl ?_
      refine (WL.done (WX.next ?_))
      first | refine WC.cond_dec rfl (fun c5 => ?_) (fun c5 => ?_) | refine WC.cond rfl (fun c5 => ?_) (fun c5 => ?_)
      · -- c5 T
        refine (WC.skip (WX.next ?_))
        refine WC.seq ?_
        refine WC.block ?_
        have hjl : g < (M.line c.1).ps.length := by omega
        obtain ⟨g2, capx, cur2, rfl⟩ := Row.is_some hr2 (by omega)
        have hp2 := Row.getP hr2 hjl
        have hpk := (hlok _ hlm).2.2.2.2 _ (List.getElem_mem hjl)
        have hg2n : g2 ∉ [gw] := by simpa using (H.perm List.perm_append_comm).ne 0 2 rfl rfl rfl
        have hfl : (wantIn (wantTo M (M.cutsOf keep) i) li (M.line c.1).ps g).flatten.length = M.ls.length * 8 := by
          rw [(flatten_get (by omega) _ (wantIn_8 hw8 (by omega))).1]; unfold wantIn; rw [List.length_set, hwl]
        replace H := H.drew
        refine WC.held (SX (World.drew wx) [gw]) (by kernel_rfl) ?_
        generalize World.drew wx = wb at H ⊢
        have HB := H.single 1 rfl
        refine WH.take 0 rfl (by kernel_rfl) (by kernel_rfl) (by kernel_rfl) (fun _ _ _ h => h) ⟨_, HB⟩ (fun w' hS => EX.move rfl) rfl ?_
        refine WH.take 1 rfl (by kernel_rfl) (by kernel_rfl) (by kernel_rfl) (fun _ _ _ h => h) ⟨_, HB⟩ (fun w' hS => EX.fieldAddr fld109_0 rfl) rfl ?_
        first | refine WH.take 2 rfl (by kernel_rfl) (by kernel_rfl) (by kernel_rfl) (fun _ _ _ h => h) ⟨_, HB⟩ (fun w' hS => EX.load rfl (hS.rd1 ty3 (H.blk 0 rfl) (by simpa using H.ne 0 1 rfl rfl rfl) rfl)) rfl ?_ | refine WH.take 2 rfl (by kernel_rfl) (by kernel_rfl) (by kernel_rfl) (fun _ _ _ h => h) ⟨_, HB⟩ (fun w' hS => EX.load rfl (hS.rdA ty3 (H.blk 0 rfl) (by simpa using H.ne 0 1 rfl rfl rfl) (by decide))) rfl ?_
        refine WH.take 3 rfl (by kernel_rfl) (by kernel_rfl) (by kernel_rfl) (fun _ _ _ h => h) ⟨_, HB⟩ (fun w' hS => EX.move rfl) rfl ?_
        refine WH.take 4 rfl (by kernel_rfl) (by kernel_rfl) (by kernel_rfl) (fun _ _ _ h => h) ⟨_, HB⟩ (fun w' hS => EX.move rfl) rfl ?_
        refine WH.take 5 rfl (by kernel_rfl) (by kernel_rfl) (by kernel_rfl) (fun _ _ _ h => h) ⟨_, HB⟩ (fun w' hS => EX.idxSlc (k := g) slc52 rfl rfl (by first | rfl | omega) (by omega)) rfl ?_
        refine WH.take 6 rfl (by kernel_rfl) (by kernel_rfl) (by kernel_rfl) (fun _ _ _ h => h) ⟨_, HB⟩ (fun w' hS => EX.fieldAddr fld111_0 rfl) rfl ?_
        first | refine WH.take 7 rfl (by kernel_rfl) (by kernel_rfl) (by kernel_rfl) (fun _ _ _ h => h) ⟨_, HB⟩ (fun w' hS => EX.load rfl (hS.rd1 ty3 (H.sat (g2, .cells cur2 111) (by simp [Row.hp])) hg2n ((congrArg (fun o => cur2[o]?) (by omega)).trans hp2.1))) rfl ?_
        refine WH.take 8 rfl (by kernel_rfl) (by kernel_rfl) (by kernel_rfl) (fun _ _ _ h => h) ⟨_, HB⟩ (fun w' hS => EX.bin rfl rfl (iandm (k := 3) (by decide) rfl)) rfl ?_
        refine WH.take 9 rfl (by kernel_rfl) (by kernel_rfl) (by kernel_rfl) (fun _ _ _ h => h) ⟨_, HB⟩ (fun w' hS => EX.move rfl) rfl ?_
        refine WH.take 10 rfl (by kernel_rfl) (by kernel_rfl) (by kernel_rfl) (fun _ _ _ h => h) ⟨_, HB⟩ (fun w' hS => EX.move rfl) rfl ?_
        refine WH.take 11 rfl (by kernel_rfl) (by kernel_rfl) (by kernel_rfl) (fun _ _ _ h => h) ⟨_, HB⟩ (fun w' hS => EX.idxSlc (k := g) slc52 rfl rfl (by first | rfl | omega) (by omega)) rfl ?_
        refine WH.take 12 rfl (by kernel_rfl) (by kernel_rfl) (by kernel_rfl) (fun _ _ _ h => h) ⟨_, HB⟩ (fun w' hS => EX.fieldAddr fld111_1 rfl) rfl ?_
        first | refine WH.take 13 rfl (by kernel_rfl) (by kernel_rfl) (by kernel_rfl) (fun _ _ _ h => h) ⟨_, HB⟩ (fun w' hS => EX.load rfl (hS.rd1 ty3 (H.sat (g2, .cells cur2 111) (by simp [Row.hp])) hg2n ((congrArg (fun o => cur2[o]?) (by omega)).trans hp2.2))) rfl ?_
        refine WH.take 14 rfl (by kernel_rfl) (by kernel_rfl) (by kernel_rfl) (fun _ _ _ h => h) ⟨_, HB⟩ (fun w' hS => EX.idxSlc (k := li) slc45 rfl rfl (by rw [hc1]) (hil)) rfl ?_
        refine WH.take 15 rfl (by kernel_rfl) (by kernel_rfl) (by kernel_rfl) (fun _ _ _ h => h) ⟨_, HB⟩ (fun w' hS => EX.idxArr (k := ((M.line c.1).ps[g]).1.toNat) (z := ((M.line c.1).ps[g]).1 % 2 ^ 3) arr38 rfl rfl (by rw [Int.toNat_of_nonneg hpk.1]; exact Int.emod_eq_of_lt hpk.1 (by omega)) (by omega)) rfl ?_
        refine WH.hard 16 rfl (by kernel_rfl) ?_
        refine WL.storeElt HB ty3 0 rfl rfl rfl (by rw [hfl]; omega) ?_
        intro wx HB
        refine WL.done (WX.heldOn ⟨_, HB⟩ ?_)
        refine WH.done (by kernel_rfl) ?_
        replace H := H.back (N := []) 1 rfl HB rfl
        refine (WX.block_normal (WX.next ?_))
        refine WC.region ?_
        refine WL.move rfl rfl ?_
        refine WL.bin rfl rfl (iadd (by omega) (by omega)) rfl ?_
        refine WL.assign rfl rfl ?_
        refine (WL.done (WX.round ?_))
        rw [show 0 + li * 8 + ((M.line c.1).ps[g]).1.toNat * 1 = li * 8 + ((M.line c.1).ps[g]).1.toNat from by omega, wantIn_succ hw8 (by omega) hjl ⟨hpk.1, hpk.2.1⟩] at H
        exact hN2 _ (g + 1) _ _ (by omega) ⟨rfl, by omega, H⟩ (Sub.cons (t := 14) (by first | rfl | simp) (Sub.nil _)) (Sub.cons (t := 7) rfl (Sub.cons (t := 8) rfl (Sub.cons (t := 10) rfl (Sub.cons (t := 12) rfl (Sub.cons (t := 13) rfl (Sub.cons (t := 36) rfl (Sub.cons (t := 37) rfl (Sub.cons (t := 38) rfl (Sub.nil _)))))))))
      · -- c5 F
        refine (WC.exit (WX.then_exit (WX.then_exit (WX.block_exit (WX.block_normal (WX.next ?_))))))
        refine WC.region ?_
        refine WL.bin rfl rfl (iadd (by omega) (by omega)) rfl ?_
        refine WL.move rfl rfl ?_
        refine (WL.done (WX.round ?_))
        obtain rfl : g = c.2.toNat := by omega
        have e1 : wantIn (wantTo M (M.cutsOf keep) i) li (M.line c.1).ps c.2.toNat = wantTo M (M.cutsOf keep) (i + 1) := by rw [wantTo_succ hit, ← hceq, hc1, Int.toNat_natCast]; rfl
        rw [e1] at H
        exact hN _ (i + 1) _ _ (by omega) ⟨rfl, by omega, (H.weaken (List.sublist_append_left _ _)).weaken (List.sublist_cons_self _ _)⟩ (Sub.cons (t := 38) (by first | rfl | simp) (Sub.nil _)) (Sub.cons (t := 7) rfl (Sub.cons (t := 8) rfl (Sub.cons (t := 10) rfl (Sub.cons (t := 36) rfl (Sub.cons (t := 37) rfl (Sub.nil _))))))
    · -- g1 False
      refine WL.no rfl rfl rfl ?_
      refine WL.no rfl rfl rfl ?_
      refine WL.no rfl rfl rfl ?_
      refine WL.no rfl rfl rfl ?_
      refine WL.pickF rfl rfl rfl ?_
      refine (WL.done (WX.next ?_))
      refine WC.cond_false rfl (rfl) ?_
      refine (WC.exit (WX.then_exit (WX.then_exit (WX.block_exit (WX.block_normal (WX.next ?_))))))
      refine WC.region ?_
      refine WL.bin rfl rfl (iadd (by omega) (by omega)) rfl ?_
      refine WL.move rfl rfl ?_
      refine (WL.done (WX.round ?_))
      obtain rfl : g = c.2.toNat := by omega
      have e1 : wantIn (wantTo M (M.cutsOf keep) i) li (M.line c.1).ps c.2.toNat = wantTo M (M.cutsOf keep) (i + 1) := by rw [wantTo_succ hit, ← hceq, hc1, Int.toNat_natCast]; rfl
      rw [e1] at H
      exact hN _ (i + 1) _ _ (by omega) ⟨rfl, by omega, (H.weaken (List.sublist_append_left _ _)).weaken (List.sublist_cons_self _ _)⟩ (Sub.cons (t := 38) (by first | rfl | simp) (Sub.nil _)) (Sub.cons (t := 7) rfl (Sub.cons (t := 8) rfl (Sub.cons (t := 10) rfl (Sub.cons (t := 36) rfl (Sub.cons (t := 37) rfl (Sub.nil _))))))
  · -- c4 F
    refine (WC.exit (WX.then_exit (WX.then_exit (WX.block_exit (WX.next ?_)))))
    refine WC.seq ?_
    refine WC.seq ?_
    refine WC.region ?_
    obtain rfl : i = (M.cutsOf keep).length := by omega
    refine WL.move rfl rfl ?_
    refine WL.move rfl rfl ?_
    refine WL.call call37 rfl rfl ?_
    refine Calls.mono (a_crash_row (L2 := [(gw, .cells (arrC (wantTo M (M.cutsOf keep) (M.cutsOf keep).length).flatten) 38)]) hr (by omega) (by omega) hI (H.perm (by classical exact List.perm_iff_count.2 (fun q => by simp only [List.count_append, List.count_cons, List.count_nil, Nat.add_zero, Nat.zero_add] <;> ac_rfl))) hL) ?_
    rintro _ wx ⟨R, rfl, hI, H⟩
    refine ⟨_, rfl, ?_⟩
    have hmm := hI.mem H hL
    have hcut := cutsOf_ok M keep
    have hkeeps := keeps_prefixes hlok hso keep
    have hw8 := wantTo_8 hlok (M.cutsOf keep) (M.cutsOf keep).length
    have hwl := wantTo_len M (M.cutsOf keep) (M.cutsOf keep).length
    have hcl2 := crash_len M (M.cutsOf keep)
    refine WL.bin rfl rfl binv_neq rfl ?_
    refine WL.move rfl rfl ?_
    refine WL.known (t := 79) rfl (b := false) (decide_eq_false (by rw [hcut]; simp)) ?_
    refine WL.yes rfl rfl ?_
    refine WL.move rfl rfl ?_
    refine WL.yes rfl rfl ?_
    refine WL.call call34 rfl rfl ?_
    refine Calls.mono (m_seen hI hmm (hL.of0 H)) ?_
    rintro _ wx ⟨ga, rfl, Hc⟩
    refine ⟨_, rfl, ?_⟩
    replace H := H.call Hc
    replace hmm := hmm.old Hc
    refine WL.yes rfl rfl ?_
    refine WL.move rfl rfl ?_
    refine WL.yes rfl rfl ?_
    refine WL.call call42 rfl rfl ?_
    refine Calls.mono (sameSeen_any _ _ _ _ _ _ _ _ (by simp) (by rw [hwl]) _ (RowsIn.seen hI.shown8 (H.blk 0 rfl)) (RowsIn.block hw8 (H.sat (gw, .cells (arrC (wantTo M (M.cutsOf keep) (M.cutsOf keep).length).flatten) 38) (by simp))) (by omega)) ?_
    rintro _ wx ⟨rfl, Hc⟩
    refine ⟨_, rfl, ?_⟩
    replace H := H.call0 Hc
    replace hmm := hmm.old Hc
    refine WL.yes rfl rfl ?_
    refine WL.notOp rfl rfl ?_
    refine WL.pickF rfl rfl rfl ?_
    refine WL.move rfl rfl ?_
    refine WL.known (t := 86) rfl (b := false) (by rw [decide_eq_true hkeeps]; rfl) ?_
    refine WL.yes rfl rfl ?_
    refine WL.move rfl rfl ?_
    refine WL.yes rfl rfl ?_
    refine WL.call call27 rfl rfl ?_
    refine Calls.mono (m_events (by omega) hI hmm) ?_
    rintro _ wx ⟨r3, rfl, hr3, Hc⟩
    refine ⟨_, rfl, ?_⟩
    replace H := H.call Hc
    replace hmm := hmm.old Hc
    rw [crash_evs keep]
    refine WL.yes rfl rfl ?_
    refine WL.lenR isl30 rfl rfl ?_
    refine WL.yes rfl rfl ?_
    refine WL.bin rfl rfl binv_neq rfl ?_
    refine WL.pickF rfl rfl rfl ?_
    refine (WL.done (WX.next ?_))
    refine WC.cond_false rfl (decide_eq_false (by omega)) ?_
    refine (WC.skip (WX.next ?_))
    refine WC.seq ?_
    refine WC.seq ?_
    refine WC.region ?_
    refine WL.assign rfl rfl ?_
    refine (WL.done (WX.next ?_))
    refine WC.block ?_
    -- loop 3: changed [15] kept [7]
    replace H := H.weaken (List.nil_sublist _)
    refine WC.loop (Sub.cons (t := 7) rfl (Sub.nil _)) (fun i : Nat => [(15, .int .i64 (i : Int))]) (fun q i wx => q = (M.crash (M.cutsOf keep)).ls.length - i ∧ i ≤ (M.crash (M.cutsOf keep)).ls.length ∧ St w [] wx [] ∧ MemIn wx R) ((M.crash (M.cutsOf keep)).ls.length) (0) (Sub.cons (t := 15) (by first | rfl | simp) (Sub.nil _)) (⟨rfl, Nat.zero_le _, H, hmm⟩) ?_
    rintro k g wx hI9 N hN
    obtain ⟨rfl, hg, H, hmm⟩ := hI9
    refine WC.seq ?_
    refine WC.seq ?_
    refine WC.region ?_
    refine WL.move rfl rfl ?_
    refine WL.move rfl rfl ?_
    refine WL.call call26 rfl rfl ?_
    refine Calls.mono (m_lines hI hmm) ?_
    rintro _ wx ⟨rfl, rfl⟩
    refine ⟨_, rfl, ?_⟩
    refine WL.bin rfl rfl binv_lss rfl ?_
    refine (WL.done (WX.next ?_))
    first | refine WC.cond_dec rfl (fun c8 => ?_) (fun c8 => ?_) | refine WC.cond rfl (fun c8 => ?_) (fun c8 => ?_)
    · -- c8 T
      refine (WC.skip (WX.next ?_))
      refine WC.seq ?_
      refine WC.block ?_
      refine WC.seq ?_
      refine WC.region ?_
      refine WL.move rfl rfl ?_
      refine WL.move rfl rfl ?_
      refine WL.call call39 rfl rfl ?_
      refine Calls.mono (m_pending (g : Int) (by omega) hI hmm) ?_
      rintro _ wx ⟨r4, rfl, hr4, Hc⟩
      refine ⟨_, rfl, ?_⟩
      replace H := H.call Hc
      replace hmm := hmm.old Hc
      rw [crash_pend keep]
      refine WL.lenR isl52 rfl rfl ?_
      refine WL.bin rfl rfl binv_neq rfl ?_
      refine (WL.done (WX.next ?_))
      first | refine WC.cond_dec rfl (fun c9 => ?_) (fun c9 => ?_) | refine WC.cond rfl (fun c9 => ?_) (fun c9 => ?_)
      · -- c9 T
        first | omega | (simp at c9)
      · -- c9 F
        refine (WC.skip (WX.block_normal (WX.next ?_)))
        refine WC.region ?_
        refine WL.move rfl rfl ?_
        refine WL.bin rfl rfl (iadd (by omega) (by omega)) rfl ?_
        refine WL.assign rfl rfl ?_
        refine (WL.done (WX.round ?_))
        exact hN _ (g+1) _ _ (by omega) ⟨rfl, by omega, H.weaken (List.nil_sublist _), hmm⟩ (Sub.cons (t := 15) (by first | rfl | simp) (Sub.nil _)) (Sub.cons (t := 7) rfl (Sub.nil _))
    · -- c8 F
      refine (WC.exit (WX.then_exit (WX.then_exit (WX.block_exit (WX.next ?_)))))
      refine WC.seq ?_
      refine WC.region ?_
      refine WL.call call22 rfl rfl ?_
      refine Calls.mono (q_sanity hL H) ?_
      rintro _ wx ⟨rfl, Hc⟩
      refine ⟨_, rfl, ?_⟩
      replace H := H.call0 Hc
      refine WL.assign rfl rfl ?_
      refine (WL.done (WX.next ?_))
      refine (WC.ret ?_)
      refine ret_one rfl rfl ?_
      exact ⟨rfl, H.weaken (List.nil_sublist _)⟩

end Go.Proofs.YtkncbggnaobgeaaDoor

/- MemoryKeepsPrefixes: for every script and failure, the law returns true and its arguments read behind the call as they did. No condition but the given card's own. -/
namespace Go.Proofs.YtkncbggnaobgeaaDoor
open Go.ChangeShapes Go.WideShapes Go.ChangeAt Go.WideMaps Go.WideElems Go.RowKit
set_option linter.unusedVariables false
set_option maxRecDepth 100000

theorem keeps_met (os : Os) (args : Array Value) : laidMetH Tryd.prog Rows.memoryKeepsPrefixesRow.laid ((World.doorLaid Tryd.prog 31 os).forCall (fun _ _ => 0) ⟨#[], args, []⟩).memory :=
  laidMetH_of_parts3 (fuel := 8) (laidMet_of_run' 8 (by kernel_rfl) (by kernel_rfl)) (by kernel_rfl) (by kernel_rfl)

set_option maxRecDepth 100000 in
theorem keeps_lifted (os : Os) (started : os.Started) (H : Type) (enc : TypeId × Value → H) :
    ReturnsInHanded {} Tryd.checked os 11 .any (fun w args => (Rows.memoryKeepsPrefixesSpec.pre enc Tryd.prog Tryd.f11 [] false w args ∧ laidMetH Tryd.prog Rows.memoryKeepsPrefixesRow.laid w) ∧ sizedMet enc Tryd.prog Tryd.f11 (OpenSpec.ofChange Rows.memoryKeepsPrefixesSpec) false w args)
      (Rows.memoryKeepsPrefixesSpec.post enc Tryd.prog Tryd.f11 false true false false) := by
  refine returnsInHanded_of_change_and (C := Tryd.checked) (X := fun w _ => laidMetH Tryd.prog Rows.memoryKeepsPrefixesRow.laid w) (fun _ _ _ hh h => h.of_heap hh) own started (by kernel_rfl) Tryd.func11
    (ChangeSpec.witness_shaped (enc := enc) (C := Tryd.checked) (os := os) (X := fun w _ => laidMetH Tryd.prog Rows.memoryKeepsPrefixesRow.laid w) false (World.doorLaid Tryd.prog 31 os) #[.int .i64 0, .slice none 0 0, .slice none 0 0] 8 rfl (World.shaped_of_RefB (by kernel_rfl) (by kernel_rfl)) (by kernel_rfl) (by kernel_rfl) (by kernel_rfl) (keeps_met os _)) ?_
  intro W base args ds gs before hval0 hW _ _ hL _
  have hval : ∀ (j : Nat) t v, Tryd.f11.params[j]? = some t → args[j]? = some v → Value.okWide Tryd.prog W .any base t v := hval0
  have hW' := hW
  obtain ⟨p, q, hA0, hV, _, _, _⟩ := hW
  have hA : DataW.TrodAll enc Tryd.prog W 0 (fun _ => true) true Tryd.f11.params.toList args.toList ds p := hA0
  rw [Tryd.params11] at hA hval
  obtain ⟨v0, vs0, d0, ds0, p0, q0, hargs, rfl, rfl, h0, r0⟩ := trodAll_cons hA
  obtain ⟨v1, vs1, d1, ds1, p1, q1, rfl, rfl, rfl, h1, r1⟩ := trodAll_cons r0
  obtain ⟨v2, vs2, d2, ds2, p2, q2, rfl, rfl, rfl, h2, r2⟩ := trodAll_cons r1
  obtain ⟨rfl, rfl, rfl⟩ := trodAll_nil r2
  obtain rfl : args = #[v0, v1, v2] := by cases args; simp_all
  obtain ⟨rfl, rfl⟩ := trodVars_none hV
  rw [MakeChecks.laidMetH_plain _ _ _ (by kernel_rfl)] at hL
  have hL64 := L64.laid hL (by unfold Rows.memoryKeepsPrefixesRow; simp)
  obtain ⟨n, rfl, rfl, rfl, w0⟩ := open_int Tryd.underlying3 (hval 0 3 v0 rfl rfl) h0
  obtain ⟨A1, cap1, xs1, rfl, hm1, hx1, hok1⟩ := ops_open (hval 1 35 v1 rfl rfl) h1
  obtain ⟨A2, cap2, xs2, rfl, hm2, hx2⟩ := ints_open Tryd.underlying43 Tryd.underlying3 (by kernel_rfl) (hval 2 43 v2 rfl rfl) h2
  refine (keepsPrefixes_any W hL64 n A1 xs1.length cap1 xs1 rfl hm1 hx1 hok1 A2 xs2.length cap2 xs2 rfl hm2 hx2).mono fun e W' ⟨he, st⟩ => ?_
  subst he
  exact ⟨_, rfl, post_law laidOut Tryd.underlying4 rfl rfl rfl (by kernel_rfl) hW' st⟩

theorem keeps_j9 : (Rows.memoryKeepsPrefixesRow.inPlace == Tryd.prog.inPlace 11) = true := by kernel_rfl
theorem keeps_j10 : (Rows.memoryKeepsPrefixesRow.unfollowed == Tryd.prog.unfollowed 11) = true := by kernel_rfl
theorem keeps_j11 : (Rows.memoryKeepsPrefixesRow.recurses == Tryd.prog.recurses 11) = true := by kernel_rfl
theorem keeps_j12 : (Rows.memoryKeepsPrefixesRow.named == Tryd.prog.varsNamed 11) = true := by kernel_rfl
theorem keeps_joined : joinedFacts Tryd.prog 11 Tryd.f11 Rows.memoryKeepsPrefixesSpec Rows.memoryKeepsPrefixesRow = true :=
  joined_mk _ _ _ _ _ (by kernel_rfl) k_laid k_maps (by kernel_rfl) (by kernel_rfl) (by kernel_rfl) k_stops (by kernel_rfl) k_knobs keeps_j9 keeps_j10 keeps_j11 keeps_j12
    (by kernel_rfl) (by kernel_rfl) (by kernel_rfl) (by kernel_rfl) (by kernel_rfl) (by kernel_rfl) (by kernel_rfl) (by kernel_rfl) (by kernel_rfl) (by rw [k_keys]; rfl) (by kernel_rfl) k_heard head_may (by rw [head_final]; rfl) (by rw [head_make]; rfl)
    (by kernel_rfl) (by kernel_rfl) (by kernel_rfl) (by kernel_rfl)
theorem keeps_name : Tryd.prog.funcNamed "alum/alumlaw04.MemoryKeepsPrefixes" = some 11 := by kernel_rfl
theorem keeps_row : Rows.MemoryKeepsPrefixesSaid :=
  OpenClaim.holds_of_wide 11 Tryd.f11 rfl rfl rfl rfl rfl rfl rfl ⟨rfl, rfl, rfl, rfl, rfl⟩ rfl rfl rfl rfl rfl keeps_name Tryd.func11 keeps_joined
    (of_decide_eq_true (by kernel_rfl)) (by unfold Func.isWrapper; first | (rw [if_pos (by decide +kernel)]; kernel_rfl) | (rw [if_neg (by decide +kernel)]; exact ⟨rfl, rfl⟩))
    (fun os started H enc _ => keeps_lifted os started H enc)

theorem keeps_goes : false = Rows.memoryKeepsPrefixesRow.goesBy Tryd.prog := by kernel_rfl
theorem keeps_stand : ([3, 35, 43].all fun u => !Tryd.prog.wantsStandIn u) = true := by kernel_rfl
theorem memoryKeepsPrefixes_holds : Rows.MemoryKeepsPrefixesCardSaid :=
  Claim7.holds_tied_plain_at .later [] [.data, .data] true (true, "dad86e10c0c9875098f14639457c7da96153bc51d07db14731d5f5938e8d4e47") false
    keeps_row (fun _ h => by cases h) (by kernel_rfl) (fun _ h => by cases h) memoryKeepsPrefixes_row_tie rfl ⟨rfl, rfl⟩ head_main rfl
    (fun f fn hf hfn => by
      obtain rfl : f = 11 := Option.some.inj (keeps_name.symm.trans hf) |>.symm
      obtain rfl : fn = Tryd.f11 := (Option.some.inj (Tryd.func11.symm.trans hfn)).symm
      exact ⟨k_looks, fun j t ht => by
        rw [Tryd.params11] at ht
        have hm : t ∈ [3, 35, 43] := by simpa using Array.mem_of_getElem? ht
        exact (show Tryd.prog.wantsStandIn t = false by simpa using List.all_eq_true.1 keeps_stand t hm)⟩)
    keeps_goes
#print axioms memoryKeepsPrefixes_holds
end Go.Proofs.YtkncbggnaobgeaaDoor
