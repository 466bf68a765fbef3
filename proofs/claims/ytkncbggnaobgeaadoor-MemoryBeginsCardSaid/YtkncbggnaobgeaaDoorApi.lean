/- The calls of the memory for those who hold one or several: what a memory is stands in one fact, where it lies in the list of blocks. -/
import Derived.Test.YtkncbggnaobgeaaDoorPl1
namespace Go.Proofs.YtkncbggnaobgeaaDoor
open Go.RowKit
set_option linter.unusedVariables false
set_option linter.unusedSimpArgs false
set_option maxRecDepth 100000

/-- R lies at p, and is the plain memory M; there is not too much of it. -/
structure Is (R : RM) (p : Nat) (M : PM) (k : Nat) : Prop where
  p : R.p = p
  abs : R.abs = M
  ok : R.ok
  sm : M.small k
theorem L64.lt {w : World} (h : L64 w) : 3 < w.heap.size := by obtain ⟨t, fr, h⟩ := h; exact lt_of_some h
theorem Is.mem {w0 w : World} {L : Hp} {R : RM} {p k : Nat} {M : PM} (hI : Is R p M k) (H : St w0 [] w (L ++ R.hp)) (hL : L64 w0) : MemIn w R := MemIn.of H hI.ok (fun _ h => by simp at h) hL.lt
theorem Is.len {R : RM} {p k : Nat} {M : PM} (hI : Is R p M k) : R.X.length = M.ls.length := by rw [← hI.abs]; simp [RM.abs]
theorem Is.lok {R : RM} {p k : Nat} {M : PM} (hI : Is R p M k) : ∀ l ∈ M.ls, l.ok := by
  intro l hl
  rw [← hI.abs] at hl
  obtain ⟨x, hx, rfl⟩ := List.mem_map.1 hl
  exact (hI.ok.lines x hx).1
theorem Is.lens {R : RM} {p k : Nat} {M : PM} (hI : Is R p M k) : 1 ≤ M.ls.length ∧ M.ls.length ≤ 4096 := by rw [← hI.len]; exact hI.ok.len
theorem Is.evs {R : RM} {p k : Nat} {M : PM} (hI : Is R p M k) : R.evs.length ≤ k := by have := hI.sm.ev; rw [← hI.abs] at this; exact this
theorem Is.ps {R : RM} {p k : Nat} {M : PM} (hI : Is R p M k) : ∀ x ∈ R.X, x.1.ps.length ≤ k := by
  intro x hx
  have := hI.sm.ps x.1 (by rw [← hI.abs]; exact List.mem_map_of_mem hx)
  exact this
theorem Is.mono {R : RM} {p k k' : Nat} {M : PM} (hI : Is R p M k) (h : k ≤ k') : Is R p M k' := ⟨hI.p, hI.abs, hI.ok, hI.sm.mono h⟩
theorem St.swap {w0 w : World} {S : List Nat} {L A B : Hp} (H : St w0 S w ((L ++ A) ++ B)) : St w0 S w ((L ++ B) ++ A) :=
  H.perm (by rw [List.append_assoc, List.append_assoc]; exact List.Perm.append_left _ List.perm_append_comm)
section
variable {w0 w : World} {L : Hp} {R : RM} {p k : Nat} {M : PM}
abbrev ptr (p : Nat) : Value := .pointer (some ⟨p, 0, none⟩)

theorem a_new {H : Hp} (n : Int) (H0 : St w0 [] w H) (hL : L64 w0) : Calls Tryd.prog 23 #[.int .i64 n] w fun e w' => if 1 ≤ n ∧ n ≤ 4096 then ∃ p R, e = .returned (ptr p) ∧ Is R p (PM.fresh n.toNat) 0 ∧ St w0 [] w' (H ++ R.hp) else e = .returned (.pointer none) ∧ St w0 [] w' H := by
  refine (new_any n w (hL.of0 H0)).mono ?_
  intro e w' h
  split at h
  · rename_i hn
    rw [if_pos hn]
    obtain ⟨p, lb, mb, rfl, Hc⟩ := h
    refine ⟨p, RM.fresh p lb mb (List.replicate n.toNat pl0), rfl, ⟨rfl, RM.fresh_abs _ _ _ _, RM.fresh_ok (by simp; omega) (fun l hl => by rw [List.eq_of_mem_replicate hl]; exact ⟨pl0_ok, rfl⟩), fresh_small _⟩, ?_⟩
    exact (H0.call Hc).perm List.perm_append_comm
  · rename_i hn
    rw [if_neg hn]
    exact ⟨h.1, H0.call0 h.2⟩
theorem a_new_ok {H : Hp} (n : Int) (hn : 1 ≤ n ∧ n ≤ 4096) (H0 : St w0 [] w H) (hL : L64 w0) : Calls Tryd.prog 23 #[.int .i64 n] w fun e w' => ∃ p R, e = .returned (ptr p) ∧ Is R p (PM.fresh n.toNat) 0 ∧ St w0 [] w' (H ++ R.hp) :=
  (a_new n H0 hL).mono fun e w' h => by rw [if_pos hn] at h; exact h
theorem a_new_no {H : Hp} (n : Int) (hn : ¬ (1 ≤ n ∧ n ≤ 4096)) (H0 : St w0 [] w H) (hL : L64 w0) : Calls Tryd.prog 23 #[.int .i64 n] w fun e w' => e = .returned (.pointer none) ∧ St w0 [] w' H :=
  (a_new n H0 hL).mono fun e w' h => by rw [if_neg hn] at h; exact h
theorem a_lines (hI : Is R p M k) (H : St w0 [] w (L ++ R.hp)) (hL : L64 w0) : Calls Tryd.prog 26 #[ptr p] w fun e w' => e = .returned (.int .i64 (M.ls.length : Int)) ∧ w' = w := by
  have hm := hI.mem H hL
  have hl := hI.len
  obtain ⟨rfl, rfl, hok, hs⟩ := hI
  rw [← hl]
  exact lines_any R w hm
theorem a_state (n : Int) (hI : Is R p M k) (H : St w0 [] w (L ++ R.hp)) (hL : L64 w0) : Calls Tryd.prog 31 #[ptr p, .int .i64 n] w fun e w' => e = .returned (.int .i64 (M.state n)) ∧ St w0 [] w' (L ++ R.hp) := by
  have hm := hI.mem H hL
  obtain ⟨rfl, rfl, hok, hs⟩ := hI
  rw [← state_abs]
  exact (state_any R n w hm (hL.of0 H)).mono fun e w' ⟨h, Hc⟩ => ⟨h, H.call0 Hc⟩
theorem a_load (at_ : Int) (ha : at_ ≤ 9223372036854775807) (hI : Is R p M k) (H : St w0 [] w (L ++ R.hp)) (hL : L64 w0) : Calls Tryd.prog 96 #[ptr p, .int .i64 at_] w fun e w' => e = .returned (.tuple #[.int .i64 (M.load at_).1, .int .i64 (M.load at_).2]) ∧ St w0 [] w' (L ++ R.hp) := by
  have hm := hI.mem H hL
  obtain ⟨rfl, rfl, hok, hs⟩ := hI
  rw [← load_abs]
  exact (load_any R at_ ha w hm (hL.of0 H)).mono fun e w' ⟨h, Hc⟩ => ⟨h, H.call0 Hc⟩
theorem a_store (at_ val : Int) (ha : -9223372036854775808 ≤ at_ ∧ at_ ≤ 9223372036854775807) (hk : k < 1073741824) (hI : Is R p M k) (H : St w0 [] w (L ++ R.hp)) (hL : L64 w0) :
    Calls Tryd.prog 56 #[ptr p, .int .i64 at_, .int .i64 val] w fun e w' => ∃ R', e = .returned (.int .i64 (M.putErr at_ val)) ∧ Is R' p (M.put 1 at_ val) (k + 1) ∧ St w0 [] w' (L ++ R'.hp) := by
  have hm := hI.mem H hL
  have h1 := hI.evs; have h2 := hI.ps
  obtain ⟨rfl, rfl, hok, hs⟩ := hI
  exact (store_any R at_ val ha (by omega) (fun x hx => Nat.lt_of_le_of_lt (h2 x hx) hk) w hm (hL.of0 H)).mono fun e w' ⟨R', h, hp, ha', hok', Hc⟩ => ⟨R', h, ⟨hp, ha', hok', hs.put _ _ _⟩, H.callM Hc⟩
theorem a_publish (at_ val : Int) (ha : -9223372036854775808 ≤ at_ ∧ at_ ≤ 9223372036854775807) (hk : k < 1073741824) (hI : Is R p M k) (H : St w0 [] w (L ++ R.hp)) (hL : L64 w0) :
    Calls Tryd.prog 110 #[ptr p, .int .i64 at_, .int .i64 val] w fun e w' => ∃ R', e = .returned (.int .i64 (M.putErr at_ val)) ∧ Is R' p (M.put 2 at_ val) (k + 1) ∧ St w0 [] w' (L ++ R'.hp) := by
  have hm := hI.mem H hL
  have h1 := hI.evs; have h2 := hI.ps
  obtain ⟨rfl, rfl, hok, hs⟩ := hI
  exact (publish_any R at_ val ha (by omega) (fun x hx => Nat.lt_of_le_of_lt (h2 x hx) hk) w hm (hL.of0 H)).mono fun e w' ⟨R', h, hp, ha', hok', Hc⟩ => ⟨R', h, ⟨hp, ha', hok', hs.put _ _ _⟩, H.callM Hc⟩
theorem a_span (n : Int) (hn : n ≤ 9223372036854775807) (hI : Is R p M k) (H : St w0 [] w (L ++ R.hp)) (hL : L64 w0) :
    Calls Tryd.prog 61 #[ptr p, .int .i64 n] w fun e w' => ∃ R', e = .returned (.tuple #[]) ∧ Is R' p { M with span := if 0 > n then 0 else n } k ∧ St w0 [] w' (L ++ R'.hp) := by
  have hm := hI.mem H hL
  obtain ⟨rfl, rfl, hok, hs⟩ := hI
  exact (span_any R n hn w hm).mono fun e w' ⟨R', h, hp, ha', hok', Hc⟩ => ⟨R', h, ⟨hp, ha', hok', ⟨hs.ev, hs.ps⟩⟩, H.callM Hc⟩
theorem a_forget (hI : Is R p M k) (H : St w0 [] w (L ++ R.hp)) (hL : L64 w0) :
    Calls Tryd.prog 112 #[ptr p] w fun e w' => ∃ R', e = .returned (.tuple #[]) ∧ Is R' p { M with evs := [] } k ∧ St w0 [] w' (L ++ R'.hp) := by
  have hm := hI.mem H hL
  obtain ⟨rfl, rfl, hok, hs⟩ := hI
  exact (forget_any R w hm).mono fun e w' ⟨R', h, hp, ha', hok', Hc⟩ => ⟨R', h, ⟨hp, ha', hok', ⟨Nat.zero_le _, hs.ps⟩⟩, H.callM Hc⟩
theorem a_flush (n : Int) (hk : k < 1073741824) (hI : Is R p M k) (H : St w0 [] w (L ++ R.hp)) (hL : L64 w0) :
    Calls Tryd.prog 35 #[ptr p, .int .i64 n] w fun e w' => ∃ R', e = .returned (.int .i64 (if M.has n then 0 else 40)) ∧ Is R' p (M.flush n) (k + 1) ∧ St w0 [] w' (L ++ R'.hp) := by
  have hm := hI.mem H hL
  have h1 := hI.evs
  obtain ⟨rfl, rfl, hok, hs⟩ := hI
  exact (flush_any R n (by omega) w hm).mono fun e w' ⟨R', h, hp, ha', hok', Hc⟩ => ⟨R', h, ⟨hp, ha', hok', hs.flush _⟩, H.callM Hc⟩
theorem a_fence (hk : k < 1073741824) (hI : Is R p M k) (H : St w0 [] w (L ++ R.hp)) (hL : L64 w0) :
    Calls Tryd.prog 36 #[ptr p] w fun e w' => ∃ R', e = .returned (.tuple #[]) ∧ Is R' p M.fence (k + 1) ∧ St w0 [] w' (L ++ R'.hp) := by
  have hm := hI.mem H hL
  have h1 := hI.evs; have h2 := hI.ps
  obtain ⟨rfl, rfl, hok, hs⟩ := hI
  exact (fence_any R (by omega) (fun x hx => Nat.le_trans (h2 x hx) (Nat.le_of_lt hk)) w hm (hL.of0 H)).mono fun e w' ⟨R', h, hp, ha', hok', Hc⟩ => ⟨R', h, ⟨hp, ha', hok', hs.fence⟩, H.callM Hc⟩
theorem a_evict (n j : Int) (hk : k < 1073741824) (hI : Is R p M k) (H : St w0 [] w (L ++ R.hp)) (hL : L64 w0) :
    Calls Tryd.prog 40 #[ptr p, .int .i64 n, .int .i64 j] w fun e w' => ∃ R', e = .returned (.int .i64 (M.evictErr n j)) ∧ Is R' p (M.evict n j) (k + 1) ∧ St w0 [] w' (L ++ R'.hp) := by
  have hm := hI.mem H hL
  have h1 := hI.evs; have h2 := hI.ps
  obtain ⟨rfl, rfl, hok, hs⟩ := hI
  exact (evict_any R n j (by omega) (fun x hx => Nat.le_trans (h2 x hx) (Nat.le_of_lt hk)) w hm (hL.of0 H)).mono fun e w' ⟨R', h, hp, ha', hok', Hc⟩ => ⟨R', h, ⟨hp, ha', hok', hs.evict _ _⟩, H.callM Hc⟩
theorem a_heal (n : Int) (xs : List Int) (hx8 : xs.length = 8) (hk : k < 1073741824) (hI : Is R p M k) (H : St w0 [] w (L ++ R.hp)) (hL : L64 w0) :
    Calls Tryd.prog 111 #[ptr p, .int .i64 n, arr xs] w fun e w' => ∃ R', e = .returned (.int .i64 (M.healErr n xs)) ∧ Is R' p (M.heal n xs) (k + 1) ∧ St w0 [] w' (L ++ R'.hp) := by
  have hm := hI.mem H hL
  have h1 := hI.evs
  obtain ⟨rfl, rfl, hok, hs⟩ := hI
  exact (heal_any R n xs hx8 (by omega) w hm (hL.of0 H)).mono fun e w' ⟨R', h, hp, ha', hok', Hc⟩ => ⟨R', h, ⟨hp, ha', hok', hs.heal _ _⟩, H.callM Hc⟩
theorem a_rot (n : Int) (xs : List Int) (hx8 : xs.length = 8) (bits : Int) (hk : k < 1073741824) (hI : Is R p M k) (H : St w0 [] w (L ++ R.hp)) (hL : L64 w0) :
    Calls Tryd.prog 51 #[ptr p, .int .i64 n, arr xs, .int .i64 bits] w fun e w' => ∃ R', e = .returned (.int .i64 (M.rotErr n xs bits)) ∧ Is R' p (M.rot n xs bits) (k + 1) ∧ St w0 [] w' (L ++ R'.hp) := by
  have hm := hI.mem H hL
  have h1 := hI.evs
  obtain ⟨rfl, rfl, hok, hs⟩ := hI
  exact (rot_any R n xs hx8 bits (by omega) w hm).mono fun e w' ⟨R', h, hp, ha', hok', Hc⟩ => ⟨R', h, ⟨hp, ha', hok', hs.rot _ _ _⟩, H.callM Hc⟩
theorem a_crash (A0 : Option Addr) (m cap : Nat) (cuts : List (Int × Int)) (hmc : m = cuts.length) (hm63 : m ≤ 9223372036854775807) (hk : k ≤ 1073741824) (hI : Is R p M k) (H : St w0 [] w (L ++ R.hp)) (hL : L64 w0) (hc0 : CutsIn w A0 cuts (R.hp.map Prod.fst)) :
    Calls Tryd.prog 37 #[ptr p, .slice A0 m cap] w fun e w' => ∃ R', e = .returned (.int .i64 (if M.cutsOk cuts then 0 else 1)) ∧ Is R' p (M.crash cuts) k ∧ St w0 [] w' (L ++ R'.hp) := by
  have hm := hI.mem H hL
  have h2 := hI.ps
  obtain ⟨rfl, rfl, hok, hs⟩ := hI
  exact (crash_any R A0 m cap cuts hmc hm63 (fun x hx => Nat.le_trans (h2 x hx) hk) w hm (hL.of0 H) hc0).mono fun e w' ⟨R', h, hp, ha', hok', Hc⟩ => ⟨R', h, ⟨hp, ha', hok', hs.crash _⟩, H.callM Hc⟩
theorem a_image (hI : Is R p M k) (H : St w0 [] w (L ++ R.hp)) (hL : L64 w0) :
    Calls Tryd.prog 29 #[ptr p] w fun e w' => ∃ g, e = .returned (.slice (some ⟨g, 0, none⟩) M.ls.length M.ls.length) ∧ St w0 [] w' (((g, .cells (arrC (imgC M.ls)) 40) :: L) ++ R.hp) := by
  have hm := hI.mem H hL
  have hl := hI.len
  obtain ⟨rfl, rfl, hok, hs⟩ := hI
  rw [← hl]
  exact (image_any R w hm).mono fun e w' ⟨g, h, Hc⟩ => ⟨g, h, H.call Hc⟩
theorem a_seen (hI : Is R p M k) (H : St w0 [] w (L ++ R.hp)) (hL : L64 w0) :
    Calls Tryd.prog 34 #[ptr p] w fun e w' => ∃ g, e = .returned (.slice (some ⟨g, 0, none⟩) M.ls.length M.ls.length) ∧ St w0 [] w' (((g, .cells (arrC (seenC M.ls)) 38) :: L) ++ R.hp) := by
  have hm := hI.mem H hL
  have hl := hI.len
  obtain ⟨rfl, rfl, hok, hs⟩ := hI
  rw [← hl]
  exact (seen_any R w hm (hL.of0 H)).mono fun e w' ⟨g, h, Hc⟩ => ⟨g, h, H.call Hc⟩
theorem a_events (hk : k ≤ 1073741824) (hI : Is R p M k) (H : St w0 [] w (L ++ R.hp)) (hL : L64 w0) :
    Calls Tryd.prog 27 #[ptr p] w fun e w' => ∃ r : Row, e = .returned (r.val M.evs.length) ∧ r.ok 12 M.evs.length (flatE M.evs) ∧ St w0 [] w' ((r.hp 164 ++ L) ++ R.hp) := by
  have hm := hI.mem H hL
  have h1 := hI.evs
  obtain ⟨rfl, rfl, hok, hs⟩ := hI
  exact (events_any R (by omega) w hm).mono fun e w' ⟨r, h, hr, Hc⟩ => ⟨r, h, hr, by rw [List.append_assoc]; exact H.call Hc⟩
theorem a_pending (n : Int) (hk : k ≤ 1073741824) (hI : Is R p M k) (H : St w0 [] w (L ++ R.hp)) (hL : L64 w0) :
    Calls Tryd.prog 39 #[ptr p, .int .i64 n] w fun e w' => ∃ r : Row, e = .returned (r.val (M.pend n).length) ∧ r.ok 2 (M.pend n).length (flatP (M.pend n)) ∧ St w0 [] w' ((r.hp 111 ++ L) ++ R.hp) := by
  have hm := hI.mem H hL
  have h2 := hI.ps
  obtain ⟨rfl, rfl, hok, hs⟩ := hI
  exact (pending_any R n (fun x hx => Nat.le_trans (h2 x hx) hk) w hm).mono fun e w' ⟨r, h, hr, Hc⟩ => ⟨r, h, hr, by rw [List.append_assoc]; exact H.call Hc⟩
end
end Go.Proofs.YtkncbggnaobgeaaDoor
