/- Walks of functions of the program; printed by a program of this session (walk.py) out of hand-written hints. -/
import Derived.Test.YtkncbggnaobgeaaDoorMem11
namespace Go.Proofs.YtkncbggnaobgeaaDoor
open Go.RowKit
set_option linter.unusedVariables false
set_option linter.unusedSimpArgs false
set_option maxRecDepth 100000

section
variable {P : Program} {ops : Array Oper} {Q : Exit → Act → World → Prop} {n : Nat} {ds : List Deferred} {e e' : Env} {w w' w0 : World} {rest : List Oper} {S : List Nat} {H : Hp}
variable {d : Nat} {v : Value} {ty : TypeId} {pos : String} {af : Array Edge}
theorem WL.nextB (hS : St w0 S w H) {bm since c0 clock g : Nat} {seen : Array Nat} {l : List (Int × Nat)} {x : Operand} (i : Nat) (hx : ev e x = some (.pointer (some ⟨g, 0, none⟩)))
    (hi : H[i]? = some (g, .mapIter (some bm) since seen c0)) (hb : w.heap[bm]? = some (mO l clock)) (hold : ∀ x ∈ l, x.2 < since) (hsc : since ≤ c0) (hdn : Nat.blt d n = true)
    (h : ∀ (bb : Bool) (cs : List Value) w', cs[0]? = some (.bool bb) → (bb = false → (∀ x ∈ l, x.2 ∈ seen) ∧ St w0 S w' H) →
      (bb = true → ∃ k bn, (k, bn) ∈ l ∧ bn ∉ seen ∧ St w0 S w' (H.set i (g, .mapIter (some bm) since (seen.push bn) clock))) → WL P ops Q n ds rest ((d, .tuple cs.toArray) :: e) w') :
    WL P ops Q n ds ({ dst := some d, op := .next x false, type := ty, pos, after := af, guard := none } :: rest) e w :=
  WL.next (et := 0) hS i hx hi hb hold hsc hdn (fun h0 => h false [.bool false] _ rfl (fun _ => ⟨h0, hS⟩) (fun hh => by cases hh)) (fun k bn w' hm hn hS' => h true [.bool true, .int .i64 k, .bool true] _ rfl (fun hh => by cases hh) (fun _ => ⟨k, bn, hm, hn, hS'⟩))
end
theorem find_born {l : List (Int × Nat)} (h : (l.map Prod.snd).Nodup) {k : Int} {bn : Nat} (hm : (k, bn) ∈ l) : l.find? (fun x => x.2 == bn) = some (k, bn) := by
  induction l with
  | nil => cases hm
  | cons y l ih =>
    simp only [List.map_cons, List.nodup_cons] at h
    rcases List.mem_cons.1 hm with rfl | hm
    · simp
    · have : (y.2 == bn) = false := by
        simp only [beq_eq_false_iff_ne]
        intro he
        exact h.1 (he ▸ List.mem_map_of_mem (f := Prod.snd) hm)
      rw [List.find?_cons, this]
      exact ih h.2 hm
theorem key_born {l : List (Int × Nat)} (h : (l.map Prod.fst).Nodup) {k : Int} {b b' : Nat} (hm : (k, b) ∈ l) (hm' : (k, b') ∈ l) : b = b' := by
  induction l with
  | nil => cases hm
  | cons y l ih =>
    simp only [List.map_cons, List.nodup_cons] at h
    rcases List.mem_cons.1 hm with h1 | h1
    · rcases List.mem_cons.1 hm' with h2 | h2
      · rw [← h1] at h2; exact (Prod.mk.inj h2).2.symm
      · exact absurd (by rw [← h1]; exact List.mem_map.2 ⟨_, h2, rfl⟩) h.1
    · rcases List.mem_cons.1 hm' with h2 | h2
      · exact absurd (by rw [← h2]; exact List.mem_map.2 ⟨_, h1, rfl⟩) h.1
      · exact ih h.2 h1 h2
def left (l : List (Int × Nat)) (seen : Array Nat) : Nat := l.countP fun x => !seen.contains x.2
theorem left_push {l : List (Int × Nat)} {seen : Array Nat} {k : Int} {bn : Nat} (hm : (k, bn) ∈ l) (hn : bn ∉ seen) : left l (seen.push bn) < left l seen := by
  unfold left
  have hle : ∀ l : List (Int × Nat), (l.countP fun x => !(seen.push bn).contains x.2) ≤ (l.countP fun x => !seen.contains x.2) := fun l =>
    List.countP_mono_left (fun x _ h => by simp at h ⊢; exact h.1)
  induction l with
  | nil => cases hm
  | cons y l ih =>
    rw [List.countP_cons, List.countP_cons]
    rcases List.mem_cons.1 hm with h1 | h1
    · have := hle l
      rw [← h1]
      rw [if_neg (by simp), if_pos (by simpa using hn)]
      omega
    · have := ih h1
      have h3 : (if (!(seen.push bn).contains y.2) = true then 1 else 0) ≤ (if (!seen.contains y.2) = true then 1 else 0) := by
        split
        · rename_i h; rw [if_pos (by simp at h ⊢; exact h.1)]; exact Nat.le_refl _
        · exact Nat.zero_le _
      omega
theorem pRest_in {mp : List (Int × Nat)} {clk : Nat} {n : Int} {ps : List (Int × Int)} (h : n ∈ mp.map Prod.fst) : (pRest mp clk n ps).2 = clk ∧ (pRest mp clk n ps).1.Sublist mp := by
  unfold pRest
  split
  · exact ⟨rfl, mDel_sub mp n⟩
  · unfold mClk mIns
    rw [if_pos (any_key.2 h), if_pos (any_key.2 h)]
    exact ⟨rfl, List.Sublist.refl _⟩
def PM.fence (M : PM) : PM := { M with ls := M.ls.map fun l => pSettle l l.mark, evs := M.evs ++ [[4, 0, 0, 0, 0, 0, 0, 0, 0, 0, 0, 0]] }
/-- While a fence is under way. -/
structure Fencing (R R' : RM) (seen : Array Nat) : Prop where
  ok : R'.ok
  p : R'.p = R.p
  mb : R'.mb = R.mb
  clk : R'.clk = R.clk
  span : R'.span = R.span
  evs : R'.evs = R.evs
  len : R'.X.length = R.X.length
  sub : R'.mp.Sublist R.mp
  lines : ∀ (i : Nat) x, R.X[i]? = some x → ∃ x', R'.X[i]? = some x' ∧ ((x'.1 = x.1 ∧ ∀ b, ((i : Int), b) ∈ R.mp → b ∉ seen) ∨ (x'.1 = pSettle x.1 x.1.mark ∧ ∃ b, ((i : Int), b) ∈ R.mp ∧ b ∈ seen))
theorem Fencing.start {R : RM} (h : R.ok) : Fencing R R #[] := ⟨h, rfl, rfl, rfl, rfl, rfl, rfl, List.Sublist.refl _, fun i x hx => ⟨x, hx, .inl ⟨rfl, fun _ _ => by simp⟩⟩⟩
theorem Fencing.done {R R' : RM} {seen : Array Nat} (hR : R.ok) (h : Fencing R R' seen) (hall : ∀ x ∈ R'.mp, x.2 ∈ seen) : R'.abs.ls = R.abs.ls.map fun l => pSettle l l.mark := by
  apply List.ext_getElem?
  intro i
  simp only [RM.abs, List.getElem?_map, Option.map_map]
  by_cases hi : i < R.X.length
  · obtain ⟨x', hx', hc⟩ := h.lines i _ (List.getElem?_eq_getElem hi)
    rw [hx', List.getElem?_eq_getElem hi]
    simp only [Option.map_some, Function.comp, Option.some.injEq]
    rcases hc with ⟨h1, h2⟩ | ⟨h1, _⟩
    · rw [h1]
      have hok := (hR.lines _ (List.getElem_mem hi)).1
      by_cases hps : (R.X[i]).1.ps = []
      · have hm := hok.2.2.2.1
        rw [hps] at hm
        have : (R.X[i]).1.mark = 0 := by simpa using hm
        rw [this]; rfl
      · exfalso
        have hk : (i : Int) ∈ R'.mp.map Prod.fst := (h.ok.busy i).2 ⟨by omega, x', by simpa using hx', by rw [h1]; exact hps⟩
        obtain ⟨⟨k, b⟩, hkb, hke⟩ := List.mem_map.1 hk
        simp only at hke
        subst hke
        exact h2 b (h.sub.subset hkb) (hall _ hkb)
    · exact h1
  · rw [List.getElem?_eq_none (by rw [h.len]; omega), List.getElem?_eq_none (by omega)]; rfl
/-- R' in R's own blocks. -/
def RM.like (R g : RM) : RM := { g with p := R.p, mb := R.mb, clk := R.clk }
theorem Fencing.step {R g : RM} {seen : Array Nat} (hR : R.ok) (h : Fencing R (R.like g) seen) {A B : List (PL × Row)} {l : PL} {r r' : Row} {k bn : Nat} {mp : List (Int × Nat)} (hX : (R.like g).X = A ++ (l, r) :: B) (hA : A.length = k)
    (hm : ((k : Int), bn) ∈ (R.like g).mp) (hn : bn ∉ seen) {x : PL × Row} (hx : R.X[k]? = some x) (hl : l = x.1) (hsub : mp.Sublist (R.like g).mp)
    (hok : ((R.like g).upd A B (pSettle l l.mark) r' mp R.clk).ok) : Fencing R ((R.like g).upd A B (pSettle l l.mark) r' mp R.clk) (seen.push bn) := by
  refine ⟨hok, h.p, h.mb, rfl, h.span, h.evs, ?_, hsub.trans h.sub, fun i y hy => ?_⟩
  · rw [← h.len, hX]; simp [RM.upd]
  · show ∃ x', (A ++ (pSettle l l.mark, r') :: B)[i]? = some x' ∧ _
    by_cases hi : i = k
    · subst hi
      rw [hx] at hy; cases hy
      refine ⟨(pSettle l l.mark, r'), by rw [List.getElem?_append_right (by omega), hA, Nat.sub_self]; rfl, .inr ⟨by rw [hl], bn, h.sub.subset hm, by simp⟩⟩
    · obtain ⟨x', hx', hc⟩ := h.lines i y hy
      refine ⟨x', ?_, ?_⟩
      · rw [← hx', hX]
        by_cases hlt : i < A.length
        · rw [List.getElem?_append_left hlt, List.getElem?_append_left hlt]
        · rw [List.getElem?_append_right (by omega), List.getElem?_append_right (by omega)]
          obtain ⟨j, hj⟩ : ∃ j, i - A.length = j + 1 := ⟨i - A.length - 1, by omega⟩
          rw [hj]; simp
      · rcases hc with ⟨h1, h2⟩ | ⟨h1, b, h2, h3⟩
        · refine .inl ⟨h1, fun b hb => ?_⟩
          have hb1 := h2 b hb
          simp only [Array.mem_push, not_or]
          refine ⟨hb1, fun he => hi ?_⟩
          subst he
          have : ((i : Int), b) = ((k : Int), b) := by
            have e1 := find_born hR.map.2.1 hb
            have e2 := find_born hR.map.2.1 (h.sub.subset hm)
            rw [e1] at e2
            exact Option.some.inj e2
          have := (Prod.mk.inj this).1
          omega
        · exact .inr ⟨h1, b, h2, by simp [h3]⟩

theorem fence_any (R : RM) (hsm : R.evs.length < 1073741824) (hps : ∀ x ∈ R.X, x.1.ps.length ≤ 1073741824) (w : World) (hm : MemIn w R) (hL : L64 w) : Calls Tryd.prog 36 #[.pointer (some ⟨R.p, 0, none⟩)] w fun e w' => ∃ R' : RM, e = .returned (.tuple #[]) ∧ R'.p = R.p ∧ R'.abs = R.abs.fence ∧ R'.ok ∧ St w (R.hp.map Prod.fst) w' R'.hp := by
  refine calls_walk_n (args := [.pointer (some ⟨R.p, 0, none⟩)]) Tryd.func36 rfl rfl rfl ?_
  have H := hm.start
  have h3lt : 3 < w.heap.size := by obtain ⟨t, fr, h⟩ := hL; exact lt_of_some h
  have hSS : ∀ k ∈ R.hp.map Prod.fst, 3 < k := fun k hk => by obtain ⟨q, hq, rfl⟩ := List.mem_map.1 hk; exact hm.hi q hq
  refine WC.seq ?_
  refine WC.seq ?_
  refine WC.region ?_
  refine WL.move rfl rfl ?_
  first | refine WL.nilCheck rfl rfl ?_ | refine WL.nilCheckFn rfl rfl ?_
  refine WL.fieldAddr fld161_1 rfl rfl ?_
  first | refine WL.load rfl (H.rd1 ty159 0 rfl rfl) rfl ?_ | refine WL.load rfl (H.rd1 ty159 1 rfl rfl) rfl ?_ | refine WL.load rfl (H.rd1 ty159 2 rfl rfl) rfl ?_ | refine WL.load rfl (H.rdA ty159 0 rfl (by decide)) rfl ?_ | refine WL.load rfl (H.rdA ty159 1 rfl (by decide)) rfl ?_ | refine WL.load rfl (H.rdA ty159 2 rfl (by decide)) rfl ?_
  refine WL.rangeMap H map159 rfl (H.blk 2 rfl) rfl ?_
  intro it wx hit hgit H
  refine (WL.done (WX.next ?_))
  refine WC.block ?_
  -- loop 1: changed [] kept [0, 7]
  refine WC.loop (Sub.cons (t := 0) rfl (Sub.cons (t := 7) rfl (Sub.nil _))) (fun _ : RM × Array Nat => []) (fun q g wx => q = left R.mp g.2 ∧ Fencing R (R.like g.1) g.2 ∧ St w (R.hp.map Prod.fst) wx ((it, .mapIter (some R.mb) R.clk g.2 R.clk) :: (R.like g.1).hp)) (left R.mp #[]) ((R, #[])) (Sub.nil _) (⟨rfl, Fencing.start hm.ok, H⟩) ?_
  rintro k g wx hI N hN
  obtain ⟨g1, seen⟩ := g
  obtain ⟨rfl, hF, H⟩ := hI
  change Fencing R (R.like g1) seen at hF
  change St _ _ _ ((it, .mapIter (some R.mb) R.clk seen R.clk) :: (R.like g1).hp) at H
  refine WC.seq ?_
  refine WC.region ?_
  refine WL.nextB H 0 rfl rfl (H.blk 3 rfl) (fun x hx => hF.ok.map.1 x hx) (Nat.le_refl _) rfl ?_
  intro bb cs wx hcs hNo hYes
  refine WL.extract rfl hcs rfl ?_
  refine (WL.done (WX.next ?_))
  refine WC.seq ?_
  first | refine WC.cond_dec rfl (fun c1 => ?_) (fun c1 => ?_) | refine WC.cond rfl (fun c1 => ?_) (fun c1 => ?_)
  · -- c1 T
    obtain ⟨kk, bn, hmem, hns, H⟩ := hYes c1
    obtain ⟨hk0, x, hx, hxp⟩ := (hF.ok.busy kk).1 (List.mem_map_of_mem (f := Prod.fst) hmem)
    obtain ⟨k, rfl⟩ : ∃ k : Nat, kk = (k : Int) := ⟨kk.toNat, by omega⟩
    rw [Int.toNat_natCast] at hx
    have hklt : k < (R.like g1).X.length := by
      rcases Nat.lt_or_ge k (R.like g1).X.length with hl | hg
      · exact hl
      · rw [List.getElem?_eq_none hg] at hx; cases hx
    obtain ⟨A, l, r, B, hX, hA, hal, hok, hr, hget⟩ := hF.ok.at (k := k) hklt
    have hm1 : MemIn _ (R.like g1) := MemIn.of (L := [(it, .mapIter (some R.mb) R.clk (seen.push bn) R.clk)]) H hF.ok hSS h3lt
    obtain ⟨y, hy⟩ : ∃ y, R.X[k]? = some y := ⟨_, List.getElem?_eq_getElem (by rw [← hF.len]; exact hklt)⟩
    obtain ⟨x', hx', hc⟩ := hF.lines k y hy
    rw [hget] at hx'
    cases hx'
    have hle : l = y.1 := by
      rcases hc with ⟨h1, _⟩ | ⟨_, b, hb, hbs⟩
      · exact h1
      · rw [key_born hm.ok.map.2.2 hb (hF.sub.subset hmem)] at hbs; exact absurd hbs hns
    have hpl : l.ps.length ≤ 1073741824 := by rw [hle]; exact hps y (List.mem_of_getElem? hy)
    have hkey : (k : Int) ∈ (R.like g1).mp.map Prod.fst := List.mem_map_of_mem (f := Prod.fst) hmem
    refine (WC.skip (WX.next ?_))
    refine WC.block ?_
    refine WC.seq ?_
    refine WC.region ?_
    refine WL.entry (seen := seen) (bn := bn) (k := (k : Int)) rfl (H.blk 0 rfl) (H.blk 3 rfl) (find_born hF.ok.map.2.1 hmem) rfl ?_
    refine WL.extract rfl rfl rfl ?_
    refine WL.assign rfl rfl ?_
    refine (WL.done (WX.next ?_))
    refine WC.region ?_
    refine WL.move rfl rfl ?_
    refine WL.move rfl rfl ?_
    refine WL.move rfl rfl ?_
    first | refine WL.nilCheck rfl rfl ?_ | refine WL.nilCheckFn rfl rfl ?_
    refine WL.fieldAddr fld161_0 rfl rfl ?_
    first | refine WL.load rfl (H.rd1 ty156 1 rfl rfl) rfl ?_
    refine WL.move rfl rfl ?_
    refine WL.idxSlc (k := k) slc156 rfl rfl (by first | rfl | omega) (by omega) rfl ?_
    refine WL.fieldAddr fld158_2 rfl rfl ?_
    first | refine WL.load rfl (Rd.lineM ty3 (RM.line_at (L := [_]) hX H) (by omega) hok.1) rfl ?_
    refine WL.call call107 rfl rfl ?_
    refine Calls.mono (settle_any (R.like g1).p _ _ _ _ _ _ _ _ _ _ l r _ _ k l.mark hklt hal hok hr hok.2.2.2.1 hpl _ (hL.of H hm.n3) (n3_focus hm1 hX) (St.start ((St.focus (L := [_]) hX H).weaken (List.sublist_append_right _ _)).nd ((St.focus (L := [_]) hX H).weaken (List.sublist_append_right _ _)).sat)) ?_
    rintro _ wx ⟨r', rfl, hr', Hc⟩
    refine ⟨_, rfl, ?_⟩
    replace H := (St.focus (L := [(it, .mapIter (some R.mb) R.clk (seen.push bn) R.clk)]) hX H).callM Hc
    have hcl : (if l.mark = 0 then (R.like g1).clk else (pRest (R.like g1).mp (R.like g1).clk k (pSettle l l.mark).ps).2) = R.clk := by
      split
      · rfl
      · exact (pRest_in hkey).1
    rw [hcl] at H
    replace H := St.refocus (L := [_]) hX H
    have hps0 : l.mark = 0 → (pSettle l l.mark).ps = l.ps := fun h => by rw [h]; rfl
    have hok2 : ((R.like g1).upd A B (pSettle l l.mark) r' (if l.mark = 0 then (R.like g1).mp else (pRest (R.like g1).mp R.clk k (pSettle l l.mark).ps).1) R.clk).ok := by
      refine hF.ok.upd hX hA (pSettle_ok hok) hr' ?_ ?_
      · split
        · exact hF.ok.map
        · have h := pRest_ok (n := (k : Int)) (ps := (pSettle l l.mark).ps) hF.ok.map
          rw [(pRest_in hkey).1] at h
          exact h
      · split
        · rename_i h0
          rw [hps0 h0]
          exact keys_same hF.ok hget Iff.rfl
        · exact fun x => pRest_keys hF.ok.map
    have hF2 : Fencing R _ (seen.push bn) := Fencing.step hm.ok hF hX hA hmem hns hy hle (by
      split
      · exact List.Sublist.refl _
      · exact (pRest_in hkey).2) hok2
    refine (WL.done (WX.block_normal (WX.round ?_)))
    exact hN _ ((R.like g1).upd A B (pSettle l l.mark) r' (if l.mark = 0 then (R.like g1).mp else (pRest (R.like g1).mp R.clk k (pSettle l l.mark).ps).1) R.clk, seen.push bn) _ _ (left_push (hF.sub.subset hmem) hns) ⟨rfl, hF2, H⟩ (Sub.nil _) (Sub.cons (t := 0) rfl (Sub.cons (t := 7) rfl (Sub.nil _)))
  · -- c1 F
    obtain ⟨hall, H⟩ := hNo c1
    refine (WC.exit (WX.then_exit (WX.then_exit (WX.block_exit (WX.next ?_)))))
    refine WC.region ?_
    refine WL.move rfl rfl ?_
    refine WL.build pla164 zer164 rfl rfl rfl ?_
    refine WL.call call106 rfl rfl ?_
    refine Calls.mono (note_any (R.like g1) [4, 0, 0, 0, 0, 0, 0, 0, 0, 0, 0, 0] rfl (by rw [hF.evs]; exact hsm) _ hF.ok (St.start H.tail.nd H.tail.sat)) ?_
    rintro _ wx ⟨er, rfl, hok3, Hc⟩
    refine ⟨_, rfl, ?_⟩
    replace H := St.callM (L := [(it, .mapIter (some R.mb) R.clk seen R.clk)]) H Hc
    refine (WL.done ?_)
    refine end_none rfl ?_
    refine ⟨(R.like g1).noted [4, 0, 0, 0, 0, 0, 0, 0, 0, 0, 0, 0] er, rfl, rfl, ?_, hok3, H.tail⟩
    rw [abs_noted]
    have e1 := hF.done hm.ok hall
    show PM.mk (R.like g1).abs.ls (R.like g1).span ((R.like g1).evs ++ _) = _
    rw [e1, hF.span, hF.evs]
    rfl

end Go.Proofs.YtkncbggnaobgeaaDoor
