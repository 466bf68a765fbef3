/- More for those who hold memories: made or not; images. -/
import Derived.Test.YtkncbggnaobgeaaDoorApi
import Derived.Test.YtkncbggnaobgeaaDoorRef2
import Derived.Test.YtkncbggnaobgeaaDoorLaw1
namespace Go.Proofs.YtkncbggnaobgeaaDoor
open Go.RowKit
set_option linter.unusedVariables false
set_option linter.unusedSimpArgs false
set_option maxRecDepth 100000

/-- The pointer to a memory, if there is one. -/
abbrev optr (o : Option (Nat × RM)) : Value := .pointer (o.map fun x => ⟨x.1, 0, none⟩)
/-- Lines without what is pending. -/
def bare (l : PL) : List Int × Int := (l.ws, l.c)
section
variable {w0 w : World} {L H : Hp} {R : RM} {p k : Nat} {M : PM}
theorem a_new_opt (n : Int) (H0 : St w0 [] w H) (hL : L64 w0) : Calls Tryd.prog 23 #[.int .i64 n] w fun e w' => ∃ o : Option (Nat × RM), e = .returned (optr o) ∧
    (((1 ≤ n ∧ n ≤ 4096) ∧ ∃ p R, o = some (p, R) ∧ Is R p (PM.fresh n.toNat) 0 ∧ St w0 [] w' (H ++ R.hp)) ∨ (¬ (1 ≤ n ∧ n ≤ 4096) ∧ o = none ∧ St w0 [] w' H)) := by
  refine (a_new n H0 hL).mono fun e w' h => ?_
  split at h
  · rename_i hn
    obtain ⟨p, R, rfl, hI, hs⟩ := h
    exact ⟨some (p, R), rfl, .inl ⟨hn, p, R, rfl, hI, hs⟩⟩
  · rename_i hn
    obtain ⟨rfl, hs⟩ := h
    exact ⟨none, rfl, .inr ⟨hn, rfl, hs⟩⟩
def PM.ofImg (imgs : List (List Int × Int)) : PM := { ls := imgs.map toPL, span := 0, evs := [] }
theorem imgOk_iff {imgs : List (List Int × Int)} : imgOk imgs = true ↔ (1 ≤ imgs.length ∧ imgs.length ≤ 4096) ∧ ∀ x ∈ imgs, isWords x.1 = true ∧ isCode x.2 = true := by
  simp [imgOk, Bool.and_eq_true, List.all_eq_true]
theorem a_from_opt (A : Option Addr) (m cap : Nat) (imgs : List (List Int × Int)) (hmi : m = imgs.length) (h8 : ∀ x ∈ imgs, x.1.length = 8) (himg : ImgIn w A imgs) (hm63 : m ≤ 1073741824) (H0 : St w0 [] w H) (hL : L64 w0) :
    Calls Tryd.prog 24 #[.slice A m cap] w fun e w' => ∃ o : Option (Nat × RM), e = .returned (optr o) ∧
    ((imgOk imgs = true ∧ ∃ p R, o = some (p, R) ∧ Is R p (PM.ofImg imgs) 0 ∧ St w0 [] w' (H ++ R.hp)) ∨ (imgOk imgs = false ∧ o = none ∧ St w0 [] w' H)) := by
  refine (from_any A m cap imgs hmi h8 w himg hm63).mono fun e w' h => ?_
  split at h
  · rename_i hn
    obtain ⟨p, lb, mb, rfl, Hc⟩ := h
    obtain ⟨hlen, hall⟩ := imgOk_iff.1 hn
    refine ⟨some (p, RM.fresh p lb mb (imgs.map toPL)), rfl, .inl ⟨hn, p, _, rfl, ⟨rfl, RM.fresh_abs _ _ _ _, RM.fresh_ok (by simpa using hlen) (fun l hl => ?_), ⟨Nat.le_refl _, fun l hl => ?_⟩⟩, (H0.call Hc).perm List.perm_append_comm⟩⟩
    · obtain ⟨x, hx, rfl⟩ := List.mem_map.1 hl
      exact ⟨⟨h8 x hx, (hall x hx).1, (hall x hx).2, Nat.le_refl _, fun p hp => by cases hp⟩, rfl⟩
    · obtain ⟨x, hx, rfl⟩ := List.mem_map.1 hl
      exact Nat.le_refl _
  · rename_i hn
    obtain ⟨rfl, hs⟩ := h
    exact ⟨none, rfl, .inr ⟨by simpa using hn, rfl, H0.call0 hs⟩⟩
theorem ofImg_bare (imgs : List (List Int × Int)) : (PM.ofImg imgs).ls.map bare = imgs := by
  simp [PM.ofImg, List.map_map, Function.comp_def, bare, toPL]
theorem St.dropR {S : List Nat} {X K : Hp} (H : St w0 S w ((X ++ L) ++ K)) : St w0 S w (L ++ K) := H.weaken (List.Sublist.append_right (List.sublist_append_right _ _) _)
theorem ImgIn.keep {A : Option Addr} {imgs : List (List Int × Int)} (h : ImgIn w0 A imgs) (H : St w0 [] w L) : ImgIn w A imgs := by
  rcases h with h | ⟨b, o, cs, t, fr, h1, h2, h3⟩
  · exact .inl h
  · exact .inr ⟨b, o, cs, t, fr, h1, H.oldBlock h2 (by simp), h3⟩
theorem flatI_bare (ls : List PL) : flatI (ls.map bare) = imgC ls := by
  unfold flatI imgC bare
  rw [List.flatMap_map]
theorem ImgIn.block {g : Nat} {t : TypeId} {ls : List PL} (h : w.heap[g]? = some (.cells (arrC (imgC ls)) t)) : ImgIn w (some ⟨g, 0, none⟩) (ls.map bare) := by
  refine .inr ⟨g, 0, _, t, _, rfl, h, fun j u hj => ?_⟩
  rw [flatI_bare] at hj
  rw [Nat.zero_add, arrC_get, hj]; rfl
theorem a_sameImage (A A2 : Option Addr) (m m2 cap cap2 : Nat) (imgs imgs2 : List (List Int × Int)) (hmi : m = imgs.length) (hmi2 : m2 = imgs2.length) (h8 : ∀ x ∈ imgs, x.1.length = 8) (h82 : ∀ x ∈ imgs2, x.1.length = 8) (himg : ImgIn w A imgs) (himg2 : ImgIn w A2 imgs2) (hm63 : m ≤ 1073741824) (H0 : St w0 [] w H) :
    Calls Tryd.prog 28 #[.slice A m cap, .slice A2 m2 cap2] w fun e w' => e = .returned (.bool (decide (imgs = imgs2))) ∧ St w0 [] w' H :=
  (sameImage_any A A2 m m2 cap cap2 imgs imgs2 hmi hmi2 h8 h82 w himg himg2 hm63).mono fun e w' ⟨h, Hc⟩ => ⟨h, H0.call0 Hc⟩
theorem a_right (A : Option Addr) (m cap : Nat) (imgs : List (List Int × Int)) (hmi : m = imgs.length) (h8 : ∀ x ∈ imgs, x.1.length = 8) (himg : ImgIn w A imgs) (hm63 : m ≤ 1073741824) (H0 : St w0 [] w H) :
    Calls Tryd.prog 25 #[.slice A m cap] w fun e w' => e = .returned (.bool (imgOk imgs)) ∧ St w0 [] w' H :=
  (right_any A m cap imgs hmi h8 w himg hm63).mono fun e w' ⟨h, Hc⟩ => ⟨h, H0.call0 Hc⟩
theorem Is.bare8 (hI : Is R p M k) : ∀ x ∈ M.ls.map bare, x.1.length = 8 := by
  intro x hx
  obtain ⟨l, hl, rfl⟩ := List.mem_map.1 hx
  exact (hI.lok l hl).1
end
end Go.Proofs.YtkncbggnaobgeaaDoor
