/- Layer 3 (the code of a line) as plain functions over lists of integers. No Go in sight. -/
namespace Go.Proofs.YtkncbggnaobgeaaDoor
set_option maxRecDepth 100000

def isWord (n : Int) : Bool := decide (0 ≤ n) && decide (n ≤ 1099511627775)
def isCode (n : Int) : Bool := decide (0 ≤ n) && decide (n ≤ 1023)
theorem isWord_iff {n : Int} : isWord n = true ↔ 0 ≤ n ∧ n ≤ 1099511627775 := by simp [isWord]
theorem isWord_no {n : Int} (h : n < 0 ∨ 1099511627775 < n) : isWord n = false := by simp [isWord]; omega
theorem isCode_iff {n : Int} : isCode n = true ↔ 0 ≤ n ∧ n ≤ 1023 := by simp [isCode]
theorem isCode_no {n : Int} (h : n < 0 ∨ 1023 < n) : isCode n = false := by simp [isCode]; omega
/-- Eight words. -/
def isWords (ws : List Int) : Bool := ws.all isWord
theorem isWords_get {ws : List Int} (h : isWords ws = true) {g : Nat} (hg : g < ws.length) : 0 ≤ ws.getD g 0 ∧ ws.getD g 0 ≤ 1099511627775 := by
  have := List.all_eq_true.1 h (ws.getD g 0) (by simp [List.getD, List.getElem?_eq_getElem hg])
  exact isWord_iff.1 this
theorem take_all_succ {p : Int → Bool} {ws : List Int} {g : Nat} (h : g < ws.length) (h1 : (ws.take g).all p = true) (h2 : p (ws.getD g 0) = true) : (ws.take (g + 1)).all p = true := by
  rw [List.take_succ_eq_append_getElem h, List.all_append, h1]
  simp [List.getD, List.getElem?_eq_getElem h] at h2
  simp [h2]
theorem all_false_of {p : Int → Bool} {ws : List Int} {g : Nat} (h : g < ws.length) (h2 : p (ws.getD g 0) = false) : ws.all p = false := by
  rw [List.all_eq_false]
  refine ⟨ws.getD g 0, ?_, by rw [h2]; simp⟩
  simp [List.getD, List.getElem?_eq_getElem h]
theorem all_of_take {p : Int → Bool} {ws : List Int} (h : (ws.take ws.length).all p = true) : ws.all p = true := by simpa using h

/-- How many binary digits (below 1024). -/
def len2 (x : Nat) : Nat :=
  if x < 1 then 0 else if x < 2 then 1 else if x < 4 then 2 else if x < 8 then 3 else if x < 16 then 4 else if x < 32 then 5 else if x < 64 then 6 else if x < 128 then 7 else if x < 256 then 8 else if x < 512 then 9 else 10
/-- The position of a data bit. -/
def posn (i : Nat) : Nat := if len2 (i + 1 + len2 (i + 1)) > len2 (i + 1) then i + 1 + len2 (i + 1) + 1 else i + 1 + len2 (i + 1)
/-- How many digits are 1 (below 1024). -/
def popc (x : Nat) : Nat := x % 2 + x / 2 % 2 + x / 4 % 2 + x / 8 % 2 + x / 16 % 2 + x / 32 % 2 + x / 64 % 2 + x / 128 % 2 + x / 256 % 2 + x / 512 % 2
def isPow2 (n : Nat) : Bool := n &&& (n - 1) == 0

theorem posn_facts : ∀ i, i < 320 → 3 ≤ posn i ∧ posn i < 512 ∧ isPow2 (posn i) = false := by decide +kernel
theorem posn_next : ∀ i, i < 320 → (isPow2 (posn i + 1) = false ∧ posn (i + 1) = posn i + 1) ∨ (isPow2 (posn i + 1) = true ∧ isPow2 (posn i + 2) = false ∧ posn (i + 1) = posn i + 2) := by decide +kernel
theorem posn_zero : posn 0 = 3 := by decide
theorem posn_mono : ∀ i, i < 320 → posn i < posn (i + 1) := by
  intro i hi
  rcases posn_next i hi with h | h <;> omega
theorem posn_lt {i j : Nat} (hj : j ≤ 320) (h : i < j) : posn i < posn j := by
  induction j with
  | zero => omega
  | succ j ih =>
    have := posn_mono j (by omega)
    rcases Nat.lt_or_ge i j with hl | hg
    · have := ih (by omega) hl; omega
    · have : i = j := by omega
      subst this; assumption
theorem posn_inj {i j : Nat} (hi : i < 320) (hj : j < 320) (h : posn i = posn j) : i = j := by
  rcases Nat.lt_trichotomy i j with hl | he | hg
  · have := posn_lt (by omega) hl; omega
  · exact he
  · have := posn_lt (by omega) hg; omega

/-- Data bit j of a line. -/
def bitAt (ws : List Int) (j : Nat) : Bool := (ws.getD (j / 40) 0).toNat.testBit (j % 40)
/-- The exclusive or of the positions of the first j data bits that are 1, and how many these are. -/
def synTo (ws : List Int) : Nat → Nat × Nat
  | 0 => (0, 0)
  | j + 1 => if bitAt ws j then ((synTo ws j).1 ^^^ posn j, (synTo ws j).2 + 1) else synTo ws j
def syn (ws : List Int) : Nat := (synTo ws 320).1
def cnt (ws : List Int) : Nat := (synTo ws 320).2

theorem synTo_lt (ws : List Int) : ∀ j, j ≤ 320 → (synTo ws j).1 < 512 ∧ (synTo ws j).2 ≤ j
  | 0, _ => by simp [synTo]
  | j + 1, h => by
    have ih := synTo_lt ws j (by omega)
    have hp := posn_facts j (by omega)
    simp only [synTo]
    split
    · refine ⟨?_, by simp; omega⟩
      exact Nat.xor_lt_two_pow (n := 9) (by omega) (by omega)
    · exact ⟨ih.1, by omega⟩
theorem syn_lt (ws : List Int) : syn ws < 512 := (synTo_lt ws 320 (by omega)).1
theorem cnt_le (ws : List Int) : cnt ws ≤ 320 := (synTo_lt ws 320 (by omega)).2
theorem synTo_skip (ws : List Int) (a : Nat) : ∀ d, (∀ j, a ≤ j → j < a + d → bitAt ws j = false) → synTo ws (a + d) = synTo ws a
  | 0, _ => rfl
  | d + 1, h => by
    rw [show a + (d + 1) = (a + d) + 1 from rfl, synTo, h (a + d) (by omega) (by omega)]
    simp only [Bool.false_eq_true, if_false]
    exact synTo_skip ws a d (fun j h1 h2 => h j h1 (by omega))

def enc (ws : List Int) : Int := if isWords ws then ((if (cnt ws + popc (syn ws)) % 2 = 1 then syn ws ||| 512 else syn ws : Nat) : Int) else -1

/-- The first data bit at a position. -/
def findPos (s : Nat) : Option Nat := (List.range 320).find? fun j => posn j == s
/-- The exponent of a power of two below 512. -/
def log2 (s : Nat) : Nat := (List.range 9).findIdx fun k => 2 ^ k == s
/-- State, word, bit. -/
def chk (ws : List Int) (c : Int) : Int × Int × Int :=
  if isWords ws && isCode c then
    let s := syn ws ^^^ (c.toNat &&& 511)
    if (cnt ws + popc c.toNat) % 2 = 1 then
      if s = 0 then (1, 8, 9)
      else if isPow2 s then (1, 8, log2 s)
      else match findPos s with
        | some j => (1, (j / 40 : Nat), (j % 40 : Nat))
        | none => (2, 0, 0)
    else if s = 0 then (0, 0, 0) else (2, 0, 0)
  else (2, 0, 0)

theorem and511 {s : Nat} (h : s < 512) : (s ||| 512) &&& 511 = s ∧ s &&& 511 = s := by
  have key : ∀ s, s < 512 → (s ||| 512) &&& 511 = s ∧ s &&& 511 = s := by decide +kernel
  exact key s h
theorem popc512 {s : Nat} (h : s < 512) : popc (s ||| 512) = popc s + 1 ∧ s ||| 512 < 1024 := by
  have key : ∀ s, s < 512 → popc (s ||| 512) = popc s + 1 ∧ s ||| 512 < 1024 := by decide +kernel
  exact key s h
theorem enc_range {ws : List Int} (h : isWords ws = true) : 0 ≤ enc ws ∧ enc ws ≤ 1023 := by
  have h1 := syn_lt ws
  have h2 := (popc512 h1).2
  unfold enc
  rw [if_pos h]
  split <;> omega
theorem enc_code {ws : List Int} (h : isWords ws = true) : isCode (enc ws) = true := isCode_iff.2 (enc_range h)
/-- A line with its own code is clean. -/
theorem chk_enc {ws : List Int} (h : isWords ws = true) : chk ws (enc ws) = (0, 0, 0) := by
  have h1 := syn_lt ws
  have h2 := popc512 h1
  have h3 := and511 h1
  unfold chk
  rw [h, enc_code h]
  simp only [Bool.and_self, if_true]
  unfold enc
  rw [if_pos h]
  by_cases hp : (cnt ws + popc (syn ws)) % 2 = 1
  · simp only [hp, if_true, Int.toNat_natCast, h2.1, h3.1, Nat.xor_self]
    rw [if_neg (by omega)]
  · simp only [hp, if_false, Int.toNat_natCast, h3.2, Nat.xor_self, if_true]

/-- Bit number 'bit' of word number 'word' (8: the code) inverted. -/
def flipBit (ws : List Int) (c : Int) (word bit : Nat) : List Int × Int :=
  if word = 8 then (ws, ((c.toNat ^^^ 2 ^ bit : Nat) : Int)) else (ws.set word (((ws.getD word 0).toNat ^^^ 2 ^ bit : Nat) : Int), c)
/-- What Fix returns: words, code, error. -/
def fix (ws : List Int) (c : Int) : List Int × Int × Int :=
  if isWords ws && isCode c then
    match chk ws c with
    | (0, _, _) => (ws, c, 0)
    | (1, w, b) => ((flipBit ws c w.toNat b.toNat).1, (flipBit ws c w.toNat b.toNat).2, 0)
    | _ => ([0, 0, 0, 0, 0, 0, 0, 0], 0, 9)
  else ([0, 0, 0, 0, 0, 0, 0, 0], 0, 1)
theorem fix_enc {ws : List Int} (h : isWords ws = true) : fix ws (enc ws) = (ws, enc ws, 0) := by
  unfold fix
  rw [h, enc_code h, chk_enc h]
  rfl
end Go.Proofs.YtkncbggnaobgeaaDoor
