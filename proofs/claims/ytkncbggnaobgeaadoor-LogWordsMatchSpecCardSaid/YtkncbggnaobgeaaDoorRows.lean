/-
  NARROWER THAN 'FOR EVERY INPUT', by the rows' own cells (each row's printed sentence says how): MemoryBegins: laid · MemoryCodes: laid · MemoryFenceKeeps: laid · MemoryEvictsLikeFences: laid · MemoryLinesAreApart: laid · RootGoesOn: laid · MemoryMatchesSpec: laid · LogOrder: laid · MemoryKeepsPrefixes: laid · RootPlanMatchesSpec: laid · RootRegionsAreApart: laid · RootWordsMatchSpec: laid · RootParseMatchesSpec: laid · LogWordsMatchSpec: laid · LogDecodesWhatItEncodes: laid · RootSurvivesRot: laid · LogMatchesSpec: laid · LogFindsRot: laid · RootSurvivesFailures: laid.
  DERIVED. THE GIVEN ROWS OF THIS SEAT. 19 by the template 'for every input the law returns true; each argument reads behind the call as it read before'; 0 by the template 'total and deterministic' (their statements: YtkncbggnaobgeaaDoorTotals.lean).
  GIVEN WITH THE SEED: the statements are not yours to turn. If you find one false, say at which input.
  Laid BY PROGRAM, IN A SANDBOX (cutbox-rows.mjs): the forced cells as the released guide's own fill.sh prints them over the translation e55031acfad21935… (all of the seat's roots in one cut). By AI agents, Wed Nov 11 2026. No macro, syntax, notation, axiom, sorry.
-/
import Derived.Test.YtkncbggnaobgeaaDoorChecked
import GoSem.Claim
import GoSem.ClaimJoined
import GoSem.ClaimMapViews
import Derived.JoinedTies
import Derived.KernelRfl
namespace Go.Proofs.YtkncbggnaobgeaaDoor
/- THE CELL 'sum', in the pinned program and in every row, IS THE sha256 OF THE DUMP (.gsa) THAT YtkncbggnaobgeaaDoorProg.lean LOADS. Nothing in Lean hashes anything: it is a label: what it is worth is what the hold of that sum in a sandbox is worth. -/
noncomputable def Tryd.pinned : Pinned := { name := "ytkncbggnaobgeaadoor", sum := "e55031acfad21935d67d1fb7461b5cf64ac993d131fae401fd00ed6a4a56c022", checked := Tryd.checked }
namespace Rows
def none {H : Type} : Left H := { results := [], args := [] }

/- WHAT THE LISTED PACKAGE-LEVEL VARIABLES READ AS WHEN THE CALL BEGINS. Each datum BY PROGRAM (the guide's laid-datum.mjs) off the statement by which the dump's own 'gosem.cut.vars' lays the variable. In a bare row this is a premise. The card (YtkncbggnaobgeaaDoorCards.lean) ties it to the program's text. -/
def laid_math_bits_deBruijn32tab {H : Type} : DataW H := .agg [.lit (.int .u8 0), .lit (.int .u8 1), .lit (.int .u8 28), .lit (.int .u8 2), .lit (.int .u8 29), .lit (.int .u8 14), .lit (.int .u8 24), .lit (.int .u8 3), .lit (.int .u8 30), .lit (.int .u8 22), .lit (.int .u8 20), .lit (.int .u8 15), .lit (.int .u8 25), .lit (.int .u8 17), .lit (.int .u8 4), .lit (.int .u8 8), .lit (.int .u8 31), .lit (.int .u8 27), .lit (.int .u8 13), .lit (.int .u8 23), .lit (.int .u8 21), .lit (.int .u8 19), .lit (.int .u8 16), .lit (.int .u8 7), .lit (.int .u8 26), .lit (.int .u8 12), .lit (.int .u8 18), .lit (.int .u8 6), .lit (.int .u8 11), .lit (.int .u8 5), .lit (.int .u8 10), .lit (.int .u8 9)]
def laid_math_bits_deBruijn64tab {H : Type} : DataW H := .agg [.lit (.int .u8 0), .lit (.int .u8 1), .lit (.int .u8 56), .lit (.int .u8 2), .lit (.int .u8 57), .lit (.int .u8 49), .lit (.int .u8 28), .lit (.int .u8 3), .lit (.int .u8 61), .lit (.int .u8 58), .lit (.int .u8 42), .lit (.int .u8 50), .lit (.int .u8 38), .lit (.int .u8 29), .lit (.int .u8 17), .lit (.int .u8 4), .lit (.int .u8 62), .lit (.int .u8 47), .lit (.int .u8 59), .lit (.int .u8 36), .lit (.int .u8 45), .lit (.int .u8 43), .lit (.int .u8 51), .lit (.int .u8 22), .lit (.int .u8 53), .lit (.int .u8 39), .lit (.int .u8 33), .lit (.int .u8 30), .lit (.int .u8 24), .lit (.int .u8 18), .lit (.int .u8 12), .lit (.int .u8 5), .lit (.int .u8 63), .lit (.int .u8 55), .lit (.int .u8 48), .lit (.int .u8 27), .lit (.int .u8 60), .lit (.int .u8 41), .lit (.int .u8 37), .lit (.int .u8 16), .lit (.int .u8 46), .lit (.int .u8 35), .lit (.int .u8 44), .lit (.int .u8 21), .lit (.int .u8 52), .lit (.int .u8 32), .lit (.int .u8 23), .lit (.int .u8 11), .lit (.int .u8 54), .lit (.int .u8 26), .lit (.int .u8 40), .lit (.int .u8 15), .lit (.int .u8 34), .lit (.int .u8 20), .lit (.int .u8 31), .lit (.int .u8 10), .lit (.int .u8 25), .lit (.int .u8 14), .lit (.int .u8 19), .lit (.int .u8 9), .lit (.int .u8 13), .lit (.int .u8 8), .lit (.int .u8 7), .lit (.int .u8 6)]
def laid_alum_pointer_pointers {H : Type} : DataW H := .agg [.agg [.lit (.int .i64 0), .lit (.int .i64 12)], .agg [.lit (.int .i64 12), .lit (.int .i64 20)]]
def laid_alum_hash_nibbles {H : Type} : DataW H := .agg [.lit (.int .u64 0), .lit (.int .u64 75628553), .lit (.int .u64 151257106), .lit (.int .u64 226885659), .lit (.int .u64 302514212), .lit (.int .u64 378142765), .lit (.int .u64 453771318), .lit (.int .u64 529399871), .lit (.int .u64 605028424), .lit (.int .u64 546439233), .lit (.int .u64 756285530), .lit (.int .u64 697696339), .lit (.int .u64 907542636), .lit (.int .u64 848953445), .lit (.int .u64 1058799742), .lit (.int .u64 1000210551)]

/-- 'alumlaw04.MemoryBegins': WHATEVER THE INPUT: true; the input reads as it did. -/
def memoryBeginsSpec : ChangeSpec := { name := "memoryBegins", fn := fun _ => fun
  | [d1, d2] => { results := [.lit (.bool true)], args := [d1, d2] }
  | _ => none }
def memoryBeginsRow : OpenClaim := { program := "ytkncbggnaobgeaadoor", sum := "e55031acfad21935d67d1fb7461b5cf64ac993d131fae401fd00ed6a4a56c022", func := "alum/alumlaw04.MemoryBegins", spec := "memoryBegins", unfollowed := true, recurses := true, named := ["math/bits.deBruijn32tab", "math/bits.deBruijn64tab"], apart := false, laid := [("math/bits.deBruijn32tab", laid_math_bits_deBruijn32tab), ("math/bits.deBruijn64tab", laid_math_bits_deBruijn64tab)] }
def MemoryBeginsSaid : Prop := memoryBeginsRow.holds Tryd.pinned (OpenSpec.ofChange memoryBeginsSpec)

/-- ITS FALSE NEIGHBOUR: 'it returns false'. Refute it at one input. -/
def memoryBeginsWrong : ChangeSpec := { name := "memoryBegins", fn := fun _ => fun
  | [d1, d2] => { results := [.lit (.bool false)], args := [d1, d2] }
  | _ => none }
def MemoryBeginsWrongFalsely : Prop := memoryBeginsRow.holds Tryd.pinned (OpenSpec.ofChange memoryBeginsWrong)

/-- 'alumlaw04.MemoryCodes': WHATEVER THE INPUT: true; the input reads as it did. -/
def memoryCodesSpec : ChangeSpec := { name := "memoryCodes", fn := fun _ => fun
  | [d1, d2] => { results := [.lit (.bool true)], args := [d1, d2] }
  | _ => none }
def memoryCodesRow : OpenClaim := { program := "ytkncbggnaobgeaadoor", sum := "e55031acfad21935d67d1fb7461b5cf64ac993d131fae401fd00ed6a4a56c022", func := "alum/alumlaw04.MemoryCodes", spec := "memoryCodes", unfollowed := true, recurses := true, named := ["math/bits.deBruijn32tab", "math/bits.deBruijn64tab"], apart := false, laid := [("math/bits.deBruijn32tab", laid_math_bits_deBruijn32tab), ("math/bits.deBruijn64tab", laid_math_bits_deBruijn64tab)] }
def MemoryCodesSaid : Prop := memoryCodesRow.holds Tryd.pinned (OpenSpec.ofChange memoryCodesSpec)

/-- ITS FALSE NEIGHBOUR: 'it returns false'. Refute it at one input. -/
def memoryCodesWrong : ChangeSpec := { name := "memoryCodes", fn := fun _ => fun
  | [d1, d2] => { results := [.lit (.bool false)], args := [d1, d2] }
  | _ => none }
def MemoryCodesWrongFalsely : Prop := memoryCodesRow.holds Tryd.pinned (OpenSpec.ofChange memoryCodesWrong)

/-- 'alumlaw04.MemoryFenceKeeps': WHATEVER THE INPUT: true; the input reads as it did. -/
def memoryFenceKeepsSpec : ChangeSpec := { name := "memoryFenceKeeps", fn := fun _ => fun
  | [d1, d2, d3, d4] => { results := [.lit (.bool true)], args := [d1, d2, d3, d4] }
  | _ => none }
def memoryFenceKeepsRow : OpenClaim := { program := "ytkncbggnaobgeaadoor", sum := "e55031acfad21935d67d1fb7461b5cf64ac993d131fae401fd00ed6a4a56c022", func := "alum/alumlaw04.MemoryFenceKeeps", spec := "memoryFenceKeeps", unfollowed := true, recurses := true, named := ["math/bits.deBruijn32tab", "math/bits.deBruijn64tab"], apart := false, laid := [("math/bits.deBruijn32tab", laid_math_bits_deBruijn32tab), ("math/bits.deBruijn64tab", laid_math_bits_deBruijn64tab)] }
def MemoryFenceKeepsSaid : Prop := memoryFenceKeepsRow.holds Tryd.pinned (OpenSpec.ofChange memoryFenceKeepsSpec)

/-- ITS FALSE NEIGHBOUR: 'it returns false'. Refute it at one input. -/
def memoryFenceKeepsWrong : ChangeSpec := { name := "memoryFenceKeeps", fn := fun _ => fun
  | [d1, d2, d3, d4] => { results := [.lit (.bool false)], args := [d1, d2, d3, d4] }
  | _ => none }
def MemoryFenceKeepsWrongFalsely : Prop := memoryFenceKeepsRow.holds Tryd.pinned (OpenSpec.ofChange memoryFenceKeepsWrong)

/-- 'alumlaw04.MemoryEvictsLikeFences': WHATEVER THE INPUT: true; the input reads as it did. -/
def memoryEvictsLikeFencesSpec : ChangeSpec := { name := "memoryEvictsLikeFences", fn := fun _ => fun
  | [d1, d2, d3] => { results := [.lit (.bool true)], args := [d1, d2, d3] }
  | _ => none }
def memoryEvictsLikeFencesRow : OpenClaim := { program := "ytkncbggnaobgeaadoor", sum := "e55031acfad21935d67d1fb7461b5cf64ac993d131fae401fd00ed6a4a56c022", func := "alum/alumlaw04.MemoryEvictsLikeFences", spec := "memoryEvictsLikeFences", unfollowed := true, recurses := true, named := ["math/bits.deBruijn32tab", "math/bits.deBruijn64tab"], apart := false, laid := [("math/bits.deBruijn32tab", laid_math_bits_deBruijn32tab), ("math/bits.deBruijn64tab", laid_math_bits_deBruijn64tab)] }
def MemoryEvictsLikeFencesSaid : Prop := memoryEvictsLikeFencesRow.holds Tryd.pinned (OpenSpec.ofChange memoryEvictsLikeFencesSpec)

/-- ITS FALSE NEIGHBOUR: 'it returns false'. Refute it at one input. -/
def memoryEvictsLikeFencesWrong : ChangeSpec := { name := "memoryEvictsLikeFences", fn := fun _ => fun
  | [d1, d2, d3] => { results := [.lit (.bool false)], args := [d1, d2, d3] }
  | _ => none }
def MemoryEvictsLikeFencesWrongFalsely : Prop := memoryEvictsLikeFencesRow.holds Tryd.pinned (OpenSpec.ofChange memoryEvictsLikeFencesWrong)

/-- 'alumlaw04.MemoryLinesAreApart': WHATEVER THE INPUT: true; the input reads as it did. -/
def memoryLinesAreApartSpec : ChangeSpec := { name := "memoryLinesAreApart", fn := fun _ => fun
  | [d1, d2, d3, d4] => { results := [.lit (.bool true)], args := [d1, d2, d3, d4] }
  | _ => none }
def memoryLinesAreApartRow : OpenClaim := { program := "ytkncbggnaobgeaadoor", sum := "e55031acfad21935d67d1fb7461b5cf64ac993d131fae401fd00ed6a4a56c022", func := "alum/alumlaw04.MemoryLinesAreApart", spec := "memoryLinesAreApart", unfollowed := true, recurses := true, named := ["math/bits.deBruijn32tab", "math/bits.deBruijn64tab"], apart := false, laid := [("math/bits.deBruijn32tab", laid_math_bits_deBruijn32tab), ("math/bits.deBruijn64tab", laid_math_bits_deBruijn64tab)] }
def MemoryLinesAreApartSaid : Prop := memoryLinesAreApartRow.holds Tryd.pinned (OpenSpec.ofChange memoryLinesAreApartSpec)

/-- ITS FALSE NEIGHBOUR: 'it returns false'. Refute it at one input. -/
def memoryLinesAreApartWrong : ChangeSpec := { name := "memoryLinesAreApart", fn := fun _ => fun
  | [d1, d2, d3, d4] => { results := [.lit (.bool false)], args := [d1, d2, d3, d4] }
  | _ => none }
def MemoryLinesAreApartWrongFalsely : Prop := memoryLinesAreApartRow.holds Tryd.pinned (OpenSpec.ofChange memoryLinesAreApartWrong)

/-- 'alumlaw08.RootGoesOn': WHATEVER THE INPUT: true; the input reads as it did. -/
def rootGoesOnSpec : ChangeSpec := { name := "rootGoesOn", fn := fun _ => fun
  | [d1, d2, d3] => { results := [.lit (.bool true)], args := [d1, d2, d3] }
  | _ => none }
def rootGoesOnRow : OpenClaim := { program := "ytkncbggnaobgeaadoor", sum := "e55031acfad21935d67d1fb7461b5cf64ac993d131fae401fd00ed6a4a56c022", func := "alum/alumlaw08.RootGoesOn", spec := "rootGoesOn", unfollowed := true, recurses := true, named := ["math/bits.deBruijn32tab", "math/bits.deBruijn64tab", "alum/pointer.pointers", "alum/hash.nibbles"], apart := false, laid := [("alum/pointer.pointers", laid_alum_pointer_pointers), ("math/bits.deBruijn32tab", laid_math_bits_deBruijn32tab), ("math/bits.deBruijn64tab", laid_math_bits_deBruijn64tab), ("alum/hash.nibbles", laid_alum_hash_nibbles)] }
def RootGoesOnSaid : Prop := rootGoesOnRow.holds Tryd.pinned (OpenSpec.ofChange rootGoesOnSpec)

/-- ITS FALSE NEIGHBOUR: 'it returns false'. Refute it at one input. -/
def rootGoesOnWrong : ChangeSpec := { name := "rootGoesOn", fn := fun _ => fun
  | [d1, d2, d3] => { results := [.lit (.bool false)], args := [d1, d2, d3] }
  | _ => none }
def RootGoesOnWrongFalsely : Prop := rootGoesOnRow.holds Tryd.pinned (OpenSpec.ofChange rootGoesOnWrong)

/-- 'alumlaw04.MemoryMatchesSpec': WHATEVER THE INPUT: true; the input reads as it did. -/
def memoryMatchesSpecSpec : ChangeSpec := { name := "memoryMatchesSpec", fn := fun _ => fun
  | [d1, d2] => { results := [.lit (.bool true)], args := [d1, d2] }
  | _ => none }
def memoryMatchesSpecRow : OpenClaim := { program := "ytkncbggnaobgeaadoor", sum := "e55031acfad21935d67d1fb7461b5cf64ac993d131fae401fd00ed6a4a56c022", func := "alum/alumlaw04.MemoryMatchesSpec", spec := "memoryMatchesSpec", unfollowed := true, recurses := true, named := ["math/bits.deBruijn32tab", "math/bits.deBruijn64tab"], apart := false, laid := [("math/bits.deBruijn32tab", laid_math_bits_deBruijn32tab), ("math/bits.deBruijn64tab", laid_math_bits_deBruijn64tab)] }
def MemoryMatchesSpecSaid : Prop := memoryMatchesSpecRow.holds Tryd.pinned (OpenSpec.ofChange memoryMatchesSpecSpec)

/-- ITS FALSE NEIGHBOUR: 'it returns false'. Refute it at one input. -/
def memoryMatchesSpecWrong : ChangeSpec := { name := "memoryMatchesSpec", fn := fun _ => fun
  | [d1, d2] => { results := [.lit (.bool false)], args := [d1, d2] }
  | _ => none }
def MemoryMatchesSpecWrongFalsely : Prop := memoryMatchesSpecRow.holds Tryd.pinned (OpenSpec.ofChange memoryMatchesSpecWrong)

/-- 'alumlaw09.LogOrder': WHATEVER THE INPUT: true; the input reads as it did. -/
def logOrderSpec : ChangeSpec := { name := "logOrder", fn := fun _ => fun
  | [d1, d2, d3, d4, d5] => { results := [.lit (.bool true)], args := [d1, d2, d3, d4, d5] }
  | _ => none }
def logOrderRow : OpenClaim := { program := "ytkncbggnaobgeaadoor", sum := "e55031acfad21935d67d1fb7461b5cf64ac993d131fae401fd00ed6a4a56c022", func := "alum/alumlaw09.LogOrder", spec := "logOrder", unfollowed := true, recurses := true, named := ["math/bits.deBruijn32tab", "math/bits.deBruijn64tab", "alum/hash.nibbles"], apart := false, laid := [("math/bits.deBruijn32tab", laid_math_bits_deBruijn32tab), ("math/bits.deBruijn64tab", laid_math_bits_deBruijn64tab), ("alum/hash.nibbles", laid_alum_hash_nibbles)] }
def LogOrderSaid : Prop := logOrderRow.holds Tryd.pinned (OpenSpec.ofChange logOrderSpec)

/-- ITS FALSE NEIGHBOUR: 'it returns false'. Refute it at one input. -/
def logOrderWrong : ChangeSpec := { name := "logOrder", fn := fun _ => fun
  | [d1, d2, d3, d4, d5] => { results := [.lit (.bool false)], args := [d1, d2, d3, d4, d5] }
  | _ => none }
def LogOrderWrongFalsely : Prop := logOrderRow.holds Tryd.pinned (OpenSpec.ofChange logOrderWrong)

/-- 'alumlaw04.MemoryKeepsPrefixes': WHATEVER THE INPUT: true; the input reads as it did. -/
def memoryKeepsPrefixesSpec : ChangeSpec := { name := "memoryKeepsPrefixes", fn := fun _ => fun
  | [d1, d2, d3] => { results := [.lit (.bool true)], args := [d1, d2, d3] }
  | _ => none }
def memoryKeepsPrefixesRow : OpenClaim := { program := "ytkncbggnaobgeaadoor", sum := "e55031acfad21935d67d1fb7461b5cf64ac993d131fae401fd00ed6a4a56c022", func := "alum/alumlaw04.MemoryKeepsPrefixes", spec := "memoryKeepsPrefixes", unfollowed := true, recurses := true, named := ["math/bits.deBruijn32tab", "math/bits.deBruijn64tab"], apart := false, laid := [("math/bits.deBruijn32tab", laid_math_bits_deBruijn32tab), ("math/bits.deBruijn64tab", laid_math_bits_deBruijn64tab)] }
def MemoryKeepsPrefixesSaid : Prop := memoryKeepsPrefixesRow.holds Tryd.pinned (OpenSpec.ofChange memoryKeepsPrefixesSpec)

/-- ITS FALSE NEIGHBOUR: 'it returns false'. Refute it at one input. -/
def memoryKeepsPrefixesWrong : ChangeSpec := { name := "memoryKeepsPrefixes", fn := fun _ => fun
  | [d1, d2, d3] => { results := [.lit (.bool false)], args := [d1, d2, d3] }
  | _ => none }
def MemoryKeepsPrefixesWrongFalsely : Prop := memoryKeepsPrefixesRow.holds Tryd.pinned (OpenSpec.ofChange memoryKeepsPrefixesWrong)

/-- 'alumlaw08.RootPlanMatchesSpec': WHATEVER THE INPUT: true; the input reads as it did. -/
def rootPlanMatchesSpecSpec : ChangeSpec := { name := "rootPlanMatchesSpec", fn := fun _ => fun
  | [d] => { results := [.lit (.bool true)], args := [d] }
  | _ => none }
def rootPlanMatchesSpecRow : OpenClaim := { program := "ytkncbggnaobgeaadoor", sum := "e55031acfad21935d67d1fb7461b5cf64ac993d131fae401fd00ed6a4a56c022", func := "alum/alumlaw08.RootPlanMatchesSpec", spec := "rootPlanMatchesSpec", unfollowed := true, recurses := true, named := ["math/bits.deBruijn32tab", "math/bits.deBruijn64tab", "alum/pointer.pointers", "alum/hash.nibbles"], apart := false, laid := [("alum/pointer.pointers", laid_alum_pointer_pointers), ("math/bits.deBruijn32tab", laid_math_bits_deBruijn32tab), ("math/bits.deBruijn64tab", laid_math_bits_deBruijn64tab), ("alum/hash.nibbles", laid_alum_hash_nibbles)] }
def RootPlanMatchesSpecSaid : Prop := rootPlanMatchesSpecRow.holds Tryd.pinned (OpenSpec.ofChange rootPlanMatchesSpecSpec)

/-- ITS FALSE NEIGHBOUR: 'it returns false'. Refute it at one input. -/
def rootPlanMatchesSpecWrong : ChangeSpec := { name := "rootPlanMatchesSpec", fn := fun _ => fun
  | [d] => { results := [.lit (.bool false)], args := [d] }
  | _ => none }
def RootPlanMatchesSpecWrongFalsely : Prop := rootPlanMatchesSpecRow.holds Tryd.pinned (OpenSpec.ofChange rootPlanMatchesSpecWrong)

/-- 'alumlaw08.RootRegionsAreApart': WHATEVER THE INPUT: true; the input reads as it did. -/
def rootRegionsAreApartSpec : ChangeSpec := { name := "rootRegionsAreApart", fn := fun _ => fun
  | [d] => { results := [.lit (.bool true)], args := [d] }
  | _ => none }
def rootRegionsAreApartRow : OpenClaim := { program := "ytkncbggnaobgeaadoor", sum := "e55031acfad21935d67d1fb7461b5cf64ac993d131fae401fd00ed6a4a56c022", func := "alum/alumlaw08.RootRegionsAreApart", spec := "rootRegionsAreApart", unfollowed := true, recurses := true, named := ["math/bits.deBruijn32tab", "math/bits.deBruijn64tab", "alum/pointer.pointers", "alum/hash.nibbles"], apart := false, laid := [("alum/pointer.pointers", laid_alum_pointer_pointers), ("math/bits.deBruijn32tab", laid_math_bits_deBruijn32tab), ("math/bits.deBruijn64tab", laid_math_bits_deBruijn64tab), ("alum/hash.nibbles", laid_alum_hash_nibbles)] }
def RootRegionsAreApartSaid : Prop := rootRegionsAreApartRow.holds Tryd.pinned (OpenSpec.ofChange rootRegionsAreApartSpec)

/-- ITS FALSE NEIGHBOUR: 'it returns false'. Refute it at one input. -/
def rootRegionsAreApartWrong : ChangeSpec := { name := "rootRegionsAreApart", fn := fun _ => fun
  | [d] => { results := [.lit (.bool false)], args := [d] }
  | _ => none }
def RootRegionsAreApartWrongFalsely : Prop := rootRegionsAreApartRow.holds Tryd.pinned (OpenSpec.ofChange rootRegionsAreApartWrong)

/-- 'alumlaw08.RootWordsMatchSpec': WHATEVER THE INPUT: true; the input reads as it did. -/
def rootWordsMatchSpecSpec : ChangeSpec := { name := "rootWordsMatchSpec", fn := fun _ => fun
  | [d] => { results := [.lit (.bool true)], args := [d] }
  | _ => none }
def rootWordsMatchSpecRow : OpenClaim := { program := "ytkncbggnaobgeaadoor", sum := "e55031acfad21935d67d1fb7461b5cf64ac993d131fae401fd00ed6a4a56c022", func := "alum/alumlaw08.RootWordsMatchSpec", spec := "rootWordsMatchSpec", unfollowed := true, recurses := true, named := ["math/bits.deBruijn32tab", "math/bits.deBruijn64tab", "alum/pointer.pointers", "alum/hash.nibbles"], apart := false, laid := [("alum/pointer.pointers", laid_alum_pointer_pointers), ("math/bits.deBruijn32tab", laid_math_bits_deBruijn32tab), ("math/bits.deBruijn64tab", laid_math_bits_deBruijn64tab), ("alum/hash.nibbles", laid_alum_hash_nibbles)] }
def RootWordsMatchSpecSaid : Prop := rootWordsMatchSpecRow.holds Tryd.pinned (OpenSpec.ofChange rootWordsMatchSpecSpec)

/-- ITS FALSE NEIGHBOUR: 'it returns false'. Refute it at one input. -/
def rootWordsMatchSpecWrong : ChangeSpec := { name := "rootWordsMatchSpec", fn := fun _ => fun
  | [d] => { results := [.lit (.bool false)], args := [d] }
  | _ => none }
def RootWordsMatchSpecWrongFalsely : Prop := rootWordsMatchSpecRow.holds Tryd.pinned (OpenSpec.ofChange rootWordsMatchSpecWrong)

/-- 'alumlaw08.RootParseMatchesSpec': WHATEVER THE INPUT: true; the input reads as it did. -/
def rootParseMatchesSpecSpec : ChangeSpec := { name := "rootParseMatchesSpec", fn := fun _ => fun
  | [d] => { results := [.lit (.bool true)], args := [d] }
  | _ => none }
def rootParseMatchesSpecRow : OpenClaim := { program := "ytkncbggnaobgeaadoor", sum := "e55031acfad21935d67d1fb7461b5cf64ac993d131fae401fd00ed6a4a56c022", func := "alum/alumlaw08.RootParseMatchesSpec", spec := "rootParseMatchesSpec", unfollowed := true, recurses := true, named := ["math/bits.deBruijn32tab", "math/bits.deBruijn64tab", "alum/pointer.pointers", "alum/hash.nibbles"], apart := false, laid := [("alum/pointer.pointers", laid_alum_pointer_pointers), ("math/bits.deBruijn32tab", laid_math_bits_deBruijn32tab), ("math/bits.deBruijn64tab", laid_math_bits_deBruijn64tab), ("alum/hash.nibbles", laid_alum_hash_nibbles)] }
def RootParseMatchesSpecSaid : Prop := rootParseMatchesSpecRow.holds Tryd.pinned (OpenSpec.ofChange rootParseMatchesSpecSpec)

/-- ITS FALSE NEIGHBOUR: 'it returns false'. Refute it at one input. -/
def rootParseMatchesSpecWrong : ChangeSpec := { name := "rootParseMatchesSpec", fn := fun _ => fun
  | [d] => { results := [.lit (.bool false)], args := [d] }
  | _ => none }
def RootParseMatchesSpecWrongFalsely : Prop := rootParseMatchesSpecRow.holds Tryd.pinned (OpenSpec.ofChange rootParseMatchesSpecWrong)

/-- 'alumlaw09.LogWordsMatchSpec': WHATEVER THE INPUT: true; the input reads as it did. -/
def logWordsMatchSpecSpec : ChangeSpec := { name := "logWordsMatchSpec", fn := fun _ => fun
  | [d1, d2, d3, d4, d5] => { results := [.lit (.bool true)], args := [d1, d2, d3, d4, d5] }
  | _ => none }
def logWordsMatchSpecRow : OpenClaim := { program := "ytkncbggnaobgeaadoor", sum := "e55031acfad21935d67d1fb7461b5cf64ac993d131fae401fd00ed6a4a56c022", func := "alum/alumlaw09.LogWordsMatchSpec", spec := "logWordsMatchSpec", unfollowed := true, recurses := true, named := ["math/bits.deBruijn32tab", "math/bits.deBruijn64tab", "alum/hash.nibbles"], apart := false, laid := [("math/bits.deBruijn32tab", laid_math_bits_deBruijn32tab), ("math/bits.deBruijn64tab", laid_math_bits_deBruijn64tab), ("alum/hash.nibbles", laid_alum_hash_nibbles)] }
def LogWordsMatchSpecSaid : Prop := logWordsMatchSpecRow.holds Tryd.pinned (OpenSpec.ofChange logWordsMatchSpecSpec)

/-- ITS FALSE NEIGHBOUR: 'it returns false'. Refute it at one input. -/
def logWordsMatchSpecWrong : ChangeSpec := { name := "logWordsMatchSpec", fn := fun _ => fun
  | [d1, d2, d3, d4, d5] => { results := [.lit (.bool false)], args := [d1, d2, d3, d4, d5] }
  | _ => none }
def LogWordsMatchSpecWrongFalsely : Prop := logWordsMatchSpecRow.holds Tryd.pinned (OpenSpec.ofChange logWordsMatchSpecWrong)

/-- 'alumlaw09.LogDecodesWhatItEncodes': WHATEVER THE INPUT: true; the input reads as it did. -/
def logDecodesWhatItEncodesSpec : ChangeSpec := { name := "logDecodesWhatItEncodes", fn := fun _ => fun
  | [d1, d2, d3, d4, d5, d6] => { results := [.lit (.bool true)], args := [d1, d2, d3, d4, d5, d6] }
  | _ => none }
def logDecodesWhatItEncodesRow : OpenClaim := { program := "ytkncbggnaobgeaadoor", sum := "e55031acfad21935d67d1fb7461b5cf64ac993d131fae401fd00ed6a4a56c022", func := "alum/alumlaw09.LogDecodesWhatItEncodes", spec := "logDecodesWhatItEncodes", unfollowed := true, recurses := true, named := ["math/bits.deBruijn32tab", "math/bits.deBruijn64tab", "alum/hash.nibbles"], apart := false, laid := [("math/bits.deBruijn32tab", laid_math_bits_deBruijn32tab), ("math/bits.deBruijn64tab", laid_math_bits_deBruijn64tab), ("alum/hash.nibbles", laid_alum_hash_nibbles)] }
def LogDecodesWhatItEncodesSaid : Prop := logDecodesWhatItEncodesRow.holds Tryd.pinned (OpenSpec.ofChange logDecodesWhatItEncodesSpec)

/-- ITS FALSE NEIGHBOUR: 'it returns false'. Refute it at one input. -/
def logDecodesWhatItEncodesWrong : ChangeSpec := { name := "logDecodesWhatItEncodes", fn := fun _ => fun
  | [d1, d2, d3, d4, d5, d6] => { results := [.lit (.bool false)], args := [d1, d2, d3, d4, d5, d6] }
  | _ => none }
def LogDecodesWhatItEncodesWrongFalsely : Prop := logDecodesWhatItEncodesRow.holds Tryd.pinned (OpenSpec.ofChange logDecodesWhatItEncodesWrong)

/-- 'alumlaw08.RootSurvivesRot': WHATEVER THE INPUT: true; the input reads as it did. -/
def rootSurvivesRotSpec : ChangeSpec := { name := "rootSurvivesRot", fn := fun _ => fun
  | [d] => { results := [.lit (.bool true)], args := [d] }
  | _ => none }
def rootSurvivesRotRow : OpenClaim := { program := "ytkncbggnaobgeaadoor", sum := "e55031acfad21935d67d1fb7461b5cf64ac993d131fae401fd00ed6a4a56c022", func := "alum/alumlaw08.RootSurvivesRot", spec := "rootSurvivesRot", unfollowed := true, recurses := true, named := ["math/bits.deBruijn32tab", "math/bits.deBruijn64tab", "alum/pointer.pointers", "alum/hash.nibbles"], apart := false, laid := [("alum/pointer.pointers", laid_alum_pointer_pointers), ("math/bits.deBruijn32tab", laid_math_bits_deBruijn32tab), ("math/bits.deBruijn64tab", laid_math_bits_deBruijn64tab), ("alum/hash.nibbles", laid_alum_hash_nibbles)] }
def RootSurvivesRotSaid : Prop := rootSurvivesRotRow.holds Tryd.pinned (OpenSpec.ofChange rootSurvivesRotSpec)

/-- ITS FALSE NEIGHBOUR: 'it returns false'. Refute it at one input. -/
def rootSurvivesRotWrong : ChangeSpec := { name := "rootSurvivesRot", fn := fun _ => fun
  | [d] => { results := [.lit (.bool false)], args := [d] }
  | _ => none }
def RootSurvivesRotWrongFalsely : Prop := rootSurvivesRotRow.holds Tryd.pinned (OpenSpec.ofChange rootSurvivesRotWrong)

/-- 'alumlaw09.LogMatchesSpec': WHATEVER THE INPUT: true; the input reads as it did. -/
def logMatchesSpecSpec : ChangeSpec := { name := "logMatchesSpec", fn := fun _ => fun
  | [d1, d2, d3, d4] => { results := [.lit (.bool true)], args := [d1, d2, d3, d4] }
  | _ => none }
def logMatchesSpecRow : OpenClaim := { program := "ytkncbggnaobgeaadoor", sum := "e55031acfad21935d67d1fb7461b5cf64ac993d131fae401fd00ed6a4a56c022", func := "alum/alumlaw09.LogMatchesSpec", spec := "logMatchesSpec", unfollowed := true, recurses := true, named := ["math/bits.deBruijn32tab", "math/bits.deBruijn64tab", "alum/hash.nibbles"], apart := false, laid := [("math/bits.deBruijn32tab", laid_math_bits_deBruijn32tab), ("math/bits.deBruijn64tab", laid_math_bits_deBruijn64tab), ("alum/hash.nibbles", laid_alum_hash_nibbles)] }
def LogMatchesSpecSaid : Prop := logMatchesSpecRow.holds Tryd.pinned (OpenSpec.ofChange logMatchesSpecSpec)

/-- ITS FALSE NEIGHBOUR: 'it returns false'. Refute it at one input. -/
def logMatchesSpecWrong : ChangeSpec := { name := "logMatchesSpec", fn := fun _ => fun
  | [d1, d2, d3, d4] => { results := [.lit (.bool false)], args := [d1, d2, d3, d4] }
  | _ => none }
def LogMatchesSpecWrongFalsely : Prop := logMatchesSpecRow.holds Tryd.pinned (OpenSpec.ofChange logMatchesSpecWrong)

/-- 'alumlaw09.LogFindsRot': WHATEVER THE INPUT: true; the input reads as it did. -/
def logFindsRotSpec : ChangeSpec := { name := "logFindsRot", fn := fun _ => fun
  | [d1, d2, d3, d4, d5, d6, d7] => { results := [.lit (.bool true)], args := [d1, d2, d3, d4, d5, d6, d7] }
  | _ => none }
def logFindsRotRow : OpenClaim := { program := "ytkncbggnaobgeaadoor", sum := "e55031acfad21935d67d1fb7461b5cf64ac993d131fae401fd00ed6a4a56c022", func := "alum/alumlaw09.LogFindsRot", spec := "logFindsRot", unfollowed := true, recurses := true, named := ["math/bits.deBruijn32tab", "math/bits.deBruijn64tab", "alum/hash.nibbles"], apart := false, laid := [("math/bits.deBruijn32tab", laid_math_bits_deBruijn32tab), ("math/bits.deBruijn64tab", laid_math_bits_deBruijn64tab), ("alum/hash.nibbles", laid_alum_hash_nibbles)] }
def LogFindsRotSaid : Prop := logFindsRotRow.holds Tryd.pinned (OpenSpec.ofChange logFindsRotSpec)

/-- ITS FALSE NEIGHBOUR: 'it returns false'. Refute it at one input. -/
def logFindsRotWrong : ChangeSpec := { name := "logFindsRot", fn := fun _ => fun
  | [d1, d2, d3, d4, d5, d6, d7] => { results := [.lit (.bool false)], args := [d1, d2, d3, d4, d5, d6, d7] }
  | _ => none }
def LogFindsRotWrongFalsely : Prop := logFindsRotRow.holds Tryd.pinned (OpenSpec.ofChange logFindsRotWrong)

/-- 'alumlaw08.RootSurvivesFailures': WHATEVER THE INPUT: true; the input reads as it did. -/
def rootSurvivesFailuresSpec : ChangeSpec := { name := "rootSurvivesFailures", fn := fun _ => fun
  | [d] => { results := [.lit (.bool true)], args := [d] }
  | _ => none }
def rootSurvivesFailuresRow : OpenClaim := { program := "ytkncbggnaobgeaadoor", sum := "e55031acfad21935d67d1fb7461b5cf64ac993d131fae401fd00ed6a4a56c022", func := "alum/alumlaw08.RootSurvivesFailures", spec := "rootSurvivesFailures", unfollowed := true, recurses := true, named := ["math/bits.deBruijn32tab", "math/bits.deBruijn64tab", "alum/pointer.pointers", "alum/hash.nibbles"], apart := false, laid := [("alum/pointer.pointers", laid_alum_pointer_pointers), ("math/bits.deBruijn32tab", laid_math_bits_deBruijn32tab), ("math/bits.deBruijn64tab", laid_math_bits_deBruijn64tab), ("alum/hash.nibbles", laid_alum_hash_nibbles)] }
def RootSurvivesFailuresSaid : Prop := rootSurvivesFailuresRow.holds Tryd.pinned (OpenSpec.ofChange rootSurvivesFailuresSpec)

/-- ITS FALSE NEIGHBOUR: 'it returns false'. Refute it at one input. -/
def rootSurvivesFailuresWrong : ChangeSpec := { name := "rootSurvivesFailures", fn := fun _ => fun
  | [d] => { results := [.lit (.bool false)], args := [d] }
  | _ => none }
def RootSurvivesFailuresWrongFalsely : Prop := rootSurvivesFailuresRow.holds Tryd.pinned (OpenSpec.ofChange rootSurvivesFailuresWrong)

/- THE SECOND FORM. 'bulk': how many values and letters a reading holds, each counted each time it is reached (what is shared counts as often as it is met; a slice's spare places count too). A statement '..UptoSaid' is the law's where the arguments, and the package variables that the reading takes, are together of bulk at most 1048576: NARROWER than '..Said'. Prove '..Said' where nothing that the law and all that it calls make is longer than what came in: it says more and counts as full. Else prove '..UptoSaid'. A law counts once. -/
mutual
def uptoBulk {H : Type} : DataW H → Nat
  | .lit (.string bytes) => bytes.length + 1
  | .lit _ => 1
  | .nil => 1
  | .ptr d => uptoBulk d + 1
  | .slice elems spare => uptoBulkAll elems + uptoBulkAll spare + 1
  | .agg parts => uptoBulkAll parts + 1
  | .iface _ d => uptoBulk d + 1
  | .map entries => uptoBulkEntries entries + 1
  | .held _ => 1
def uptoBulkAll {H : Type} : List (DataW H) → Nat
  | [] => 0
  | d :: r => uptoBulk d + uptoBulkAll r
def uptoBulkEntries {H : Type} : List (Lit × DataW H) → Nat
  | [] => 0
  | x :: r => uptoBulkEntry x + uptoBulkEntries r
def uptoBulkEntry {H : Type} : Lit × DataW H → Nat
  | (.string bytes, d) => bytes.length + uptoBulk d + 1
  | (_, d) => uptoBulk d + 1
 end
def uptoSmall : (H : Type) → List (DataW H) → Bool := fun _ ds => decide (uptoBulkAll ds ≤ 1048576)
def OpenSpec.upto (s : _root_.Go.ChangeSpec) : _root_.Go.OpenSpec := { _root_.Go.OpenSpec.ofChange s with cond := some uptoSmall }

/-- 'alumlaw04.MemoryBegins', WHERE WHAT IT READS IS OF BULK AT MOST 1048576: true; the input reads as it did. -/
def memoryBeginsUptoRow : OpenClaim := { program := "ytkncbggnaobgeaadoor", sum := "e55031acfad21935d67d1fb7461b5cf64ac993d131fae401fd00ed6a4a56c022", func := "alum/alumlaw04.MemoryBegins", spec := "memoryBegins", unfollowed := true, recurses := true, named := ["math/bits.deBruijn32tab", "math/bits.deBruijn64tab"], apart := false, laid := [("math/bits.deBruijn32tab", laid_math_bits_deBruijn32tab), ("math/bits.deBruijn64tab", laid_math_bits_deBruijn64tab)], narrowed := true }
def MemoryBeginsUptoSaid : Prop := memoryBeginsUptoRow.holds Tryd.pinned (OpenSpec.upto memoryBeginsSpec)

/-- 'alumlaw04.MemoryCodes', WHERE WHAT IT READS IS OF BULK AT MOST 1048576: true; the input reads as it did. -/
def memoryCodesUptoRow : OpenClaim := { program := "ytkncbggnaobgeaadoor", sum := "e55031acfad21935d67d1fb7461b5cf64ac993d131fae401fd00ed6a4a56c022", func := "alum/alumlaw04.MemoryCodes", spec := "memoryCodes", unfollowed := true, recurses := true, named := ["math/bits.deBruijn32tab", "math/bits.deBruijn64tab"], apart := false, laid := [("math/bits.deBruijn32tab", laid_math_bits_deBruijn32tab), ("math/bits.deBruijn64tab", laid_math_bits_deBruijn64tab)], narrowed := true }
def MemoryCodesUptoSaid : Prop := memoryCodesUptoRow.holds Tryd.pinned (OpenSpec.upto memoryCodesSpec)

/-- 'alumlaw04.MemoryFenceKeeps', WHERE WHAT IT READS IS OF BULK AT MOST 1048576: true; the input reads as it did. -/
def memoryFenceKeepsUptoRow : OpenClaim := { program := "ytkncbggnaobgeaadoor", sum := "e55031acfad21935d67d1fb7461b5cf64ac993d131fae401fd00ed6a4a56c022", func := "alum/alumlaw04.MemoryFenceKeeps", spec := "memoryFenceKeeps", unfollowed := true, recurses := true, named := ["math/bits.deBruijn32tab", "math/bits.deBruijn64tab"], apart := false, laid := [("math/bits.deBruijn32tab", laid_math_bits_deBruijn32tab), ("math/bits.deBruijn64tab", laid_math_bits_deBruijn64tab)], narrowed := true }
def MemoryFenceKeepsUptoSaid : Prop := memoryFenceKeepsUptoRow.holds Tryd.pinned (OpenSpec.upto memoryFenceKeepsSpec)

/-- 'alumlaw04.MemoryEvictsLikeFences', WHERE WHAT IT READS IS OF BULK AT MOST 1048576: true; the input reads as it did. -/
def memoryEvictsLikeFencesUptoRow : OpenClaim := { program := "ytkncbggnaobgeaadoor", sum := "e55031acfad21935d67d1fb7461b5cf64ac993d131fae401fd00ed6a4a56c022", func := "alum/alumlaw04.MemoryEvictsLikeFences", spec := "memoryEvictsLikeFences", unfollowed := true, recurses := true, named := ["math/bits.deBruijn32tab", "math/bits.deBruijn64tab"], apart := false, laid := [("math/bits.deBruijn32tab", laid_math_bits_deBruijn32tab), ("math/bits.deBruijn64tab", laid_math_bits_deBruijn64tab)], narrowed := true }
def MemoryEvictsLikeFencesUptoSaid : Prop := memoryEvictsLikeFencesUptoRow.holds Tryd.pinned (OpenSpec.upto memoryEvictsLikeFencesSpec)

/-- 'alumlaw04.MemoryLinesAreApart', WHERE WHAT IT READS IS OF BULK AT MOST 1048576: true; the input reads as it did. -/
def memoryLinesAreApartUptoRow : OpenClaim := { program := "ytkncbggnaobgeaadoor", sum := "e55031acfad21935d67d1fb7461b5cf64ac993d131fae401fd00ed6a4a56c022", func := "alum/alumlaw04.MemoryLinesAreApart", spec := "memoryLinesAreApart", unfollowed := true, recurses := true, named := ["math/bits.deBruijn32tab", "math/bits.deBruijn64tab"], apart := false, laid := [("math/bits.deBruijn32tab", laid_math_bits_deBruijn32tab), ("math/bits.deBruijn64tab", laid_math_bits_deBruijn64tab)], narrowed := true }
def MemoryLinesAreApartUptoSaid : Prop := memoryLinesAreApartUptoRow.holds Tryd.pinned (OpenSpec.upto memoryLinesAreApartSpec)

/-- 'alumlaw08.RootGoesOn', WHERE WHAT IT READS IS OF BULK AT MOST 1048576: true; the input reads as it did. -/
def rootGoesOnUptoRow : OpenClaim := { program := "ytkncbggnaobgeaadoor", sum := "e55031acfad21935d67d1fb7461b5cf64ac993d131fae401fd00ed6a4a56c022", func := "alum/alumlaw08.RootGoesOn", spec := "rootGoesOn", unfollowed := true, recurses := true, named := ["math/bits.deBruijn32tab", "math/bits.deBruijn64tab", "alum/pointer.pointers", "alum/hash.nibbles"], apart := false, laid := [("alum/pointer.pointers", laid_alum_pointer_pointers), ("math/bits.deBruijn32tab", laid_math_bits_deBruijn32tab), ("math/bits.deBruijn64tab", laid_math_bits_deBruijn64tab), ("alum/hash.nibbles", laid_alum_hash_nibbles)], narrowed := true }
def RootGoesOnUptoSaid : Prop := rootGoesOnUptoRow.holds Tryd.pinned (OpenSpec.upto rootGoesOnSpec)

/-- 'alumlaw04.MemoryMatchesSpec', WHERE WHAT IT READS IS OF BULK AT MOST 1048576: true; the input reads as it did. -/
def memoryMatchesSpecUptoRow : OpenClaim := { program := "ytkncbggnaobgeaadoor", sum := "e55031acfad21935d67d1fb7461b5cf64ac993d131fae401fd00ed6a4a56c022", func := "alum/alumlaw04.MemoryMatchesSpec", spec := "memoryMatchesSpec", unfollowed := true, recurses := true, named := ["math/bits.deBruijn32tab", "math/bits.deBruijn64tab"], apart := false, laid := [("math/bits.deBruijn32tab", laid_math_bits_deBruijn32tab), ("math/bits.deBruijn64tab", laid_math_bits_deBruijn64tab)], narrowed := true }
def MemoryMatchesSpecUptoSaid : Prop := memoryMatchesSpecUptoRow.holds Tryd.pinned (OpenSpec.upto memoryMatchesSpecSpec)

/-- 'alumlaw09.LogOrder', WHERE WHAT IT READS IS OF BULK AT MOST 1048576: true; the input reads as it did. -/
def logOrderUptoRow : OpenClaim := { program := "ytkncbggnaobgeaadoor", sum := "e55031acfad21935d67d1fb7461b5cf64ac993d131fae401fd00ed6a4a56c022", func := "alum/alumlaw09.LogOrder", spec := "logOrder", unfollowed := true, recurses := true, named := ["math/bits.deBruijn32tab", "math/bits.deBruijn64tab", "alum/hash.nibbles"], apart := false, laid := [("math/bits.deBruijn32tab", laid_math_bits_deBruijn32tab), ("math/bits.deBruijn64tab", laid_math_bits_deBruijn64tab), ("alum/hash.nibbles", laid_alum_hash_nibbles)], narrowed := true }
def LogOrderUptoSaid : Prop := logOrderUptoRow.holds Tryd.pinned (OpenSpec.upto logOrderSpec)

/-- 'alumlaw04.MemoryKeepsPrefixes', WHERE WHAT IT READS IS OF BULK AT MOST 1048576: true; the input reads as it did. -/
def memoryKeepsPrefixesUptoRow : OpenClaim := { program := "ytkncbggnaobgeaadoor", sum := "e55031acfad21935d67d1fb7461b5cf64ac993d131fae401fd00ed6a4a56c022", func := "alum/alumlaw04.MemoryKeepsPrefixes", spec := "memoryKeepsPrefixes", unfollowed := true, recurses := true, named := ["math/bits.deBruijn32tab", "math/bits.deBruijn64tab"], apart := false, laid := [("math/bits.deBruijn32tab", laid_math_bits_deBruijn32tab), ("math/bits.deBruijn64tab", laid_math_bits_deBruijn64tab)], narrowed := true }
def MemoryKeepsPrefixesUptoSaid : Prop := memoryKeepsPrefixesUptoRow.holds Tryd.pinned (OpenSpec.upto memoryKeepsPrefixesSpec)

/-- 'alumlaw08.RootPlanMatchesSpec', WHERE WHAT IT READS IS OF BULK AT MOST 1048576: true; the input reads as it did. -/
def rootPlanMatchesSpecUptoRow : OpenClaim := { program := "ytkncbggnaobgeaadoor", sum := "e55031acfad21935d67d1fb7461b5cf64ac993d131fae401fd00ed6a4a56c022", func := "alum/alumlaw08.RootPlanMatchesSpec", spec := "rootPlanMatchesSpec", unfollowed := true, recurses := true, named := ["math/bits.deBruijn32tab", "math/bits.deBruijn64tab", "alum/pointer.pointers", "alum/hash.nibbles"], apart := false, laid := [("alum/pointer.pointers", laid_alum_pointer_pointers), ("math/bits.deBruijn32tab", laid_math_bits_deBruijn32tab), ("math/bits.deBruijn64tab", laid_math_bits_deBruijn64tab), ("alum/hash.nibbles", laid_alum_hash_nibbles)], narrowed := true }
def RootPlanMatchesSpecUptoSaid : Prop := rootPlanMatchesSpecUptoRow.holds Tryd.pinned (OpenSpec.upto rootPlanMatchesSpecSpec)

/-- 'alumlaw08.RootRegionsAreApart', WHERE WHAT IT READS IS OF BULK AT MOST 1048576: true; the input reads as it did. -/
def rootRegionsAreApartUptoRow : OpenClaim := { program := "ytkncbggnaobgeaadoor", sum := "e55031acfad21935d67d1fb7461b5cf64ac993d131fae401fd00ed6a4a56c022", func := "alum/alumlaw08.RootRegionsAreApart", spec := "rootRegionsAreApart", unfollowed := true, recurses := true, named := ["math/bits.deBruijn32tab", "math/bits.deBruijn64tab", "alum/pointer.pointers", "alum/hash.nibbles"], apart := false, laid := [("alum/pointer.pointers", laid_alum_pointer_pointers), ("math/bits.deBruijn32tab", laid_math_bits_deBruijn32tab), ("math/bits.deBruijn64tab", laid_math_bits_deBruijn64tab), ("alum/hash.nibbles", laid_alum_hash_nibbles)], narrowed := true }
def RootRegionsAreApartUptoSaid : Prop := rootRegionsAreApartUptoRow.holds Tryd.pinned (OpenSpec.upto rootRegionsAreApartSpec)

/-- 'alumlaw08.RootWordsMatchSpec', WHERE WHAT IT READS IS OF BULK AT MOST 1048576: true; the input reads as it did. -/
def rootWordsMatchSpecUptoRow : OpenClaim := { program := "ytkncbggnaobgeaadoor", sum := "e55031acfad21935d67d1fb7461b5cf64ac993d131fae401fd00ed6a4a56c022", func := "alum/alumlaw08.RootWordsMatchSpec", spec := "rootWordsMatchSpec", unfollowed := true, recurses := true, named := ["math/bits.deBruijn32tab", "math/bits.deBruijn64tab", "alum/pointer.pointers", "alum/hash.nibbles"], apart := false, laid := [("alum/pointer.pointers", laid_alum_pointer_pointers), ("math/bits.deBruijn32tab", laid_math_bits_deBruijn32tab), ("math/bits.deBruijn64tab", laid_math_bits_deBruijn64tab), ("alum/hash.nibbles", laid_alum_hash_nibbles)], narrowed := true }
def RootWordsMatchSpecUptoSaid : Prop := rootWordsMatchSpecUptoRow.holds Tryd.pinned (OpenSpec.upto rootWordsMatchSpecSpec)

/-- 'alumlaw08.RootParseMatchesSpec', WHERE WHAT IT READS IS OF BULK AT MOST 1048576: true; the input reads as it did. -/
def rootParseMatchesSpecUptoRow : OpenClaim := { program := "ytkncbggnaobgeaadoor", sum := "e55031acfad21935d67d1fb7461b5cf64ac993d131fae401fd00ed6a4a56c022", func := "alum/alumlaw08.RootParseMatchesSpec", spec := "rootParseMatchesSpec", unfollowed := true, recurses := true, named := ["math/bits.deBruijn32tab", "math/bits.deBruijn64tab", "alum/pointer.pointers", "alum/hash.nibbles"], apart := false, laid := [("alum/pointer.pointers", laid_alum_pointer_pointers), ("math/bits.deBruijn32tab", laid_math_bits_deBruijn32tab), ("math/bits.deBruijn64tab", laid_math_bits_deBruijn64tab), ("alum/hash.nibbles", laid_alum_hash_nibbles)], narrowed := true }
def RootParseMatchesSpecUptoSaid : Prop := rootParseMatchesSpecUptoRow.holds Tryd.pinned (OpenSpec.upto rootParseMatchesSpecSpec)

/-- 'alumlaw09.LogWordsMatchSpec', WHERE WHAT IT READS IS OF BULK AT MOST 1048576: true; the input reads as it did. -/
def logWordsMatchSpecUptoRow : OpenClaim := { program := "ytkncbggnaobgeaadoor", sum := "e55031acfad21935d67d1fb7461b5cf64ac993d131fae401fd00ed6a4a56c022", func := "alum/alumlaw09.LogWordsMatchSpec", spec := "logWordsMatchSpec", unfollowed := true, recurses := true, named := ["math/bits.deBruijn32tab", "math/bits.deBruijn64tab", "alum/hash.nibbles"], apart := false, laid := [("math/bits.deBruijn32tab", laid_math_bits_deBruijn32tab), ("math/bits.deBruijn64tab", laid_math_bits_deBruijn64tab), ("alum/hash.nibbles", laid_alum_hash_nibbles)], narrowed := true }
def LogWordsMatchSpecUptoSaid : Prop := logWordsMatchSpecUptoRow.holds Tryd.pinned (OpenSpec.upto logWordsMatchSpecSpec)

/-- 'alumlaw09.LogDecodesWhatItEncodes', WHERE WHAT IT READS IS OF BULK AT MOST 1048576: true; the input reads as it did. -/
def logDecodesWhatItEncodesUptoRow : OpenClaim := { program := "ytkncbggnaobgeaadoor", sum := "e55031acfad21935d67d1fb7461b5cf64ac993d131fae401fd00ed6a4a56c022", func := "alum/alumlaw09.LogDecodesWhatItEncodes", spec := "logDecodesWhatItEncodes", unfollowed := true, recurses := true, named := ["math/bits.deBruijn32tab", "math/bits.deBruijn64tab", "alum/hash.nibbles"], apart := false, laid := [("math/bits.deBruijn32tab", laid_math_bits_deBruijn32tab), ("math/bits.deBruijn64tab", laid_math_bits_deBruijn64tab), ("alum/hash.nibbles", laid_alum_hash_nibbles)], narrowed := true }
def LogDecodesWhatItEncodesUptoSaid : Prop := logDecodesWhatItEncodesUptoRow.holds Tryd.pinned (OpenSpec.upto logDecodesWhatItEncodesSpec)

/-- 'alumlaw08.RootSurvivesRot', WHERE WHAT IT READS IS OF BULK AT MOST 1048576: true; the input reads as it did. -/
def rootSurvivesRotUptoRow : OpenClaim := { program := "ytkncbggnaobgeaadoor", sum := "e55031acfad21935d67d1fb7461b5cf64ac993d131fae401fd00ed6a4a56c022", func := "alum/alumlaw08.RootSurvivesRot", spec := "rootSurvivesRot", unfollowed := true, recurses := true, named := ["math/bits.deBruijn32tab", "math/bits.deBruijn64tab", "alum/pointer.pointers", "alum/hash.nibbles"], apart := false, laid := [("alum/pointer.pointers", laid_alum_pointer_pointers), ("math/bits.deBruijn32tab", laid_math_bits_deBruijn32tab), ("math/bits.deBruijn64tab", laid_math_bits_deBruijn64tab), ("alum/hash.nibbles", laid_alum_hash_nibbles)], narrowed := true }
def RootSurvivesRotUptoSaid : Prop := rootSurvivesRotUptoRow.holds Tryd.pinned (OpenSpec.upto rootSurvivesRotSpec)

/-- 'alumlaw09.LogMatchesSpec', WHERE WHAT IT READS IS OF BULK AT MOST 1048576: true; the input reads as it did. -/
def logMatchesSpecUptoRow : OpenClaim := { program := "ytkncbggnaobgeaadoor", sum := "e55031acfad21935d67d1fb7461b5cf64ac993d131fae401fd00ed6a4a56c022", func := "alum/alumlaw09.LogMatchesSpec", spec := "logMatchesSpec", unfollowed := true, recurses := true, named := ["math/bits.deBruijn32tab", "math/bits.deBruijn64tab", "alum/hash.nibbles"], apart := false, laid := [("math/bits.deBruijn32tab", laid_math_bits_deBruijn32tab), ("math/bits.deBruijn64tab", laid_math_bits_deBruijn64tab), ("alum/hash.nibbles", laid_alum_hash_nibbles)], narrowed := true }
def LogMatchesSpecUptoSaid : Prop := logMatchesSpecUptoRow.holds Tryd.pinned (OpenSpec.upto logMatchesSpecSpec)

/-- 'alumlaw09.LogFindsRot', WHERE WHAT IT READS IS OF BULK AT MOST 1048576: true; the input reads as it did. -/
def logFindsRotUptoRow : OpenClaim := { program := "ytkncbggnaobgeaadoor", sum := "e55031acfad21935d67d1fb7461b5cf64ac993d131fae401fd00ed6a4a56c022", func := "alum/alumlaw09.LogFindsRot", spec := "logFindsRot", unfollowed := true, recurses := true, named := ["math/bits.deBruijn32tab", "math/bits.deBruijn64tab", "alum/hash.nibbles"], apart := false, laid := [("math/bits.deBruijn32tab", laid_math_bits_deBruijn32tab), ("math/bits.deBruijn64tab", laid_math_bits_deBruijn64tab), ("alum/hash.nibbles", laid_alum_hash_nibbles)], narrowed := true }
def LogFindsRotUptoSaid : Prop := logFindsRotUptoRow.holds Tryd.pinned (OpenSpec.upto logFindsRotSpec)

/-- 'alumlaw08.RootSurvivesFailures', WHERE WHAT IT READS IS OF BULK AT MOST 1048576: true; the input reads as it did. -/
def rootSurvivesFailuresUptoRow : OpenClaim := { program := "ytkncbggnaobgeaadoor", sum := "e55031acfad21935d67d1fb7461b5cf64ac993d131fae401fd00ed6a4a56c022", func := "alum/alumlaw08.RootSurvivesFailures", spec := "rootSurvivesFailures", unfollowed := true, recurses := true, named := ["math/bits.deBruijn32tab", "math/bits.deBruijn64tab", "alum/pointer.pointers", "alum/hash.nibbles"], apart := false, laid := [("alum/pointer.pointers", laid_alum_pointer_pointers), ("math/bits.deBruijn32tab", laid_math_bits_deBruijn32tab), ("math/bits.deBruijn64tab", laid_math_bits_deBruijn64tab), ("alum/hash.nibbles", laid_alum_hash_nibbles)], narrowed := true }
def RootSurvivesFailuresUptoSaid : Prop := rootSurvivesFailuresUptoRow.holds Tryd.pinned (OpenSpec.upto rootSurvivesFailuresSpec)

end Rows
end Go.Proofs.YtkncbggnaobgeaaDoor
