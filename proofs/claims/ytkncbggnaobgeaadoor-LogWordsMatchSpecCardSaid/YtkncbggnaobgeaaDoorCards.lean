/-
  DERIVED. GIVEN WITH THE SEED: THE CARDS: each row of YtkncbggnaobgeaaDoorRows.lean that lists a variable, with what it lists TIED to the program's text (the seventh form; the later family's looks); each row that meets fmt, with fmt's text TOLD by the authors' own Lean function (tested against real Go, not proved from fmt's source: count such statements apart). THE CARD IS WHAT COUNTS. Prove the row's statement (the work); the ties are given (YtkncbggnaobgeaaDoorTie.lean); close each card by the builder's one call (the guide's Derived/Test/ToyasCard.lean, 'card_holds'). Laid BY PROGRAM, IN A SANDBOX (cutbox-door.mjs). By AI agents, Wed Nov 11 2026. No macro, syntax, notation, axiom, sorry.
-/
import Derived.Test.YtkncbggnaobgeaaDoorRows
import GoSem.ClaimSeven
namespace Go.Proofs.YtkncbggnaobgeaaDoor
namespace Rows

/-- THE TIED CARD OF 'alumlaw04.MemoryBegins'. -/
def memoryBeginsCard : Claim7 := { stood := { row := memoryBeginsRow, standIns := [], harness := (true, "dad86e10c0c9875098f14639457c7da96153bc51d07db14731d5f5938e8d4e47"), looks := false }, kinds := [], alts := [], laidByText := true, laidKinds := [.data, .data], laidTests := true, laidLooks := .later }
def MemoryBeginsCardSaid : Prop := Claim7.holds Tryd.pinned (.plain (OpenSpec.ofChange memoryBeginsSpec)) memoryBeginsCard

/-- THE TIED CARD OF 'alumlaw04.MemoryCodes'. -/
def memoryCodesCard : Claim7 := { stood := { row := memoryCodesRow, standIns := [], harness := (true, "dad86e10c0c9875098f14639457c7da96153bc51d07db14731d5f5938e8d4e47"), looks := false }, kinds := [], alts := [], laidByText := true, laidKinds := [.data, .data], laidTests := true, laidLooks := .later }
def MemoryCodesCardSaid : Prop := Claim7.holds Tryd.pinned (.plain (OpenSpec.ofChange memoryCodesSpec)) memoryCodesCard

/-- THE TIED CARD OF 'alumlaw04.MemoryFenceKeeps'. -/
def memoryFenceKeepsCard : Claim7 := { stood := { row := memoryFenceKeepsRow, standIns := [], harness := (true, "dad86e10c0c9875098f14639457c7da96153bc51d07db14731d5f5938e8d4e47"), looks := false }, kinds := [], alts := [], laidByText := true, laidKinds := [.data, .data], laidTests := true, laidLooks := .later }
def MemoryFenceKeepsCardSaid : Prop := Claim7.holds Tryd.pinned (.plain (OpenSpec.ofChange memoryFenceKeepsSpec)) memoryFenceKeepsCard

/-- THE TIED CARD OF 'alumlaw04.MemoryEvictsLikeFences'. -/
def memoryEvictsLikeFencesCard : Claim7 := { stood := { row := memoryEvictsLikeFencesRow, standIns := [], harness := (true, "dad86e10c0c9875098f14639457c7da96153bc51d07db14731d5f5938e8d4e47"), looks := false }, kinds := [], alts := [], laidByText := true, laidKinds := [.data, .data], laidTests := true, laidLooks := .later }
def MemoryEvictsLikeFencesCardSaid : Prop := Claim7.holds Tryd.pinned (.plain (OpenSpec.ofChange memoryEvictsLikeFencesSpec)) memoryEvictsLikeFencesCard

/-- THE TIED CARD OF 'alumlaw04.MemoryLinesAreApart'. -/
def memoryLinesAreApartCard : Claim7 := { stood := { row := memoryLinesAreApartRow, standIns := [], harness := (true, "dad86e10c0c9875098f14639457c7da96153bc51d07db14731d5f5938e8d4e47"), looks := false }, kinds := [], alts := [], laidByText := true, laidKinds := [.data, .data], laidTests := true, laidLooks := .later }
def MemoryLinesAreApartCardSaid : Prop := Claim7.holds Tryd.pinned (.plain (OpenSpec.ofChange memoryLinesAreApartSpec)) memoryLinesAreApartCard

/-- THE TIED CARD OF 'alumlaw08.RootGoesOn'. -/
def rootGoesOnCard : Claim7 := { stood := { row := rootGoesOnRow, standIns := [], harness := (true, "dad86e10c0c9875098f14639457c7da96153bc51d07db14731d5f5938e8d4e47"), looks := false }, kinds := [], alts := [], laidByText := true, laidKinds := [.data, .data, .data, .data], laidTests := true, laidLooks := .later }
def RootGoesOnCardSaid : Prop := Claim7.holds Tryd.pinned (.plain (OpenSpec.ofChange rootGoesOnSpec)) rootGoesOnCard

/-- THE TIED CARD OF 'alumlaw04.MemoryMatchesSpec'. -/
def memoryMatchesSpecCard : Claim7 := { stood := { row := memoryMatchesSpecRow, standIns := [], harness := (true, "dad86e10c0c9875098f14639457c7da96153bc51d07db14731d5f5938e8d4e47"), looks := false }, kinds := [], alts := [], laidByText := true, laidKinds := [.data, .data], laidTests := true, laidLooks := .later }
def MemoryMatchesSpecCardSaid : Prop := Claim7.holds Tryd.pinned (.plain (OpenSpec.ofChange memoryMatchesSpecSpec)) memoryMatchesSpecCard

/-- THE TIED CARD OF 'alumlaw09.LogOrder'. -/
def logOrderCard : Claim7 := { stood := { row := logOrderRow, standIns := [], harness := (true, "dad86e10c0c9875098f14639457c7da96153bc51d07db14731d5f5938e8d4e47"), looks := false }, kinds := [], alts := [], laidByText := true, laidKinds := [.data, .data, .data], laidTests := true, laidLooks := .later }
def LogOrderCardSaid : Prop := Claim7.holds Tryd.pinned (.plain (OpenSpec.ofChange logOrderSpec)) logOrderCard

/-- THE TIED CARD OF 'alumlaw04.MemoryKeepsPrefixes'. -/
def memoryKeepsPrefixesCard : Claim7 := { stood := { row := memoryKeepsPrefixesRow, standIns := [], harness := (true, "dad86e10c0c9875098f14639457c7da96153bc51d07db14731d5f5938e8d4e47"), looks := false }, kinds := [], alts := [], laidByText := true, laidKinds := [.data, .data], laidTests := true, laidLooks := .later }
def MemoryKeepsPrefixesCardSaid : Prop := Claim7.holds Tryd.pinned (.plain (OpenSpec.ofChange memoryKeepsPrefixesSpec)) memoryKeepsPrefixesCard

/-- THE TIED CARD OF 'alumlaw08.RootPlanMatchesSpec'. -/
def rootPlanMatchesSpecCard : Claim7 := { stood := { row := rootPlanMatchesSpecRow, standIns := [], harness := (true, "dad86e10c0c9875098f14639457c7da96153bc51d07db14731d5f5938e8d4e47"), looks := false }, kinds := [], alts := [], laidByText := true, laidKinds := [.data, .data, .data, .data], laidTests := true, laidLooks := .later }
def RootPlanMatchesSpecCardSaid : Prop := Claim7.holds Tryd.pinned (.plain (OpenSpec.ofChange rootPlanMatchesSpecSpec)) rootPlanMatchesSpecCard

/-- THE TIED CARD OF 'alumlaw08.RootRegionsAreApart'. -/
def rootRegionsAreApartCard : Claim7 := { stood := { row := rootRegionsAreApartRow, standIns := [], harness := (true, "dad86e10c0c9875098f14639457c7da96153bc51d07db14731d5f5938e8d4e47"), looks := false }, kinds := [], alts := [], laidByText := true, laidKinds := [.data, .data, .data, .data], laidTests := true, laidLooks := .later }
def RootRegionsAreApartCardSaid : Prop := Claim7.holds Tryd.pinned (.plain (OpenSpec.ofChange rootRegionsAreApartSpec)) rootRegionsAreApartCard

/-- THE TIED CARD OF 'alumlaw08.RootWordsMatchSpec'. -/
def rootWordsMatchSpecCard : Claim7 := { stood := { row := rootWordsMatchSpecRow, standIns := [], harness := (true, "dad86e10c0c9875098f14639457c7da96153bc51d07db14731d5f5938e8d4e47"), looks := false }, kinds := [], alts := [], laidByText := true, laidKinds := [.data, .data, .data, .data], laidTests := true, laidLooks := .later }
def RootWordsMatchSpecCardSaid : Prop := Claim7.holds Tryd.pinned (.plain (OpenSpec.ofChange rootWordsMatchSpecSpec)) rootWordsMatchSpecCard

/-- THE TIED CARD OF 'alumlaw08.RootParseMatchesSpec'. -/
def rootParseMatchesSpecCard : Claim7 := { stood := { row := rootParseMatchesSpecRow, standIns := [], harness := (true, "dad86e10c0c9875098f14639457c7da96153bc51d07db14731d5f5938e8d4e47"), looks := false }, kinds := [], alts := [], laidByText := true, laidKinds := [.data, .data, .data, .data], laidTests := true, laidLooks := .later }
def RootParseMatchesSpecCardSaid : Prop := Claim7.holds Tryd.pinned (.plain (OpenSpec.ofChange rootParseMatchesSpecSpec)) rootParseMatchesSpecCard

/-- THE TIED CARD OF 'alumlaw09.LogWordsMatchSpec'. -/
def logWordsMatchSpecCard : Claim7 := { stood := { row := logWordsMatchSpecRow, standIns := [], harness := (true, "dad86e10c0c9875098f14639457c7da96153bc51d07db14731d5f5938e8d4e47"), looks := false }, kinds := [], alts := [], laidByText := true, laidKinds := [.data, .data, .data], laidTests := true, laidLooks := .later }
def LogWordsMatchSpecCardSaid : Prop := Claim7.holds Tryd.pinned (.plain (OpenSpec.ofChange logWordsMatchSpecSpec)) logWordsMatchSpecCard

/-- THE TIED CARD OF 'alumlaw09.LogDecodesWhatItEncodes'. -/
def logDecodesWhatItEncodesCard : Claim7 := { stood := { row := logDecodesWhatItEncodesRow, standIns := [], harness := (true, "dad86e10c0c9875098f14639457c7da96153bc51d07db14731d5f5938e8d4e47"), looks := false }, kinds := [], alts := [], laidByText := true, laidKinds := [.data, .data, .data], laidTests := true, laidLooks := .later }
def LogDecodesWhatItEncodesCardSaid : Prop := Claim7.holds Tryd.pinned (.plain (OpenSpec.ofChange logDecodesWhatItEncodesSpec)) logDecodesWhatItEncodesCard

/-- THE TIED CARD OF 'alumlaw08.RootSurvivesRot'. -/
def rootSurvivesRotCard : Claim7 := { stood := { row := rootSurvivesRotRow, standIns := [], harness := (true, "dad86e10c0c9875098f14639457c7da96153bc51d07db14731d5f5938e8d4e47"), looks := false }, kinds := [], alts := [], laidByText := true, laidKinds := [.data, .data, .data, .data], laidTests := true, laidLooks := .later }
def RootSurvivesRotCardSaid : Prop := Claim7.holds Tryd.pinned (.plain (OpenSpec.ofChange rootSurvivesRotSpec)) rootSurvivesRotCard

/-- THE TIED CARD OF 'alumlaw09.LogMatchesSpec'. -/
def logMatchesSpecCard : Claim7 := { stood := { row := logMatchesSpecRow, standIns := [], harness := (true, "dad86e10c0c9875098f14639457c7da96153bc51d07db14731d5f5938e8d4e47"), looks := false }, kinds := [], alts := [], laidByText := true, laidKinds := [.data, .data, .data], laidTests := true, laidLooks := .later }
def LogMatchesSpecCardSaid : Prop := Claim7.holds Tryd.pinned (.plain (OpenSpec.ofChange logMatchesSpecSpec)) logMatchesSpecCard

/-- THE TIED CARD OF 'alumlaw09.LogFindsRot'. -/
def logFindsRotCard : Claim7 := { stood := { row := logFindsRotRow, standIns := [], harness := (true, "dad86e10c0c9875098f14639457c7da96153bc51d07db14731d5f5938e8d4e47"), looks := false }, kinds := [], alts := [], laidByText := true, laidKinds := [.data, .data, .data], laidTests := true, laidLooks := .later }
def LogFindsRotCardSaid : Prop := Claim7.holds Tryd.pinned (.plain (OpenSpec.ofChange logFindsRotSpec)) logFindsRotCard

/-- THE TIED CARD OF 'alumlaw08.RootSurvivesFailures'. -/
def rootSurvivesFailuresCard : Claim7 := { stood := { row := rootSurvivesFailuresRow, standIns := [], harness := (true, "dad86e10c0c9875098f14639457c7da96153bc51d07db14731d5f5938e8d4e47"), looks := false }, kinds := [], alts := [], laidByText := true, laidKinds := [.data, .data, .data, .data], laidTests := true, laidLooks := .later }
def RootSurvivesFailuresCardSaid : Prop := Claim7.holds Tryd.pinned (.plain (OpenSpec.ofChange rootSurvivesFailuresSpec)) rootSurvivesFailuresCard

/-- THE SECOND FORM's CARD OF 'alumlaw04.MemoryBegins'. -/
def memoryBeginsUptoCard : Claim7 := { stood := { row := memoryBeginsUptoRow, standIns := [], harness := (true, "dad86e10c0c9875098f14639457c7da96153bc51d07db14731d5f5938e8d4e47"), looks := false }, kinds := [], alts := [], laidByText := true, laidKinds := [.data, .data], laidTests := true, laidLooks := .later }
def MemoryBeginsUptoCardSaid : Prop := Claim7.holds Tryd.pinned (.plain (OpenSpec.upto memoryBeginsSpec)) memoryBeginsUptoCard

/-- THE SECOND FORM's CARD OF 'alumlaw04.MemoryCodes'. -/
def memoryCodesUptoCard : Claim7 := { stood := { row := memoryCodesUptoRow, standIns := [], harness := (true, "dad86e10c0c9875098f14639457c7da96153bc51d07db14731d5f5938e8d4e47"), looks := false }, kinds := [], alts := [], laidByText := true, laidKinds := [.data, .data], laidTests := true, laidLooks := .later }
def MemoryCodesUptoCardSaid : Prop := Claim7.holds Tryd.pinned (.plain (OpenSpec.upto memoryCodesSpec)) memoryCodesUptoCard

/-- THE SECOND FORM's CARD OF 'alumlaw04.MemoryFenceKeeps'. -/
def memoryFenceKeepsUptoCard : Claim7 := { stood := { row := memoryFenceKeepsUptoRow, standIns := [], harness := (true, "dad86e10c0c9875098f14639457c7da96153bc51d07db14731d5f5938e8d4e47"), looks := false }, kinds := [], alts := [], laidByText := true, laidKinds := [.data, .data], laidTests := true, laidLooks := .later }
def MemoryFenceKeepsUptoCardSaid : Prop := Claim7.holds Tryd.pinned (.plain (OpenSpec.upto memoryFenceKeepsSpec)) memoryFenceKeepsUptoCard

/-- THE SECOND FORM's CARD OF 'alumlaw04.MemoryEvictsLikeFences'. -/
def memoryEvictsLikeFencesUptoCard : Claim7 := { stood := { row := memoryEvictsLikeFencesUptoRow, standIns := [], harness := (true, "dad86e10c0c9875098f14639457c7da96153bc51d07db14731d5f5938e8d4e47"), looks := false }, kinds := [], alts := [], laidByText := true, laidKinds := [.data, .data], laidTests := true, laidLooks := .later }
def MemoryEvictsLikeFencesUptoCardSaid : Prop := Claim7.holds Tryd.pinned (.plain (OpenSpec.upto memoryEvictsLikeFencesSpec)) memoryEvictsLikeFencesUptoCard

/-- THE SECOND FORM's CARD OF 'alumlaw04.MemoryLinesAreApart'. -/
def memoryLinesAreApartUptoCard : Claim7 := { stood := { row := memoryLinesAreApartUptoRow, standIns := [], harness := (true, "dad86e10c0c9875098f14639457c7da96153bc51d07db14731d5f5938e8d4e47"), looks := false }, kinds := [], alts := [], laidByText := true, laidKinds := [.data, .data], laidTests := true, laidLooks := .later }
def MemoryLinesAreApartUptoCardSaid : Prop := Claim7.holds Tryd.pinned (.plain (OpenSpec.upto memoryLinesAreApartSpec)) memoryLinesAreApartUptoCard

/-- THE SECOND FORM's CARD OF 'alumlaw08.RootGoesOn'. -/
def rootGoesOnUptoCard : Claim7 := { stood := { row := rootGoesOnUptoRow, standIns := [], harness := (true, "dad86e10c0c9875098f14639457c7da96153bc51d07db14731d5f5938e8d4e47"), looks := false }, kinds := [], alts := [], laidByText := true, laidKinds := [.data, .data, .data, .data], laidTests := true, laidLooks := .later }
def RootGoesOnUptoCardSaid : Prop := Claim7.holds Tryd.pinned (.plain (OpenSpec.upto rootGoesOnSpec)) rootGoesOnUptoCard

/-- THE SECOND FORM's CARD OF 'alumlaw04.MemoryMatchesSpec'. -/
def memoryMatchesSpecUptoCard : Claim7 := { stood := { row := memoryMatchesSpecUptoRow, standIns := [], harness := (true, "dad86e10c0c9875098f14639457c7da96153bc51d07db14731d5f5938e8d4e47"), looks := false }, kinds := [], alts := [], laidByText := true, laidKinds := [.data, .data], laidTests := true, laidLooks := .later }
def MemoryMatchesSpecUptoCardSaid : Prop := Claim7.holds Tryd.pinned (.plain (OpenSpec.upto memoryMatchesSpecSpec)) memoryMatchesSpecUptoCard

/-- THE SECOND FORM's CARD OF 'alumlaw09.LogOrder'. -/
def logOrderUptoCard : Claim7 := { stood := { row := logOrderUptoRow, standIns := [], harness := (true, "dad86e10c0c9875098f14639457c7da96153bc51d07db14731d5f5938e8d4e47"), looks := false }, kinds := [], alts := [], laidByText := true, laidKinds := [.data, .data, .data], laidTests := true, laidLooks := .later }
def LogOrderUptoCardSaid : Prop := Claim7.holds Tryd.pinned (.plain (OpenSpec.upto logOrderSpec)) logOrderUptoCard

/-- THE SECOND FORM's CARD OF 'alumlaw04.MemoryKeepsPrefixes'. -/
def memoryKeepsPrefixesUptoCard : Claim7 := { stood := { row := memoryKeepsPrefixesUptoRow, standIns := [], harness := (true, "dad86e10c0c9875098f14639457c7da96153bc51d07db14731d5f5938e8d4e47"), looks := false }, kinds := [], alts := [], laidByText := true, laidKinds := [.data, .data], laidTests := true, laidLooks := .later }
def MemoryKeepsPrefixesUptoCardSaid : Prop := Claim7.holds Tryd.pinned (.plain (OpenSpec.upto memoryKeepsPrefixesSpec)) memoryKeepsPrefixesUptoCard

/-- THE SECOND FORM's CARD OF 'alumlaw08.RootPlanMatchesSpec'. -/
def rootPlanMatchesSpecUptoCard : Claim7 := { stood := { row := rootPlanMatchesSpecUptoRow, standIns := [], harness := (true, "dad86e10c0c9875098f14639457c7da96153bc51d07db14731d5f5938e8d4e47"), looks := false }, kinds := [], alts := [], laidByText := true, laidKinds := [.data, .data, .data, .data], laidTests := true, laidLooks := .later }
def RootPlanMatchesSpecUptoCardSaid : Prop := Claim7.holds Tryd.pinned (.plain (OpenSpec.upto rootPlanMatchesSpecSpec)) rootPlanMatchesSpecUptoCard

/-- THE SECOND FORM's CARD OF 'alumlaw08.RootRegionsAreApart'. -/
def rootRegionsAreApartUptoCard : Claim7 := { stood := { row := rootRegionsAreApartUptoRow, standIns := [], harness := (true, "dad86e10c0c9875098f14639457c7da96153bc51d07db14731d5f5938e8d4e47"), looks := false }, kinds := [], alts := [], laidByText := true, laidKinds := [.data, .data, .data, .data], laidTests := true, laidLooks := .later }
def RootRegionsAreApartUptoCardSaid : Prop := Claim7.holds Tryd.pinned (.plain (OpenSpec.upto rootRegionsAreApartSpec)) rootRegionsAreApartUptoCard

/-- THE SECOND FORM's CARD OF 'alumlaw08.RootWordsMatchSpec'. -/
def rootWordsMatchSpecUptoCard : Claim7 := { stood := { row := rootWordsMatchSpecUptoRow, standIns := [], harness := (true, "dad86e10c0c9875098f14639457c7da96153bc51d07db14731d5f5938e8d4e47"), looks := false }, kinds := [], alts := [], laidByText := true, laidKinds := [.data, .data, .data, .data], laidTests := true, laidLooks := .later }
def RootWordsMatchSpecUptoCardSaid : Prop := Claim7.holds Tryd.pinned (.plain (OpenSpec.upto rootWordsMatchSpecSpec)) rootWordsMatchSpecUptoCard

/-- THE SECOND FORM's CARD OF 'alumlaw08.RootParseMatchesSpec'. -/
def rootParseMatchesSpecUptoCard : Claim7 := { stood := { row := rootParseMatchesSpecUptoRow, standIns := [], harness := (true, "dad86e10c0c9875098f14639457c7da96153bc51d07db14731d5f5938e8d4e47"), looks := false }, kinds := [], alts := [], laidByText := true, laidKinds := [.data, .data, .data, .data], laidTests := true, laidLooks := .later }
def RootParseMatchesSpecUptoCardSaid : Prop := Claim7.holds Tryd.pinned (.plain (OpenSpec.upto rootParseMatchesSpecSpec)) rootParseMatchesSpecUptoCard

/-- THE SECOND FORM's CARD OF 'alumlaw09.LogWordsMatchSpec'. -/
def logWordsMatchSpecUptoCard : Claim7 := { stood := { row := logWordsMatchSpecUptoRow, standIns := [], harness := (true, "dad86e10c0c9875098f14639457c7da96153bc51d07db14731d5f5938e8d4e47"), looks := false }, kinds := [], alts := [], laidByText := true, laidKinds := [.data, .data, .data], laidTests := true, laidLooks := .later }
def LogWordsMatchSpecUptoCardSaid : Prop := Claim7.holds Tryd.pinned (.plain (OpenSpec.upto logWordsMatchSpecSpec)) logWordsMatchSpecUptoCard

/-- THE SECOND FORM's CARD OF 'alumlaw09.LogDecodesWhatItEncodes'. -/
def logDecodesWhatItEncodesUptoCard : Claim7 := { stood := { row := logDecodesWhatItEncodesUptoRow, standIns := [], harness := (true, "dad86e10c0c9875098f14639457c7da96153bc51d07db14731d5f5938e8d4e47"), looks := false }, kinds := [], alts := [], laidByText := true, laidKinds := [.data, .data, .data], laidTests := true, laidLooks := .later }
def LogDecodesWhatItEncodesUptoCardSaid : Prop := Claim7.holds Tryd.pinned (.plain (OpenSpec.upto logDecodesWhatItEncodesSpec)) logDecodesWhatItEncodesUptoCard

/-- THE SECOND FORM's CARD OF 'alumlaw08.RootSurvivesRot'. -/
def rootSurvivesRotUptoCard : Claim7 := { stood := { row := rootSurvivesRotUptoRow, standIns := [], harness := (true, "dad86e10c0c9875098f14639457c7da96153bc51d07db14731d5f5938e8d4e47"), looks := false }, kinds := [], alts := [], laidByText := true, laidKinds := [.data, .data, .data, .data], laidTests := true, laidLooks := .later }
def RootSurvivesRotUptoCardSaid : Prop := Claim7.holds Tryd.pinned (.plain (OpenSpec.upto rootSurvivesRotSpec)) rootSurvivesRotUptoCard

/-- THE SECOND FORM's CARD OF 'alumlaw09.LogMatchesSpec'. -/
def logMatchesSpecUptoCard : Claim7 := { stood := { row := logMatchesSpecUptoRow, standIns := [], harness := (true, "dad86e10c0c9875098f14639457c7da96153bc51d07db14731d5f5938e8d4e47"), looks := false }, kinds := [], alts := [], laidByText := true, laidKinds := [.data, .data, .data], laidTests := true, laidLooks := .later }
def LogMatchesSpecUptoCardSaid : Prop := Claim7.holds Tryd.pinned (.plain (OpenSpec.upto logMatchesSpecSpec)) logMatchesSpecUptoCard

/-- THE SECOND FORM's CARD OF 'alumlaw09.LogFindsRot'. -/
def logFindsRotUptoCard : Claim7 := { stood := { row := logFindsRotUptoRow, standIns := [], harness := (true, "dad86e10c0c9875098f14639457c7da96153bc51d07db14731d5f5938e8d4e47"), looks := false }, kinds := [], alts := [], laidByText := true, laidKinds := [.data, .data, .data], laidTests := true, laidLooks := .later }
def LogFindsRotUptoCardSaid : Prop := Claim7.holds Tryd.pinned (.plain (OpenSpec.upto logFindsRotSpec)) logFindsRotUptoCard

/-- THE SECOND FORM's CARD OF 'alumlaw08.RootSurvivesFailures'. -/
def rootSurvivesFailuresUptoCard : Claim7 := { stood := { row := rootSurvivesFailuresUptoRow, standIns := [], harness := (true, "dad86e10c0c9875098f14639457c7da96153bc51d07db14731d5f5938e8d4e47"), looks := false }, kinds := [], alts := [], laidByText := true, laidKinds := [.data, .data, .data, .data], laidTests := true, laidLooks := .later }
def RootSurvivesFailuresUptoCardSaid : Prop := Claim7.holds Tryd.pinned (.plain (OpenSpec.upto rootSurvivesFailuresSpec)) rootSurvivesFailuresUptoCard
end Rows
end Go.Proofs.YtkncbggnaobgeaaDoor
