/-
  DERIVED. GIVEN WITH THE SEED: THE CARDS: each row of YtoippbbodhchkaaDoorRows.lean that lists a variable, with what it lists TIED to the program's text (the seventh form; the later family's looks); each row that meets fmt, with fmt's text TOLD by the authors' own Lean function (tested against real Go, not proved from fmt's source: count such statements apart). THE CARD IS WHAT COUNTS. Prove the row's statement (the work); the ties are given (YtoippbbodhchkaaDoorTie.lean); close each card by the builder's one call (the guide's Derived/Test/ToyasCard.lean, 'card_holds'). Laid BY PROGRAM, IN A SANDBOX (cutbox-door.mjs). By AI agents, Wed Nov 11 2026. No macro, syntax, notation, axiom, sorry.
-/
import Derived.Test.YtoippbbodhchkaaDoorRows
import GoSem.ClaimSeven
namespace Go.Proofs.YtoippbbodhchkaaDoor
namespace Rows

/-- THE TIED CARD OF 'emissarylaw8.TypTells'. -/
def typTellsCard : Claim7 := { stood := { row := typTellsRow, standIns := [], harness := (true, "88981df465f837aa558023f1c6e1256f37e561132f8996e46bd9ffeea1d68d4f"), looks := false }, kinds := [], alts := [], laidByText := true, laidKinds := [.data, .data, .data], laidTests := true, laidLooks := .later }
def TypTellsCardSaid : Prop := Claim7.holds Tryd.pinned (.plain (OpenSpec.ofChange typTellsSpec)) typTellsCard

/-- THE TIED CARD OF 'emissarylaw8.TypNorm'. -/
def typNormCard : Claim7 := { stood := { row := typNormRow, standIns := [], harness := (true, "88981df465f837aa558023f1c6e1256f37e561132f8996e46bd9ffeea1d68d4f"), looks := false }, kinds := [], alts := [], laidByText := true, laidKinds := [.data, .data, .data], laidTests := true, laidLooks := .later }
def TypNormCardSaid : Prop := Claim7.holds Tryd.pinned (.plain (OpenSpec.ofChange typNormSpec)) typNormCard

/-- THE TIED CARD OF 'emissarylaw8.TypOdd'. -/
def typOddCard : Claim7 := { stood := { row := typOddRow, standIns := [], harness := (true, "88981df465f837aa558023f1c6e1256f37e561132f8996e46bd9ffeea1d68d4f"), looks := false }, kinds := [], alts := [], laidByText := true, laidKinds := [.data, .data, .data], laidTests := true, laidLooks := .later }
def TypOddCardSaid : Prop := Claim7.holds Tryd.pinned (.plain (OpenSpec.ofChange typOddSpec)) typOddCard

/-- THE TIED CARD OF 'emissarylaw8.TypSent'. -/
def typSentCard : Claim7 := { stood := { row := typSentRow, standIns := [], harness := (true, "88981df465f837aa558023f1c6e1256f37e561132f8996e46bd9ffeea1d68d4f"), looks := false }, kinds := [], alts := [], laidByText := true, laidKinds := [.data, .data, .data], laidTests := true, laidLooks := .later }
def TypSentCardSaid : Prop := Claim7.holds Tryd.pinned (.plain (OpenSpec.ofChange typSentSpec)) typSentCard

/-- THE TIED CARD OF 'emissarylaw8.TypSame'. -/
def typSameCard : Claim7 := { stood := { row := typSameRow, standIns := [], harness := (true, "88981df465f837aa558023f1c6e1256f37e561132f8996e46bd9ffeea1d68d4f"), looks := false }, kinds := [], alts := [], laidByText := true, laidKinds := [.data, .data, .data], laidTests := true, laidLooks := .later }
def TypSameCardSaid : Prop := Claim7.holds Tryd.pinned (.plain (OpenSpec.ofChange typSameSpec)) typSameCard

/-- THE TIED CARD OF 'emissarylaw7.ShowTexts'. -/
def showTextsCard : Claim7 := { stood := { row := showTextsRow, standIns := [], harness := (true, "88981df465f837aa558023f1c6e1256f37e561132f8996e46bd9ffeea1d68d4f"), looks := false }, kinds := [], alts := [], laidByText := true, laidKinds := [.data, .data, .data], laidTests := true, laidLooks := .later }
def ShowTextsCardSaid : Prop := Claim7.holds Tryd.pinned (.plain (OpenSpec.ofChange showTextsSpec)) showTextsCard

/-- THE TIED CARD OF 'emissarylaw7.ShowBack'. -/
def showBackCard : Claim7 := { stood := { row := showBackRow, standIns := [], harness := (true, "88981df465f837aa558023f1c6e1256f37e561132f8996e46bd9ffeea1d68d4f"), looks := false }, kinds := [], alts := [], laidByText := true, laidKinds := [.data, .data, .data], laidTests := true, laidLooks := .later }
def ShowBackCardSaid : Prop := Claim7.holds Tryd.pinned (.plain (OpenSpec.ofChange showBackSpec)) showBackCard

/-- THE TIED CARD OF 'emissarylaw7.ShowParsed'. -/
def showParsedCard : Claim7 := { stood := { row := showParsedRow, standIns := [], harness := (true, "88981df465f837aa558023f1c6e1256f37e561132f8996e46bd9ffeea1d68d4f"), looks := false }, kinds := [], alts := [], laidByText := true, laidKinds := [.data, .data, .data], laidTests := true, laidLooks := .later }
def ShowParsedCardSaid : Prop := Claim7.holds Tryd.pinned (.plain (OpenSpec.ofChange showParsedSpec)) showParsedCard

/-- THE TIED CARD OF 'emissarylaw7.ShowUnlike'. -/
def showUnlikeCard : Claim7 := { stood := { row := showUnlikeRow, standIns := [], harness := (true, "88981df465f837aa558023f1c6e1256f37e561132f8996e46bd9ffeea1d68d4f"), looks := false }, kinds := [], alts := [], laidByText := true, laidKinds := [.data, .data, .data], laidTests := true, laidLooks := .later }
def ShowUnlikeCardSaid : Prop := Claim7.holds Tryd.pinned (.plain (OpenSpec.ofChange showUnlikeSpec)) showUnlikeCard

/-- THE SECOND FORM's CARD OF 'emissarylaw8.TypTells'. -/
def typTellsUptoCard : Claim7 := { stood := { row := typTellsUptoRow, standIns := [], harness := (true, "88981df465f837aa558023f1c6e1256f37e561132f8996e46bd9ffeea1d68d4f"), looks := false }, kinds := [], alts := [], laidByText := true, laidKinds := [.data, .data, .data], laidTests := true, laidLooks := .later }
def TypTellsUptoCardSaid : Prop := Claim7.holds Tryd.pinned (.plain (OpenSpec.upto typTellsSpec)) typTellsUptoCard

/-- THE SECOND FORM's CARD OF 'emissarylaw8.TypNorm'. -/
def typNormUptoCard : Claim7 := { stood := { row := typNormUptoRow, standIns := [], harness := (true, "88981df465f837aa558023f1c6e1256f37e561132f8996e46bd9ffeea1d68d4f"), looks := false }, kinds := [], alts := [], laidByText := true, laidKinds := [.data, .data, .data], laidTests := true, laidLooks := .later }
def TypNormUptoCardSaid : Prop := Claim7.holds Tryd.pinned (.plain (OpenSpec.upto typNormSpec)) typNormUptoCard

/-- THE SECOND FORM's CARD OF 'emissarylaw8.TypOdd'. -/
def typOddUptoCard : Claim7 := { stood := { row := typOddUptoRow, standIns := [], harness := (true, "88981df465f837aa558023f1c6e1256f37e561132f8996e46bd9ffeea1d68d4f"), looks := false }, kinds := [], alts := [], laidByText := true, laidKinds := [.data, .data, .data], laidTests := true, laidLooks := .later }
def TypOddUptoCardSaid : Prop := Claim7.holds Tryd.pinned (.plain (OpenSpec.upto typOddSpec)) typOddUptoCard

/-- THE SECOND FORM's CARD OF 'emissarylaw8.TypSent'. -/
def typSentUptoCard : Claim7 := { stood := { row := typSentUptoRow, standIns := [], harness := (true, "88981df465f837aa558023f1c6e1256f37e561132f8996e46bd9ffeea1d68d4f"), looks := false }, kinds := [], alts := [], laidByText := true, laidKinds := [.data, .data, .data], laidTests := true, laidLooks := .later }
def TypSentUptoCardSaid : Prop := Claim7.holds Tryd.pinned (.plain (OpenSpec.upto typSentSpec)) typSentUptoCard

/-- THE SECOND FORM's CARD OF 'emissarylaw8.TypSame'. -/
def typSameUptoCard : Claim7 := { stood := { row := typSameUptoRow, standIns := [], harness := (true, "88981df465f837aa558023f1c6e1256f37e561132f8996e46bd9ffeea1d68d4f"), looks := false }, kinds := [], alts := [], laidByText := true, laidKinds := [.data, .data, .data], laidTests := true, laidLooks := .later }
def TypSameUptoCardSaid : Prop := Claim7.holds Tryd.pinned (.plain (OpenSpec.upto typSameSpec)) typSameUptoCard

/-- THE SECOND FORM's CARD OF 'emissarylaw7.ShowTexts'. -/
def showTextsUptoCard : Claim7 := { stood := { row := showTextsUptoRow, standIns := [], harness := (true, "88981df465f837aa558023f1c6e1256f37e561132f8996e46bd9ffeea1d68d4f"), looks := false }, kinds := [], alts := [], laidByText := true, laidKinds := [.data, .data, .data], laidTests := true, laidLooks := .later }
def ShowTextsUptoCardSaid : Prop := Claim7.holds Tryd.pinned (.plain (OpenSpec.upto showTextsSpec)) showTextsUptoCard

/-- THE SECOND FORM's CARD OF 'emissarylaw7.ShowBack'. -/
def showBackUptoCard : Claim7 := { stood := { row := showBackUptoRow, standIns := [], harness := (true, "88981df465f837aa558023f1c6e1256f37e561132f8996e46bd9ffeea1d68d4f"), looks := false }, kinds := [], alts := [], laidByText := true, laidKinds := [.data, .data, .data], laidTests := true, laidLooks := .later }
def ShowBackUptoCardSaid : Prop := Claim7.holds Tryd.pinned (.plain (OpenSpec.upto showBackSpec)) showBackUptoCard

/-- THE SECOND FORM's CARD OF 'emissarylaw7.ShowParsed'. -/
def showParsedUptoCard : Claim7 := { stood := { row := showParsedUptoRow, standIns := [], harness := (true, "88981df465f837aa558023f1c6e1256f37e561132f8996e46bd9ffeea1d68d4f"), looks := false }, kinds := [], alts := [], laidByText := true, laidKinds := [.data, .data, .data], laidTests := true, laidLooks := .later }
def ShowParsedUptoCardSaid : Prop := Claim7.holds Tryd.pinned (.plain (OpenSpec.upto showParsedSpec)) showParsedUptoCard

/-- THE SECOND FORM's CARD OF 'emissarylaw7.ShowUnlike'. -/
def showUnlikeUptoCard : Claim7 := { stood := { row := showUnlikeUptoRow, standIns := [], harness := (true, "88981df465f837aa558023f1c6e1256f37e561132f8996e46bd9ffeea1d68d4f"), looks := false }, kinds := [], alts := [], laidByText := true, laidKinds := [.data, .data, .data], laidTests := true, laidLooks := .later }
def ShowUnlikeUptoCardSaid : Prop := Claim7.holds Tryd.pinned (.plain (OpenSpec.upto showUnlikeSpec)) showUnlikeUptoCard
end Rows
end Go.Proofs.YtoippbbodhchkaaDoor
