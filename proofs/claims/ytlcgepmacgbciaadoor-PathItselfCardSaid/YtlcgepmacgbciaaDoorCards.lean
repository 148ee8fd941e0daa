/-
  DERIVED. GIVEN WITH THE SEED: THE CARDS: each row of YtlcgepmacgbciaaDoorRows.lean that lists a variable, with what it lists TIED to the program's text (the seventh form; the later family's looks); each row that meets fmt, with fmt's text TOLD by the authors' own Lean function (tested against real Go, not proved from fmt's source: count such statements apart). THE CARD IS WHAT COUNTS. Prove the row's statement (the work); the ties are given (YtlcgepmacgbciaaDoorTie.lean); close each card by the builder's one call (the guide's Derived/Test/ToyasCard.lean, 'card_holds'). Laid BY PROGRAM, IN A SANDBOX (cutbox-door.mjs). By AI agents, Wed Nov 11 2026. No macro, syntax, notation, axiom, sorry.
-/
import Derived.Test.YtlcgepmacgbciaaDoorRows
import GoSem.ClaimSeven
namespace Go.Proofs.YtlcgepmacgbciaaDoor
namespace Rows

/-- THE TIED CARD OF 'tapearchivelaw19.PathParses'. -/
def pathParsesCard : Claim7 := { stood := { row := pathParsesRow, standIns := [], harness := (true, "b54b2be6b4d41d15799035b8cb5e398c113750f8164f162ff6549ecd75a1cef2"), looks := false }, kinds := [], alts := [], laidByText := true, laidKinds := [.data, .pinned], laidTests := true, laidLooks := .later }
def PathParsesCardSaid : Prop := Claim7.holds Tryd.pinned (.plain (OpenSpec.ofChange pathParsesSpec)) pathParsesCard

/-- THE TIED CARD OF 'tapearchivelaw19.PathTexts'. -/
def pathTextsCard : Claim7 := { stood := { row := pathTextsRow, standIns := [], harness := (true, "b54b2be6b4d41d15799035b8cb5e398c113750f8164f162ff6549ecd75a1cef2"), looks := false }, kinds := [], alts := [], laidByText := true, laidKinds := [.data, .pinned], laidTests := true, laidLooks := .later }
def PathTextsCardSaid : Prop := Claim7.holds Tryd.pinned (.plain (OpenSpec.ofChange pathTextsSpec)) pathTextsCard

/-- THE TIED CARD OF 'tapearchivelaw19.PathUnder'. -/
def pathUnderCard : Claim7 := { stood := { row := pathUnderRow, standIns := [], harness := (true, "b54b2be6b4d41d15799035b8cb5e398c113750f8164f162ff6549ecd75a1cef2"), looks := false }, kinds := [], alts := [], laidByText := true, laidKinds := [.data, .pinned], laidTests := true, laidLooks := .later }
def PathUnderCardSaid : Prop := Claim7.holds Tryd.pinned (.plain (OpenSpec.ofChange pathUnderSpec)) pathUnderCard

/-- THE TIED CARD OF 'tapearchivelaw19.PathMatches'. -/
def pathMatchesCard : Claim7 := { stood := { row := pathMatchesRow, standIns := [], harness := (true, "b54b2be6b4d41d15799035b8cb5e398c113750f8164f162ff6549ecd75a1cef2"), looks := false }, kinds := [], alts := [], laidByText := true, laidKinds := [.data, .pinned], laidTests := true, laidLooks := .later }
def PathMatchesCardSaid : Prop := Claim7.holds Tryd.pinned (.plain (OpenSpec.ofChange pathMatchesSpec)) pathMatchesCard

/-- THE TIED CARD OF 'tapearchivelaw19.PathItself'. -/
def pathItselfCard : Claim7 := { stood := { row := pathItselfRow, standIns := [], harness := (true, "b54b2be6b4d41d15799035b8cb5e398c113750f8164f162ff6549ecd75a1cef2"), looks := false }, kinds := [], alts := [], laidByText := true, laidKinds := [.data, .pinned], laidTests := true, laidLooks := .later }
def PathItselfCardSaid : Prop := Claim7.holds Tryd.pinned (.plain (OpenSpec.ofChange pathItselfSpec)) pathItselfCard

/-- THE TIED CARD OF 'tapearchivelaw19.PathDeep'. -/
def pathDeepCard : Claim7 := { stood := { row := pathDeepRow, standIns := [], harness := (true, "b54b2be6b4d41d15799035b8cb5e398c113750f8164f162ff6549ecd75a1cef2"), looks := false }, kinds := [], alts := [], laidByText := true, laidKinds := [.data, .pinned], laidTests := true, laidLooks := .later }
def PathDeepCardSaid : Prop := Claim7.holds Tryd.pinned (.plain (OpenSpec.ofChange pathDeepSpec)) pathDeepCard

/-- THE TIED CARD OF 'tapearchivelaw19.PathOrders'. -/
def pathOrdersCard : Claim7 := { stood := { row := pathOrdersRow, standIns := [], harness := (true, "b54b2be6b4d41d15799035b8cb5e398c113750f8164f162ff6549ecd75a1cef2"), looks := false }, kinds := [], alts := [], laidByText := true, laidKinds := [.data, .pinned], laidTests := true, laidLooks := .later }
def PathOrdersCardSaid : Prop := Claim7.holds Tryd.pinned (.plain (OpenSpec.ofChange pathOrdersSpec)) pathOrdersCard

/-- THE TIED CARD OF 'tapearchivelaw19.PathBlocks'. -/
def pathBlocksCard : Claim7 := { stood := { row := pathBlocksRow, standIns := [], harness := (true, "b54b2be6b4d41d15799035b8cb5e398c113750f8164f162ff6549ecd75a1cef2"), looks := false }, kinds := [], alts := [], laidByText := true, laidKinds := [.data, .pinned], laidTests := true, laidLooks := .later }
def PathBlocksCardSaid : Prop := Claim7.holds Tryd.pinned (.plain (OpenSpec.ofChange pathBlocksSpec)) pathBlocksCard

/-- THE SECOND FORM's CARD OF 'tapearchivelaw19.PathParses'. -/
def pathParsesUptoCard : Claim7 := { stood := { row := pathParsesUptoRow, standIns := [], harness := (true, "b54b2be6b4d41d15799035b8cb5e398c113750f8164f162ff6549ecd75a1cef2"), looks := false }, kinds := [], alts := [], laidByText := true, laidKinds := [.data, .pinned], laidTests := true, laidLooks := .later }
def PathParsesUptoCardSaid : Prop := Claim7.holds Tryd.pinned (.plain (OpenSpec.upto pathParsesSpec)) pathParsesUptoCard

/-- THE SECOND FORM's CARD OF 'tapearchivelaw19.PathTexts'. -/
def pathTextsUptoCard : Claim7 := { stood := { row := pathTextsUptoRow, standIns := [], harness := (true, "b54b2be6b4d41d15799035b8cb5e398c113750f8164f162ff6549ecd75a1cef2"), looks := false }, kinds := [], alts := [], laidByText := true, laidKinds := [.data, .pinned], laidTests := true, laidLooks := .later }
def PathTextsUptoCardSaid : Prop := Claim7.holds Tryd.pinned (.plain (OpenSpec.upto pathTextsSpec)) pathTextsUptoCard

/-- THE SECOND FORM's CARD OF 'tapearchivelaw19.PathUnder'. -/
def pathUnderUptoCard : Claim7 := { stood := { row := pathUnderUptoRow, standIns := [], harness := (true, "b54b2be6b4d41d15799035b8cb5e398c113750f8164f162ff6549ecd75a1cef2"), looks := false }, kinds := [], alts := [], laidByText := true, laidKinds := [.data, .pinned], laidTests := true, laidLooks := .later }
def PathUnderUptoCardSaid : Prop := Claim7.holds Tryd.pinned (.plain (OpenSpec.upto pathUnderSpec)) pathUnderUptoCard

/-- THE SECOND FORM's CARD OF 'tapearchivelaw19.PathMatches'. -/
def pathMatchesUptoCard : Claim7 := { stood := { row := pathMatchesUptoRow, standIns := [], harness := (true, "b54b2be6b4d41d15799035b8cb5e398c113750f8164f162ff6549ecd75a1cef2"), looks := false }, kinds := [], alts := [], laidByText := true, laidKinds := [.data, .pinned], laidTests := true, laidLooks := .later }
def PathMatchesUptoCardSaid : Prop := Claim7.holds Tryd.pinned (.plain (OpenSpec.upto pathMatchesSpec)) pathMatchesUptoCard

/-- THE SECOND FORM's CARD OF 'tapearchivelaw19.PathItself'. -/
def pathItselfUptoCard : Claim7 := { stood := { row := pathItselfUptoRow, standIns := [], harness := (true, "b54b2be6b4d41d15799035b8cb5e398c113750f8164f162ff6549ecd75a1cef2"), looks := false }, kinds := [], alts := [], laidByText := true, laidKinds := [.data, .pinned], laidTests := true, laidLooks := .later }
def PathItselfUptoCardSaid : Prop := Claim7.holds Tryd.pinned (.plain (OpenSpec.upto pathItselfSpec)) pathItselfUptoCard

/-- THE SECOND FORM's CARD OF 'tapearchivelaw19.PathDeep'. -/
def pathDeepUptoCard : Claim7 := { stood := { row := pathDeepUptoRow, standIns := [], harness := (true, "b54b2be6b4d41d15799035b8cb5e398c113750f8164f162ff6549ecd75a1cef2"), looks := false }, kinds := [], alts := [], laidByText := true, laidKinds := [.data, .pinned], laidTests := true, laidLooks := .later }
def PathDeepUptoCardSaid : Prop := Claim7.holds Tryd.pinned (.plain (OpenSpec.upto pathDeepSpec)) pathDeepUptoCard

/-- THE SECOND FORM's CARD OF 'tapearchivelaw19.PathOrders'. -/
def pathOrdersUptoCard : Claim7 := { stood := { row := pathOrdersUptoRow, standIns := [], harness := (true, "b54b2be6b4d41d15799035b8cb5e398c113750f8164f162ff6549ecd75a1cef2"), looks := false }, kinds := [], alts := [], laidByText := true, laidKinds := [.data, .pinned], laidTests := true, laidLooks := .later }
def PathOrdersUptoCardSaid : Prop := Claim7.holds Tryd.pinned (.plain (OpenSpec.upto pathOrdersSpec)) pathOrdersUptoCard

/-- THE SECOND FORM's CARD OF 'tapearchivelaw19.PathBlocks'. -/
def pathBlocksUptoCard : Claim7 := { stood := { row := pathBlocksUptoRow, standIns := [], harness := (true, "b54b2be6b4d41d15799035b8cb5e398c113750f8164f162ff6549ecd75a1cef2"), looks := false }, kinds := [], alts := [], laidByText := true, laidKinds := [.data, .pinned], laidTests := true, laidLooks := .later }
def PathBlocksUptoCardSaid : Prop := Claim7.holds Tryd.pinned (.plain (OpenSpec.upto pathBlocksSpec)) pathBlocksUptoCard
end Rows
end Go.Proofs.YtlcgepmacgbciaaDoor
