/-
  DERIVED. GIVEN WITH THE SEED: THE CARDS: each row of YtifhmdlgjojodaaDoorRows.lean that lists a variable, with what it lists TIED to the program's text (the seventh form; the later family's looks); each row that meets fmt, with fmt's text TOLD by the authors' own Lean function (tested against real Go, not proved from fmt's source: count such statements apart). THE CARD IS WHAT COUNTS. Prove the row's statement (the work); the ties are given (YtifhmdlgjojodaaDoorTie.lean); close each card by the builder's one call (the guide's Derived/Test/ToyasCard.lean, 'card_holds'). Laid BY PROGRAM, IN A SANDBOX (cutbox-door.mjs). By AI agents, Wed Nov 11 2026. No macro, syntax, notation, axiom, sorry.
-/
import Derived.Test.YtifhmdlgjojodaaDoorRows
import GoSem.ClaimSeven
namespace Go.Proofs.YtifhmdlgjojodaaDoor
namespace Rows

/-- THE TIED CARD OF 'tapearchivelaw28.LexerReads'. -/
def lexerReadsCard : Claim7 := { stood := { row := lexerReadsRow, standIns := [], harness := (true, "2c4a71d181728ceec3c8158b80e7a94a07cf186f4fd16abefb2dd139b72f4052"), looks := false }, kinds := [], alts := [], laidByText := true, laidKinds := [.data, .data, .data], laidTests := true, laidLooks := .later }
def LexerReadsCardSaid : Prop := Claim7.holds Tryd.pinned (.plain (OpenSpec.ofChange lexerReadsSpec)) lexerReadsCard

/-- THE TIED CARD OF 'tapearchivelaw28.LexerWrites'. -/
def lexerWritesCard : Claim7 := { stood := { row := lexerWritesRow, standIns := [], harness := (true, "2c4a71d181728ceec3c8158b80e7a94a07cf186f4fd16abefb2dd139b72f4052"), looks := false }, kinds := [], alts := [], laidByText := true, laidKinds := [.data, .data, .data], laidTests := true, laidLooks := .later }
def LexerWritesCardSaid : Prop := Claim7.holds Tryd.pinned (.plain (OpenSpec.ofChange lexerWritesSpec)) lexerWritesCard

/-- THE TIED CARD OF 'tapearchivelaw28.LexerTokens'. -/
def lexerTokensCard : Claim7 := { stood := { row := lexerTokensRow, standIns := [], harness := (true, "2c4a71d181728ceec3c8158b80e7a94a07cf186f4fd16abefb2dd139b72f4052"), looks := false }, kinds := [], alts := [], laidByText := true, laidKinds := [.data, .data, .data], laidTests := true, laidLooks := .later }
def LexerTokensCardSaid : Prop := Claim7.holds Tryd.pinned (.plain (OpenSpec.ofChange lexerTokensSpec)) lexerTokensCard

/-- THE TIED CARD OF 'tapearchivelaw28.LexerSeparators'. -/
def lexerSeparatorsCard : Claim7 := { stood := { row := lexerSeparatorsRow, standIns := [], harness := (true, "2c4a71d181728ceec3c8158b80e7a94a07cf186f4fd16abefb2dd139b72f4052"), looks := false }, kinds := [], alts := [], laidByText := true, laidKinds := [.data, .data, .data], laidTests := true, laidLooks := .later }
def LexerSeparatorsCardSaid : Prop := Claim7.holds Tryd.pinned (.plain (OpenSpec.ofChange lexerSeparatorsSpec)) lexerSeparatorsCard

/-- THE TIED CARD OF 'tapearchivelaw28.LexerCuts'. -/
def lexerCutsCard : Claim7 := { stood := { row := lexerCutsRow, standIns := [], harness := (true, "2c4a71d181728ceec3c8158b80e7a94a07cf186f4fd16abefb2dd139b72f4052"), looks := false }, kinds := [], alts := [], laidByText := true, laidKinds := [.data, .data, .data], laidTests := true, laidLooks := .later }
def LexerCutsCardSaid : Prop := Claim7.holds Tryd.pinned (.plain (OpenSpec.ofChange lexerCutsSpec)) lexerCutsCard

/-- THE TIED CARD OF 'tapearchivelaw28.LexerUnits'. -/
def lexerUnitsCard : Claim7 := { stood := { row := lexerUnitsRow, standIns := [], harness := (true, "2c4a71d181728ceec3c8158b80e7a94a07cf186f4fd16abefb2dd139b72f4052"), looks := false }, kinds := [], alts := [], laidByText := true, laidKinds := [.data, .data, .data], laidTests := true, laidLooks := .later }
def LexerUnitsCardSaid : Prop := Claim7.holds Tryd.pinned (.plain (OpenSpec.ofChange lexerUnitsSpec)) lexerUnitsCard

/-- THE SECOND FORM's CARD OF 'tapearchivelaw28.LexerReads'. -/
def lexerReadsUptoCard : Claim7 := { stood := { row := lexerReadsUptoRow, standIns := [], harness := (true, "2c4a71d181728ceec3c8158b80e7a94a07cf186f4fd16abefb2dd139b72f4052"), looks := false }, kinds := [], alts := [], laidByText := true, laidKinds := [.data, .data, .data], laidTests := true, laidLooks := .later }
def LexerReadsUptoCardSaid : Prop := Claim7.holds Tryd.pinned (.plain (OpenSpec.upto lexerReadsSpec)) lexerReadsUptoCard

/-- THE SECOND FORM's CARD OF 'tapearchivelaw28.LexerWrites'. -/
def lexerWritesUptoCard : Claim7 := { stood := { row := lexerWritesUptoRow, standIns := [], harness := (true, "2c4a71d181728ceec3c8158b80e7a94a07cf186f4fd16abefb2dd139b72f4052"), looks := false }, kinds := [], alts := [], laidByText := true, laidKinds := [.data, .data, .data], laidTests := true, laidLooks := .later }
def LexerWritesUptoCardSaid : Prop := Claim7.holds Tryd.pinned (.plain (OpenSpec.upto lexerWritesSpec)) lexerWritesUptoCard

/-- THE SECOND FORM's CARD OF 'tapearchivelaw28.LexerTokens'. -/
def lexerTokensUptoCard : Claim7 := { stood := { row := lexerTokensUptoRow, standIns := [], harness := (true, "2c4a71d181728ceec3c8158b80e7a94a07cf186f4fd16abefb2dd139b72f4052"), looks := false }, kinds := [], alts := [], laidByText := true, laidKinds := [.data, .data, .data], laidTests := true, laidLooks := .later }
def LexerTokensUptoCardSaid : Prop := Claim7.holds Tryd.pinned (.plain (OpenSpec.upto lexerTokensSpec)) lexerTokensUptoCard

/-- THE SECOND FORM's CARD OF 'tapearchivelaw28.LexerSeparators'. -/
def lexerSeparatorsUptoCard : Claim7 := { stood := { row := lexerSeparatorsUptoRow, standIns := [], harness := (true, "2c4a71d181728ceec3c8158b80e7a94a07cf186f4fd16abefb2dd139b72f4052"), looks := false }, kinds := [], alts := [], laidByText := true, laidKinds := [.data, .data, .data], laidTests := true, laidLooks := .later }
def LexerSeparatorsUptoCardSaid : Prop := Claim7.holds Tryd.pinned (.plain (OpenSpec.upto lexerSeparatorsSpec)) lexerSeparatorsUptoCard

/-- THE SECOND FORM's CARD OF 'tapearchivelaw28.LexerCuts'. -/
def lexerCutsUptoCard : Claim7 := { stood := { row := lexerCutsUptoRow, standIns := [], harness := (true, "2c4a71d181728ceec3c8158b80e7a94a07cf186f4fd16abefb2dd139b72f4052"), looks := false }, kinds := [], alts := [], laidByText := true, laidKinds := [.data, .data, .data], laidTests := true, laidLooks := .later }
def LexerCutsUptoCardSaid : Prop := Claim7.holds Tryd.pinned (.plain (OpenSpec.upto lexerCutsSpec)) lexerCutsUptoCard

/-- THE SECOND FORM's CARD OF 'tapearchivelaw28.LexerUnits'. -/
def lexerUnitsUptoCard : Claim7 := { stood := { row := lexerUnitsUptoRow, standIns := [], harness := (true, "2c4a71d181728ceec3c8158b80e7a94a07cf186f4fd16abefb2dd139b72f4052"), looks := false }, kinds := [], alts := [], laidByText := true, laidKinds := [.data, .data, .data], laidTests := true, laidLooks := .later }
def LexerUnitsUptoCardSaid : Prop := Claim7.holds Tryd.pinned (.plain (OpenSpec.upto lexerUnitsSpec)) lexerUnitsUptoCard
end Rows
end Go.Proofs.YtifhmdlgjojodaaDoor
