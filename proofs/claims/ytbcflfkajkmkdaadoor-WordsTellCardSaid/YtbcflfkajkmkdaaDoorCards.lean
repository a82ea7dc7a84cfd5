/-
  DERIVED. GIVEN WITH THE SEED: THE CARDS: each row of YtbcflfkajkmkdaaDoorRows.lean that lists a variable, with what it lists TIED to the program's text (the seventh form; the later family's looks); each row that meets fmt, with fmt's text TOLD by the authors' own Lean function (tested against real Go, not proved from fmt's source: count such statements apart). THE CARD IS WHAT COUNTS. Prove the row's statement (the work); the ties are given (YtbcflfkajkmkdaaDoorTie.lean); close each card by the builder's one call (the guide's Derived/Test/ToyasCard.lean, 'card_holds'). Laid BY PROGRAM, IN A SANDBOX (cutbox-door.mjs). By AI agents, Wed Nov 11 2026. No macro, syntax, notation, axiom, sorry.
-/
import Derived.Test.YtbcflfkajkmkdaaDoorRows
import GoSem.ClaimSeven
namespace Go.Proofs.YtbcflfkajkmkdaaDoor
namespace Rows

/-- THE TIED CARD OF 'bramblelaw24.WordsBack'. -/
def wordsBackCard : Claim7 := { stood := { row := wordsBackRow, standIns := [], harness := (true, "93772265c57916796d7d73fe541ebfc2a3c278bb95f9315b549224b33c526da8"), looks := true }, kinds := [], alts := [], laidByText := true, laidKinds := [.data, .data, .data, .data, .sentinel, .sentinel, .widerDeep, .pinned], laidTests := true, laidLooks := .later }
def WordsBackCardSaid : Prop := Claim7.holds Tryd.pinned (.plain (OpenSpec.ofChange wordsBackSpec)) wordsBackCard

/-- THE TIED CARD OF 'bramblelaw24.WordsLong'. -/
def wordsLongCard : Claim7 := { stood := { row := wordsLongRow, standIns := [], harness := (true, "93772265c57916796d7d73fe541ebfc2a3c278bb95f9315b549224b33c526da8"), looks := true }, kinds := [], alts := [], laidByText := true, laidKinds := [.data, .data, .data, .data, .sentinel, .sentinel, .widerDeep, .pinned], laidTests := true, laidLooks := .later }
def WordsLongCardSaid : Prop := Claim7.holds Tryd.pinned (.plain (OpenSpec.ofChange wordsLongSpec)) wordsLongCard

/-- THE TIED CARD OF 'bramblelaw24.WordsTell'. -/
def wordsTellCard : Claim7 := { stood := { row := wordsTellRow, standIns := [], harness := (true, "93772265c57916796d7d73fe541ebfc2a3c278bb95f9315b549224b33c526da8"), looks := true }, kinds := [], alts := [], laidByText := true, laidKinds := [.data, .data, .data, .data, .sentinel, .sentinel, .widerDeep, .pinned], laidTests := true, laidLooks := .later }
def WordsTellCardSaid : Prop := Claim7.holds Tryd.pinned (.plain (OpenSpec.ofChange wordsTellSpec)) wordsTellCard

/-- THE SECOND FORM's CARD OF 'bramblelaw24.WordsBack'. -/
def wordsBackUptoCard : Claim7 := { stood := { row := wordsBackUptoRow, standIns := [], harness := (true, "93772265c57916796d7d73fe541ebfc2a3c278bb95f9315b549224b33c526da8"), looks := true }, kinds := [], alts := [], laidByText := true, laidKinds := [.data, .data, .data, .data, .sentinel, .sentinel, .widerDeep, .pinned], laidTests := true, laidLooks := .later }
def WordsBackUptoCardSaid : Prop := Claim7.holds Tryd.pinned (.plain (OpenSpec.upto wordsBackSpec)) wordsBackUptoCard

/-- THE SECOND FORM's CARD OF 'bramblelaw24.WordsLong'. -/
def wordsLongUptoCard : Claim7 := { stood := { row := wordsLongUptoRow, standIns := [], harness := (true, "93772265c57916796d7d73fe541ebfc2a3c278bb95f9315b549224b33c526da8"), looks := true }, kinds := [], alts := [], laidByText := true, laidKinds := [.data, .data, .data, .data, .sentinel, .sentinel, .widerDeep, .pinned], laidTests := true, laidLooks := .later }
def WordsLongUptoCardSaid : Prop := Claim7.holds Tryd.pinned (.plain (OpenSpec.upto wordsLongSpec)) wordsLongUptoCard

/-- THE SECOND FORM's CARD OF 'bramblelaw24.WordsTell'. -/
def wordsTellUptoCard : Claim7 := { stood := { row := wordsTellUptoRow, standIns := [], harness := (true, "93772265c57916796d7d73fe541ebfc2a3c278bb95f9315b549224b33c526da8"), looks := true }, kinds := [], alts := [], laidByText := true, laidKinds := [.data, .data, .data, .data, .sentinel, .sentinel, .widerDeep, .pinned], laidTests := true, laidLooks := .later }
def WordsTellUptoCardSaid : Prop := Claim7.holds Tryd.pinned (.plain (OpenSpec.upto wordsTellSpec)) wordsTellUptoCard
end Rows
end Go.Proofs.YtbcflfkajkmkdaaDoor
