/-
  DERIVED. GIVEN WITH THE SEED: THE CARDS: each row of YtjcfoofbagpooaaDoorRows.lean that lists a variable, with what it lists TIED to the program's text (the seventh form; the later family's looks); each row that meets fmt, with fmt's text TOLD by the authors' own Lean function (tested against real Go, not proved from fmt's source: count such statements apart). THE CARD IS WHAT COUNTS. Prove the row's statement (the work); the ties are given (YtjcfoofbagpooaaDoorTie.lean); close each card by the builder's one call (the guide's Derived/Test/ToyasCard.lean, 'card_holds'). Laid BY PROGRAM, IN A SANDBOX (cutbox-door.mjs). By AI agents, Wed Nov 11 2026. No macro, syntax, notation, axiom, sorry.
-/
import Derived.Test.YtjcfoofbagpooaaDoorRows
import GoSem.ClaimSeven
namespace Go.Proofs.YtjcfoofbagpooaaDoor
namespace Rows

/-- THE TIED CARD OF 'euphroelaw14.WordsBack'. -/
def wordsBackCard : Claim7 := { stood := { row := wordsBackRow, standIns := [], harness := (true, "a06f8d21dd992fc8bde39cf3fe6e76f0beed1b29bd7fa588e51d34ba3aed25e0"), looks := true }, kinds := [], alts := [], laidByText := true, laidKinds := [.data, .data, .data, .data, .sentinel, .sentinel, .pinned], laidTests := true, laidLooks := .later }
def WordsBackCardSaid : Prop := Claim7.holds Tryd.pinned (.plain (OpenSpec.ofChange wordsBackSpec)) wordsBackCard

/-- THE TIED CARD OF 'euphroelaw14.WordsLines'. -/
def wordsLinesCard : Claim7 := { stood := { row := wordsLinesRow, standIns := [], harness := (true, "a06f8d21dd992fc8bde39cf3fe6e76f0beed1b29bd7fa588e51d34ba3aed25e0"), looks := true }, kinds := [], alts := [], laidByText := true, laidKinds := [.data, .data, .data, .data, .sentinel, .sentinel, .pinned], laidTests := true, laidLooks := .later }
def WordsLinesCardSaid : Prop := Claim7.holds Tryd.pinned (.plain (OpenSpec.ofChange wordsLinesSpec)) wordsLinesCard

/-- THE TIED CARD OF 'euphroelaw16.HttppParses'. -/
def httppParsesCard : Claim7 := { stood := { row := httppParsesRow, standIns := [], harness := (true, "a06f8d21dd992fc8bde39cf3fe6e76f0beed1b29bd7fa588e51d34ba3aed25e0"), looks := true }, kinds := [], alts := [], laidByText := true, laidKinds := [.data, .data, .data, .data, .sentinel, .sentinel, .pinned], laidTests := true, laidLooks := .later }
def HttppParsesCardSaid : Prop := Claim7.holds Tryd.pinned (.plain (OpenSpec.ofChange httppParsesSpec)) httppParsesCard

/-- THE SECOND FORM's CARD OF 'euphroelaw14.WordsBack'. -/
def wordsBackUptoCard : Claim7 := { stood := { row := wordsBackUptoRow, standIns := [], harness := (true, "a06f8d21dd992fc8bde39cf3fe6e76f0beed1b29bd7fa588e51d34ba3aed25e0"), looks := true }, kinds := [], alts := [], laidByText := true, laidKinds := [.data, .data, .data, .data, .sentinel, .sentinel, .pinned], laidTests := true, laidLooks := .later }
def WordsBackUptoCardSaid : Prop := Claim7.holds Tryd.pinned (.plain (OpenSpec.upto wordsBackSpec)) wordsBackUptoCard

/-- THE SECOND FORM's CARD OF 'euphroelaw14.WordsLines'. -/
def wordsLinesUptoCard : Claim7 := { stood := { row := wordsLinesUptoRow, standIns := [], harness := (true, "a06f8d21dd992fc8bde39cf3fe6e76f0beed1b29bd7fa588e51d34ba3aed25e0"), looks := true }, kinds := [], alts := [], laidByText := true, laidKinds := [.data, .data, .data, .data, .sentinel, .sentinel, .pinned], laidTests := true, laidLooks := .later }
def WordsLinesUptoCardSaid : Prop := Claim7.holds Tryd.pinned (.plain (OpenSpec.upto wordsLinesSpec)) wordsLinesUptoCard

/-- THE SECOND FORM's CARD OF 'euphroelaw16.HttppParses'. -/
def httppParsesUptoCard : Claim7 := { stood := { row := httppParsesUptoRow, standIns := [], harness := (true, "a06f8d21dd992fc8bde39cf3fe6e76f0beed1b29bd7fa588e51d34ba3aed25e0"), looks := true }, kinds := [], alts := [], laidByText := true, laidKinds := [.data, .data, .data, .data, .sentinel, .sentinel, .pinned], laidTests := true, laidLooks := .later }
def HttppParsesUptoCardSaid : Prop := Claim7.holds Tryd.pinned (.plain (OpenSpec.upto httppParsesSpec)) httppParsesUptoCard
end Rows
end Go.Proofs.YtjcfoofbagpooaaDoor
