/-
  DERIVED. GIVEN WITH THE SEED: THE CARDS: each row of YteheaihappcgaaaGreatDoorRows.lean that lists a variable, with what it lists TIED to the program's text (the seventh form; the later family's looks); each row that meets fmt, with fmt's text TOLD by the authors' own Lean function (tested against real Go, not proved from fmt's source: count such statements apart). THE CARD IS WHAT COUNTS. Prove the row's statement (the work); the ties are given (YteheaihappcgaaaGreatDoorTie.lean); close each card by the builder's one call (the guide's Derived/Test/ToyasCard.lean, 'card_holds'). Laid BY PROGRAM, IN A SANDBOX (cutbox-door.mjs). By AI agents, Wed Nov 11 2026. No macro, syntax, notation, axiom, sorry.
-/
import Derived.Test.YteheaihappcgaaaGreatDoorRows
import GoSem.ClaimSeven
namespace Go.Proofs.YteheaihappcgaaaGreatDoor
namespace Rows

/-- THE TIED CARD OF 'euphroelaw43.SymwAgrees'. -/
def symwAgreesCard : Claim7 := { stood := { row := symwAgreesRow, standIns := [], harness := (true, "960d8f0260be254e17a3933241c6633c0853665f5802469e0e25520ac475852f"), looks := true }, kinds := [], alts := [], laidByText := true, laidKinds := [.data, .data, .data, .data, .pinned], laidTests := true, laidLooks := .later }
def SymwAgreesCardSaid : Prop := Claim7.holds Tryz.pinned (.plain (OpenSpec.ofChange symwAgreesSpec)) symwAgreesCard

/-- THE TIED CARD OF 'euphroelaw43.SymwBetween'. -/
def symwBetweenCard : Claim7 := { stood := { row := symwBetweenRow, standIns := [], harness := (true, "960d8f0260be254e17a3933241c6633c0853665f5802469e0e25520ac475852f"), looks := true }, kinds := [], alts := [], laidByText := true, laidKinds := [.data, .data, .data, .data, .pinned], laidTests := true, laidLooks := .later }
def SymwBetweenCardSaid : Prop := Claim7.holds Tryz.pinned (.plain (OpenSpec.ofChange symwBetweenSpec)) symwBetweenCard

/-- THE TIED CARD OF 'euphroelaw43.SymwNobody'. -/
def symwNobodyCard : Claim7 := { stood := { row := symwNobodyRow, standIns := [], harness := (true, "960d8f0260be254e17a3933241c6633c0853665f5802469e0e25520ac475852f"), looks := true }, kinds := [], alts := [], laidByText := true, laidKinds := [.data, .data, .data, .data, .pinned], laidTests := true, laidLooks := .later }
def SymwNobodyCardSaid : Prop := Claim7.holds Tryz.pinned (.plain (OpenSpec.ofChange symwNobodySpec)) symwNobodyCard

/-- THE SECOND FORM's CARD OF 'euphroelaw43.SymwAgrees'. -/
def symwAgreesUptoCard : Claim7 := { stood := { row := symwAgreesUptoRow, standIns := [], harness := (true, "960d8f0260be254e17a3933241c6633c0853665f5802469e0e25520ac475852f"), looks := true }, kinds := [], alts := [], laidByText := true, laidKinds := [.data, .data, .data, .data, .pinned], laidTests := true, laidLooks := .later }
def SymwAgreesUptoCardSaid : Prop := Claim7.holds Tryz.pinned (.plain (OpenSpec.upto symwAgreesSpec)) symwAgreesUptoCard

/-- THE SECOND FORM's CARD OF 'euphroelaw43.SymwBetween'. -/
def symwBetweenUptoCard : Claim7 := { stood := { row := symwBetweenUptoRow, standIns := [], harness := (true, "960d8f0260be254e17a3933241c6633c0853665f5802469e0e25520ac475852f"), looks := true }, kinds := [], alts := [], laidByText := true, laidKinds := [.data, .data, .data, .data, .pinned], laidTests := true, laidLooks := .later }
def SymwBetweenUptoCardSaid : Prop := Claim7.holds Tryz.pinned (.plain (OpenSpec.upto symwBetweenSpec)) symwBetweenUptoCard

/-- THE SECOND FORM's CARD OF 'euphroelaw43.SymwNobody'. -/
def symwNobodyUptoCard : Claim7 := { stood := { row := symwNobodyUptoRow, standIns := [], harness := (true, "960d8f0260be254e17a3933241c6633c0853665f5802469e0e25520ac475852f"), looks := true }, kinds := [], alts := [], laidByText := true, laidKinds := [.data, .data, .data, .data, .pinned], laidTests := true, laidLooks := .later }
def SymwNobodyUptoCardSaid : Prop := Claim7.holds Tryz.pinned (.plain (OpenSpec.upto symwNobodySpec)) symwNobodyUptoCard
end Rows
end Go.Proofs.YteheaihappcgaaaGreatDoor
