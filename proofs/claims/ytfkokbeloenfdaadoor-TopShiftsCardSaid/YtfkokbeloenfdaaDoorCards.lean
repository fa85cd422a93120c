/-
  DERIVED. GIVEN WITH THE SEED: THE CARDS: each row of YtfkokbeloenfdaaDoorRows.lean that lists a variable, with what it lists TIED to the program's text (the seventh form; the later family's looks); each row that meets fmt, with fmt's text TOLD by the authors' own Lean function (tested against real Go, not proved from fmt's source: count such statements apart). THE CARD IS WHAT COUNTS. Prove the row's statement (the work); the ties are given (YtfkokbeloenfdaaDoorTie.lean); close each card by the builder's one call (the guide's Derived/Test/ToyasCard.lean, 'card_holds'). Laid BY PROGRAM, IN A SANDBOX (cutbox-door.mjs). By AI agents, Wed Nov 11 2026. No macro, syntax, notation, axiom, sorry.
-/
import Derived.Test.YtfkokbeloenfdaaDoorRows
import GoSem.ClaimSeven
namespace Go.Proofs.YtfkokbeloenfdaaDoor
namespace Rows

/-- THE TIED CARD OF 'coxswaintop.TopShifts'. -/
def topShiftsCard : Claim7 := { stood := { row := topShiftsRow, standIns := [], harness := (true, "4282fb79c90d4ae295eced772b54536d76c35df305208ec00b62f7ba1a72ae62"), looks := false }, kinds := [], alts := [], laidByText := true, laidKinds := [.data], laidTests := true, laidLooks := .later }
def TopShiftsCardSaid : Prop := Claim7.holds Tryd.pinned (.plain (OpenSpec.ofChange topShiftsSpec)) topShiftsCard

/-- THE SECOND FORM's CARD OF 'coxswaintop.TopShifts'. -/
def topShiftsUptoCard : Claim7 := { stood := { row := topShiftsUptoRow, standIns := [], harness := (true, "4282fb79c90d4ae295eced772b54536d76c35df305208ec00b62f7ba1a72ae62"), looks := false }, kinds := [], alts := [], laidByText := true, laidKinds := [.data], laidTests := true, laidLooks := .later }
def TopShiftsUptoCardSaid : Prop := Claim7.holds Tryd.pinned (.plain (OpenSpec.upto topShiftsSpec)) topShiftsUptoCard
end Rows
end Go.Proofs.YtfkokbeloenfdaaDoor
