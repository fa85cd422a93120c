/-
  DERIVED. GIVEN WITH THE SEED: THE CARDS: each row of YtphfnjcboellhaaGreatDoorRows.lean that lists a variable, with what it lists TIED to the program's text (the seventh form; the later family's looks); each row that meets fmt, with fmt's text TOLD by the authors' own Lean function (tested against real Go, not proved from fmt's source: count such statements apart). THE CARD IS WHAT COUNTS. Prove the row's statement (the work); the ties are given (YtphfnjcboellhaaGreatDoorTie.lean); close each card by the builder's one call (the guide's Derived/Test/ToyasCard.lean, 'card_holds'). Laid BY PROGRAM, IN A SANDBOX (cutbox-door.mjs). By AI agents, Wed Nov 11 2026. No macro, syntax, notation, axiom, sorry.
-/
import Derived.Test.YtphfnjcboellhaaGreatDoorRows
import GoSem.ClaimSeven
namespace Go.Proofs.YtphfnjcboellhaaGreatDoor
namespace Rows

/-- THE TIED CARD OF 'coxswaintop.TopWraps'. -/
def topWrapsCard : Claim7 := { stood := { row := topWrapsRow, standIns := [], harness := (true, "a7e7df7855baaaa488039b0b5985b8016de1c4831a9c3aeabb83c930e81c14bb"), looks := false }, kinds := [], alts := [], laidByText := true, laidKinds := [.data], laidTests := true, laidLooks := .later }
def TopWrapsCardSaid : Prop := Claim7.holds Tryz.pinned (.plain (OpenSpec.ofChange topWrapsSpec)) topWrapsCard

/-- THE TIED CARD OF 'coxswaintop.TopWhole'. -/
def topWholeCard : Claim7 := { stood := { row := topWholeRow, standIns := [], harness := (true, "a7e7df7855baaaa488039b0b5985b8016de1c4831a9c3aeabb83c930e81c14bb"), looks := false }, kinds := [], alts := [], laidByText := true, laidKinds := [.data], laidTests := true, laidLooks := .later }
def TopWholeCardSaid : Prop := Claim7.holds Tryz.pinned (.plain (OpenSpec.ofChange topWholeSpec)) topWholeCard

/-- THE SECOND FORM's CARD OF 'coxswaintop.TopWraps'. -/
def topWrapsUptoCard : Claim7 := { stood := { row := topWrapsUptoRow, standIns := [], harness := (true, "a7e7df7855baaaa488039b0b5985b8016de1c4831a9c3aeabb83c930e81c14bb"), looks := false }, kinds := [], alts := [], laidByText := true, laidKinds := [.data], laidTests := true, laidLooks := .later }
def TopWrapsUptoCardSaid : Prop := Claim7.holds Tryz.pinned (.plain (OpenSpec.upto topWrapsSpec)) topWrapsUptoCard

/-- THE SECOND FORM's CARD OF 'coxswaintop.TopWhole'. -/
def topWholeUptoCard : Claim7 := { stood := { row := topWholeUptoRow, standIns := [], harness := (true, "a7e7df7855baaaa488039b0b5985b8016de1c4831a9c3aeabb83c930e81c14bb"), looks := false }, kinds := [], alts := [], laidByText := true, laidKinds := [.data], laidTests := true, laidLooks := .later }
def TopWholeUptoCardSaid : Prop := Claim7.holds Tryz.pinned (.plain (OpenSpec.upto topWholeSpec)) topWholeUptoCard
end Rows
end Go.Proofs.YtphfnjcboellhaaGreatDoor
