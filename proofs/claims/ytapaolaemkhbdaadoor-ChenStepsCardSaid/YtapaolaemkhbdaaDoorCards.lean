/-
  DERIVED. GIVEN WITH THE SEED: THE CARDS: each row of YtapaolaemkhbdaaDoorRows.lean that lists a variable, with what it lists TIED to the program's text (the seventh form; the later family's looks); each row that meets fmt, with fmt's text TOLD by the authors' own Lean function (tested against real Go, not proved from fmt's source: count such statements apart). THE CARD IS WHAT COUNTS. Prove the row's statement (the work); the ties are given (YtapaolaemkhbdaaDoorTie.lean); close each card by the builder's one call (the guide's Derived/Test/ToyasCard.lean, 'card_holds'). Laid BY PROGRAM, IN A SANDBOX (cutbox-door.mjs). By AI agents, Wed Nov 11 2026. No macro, syntax, notation, axiom, sorry.
-/
import Derived.Test.YtapaolaemkhbdaaDoorRows
import GoSem.ClaimSeven
namespace Go.Proofs.YtapaolaemkhbdaaDoor
namespace Rows

/-- THE TIED CARD OF 'coxswainlaw18.CabShapes'. -/
def cabShapesCard : Claim7 := { stood := { row := cabShapesRow, standIns := [], harness := (true, "2e2be42b2330c043c67e7858dff84d72ae4a187c610b75565135d5b7ac40942f"), looks := false }, kinds := [], alts := [], laidByText := true, laidKinds := [.data], laidTests := true, laidLooks := .later }
def CabShapesCardSaid : Prop := Claim7.holds Tryd.pinned (.plain (OpenSpec.ofChange cabShapesSpec)) cabShapesCard

/-- THE TIED CARD OF 'coxswainlaw15.ChenShapes'. -/
def chenShapesCard : Claim7 := { stood := { row := chenShapesRow, standIns := [], harness := (true, "2e2be42b2330c043c67e7858dff84d72ae4a187c610b75565135d5b7ac40942f"), looks := false }, kinds := [], alts := [], laidByText := true, laidKinds := [.data], laidTests := true, laidLooks := .later }
def ChenShapesCardSaid : Prop := Claim7.holds Tryd.pinned (.plain (OpenSpec.ofChange chenShapesSpec)) chenShapesCard

/-- THE TIED CARD OF 'coxswainlaw18.CabEnds'. -/
def cabEndsCard : Claim7 := { stood := { row := cabEndsRow, standIns := [], harness := (true, "2e2be42b2330c043c67e7858dff84d72ae4a187c610b75565135d5b7ac40942f"), looks := false }, kinds := [], alts := [], laidByText := true, laidKinds := [.data], laidTests := true, laidLooks := .later }
def CabEndsCardSaid : Prop := Claim7.holds Tryd.pinned (.plain (OpenSpec.ofChange cabEndsSpec)) cabEndsCard

/-- THE TIED CARD OF 'coxswainlaw18.CabKeeps'. -/
def cabKeepsCard : Claim7 := { stood := { row := cabKeepsRow, standIns := [], harness := (true, "2e2be42b2330c043c67e7858dff84d72ae4a187c610b75565135d5b7ac40942f"), looks := false }, kinds := [], alts := [], laidByText := true, laidKinds := [.data], laidTests := true, laidLooks := .later }
def CabKeepsCardSaid : Prop := Claim7.holds Tryd.pinned (.plain (OpenSpec.ofChange cabKeepsSpec)) cabKeepsCard

/-- THE TIED CARD OF 'coxswainlaw15.ChenEnds'. -/
def chenEndsCard : Claim7 := { stood := { row := chenEndsRow, standIns := [], harness := (true, "2e2be42b2330c043c67e7858dff84d72ae4a187c610b75565135d5b7ac40942f"), looks := false }, kinds := [], alts := [], laidByText := true, laidKinds := [.data], laidTests := true, laidLooks := .later }
def ChenEndsCardSaid : Prop := Claim7.holds Tryd.pinned (.plain (OpenSpec.ofChange chenEndsSpec)) chenEndsCard

/-- THE TIED CARD OF 'coxswainlaw15.ChenKeeps'. -/
def chenKeepsCard : Claim7 := { stood := { row := chenKeepsRow, standIns := [], harness := (true, "2e2be42b2330c043c67e7858dff84d72ae4a187c610b75565135d5b7ac40942f"), looks := false }, kinds := [], alts := [], laidByText := true, laidKinds := [.data], laidTests := true, laidLooks := .later }
def ChenKeepsCardSaid : Prop := Claim7.holds Tryd.pinned (.plain (OpenSpec.ofChange chenKeepsSpec)) chenKeepsCard

/-- THE TIED CARD OF 'coxswainlaw18.CabSteps'. -/
def cabStepsCard : Claim7 := { stood := { row := cabStepsRow, standIns := [], harness := (true, "2e2be42b2330c043c67e7858dff84d72ae4a187c610b75565135d5b7ac40942f"), looks := false }, kinds := [], alts := [], laidByText := true, laidKinds := [.data], laidTests := true, laidLooks := .later }
def CabStepsCardSaid : Prop := Claim7.holds Tryd.pinned (.plain (OpenSpec.ofChange cabStepsSpec)) cabStepsCard

/-- THE TIED CARD OF 'coxswainlaw18.CabClones'. -/
def cabClonesCard : Claim7 := { stood := { row := cabClonesRow, standIns := [], harness := (true, "2e2be42b2330c043c67e7858dff84d72ae4a187c610b75565135d5b7ac40942f"), looks := false }, kinds := [], alts := [], laidByText := true, laidKinds := [.data], laidTests := true, laidLooks := .later }
def CabClonesCardSaid : Prop := Claim7.holds Tryd.pinned (.plain (OpenSpec.ofChange cabClonesSpec)) cabClonesCard

/-- THE TIED CARD OF 'coxswainlaw15.ChenSteps'. -/
def chenStepsCard : Claim7 := { stood := { row := chenStepsRow, standIns := [], harness := (true, "2e2be42b2330c043c67e7858dff84d72ae4a187c610b75565135d5b7ac40942f"), looks := false }, kinds := [], alts := [], laidByText := true, laidKinds := [.data], laidTests := true, laidLooks := .later }
def ChenStepsCardSaid : Prop := Claim7.holds Tryd.pinned (.plain (OpenSpec.ofChange chenStepsSpec)) chenStepsCard

/-- THE TIED CARD OF 'coxswainlaw15.ChenClones'. -/
def chenClonesCard : Claim7 := { stood := { row := chenClonesRow, standIns := [], harness := (true, "2e2be42b2330c043c67e7858dff84d72ae4a187c610b75565135d5b7ac40942f"), looks := false }, kinds := [], alts := [], laidByText := true, laidKinds := [.data], laidTests := true, laidLooks := .later }
def ChenClonesCardSaid : Prop := Claim7.holds Tryd.pinned (.plain (OpenSpec.ofChange chenClonesSpec)) chenClonesCard

/-- THE SECOND FORM's CARD OF 'coxswainlaw18.CabShapes'. -/
def cabShapesUptoCard : Claim7 := { stood := { row := cabShapesUptoRow, standIns := [], harness := (true, "2e2be42b2330c043c67e7858dff84d72ae4a187c610b75565135d5b7ac40942f"), looks := false }, kinds := [], alts := [], laidByText := true, laidKinds := [.data], laidTests := true, laidLooks := .later }
def CabShapesUptoCardSaid : Prop := Claim7.holds Tryd.pinned (.plain (OpenSpec.upto cabShapesSpec)) cabShapesUptoCard

/-- THE SECOND FORM's CARD OF 'coxswainlaw15.ChenShapes'. -/
def chenShapesUptoCard : Claim7 := { stood := { row := chenShapesUptoRow, standIns := [], harness := (true, "2e2be42b2330c043c67e7858dff84d72ae4a187c610b75565135d5b7ac40942f"), looks := false }, kinds := [], alts := [], laidByText := true, laidKinds := [.data], laidTests := true, laidLooks := .later }
def ChenShapesUptoCardSaid : Prop := Claim7.holds Tryd.pinned (.plain (OpenSpec.upto chenShapesSpec)) chenShapesUptoCard

/-- THE SECOND FORM's CARD OF 'coxswainlaw18.CabEnds'. -/
def cabEndsUptoCard : Claim7 := { stood := { row := cabEndsUptoRow, standIns := [], harness := (true, "2e2be42b2330c043c67e7858dff84d72ae4a187c610b75565135d5b7ac40942f"), looks := false }, kinds := [], alts := [], laidByText := true, laidKinds := [.data], laidTests := true, laidLooks := .later }
def CabEndsUptoCardSaid : Prop := Claim7.holds Tryd.pinned (.plain (OpenSpec.upto cabEndsSpec)) cabEndsUptoCard

/-- THE SECOND FORM's CARD OF 'coxswainlaw18.CabKeeps'. -/
def cabKeepsUptoCard : Claim7 := { stood := { row := cabKeepsUptoRow, standIns := [], harness := (true, "2e2be42b2330c043c67e7858dff84d72ae4a187c610b75565135d5b7ac40942f"), looks := false }, kinds := [], alts := [], laidByText := true, laidKinds := [.data], laidTests := true, laidLooks := .later }
def CabKeepsUptoCardSaid : Prop := Claim7.holds Tryd.pinned (.plain (OpenSpec.upto cabKeepsSpec)) cabKeepsUptoCard

/-- THE SECOND FORM's CARD OF 'coxswainlaw15.ChenEnds'. -/
def chenEndsUptoCard : Claim7 := { stood := { row := chenEndsUptoRow, standIns := [], harness := (true, "2e2be42b2330c043c67e7858dff84d72ae4a187c610b75565135d5b7ac40942f"), looks := false }, kinds := [], alts := [], laidByText := true, laidKinds := [.data], laidTests := true, laidLooks := .later }
def ChenEndsUptoCardSaid : Prop := Claim7.holds Tryd.pinned (.plain (OpenSpec.upto chenEndsSpec)) chenEndsUptoCard

/-- THE SECOND FORM's CARD OF 'coxswainlaw15.ChenKeeps'. -/
def chenKeepsUptoCard : Claim7 := { stood := { row := chenKeepsUptoRow, standIns := [], harness := (true, "2e2be42b2330c043c67e7858dff84d72ae4a187c610b75565135d5b7ac40942f"), looks := false }, kinds := [], alts := [], laidByText := true, laidKinds := [.data], laidTests := true, laidLooks := .later }
def ChenKeepsUptoCardSaid : Prop := Claim7.holds Tryd.pinned (.plain (OpenSpec.upto chenKeepsSpec)) chenKeepsUptoCard

/-- THE SECOND FORM's CARD OF 'coxswainlaw18.CabSteps'. -/
def cabStepsUptoCard : Claim7 := { stood := { row := cabStepsUptoRow, standIns := [], harness := (true, "2e2be42b2330c043c67e7858dff84d72ae4a187c610b75565135d5b7ac40942f"), looks := false }, kinds := [], alts := [], laidByText := true, laidKinds := [.data], laidTests := true, laidLooks := .later }
def CabStepsUptoCardSaid : Prop := Claim7.holds Tryd.pinned (.plain (OpenSpec.upto cabStepsSpec)) cabStepsUptoCard

/-- THE SECOND FORM's CARD OF 'coxswainlaw18.CabClones'. -/
def cabClonesUptoCard : Claim7 := { stood := { row := cabClonesUptoRow, standIns := [], harness := (true, "2e2be42b2330c043c67e7858dff84d72ae4a187c610b75565135d5b7ac40942f"), looks := false }, kinds := [], alts := [], laidByText := true, laidKinds := [.data], laidTests := true, laidLooks := .later }
def CabClonesUptoCardSaid : Prop := Claim7.holds Tryd.pinned (.plain (OpenSpec.upto cabClonesSpec)) cabClonesUptoCard

/-- THE SECOND FORM's CARD OF 'coxswainlaw15.ChenSteps'. -/
def chenStepsUptoCard : Claim7 := { stood := { row := chenStepsUptoRow, standIns := [], harness := (true, "2e2be42b2330c043c67e7858dff84d72ae4a187c610b75565135d5b7ac40942f"), looks := false }, kinds := [], alts := [], laidByText := true, laidKinds := [.data], laidTests := true, laidLooks := .later }
def ChenStepsUptoCardSaid : Prop := Claim7.holds Tryd.pinned (.plain (OpenSpec.upto chenStepsSpec)) chenStepsUptoCard

/-- THE SECOND FORM's CARD OF 'coxswainlaw15.ChenClones'. -/
def chenClonesUptoCard : Claim7 := { stood := { row := chenClonesUptoRow, standIns := [], harness := (true, "2e2be42b2330c043c67e7858dff84d72ae4a187c610b75565135d5b7ac40942f"), looks := false }, kinds := [], alts := [], laidByText := true, laidKinds := [.data], laidTests := true, laidLooks := .later }
def ChenClonesUptoCardSaid : Prop := Claim7.holds Tryd.pinned (.plain (OpenSpec.upto chenClonesSpec)) chenClonesUptoCard
end Rows
end Go.Proofs.YtapaolaemkhbdaaDoor
