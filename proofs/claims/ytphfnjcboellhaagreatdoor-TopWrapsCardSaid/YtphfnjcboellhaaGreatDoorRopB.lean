/- Parts joined: Rop5, Rop6. -/
import Derived.Test.YtphfnjcboellhaaGreatDoorRopA
/- The reference's operation: the kind of four slots: the rows that are no words of a record. -/
namespace Go.Proofs.YtphfnjcboellhaaGreatDoor.rop
open Go Go.RowKit kit obj
set_option linter.unusedVariables false
set_option linter.unusedSimpArgs false
set_option maxRecDepth 20000

theorem LB.word {W : World} {g : Nat} {ws : List Int} (h : LB W g ws) (j : Nat) (hj : j < ws.length) : W.cell? ⟨g, j, none⟩ = some (.int .u32 (ws.getD j 0)) := Blk.cell h (by simp [List.getD, hj])

end Go.Proofs.YtphfnjcboellhaaGreatDoor.rop

/- The reference's operation: the kind of four slots: the rows that are words of a record, and the row that tells the slot. -/
namespace Go.Proofs.YtphfnjcboellhaaGreatDoor.rop
open Go Go.RowKit kit obj
set_option linter.unusedVariables false
set_option linter.unusedSimpArgs false
set_option maxRecDepth 20000

end Go.Proofs.YtphfnjcboellhaaGreatDoor.rop
