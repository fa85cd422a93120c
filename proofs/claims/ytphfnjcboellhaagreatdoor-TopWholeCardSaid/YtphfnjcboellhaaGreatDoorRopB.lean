import Derived.Test.YtphfnjcboellhaaGreatDoorRopA
namespace Go.Proofs.YtphfnjcboellhaaGreatDoor.rop
open Go Go.RowKit kit obj
set_option maxRecDepth 20000
theorem LB.word {W : World} {g : Nat} {ws : List Int} (h : LB W g ws) (j : Nat) (hj : j < ws.length) : W.cell? ⟨g, j, none⟩ = some (.int .u32 (ws.getD j 0)) := Blk.cell h (by simp [List.getD, hj])
end Go.Proofs.YtphfnjcboellhaaGreatDoor.rop
