import Derived.Test.YtphfnjcboellhaaGreatDoorRopA
import Derived.Test.YtphfnjcboellhaaGreatDoorObj
namespace Go.Proofs.YtphfnjcboellhaaGreatDoor.rop
open Go Go.RowKit kit obj
set_option maxRecDepth 20000
def recordsI (k s : Int) (rl : Nat) : Int := if k = 1 then 4 else if k = 2 then rl + 2 else if k = 3 then 1 else s
def sizeI (k w s c st : Int) (il rl : Nat) : Int := if rightB k w s c st il rl then headI k rl + recordsI k s rl * w else 0
theorem records_bd {k w s c st : Int} {il rl : Nat} (h : rightB k w s c st il rl = true) : 0 <= recordsI k s rl /\ recordsI k s rl <= 16 := by
 have hb := rightB_bd h
 unfold recordsI
 repeat' split
 all_goals omega
theorem mul16 {a b : Int} (ha : 0 <= a /\ a <= 16) (hb : 1 <= b /\ b <= 8) : 0 <= a * b /\ a * b <= 128 := by
 have h1 : a * b <= 16 * b := Int.mul_le_mul_of_nonneg_right ha.2 (by omega)
 have h2 : 0 <= a * b := Int.mul_nonneg ha.1 (by omega)
 omega
end Go.Proofs.YtphfnjcboellhaaGreatDoor.rop
