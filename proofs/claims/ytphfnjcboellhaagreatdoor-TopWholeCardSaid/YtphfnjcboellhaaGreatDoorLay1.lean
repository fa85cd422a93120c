import Derived.Test.YtphfnjcboellhaaGreatDoorObjA
import Derived.Test.YtphfnjcboellhaaGreatDoorMemo
import Derived.Deep.Cut
namespace Go.Proofs.YtphfnjcboellhaaGreatDoor.lay
open Go Go.RowKit kit obj mem
set_option maxRecDepth 20000
def rcells (r : Int × Int) : List Value := [.int .i64 r.1, .int .i64 r.2]
def i64B (x : Int) : Prop := -9223372036854775808 <= x /\ x <= 9223372036854775807
def ReadsR (w : World) (v : Value) (rs : List (Int × Int)) : Prop := Reads w 2 v rs.length (rs.flatMap rcells) /\ ∀ r ∈ rs, i64B r.1 /\ i64B r.2
def OwnR (w : World) (B : Nat) (v : Value) (rs : List (Int × Int)) : Prop := w.ownsRow B 89 2 v rs.length (rs.flatMap rcells)
def hasB (at_ : Int) (r : Int × Int) : Bool := decide (r.1 <= at_ /\ at_ - r.1 < r.2)
def firstI (p : Int × Int -> Bool) (rs : List (Int × Int)) : Int := match rs.findIdx? p with | some i => (i : Int) | none => -1
end Go.Proofs.YtphfnjcboellhaaGreatDoor.lay
