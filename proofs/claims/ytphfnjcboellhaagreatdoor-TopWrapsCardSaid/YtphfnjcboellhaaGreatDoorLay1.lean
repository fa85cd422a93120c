/- Layouts: regions in memory; the first of them in which a word lies. -/
import Derived.Test.YtphfnjcboellhaaGreatDoorObjA
import Derived.Test.YtphfnjcboellhaaGreatDoorMemo
import Derived.Deep.Cut
namespace Go.Proofs.YtphfnjcboellhaaGreatDoor.lay
open Go Go.RowKit kit obj mem
set_option linter.unusedVariables false
set_option linter.unusedSimpArgs false
set_option maxRecDepth 20000

/-- a region: where it begins, how long it is -/
def rcells (r : Int × Int) : List Value := [.int .i64 r.1, .int .i64 r.2]
def i64B (x : Int) : Prop := -9223372036854775808 ≤ x ∧ x ≤ 9223372036854775807
/-- regions in memory -/
def ReadsR (w : World) (v : Value) (rs : List (Int × Int)) : Prop := Reads w 2 v rs.length (rs.flatMap rcells) ∧ ∀ r ∈ rs, i64B r.1 ∧ i64B r.2
def OwnR (w : World) (B : Nat) (v : Value) (rs : List (Int × Int)) : Prop := w.ownsRow B 89 2 v rs.length (rs.flatMap rcells)
theorem ReadsR.chg {w w' : World} {v : Value} {rs : List (Int × Int)} (h : ReadsR w v rs) (k : Chg [] w w') : ReadsR w' v rs := ⟨h.1.fresh k, h.2⟩
theorem OwnR.reads {w : World} {B : Nat} {v : Value} {rs : List (Int × Int)} (h : OwnR w B v rs) (hr : ∀ r ∈ rs, i64B r.1 ∧ i64B r.2) : ReadsR w v rs := ⟨Reads.of_own h (by decide), hr⟩
/-- does a word lie in a region -/
def hasB (at_ : Int) (r : Int × Int) : Bool := decide (r.1 ≤ at_ ∧ at_ - r.1 < r.2)
/-- the first for which something holds; -1: none -/
def firstI (p : Int × Int → Bool) (rs : List (Int × Int)) : Int := match rs.findIdx? p with | some i => (i : Int) | none => -1
end Go.Proofs.YtphfnjcboellhaaGreatDoor.lay
