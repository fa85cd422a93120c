/- Layouts: regions in memory; the first of them in which a word lies. -/
import Derived.Test.YtkmalnojkjmjiaaObjA
import Derived.Test.YtkmalnojkjmjiaaMemo
import Derived.Deep.Cut
namespace Go.Proofs.Ytkmalnojkjmjiaa.lay
open Go Go.RowKit Go.Proofs.Ytkmalnojkjmjiaa.kit Go.Proofs.Ytkmalnojkjmjiaa.obj Go.Proofs.Ytkmalnojkjmjiaa.mem
set_option linter.unusedVariables false
set_option linter.unusedSimpArgs false
set_option maxRecDepth 20000

/-- a region: where it begins, how long it is -/
def rcells (r : Int × Int) : List Value := [.int .i64 r.1, .int .i64 r.2]
def i64B (x : Int) : Prop := -9223372036854775808 ≤ x ∧ x ≤ 9223372036854775807
/-- regions in memory -/
def ReadsR (w : World) (v : Value) (rs : List (Int × Int)) : Prop := Reads w 2 v rs.length (rs.flatMap rcells) ∧ ∀ r ∈ rs, i64B r.1 ∧ i64B r.2
theorem ReadsR.chg {w w' : World} {v : Value} {rs : List (Int × Int)} (h : ReadsR w v rs) (k : Chg [] w w') : ReadsR w' v rs := ⟨h.1.fresh k, h.2⟩
/-- does a word lie in a region -/
def hasB (at_ : Int) (r : Int × Int) : Bool := decide (r.1 ≤ at_ ∧ at_ - r.1 < r.2)
/-- the first for which something holds; -1: none -/
def firstI (p : Int × Int → Bool) (rs : List (Int × Int)) : Int := match rs.findIdx? p with | some i => (i : Int) | none => -1
theorem firstI_at {p : Int × Int → Bool} {rs : List (Int × Int)} {j : Nat} {r : Int × Int} (hr : rs[j]? = some r) (hp : p r = true) (hn : ∀ i, i < j → ∀ q, rs[i]? = some q → p q = false) : firstI p rs = (j : Int) := by
  unfold firstI
  have hj := (List.getElem?_eq_some_iff.1 hr)
  have : rs.findIdx? p = some j := by
    rw [List.findIdx?_eq_some_iff_getElem]
    refine ⟨hj.1, by rw [hj.2]; exact hp, fun i hi => ?_⟩
    have := hn i hi _ (List.getElem?_eq_getElem (by have := hj.1; omega))
    simp [this]
  rw [this]
theorem firstI_none {p : Int × Int → Bool} {rs : List (Int × Int)} (hn : ∀ (i : Nat) q, rs[i]? = some q → p q = false) : firstI p rs = -1 := by
  unfold firstI
  have : rs.findIdx? p = none := by
    rw [List.findIdx?_eq_none_iff]
    intro x hx
    obtain ⟨i, hi⟩ := List.getElem?_of_mem hx
    exact hn i x hi
  rw [this]
end Go.Proofs.Ytkmalnojkjmjiaa.lay
