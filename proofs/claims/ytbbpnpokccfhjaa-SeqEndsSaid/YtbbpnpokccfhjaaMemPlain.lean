/- Package mem: plain words (no program in sight). -/
namespace Go.Proofs.Ytbbpnpokccfhjaa.mem
set_option linter.unusedVariables false

/-- does a region lie within so many words -/
def insB (size at_ len : Int) : Bool := decide (0 ≤ at_ ∧ 0 ≤ len ∧ at_ ≤ size ∧ len ≤ size - at_)
theorem insB_true {size at_ len : Int} (h : 0 ≤ at_ ∧ 0 ≤ len ∧ at_ ≤ size ∧ len ≤ size - at_) : insB size at_ len = true := decide_eq_true h
theorem insB_false {size at_ len : Int} (h : ¬ (0 ≤ at_ ∧ 0 ≤ len ∧ at_ ≤ size ∧ len ≤ size - at_)) : insB size at_ len = false := decide_eq_false h
def regB (at_ len : Int) : Bool := decide (0 ≤ at_ ∧ 0 ≤ len)
theorem regB_true {at_ len : Int} (h1 : 0 ≤ at_) (h2 : 0 ≤ len) : regB at_ len = true := decide_eq_true ⟨h1, h2⟩
theorem regB_false {at_ len : Int} (h : ¬ (0 ≤ at_ ∧ 0 ≤ len)) : regB at_ len = false := decide_eq_false h
end Go.Proofs.Ytbbpnpokccfhjaa.mem
