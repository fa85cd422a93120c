/- Objects: words. -/
import Derived.Test.YtbbpnpokccfhjaaProg
import Derived.Test.YtbbpnpokccfhjaaPlan
import Derived.Test.YtbbpnpokccfhjaaOpen
namespace Go.Proofs.Ytbbpnpokccfhjaa.obj
open Go Go.RowKit Go.Proofs.Ytbbpnpokccfhjaa.kit
set_option linter.unusedVariables false
set_option maxRecDepth 20000

/-- an object's numbers are in their bounds -/
structure ObjW (k w s c st : Int) (il rl : Nat) : Prop where
  k64 : -9223372036854775808 ≤ k ∧ k ≤ 9223372036854775807
  w64 : -9223372036854775808 ≤ w ∧ w ≤ 9223372036854775807
  s64 : -9223372036854775808 ≤ s ∧ s ≤ 9223372036854775807
  c64 : -9223372036854775808 ≤ c ∧ c ≤ 9223372036854775807
  st32 : 0 ≤ st ∧ st ≤ 4294967295
  ilen : il ≤ 100
  rlen : rl ≤ 100

def rightB (k w s c st il rl : Int) : Bool := decide ((1 ≤ w ∧ w ≤ 8 ∧ 1 ≤ rl ∧ rl ≤ 4 ∧ (k = 6 ∨ il = w)) ∧
  ((k = 1 ∧ s = 0 ∧ c = 0 ∧ st = 0 ∧ rl = 1) ∨ (k = 2 ∧ s = 0 ∧ c = 0 ∧ st = 0) ∨ (k = 3 ∧ s = 0 ∧ 1 ≤ c ∧ c ≤ 16 ∧ st % 2 = 0) ∨
   (k = 4 ∧ 2 ≤ s ∧ s ≤ 16 ∧ 1 ≤ c ∧ c ≤ 16 ∧ st < s * 1048576) ∨ (k = 5 ∧ rl + 2 ≤ s ∧ s ≤ 16 ∧ 1 ≤ c ∧ c ≤ 16 ∧ st = 0) ∨
   (k = 6 ∧ 1 ≤ s ∧ s ≤ 16 ∧ c = 0 ∧ st < 2 * s ∧ rl = 1 ∧ il = 0)))

theorem rightB_out (k w s c st il rl : Int) (hk : k < 1 ∨ 6 < k) : rightB k w s c st il rl = false := by
  unfold rightB; rw [decide_eq_false_iff_not]; omega
/-- how many steps an operation of a right object has -/
def boundK (k w c rl op : Int) : Int :=
  if k = 1 then (if op = 2 then w + 4 else if op = 1 then w + 3 else 0)
  else if k = 2 then (if op = 2 then w + 2 * rl + 2 else if op = 1 then w + 4 else 0)
  else if k = 3 then (if op = 2 then w + 3 else if op = 1 then c * (w + 2) else 0)
  else if k = 4 then (if op = 2 then w + 2 else if op = 1 then c * (w + 2) else 0)
  else if k = 5 then (if op = 2 then w + rl + 2 else if op = 1 then 3 * c + w + 1 else 0)
  else (if op = 3 ∨ op = 4 then w + 3 else 0)
def boundI (k w s c st il rl op : Int) : Int := if rightB k w s c st il rl then boundK k w c rl op else 0
theorem rightB_bd {k w s c st il rl : Int} (h : rightB k w s c st il rl = true) : 1 ≤ w ∧ w ≤ 8 ∧ 1 ≤ rl ∧ rl ≤ 4 ∧ 0 ≤ c ∧ c ≤ 16 ∧ 0 ≤ s ∧ s ≤ 16 ∧ 1 ≤ k ∧ k ≤ 6 := by
  simp only [rightB, decide_eq_true_eq] at h
  omega
theorem mul_bd {c w : Int} (hc : 0 ≤ c ∧ c ≤ 16) (hw : 1 ≤ w ∧ w ≤ 8) : 0 ≤ c * (w + 2) ∧ c * (w + 2) ≤ 160 := by
  have h1 : c * (w + 2) ≤ 16 * (w + 2) := Int.mul_le_mul_of_nonneg_right hc.2 (by omega)
  have h2 : 0 ≤ c * (w + 2) := Int.mul_nonneg hc.1 (by omega)
  omega

end Go.Proofs.Ytbbpnpokccfhjaa.obj
