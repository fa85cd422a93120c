/- Plain facts on the numbers that package word reckons with (no program in sight). -/
namespace Go.Proofs.YtkedegbpkkgeaaaGreat.word
set_option linter.unusedVariables false
set_option linter.unusedSimpArgs false

def clamp (n low high : Int) : Int := max low (min n high)
def inside (n : Int) : Int := max 0 (min n 1099511627776)
def ceil (a b : Int) : Int := if a < 1 ∨ b < 1 then 0 else (a - 1) / b + 1
def mulT (a b : Int) : Int := min (inside a * inside b) 1099511627776
def gcdI (a b : Int) : Int := if a < 1 ∨ b < 1 then 0 else (Int.gcd a b : Int)
def lcmI (a b : Int) : Int := if a < 1 ∨ b < 1 then 0 else mulT (a / gcdI a b) b

theorem inside_bd (n : Int) : 0 ≤ inside n ∧ inside n ≤ 1099511627776 := by unfold inside; omega

theorem mulT_big (x y : Int) (hx : 0 < x) (hy : 0 < y) (h : 1099511627776 / y < x) : min (x * y) 1099511627776 = 1099511627776 := by
  have : 1099511627776 < x * y := by
    rw [Int.ediv_lt_iff_lt_mul hy] at h; exact h
  omega
theorem mulT_small (x y : Int) (hx : 0 < x) (hy : 0 < y) (h : ¬ 1099511627776 / y < x) : x * y ≤ 1099511627776 := by
  have := Int.not_lt.1 h
  rw [Int.le_ediv_iff_mul_le hy] at this; exact this
/-- WordLeast's plain law. -/
theorem least {x y : Int} (hx : 1 ≤ x) (hy : 1 ≤ y) : 1 ≤ ceil x y ∧ ceil x y ≤ x ∧ (ceil x y - 1) * y < x ∧ x - (ceil x y - 1) * y ≤ y ∧ 0 ≤ (ceil x y - 1) * y := by
  unfold ceil
  rw [if_neg (by omega)]
  have h1 := Int.mul_ediv_add_emod (x - 1) y
  have h2 := Int.emod_nonneg (x - 1) (show y ≠ 0 by omega)
  have h3 := Int.emod_lt_of_pos (x - 1) (show 0 < y by omega)
  have h4 : 0 ≤ (x - 1) / y := Int.ediv_nonneg (by omega) (by omega)
  have h5 : (x - 1) / y ≤ x - 1 := Int.ediv_le_self _ (by omega)
  generalize (x - 1) / y = q at *
  generalize (x - 1) % y = r at *
  rw [show q + 1 - 1 = q by omega, Int.mul_comm q y]
  have h6 : 0 ≤ y * q := Int.mul_nonneg (by omega) h4
  exact ⟨by omega, by omega, by omega, by omega, h6⟩

/-- A counter n further on; how far it is from one counter to another (numbers not below 0). -/
def stepU (c n m : Int) : Int := if m = 0 then 0 else (c + n) % m
def gapU (f t m : Int) : Int := if m = 0 then 0 else (t % m + m - f % m) % m
end Go.Proofs.YtkedegbpkkgeaaaGreat.word
