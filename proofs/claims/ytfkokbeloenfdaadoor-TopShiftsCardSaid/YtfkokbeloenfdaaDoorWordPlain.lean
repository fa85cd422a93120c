/- Plain facts on the numbers that package word reckons with (no program in sight). -/
namespace Go.Proofs.YtfkokbeloenfdaaDoor.word
set_option linter.unusedVariables false
set_option linter.unusedSimpArgs false

def clamp (n low high : Int) : Int := max low (min n high)
def inside (n : Int) : Int := max 0 (min n 1099511627776)
def ceil (a b : Int) : Int := if a < 1 ∨ b < 1 then 0 else (a - 1) / b + 1
def mulT (a b : Int) : Int := min (inside a * inside b) 1099511627776
def gcdI (a b : Int) : Int := if a < 1 ∨ b < 1 then 0 else (Int.gcd a b : Int)
def lcmI (a b : Int) : Int := if a < 1 ∨ b < 1 then 0 else mulT (a / gcdI a b) b

theorem inside_bd (n : Int) : 0 ≤ inside n ∧ inside n ≤ 1099511627776 := by unfold inside; omega

theorem mulT_big (x y : Int) (hx : 0 < x) (hy : 0 < y) (h : 1099511627776 / y < x) : min (x * y) 1099511627776 = 1099511627776 := by
  have : 1099511627776 < x * y := by
    rw [Int.ediv_lt_iff_lt_mul hy] at h; exact h
  omega
theorem mulT_small (x y : Int) (hx : 0 < x) (hy : 0 < y) (h : ¬ 1099511627776 / y < x) : x * y ≤ 1099511627776 := by
  have := Int.not_lt.1 h
  rw [Int.le_ediv_iff_mul_le hy] at this; exact this
theorem rmulT_big (x y : Int) (hx : 0 < x) (hy : 0 ≤ y) (h : 1099511627775 / x < y) : min (x * y) 1099511627776 = 1099511627776 := by
  rw [Int.ediv_lt_iff_lt_mul hx] at h
  rw [Int.mul_comm] at h
  omega
theorem rmulT_small (x y : Int) (hx : 0 < x) (h : ¬ 1099511627775 / x < y) : x * y ≤ 1099511627775 := by
  have := Int.not_lt.1 h
  rw [Int.le_ediv_iff_mul_le hx, Int.mul_comm] at this; exact this

theorem pred_ediv (a b : Int) (ha : 1 ≤ a) (hb : 1 ≤ b) : (a - 1) / b = if 0 < a % b then a / b else a / b - 1 := by
  have h1 := Int.mul_ediv_add_emod a b
  have h2 := Int.emod_nonneg a (show b ≠ 0 by omega)
  have h3 := Int.emod_lt_of_pos a (show 0 < b by omega)
  generalize hq : a / b = q at *
  generalize hr : a % b = r at *
  split
  · refine (Int.ediv_eq_iff_of_pos (by omega)).2 ⟨?_, ?_⟩
    · rw [Int.mul_comm]; omega
    · rw [Int.mul_comm q b]; omega
  · refine (Int.ediv_eq_iff_of_pos (by omega)).2 ⟨?_, ?_⟩
    · rw [Int.sub_mul, Int.mul_comm q b]; omega
    · rw [Int.sub_mul, Int.mul_comm q b]; omega
theorem ceil_pos (a b : Int) (ha : 1 ≤ a) (hb : 1 ≤ b) (h : 0 < a % b) : a / b + 1 = ceil a b := by
  unfold ceil; rw [if_neg (by omega), pred_ediv a b ha hb, if_pos h]
theorem ceil_zero (a b : Int) (ha : 1 ≤ a) (hb : 1 ≤ b) (h : ¬ 0 < a % b) : a / b = ceil a b := by
  unfold ceil; rw [if_neg (by omega), pred_ediv a b ha hb, if_neg h]; omega

theorem gcd_step (x y : Int) : Int.gcd y (x % y) = Int.gcd x y := by
  rw [Int.gcd_comm x y]
  have h : Int.gcd y (x % y + y * (x / y)) = Int.gcd y (x % y) := by simp
  rw [Int.emod_add_mul_ediv] at h
  exact h.symm
theorem gcd_pos (a b : Int) (ha : 1 ≤ a) : 1 ≤ (Int.gcd a b : Int) := by
  have := Int.gcd_pos_of_ne_zero_left b (show a ≠ 0 by omega); omega
theorem gcdI_of {a b : Int} (ha : 1 ≤ a) (hb : 1 ≤ b) : gcdI a b = Int.gcd a b := by unfold gcdI; rw [if_neg (by omega)]
theorem gcdI_pos {a b : Int} (ha : 1 ≤ a) (hb : 1 ≤ b) : 1 ≤ gcdI a b := by rw [gcdI_of ha hb]; exact gcd_pos a b ha
theorem gcdI_left {a b : Int} (ha : 1 ≤ a) (hb : 1 ≤ b) : gcdI a b ∣ a := by rw [gcdI_of ha hb]; exact Int.gcd_dvd_left ..
theorem gcdI_right {a b : Int} (ha : 1 ≤ a) (hb : 1 ≤ b) : gcdI a b ∣ b := by rw [gcdI_of ha hb]; exact Int.gcd_dvd_right ..
theorem gcdI_le {a b : Int} (ha : 1 ≤ a) (hb : 1 ≤ b) : gcdI a b ≤ a ∧ gcdI a b ≤ b :=
  ⟨Int.le_of_dvd (by omega) (gcdI_left ha hb), Int.le_of_dvd (by omega) (gcdI_right ha hb)⟩
theorem gcdI_zero {a b : Int} (h : a < 1 ∨ b < 1) : gcdI a b = 0 := by unfold gcdI; rw [if_pos h]
theorem lcmI_zero {a b : Int} (h : a < 1 ∨ b < 1) : lcmI a b = 0 := by unfold lcmI; rw [if_pos h]
theorem div_pos {a g : Int} (ha : 1 ≤ a) (hg : 1 ≤ g) (h : g ∣ a) : 1 ≤ a / g := by
  obtain ⟨c, rfl⟩ := h
  rw [Int.mul_ediv_cancel_left _ (by omega)]
  have : 0 < c := by
    refine Int.not_le.1 fun hc => ?_
    have := Int.mul_nonpos_of_nonneg_of_nonpos (show 0 ≤ g by omega) hc
    omega
  omega
theorem gcd_one {a b : Int} (ha : 1 ≤ a) (hb : 1 ≤ b) : gcdI (a / gcdI a b) (b / gcdI a b) = 1 := by
  have hp := gcdI_pos ha hb
  have h1 := div_pos ha hp (gcdI_left ha hb)
  have h2 := div_pos hb hp (gcdI_right ha hb)
  rw [gcdI_of h1 h2, gcdI_of ha hb]
  rw [gcdI_of ha hb] at hp
  rw [Int.gcd_ediv (Int.gcd_dvd_left ..) (Int.gcd_dvd_right ..)]
  simp only [Int.natAbs_natCast]
  rw [Nat.div_self (by omega)]; rfl
theorem dvd_mod {a g : Int} (h : g ∣ a) : a % g = 0 := Int.emod_eq_zero_of_dvd h

theorem lcm_eq {a b : Int} (ha : 1 ≤ a) (hb : 1 ≤ b) : lcmI a b = mulT (a / gcdI a b) b := by unfold lcmI; rw [if_neg (by omega)]
theorem lcm_dvd {a b : Int} (ha : 1 ≤ a) (hb : 1 ≤ b) (h : lcmI a b ≠ 1099511627776) : a ∣ lcmI a b ∧ b ∣ lcmI a b := by
  rw [lcm_eq ha hb] at *
  have hp := gcdI_pos ha hb
  have h1 := div_pos ha hp (gcdI_left ha hb)
  unfold mulT at *
  have hx := inside_bd (a / gcdI a b)
  have hy := inside_bd b
  have ex : inside (a / gcdI a b) = a / gcdI a b := by
    refine Classical.byContradiction fun hn => h ?_
    have : inside (a / gcdI a b) = 1099511627776 := by unfold inside at *; omega
    rw [this]
    have h4 : 1 ≤ inside b := by unfold inside; omega
    have : 1099511627776 * 1 ≤ 1099511627776 * inside b := Int.mul_le_mul_of_nonneg_left h4 (by omega)
    omega
  have ey : inside b = b := by
    refine Classical.byContradiction fun hn => h ?_
    have : inside b = 1099511627776 := by unfold inside at *; omega
    rw [this, ex]
    have : 1 * 1099511627776 ≤ a / gcdI a b * 1099511627776 := Int.mul_le_mul_of_nonneg_right h1 (by omega)
    omega
  rw [ex, ey] at h ⊢
  have e : min (a / gcdI a b * b) 1099511627776 = a / gcdI a b * b := by omega
  rw [e]
  refine ⟨?_, Int.dvd_mul_left ..⟩
  obtain ⟨c, hc⟩ := gcdI_right ha hb
  refine ⟨c, ?_⟩
  have hd := Int.ediv_mul_cancel (gcdI_left ha hb)
  generalize hg : gcdI a b = g at *
  calc a / g * b = a / g * (g * c) := by rw [← hc]
    _ = (a / g * g) * c := by rw [Int.mul_assoc]
    _ = a * c := by rw [hd]

/-- WordLeast's plain law. -/
theorem least {x y : Int} (hx : 1 ≤ x) (hy : 1 ≤ y) : 1 ≤ ceil x y ∧ ceil x y ≤ x ∧ (ceil x y - 1) * y < x ∧ x - (ceil x y - 1) * y ≤ y ∧ 0 ≤ (ceil x y - 1) * y := by
  unfold ceil
  rw [if_neg (by omega)]
  have h1 := Int.mul_ediv_add_emod (x - 1) y
  have h2 := Int.emod_nonneg (x - 1) (show y ≠ 0 by omega)
  have h3 := Int.emod_lt_of_pos (x - 1) (show 0 < y by omega)
  have h4 : 0 ≤ (x - 1) / y := Int.ediv_nonneg (by omega) (by omega)
  have h5 : (x - 1) / y ≤ x - 1 := Int.ediv_le_self _ (by omega)
  generalize (x - 1) / y = q at *
  generalize (x - 1) % y = r at *
  rw [show q + 1 - 1 = q by omega, Int.mul_comm q y]
  have h6 : 0 ≤ y * q := Int.mul_nonneg (by omega) h4
  exact ⟨by omega, by omega, by omega, by omega, h6⟩

/-- A counter n further on; how far it is from one counter to another (numbers not below 0). -/
def stepU (c n m : Int) : Int := if m = 0 then 0 else (c + n) % m
def gapU (f t m : Int) : Int := if m = 0 then 0 else (t % m + m - f % m) % m
theorem step_hi {c n m : Int} (hm : 0 < m) (h : m - c % m ≤ n % m) : n % m - (m - c % m) = stepU c n m := by
  have h1 := Int.emod_lt_of_pos c hm
  have h2 := Int.emod_lt_of_pos n hm
  have h3 := Int.emod_nonneg c (show m ≠ 0 by omega)
  unfold stepU
  rw [if_neg (by omega), Int.add_emod]
  generalize c % m = x at *
  generalize n % m = y at *
  have h5 := Int.emod_eq_of_lt (show 0 ≤ y - (m - x) by omega) (show y - (m - x) < m by omega)
  have h6 : (x + y - m) % m = (x + y) % m := Int.sub_emod_right (x + y) m
  rw [← h6, show x + y - m = y - (m - x) by omega, h5]
theorem step_lo {c n m : Int} (hm : 0 < m) (h : n % m < m - c % m) : c % m + n % m = stepU c n m := by
  have h3 := Int.emod_nonneg c (show m ≠ 0 by omega)
  have h4 := Int.emod_nonneg n (show m ≠ 0 by omega)
  unfold stepU
  rw [if_neg (by omega), Int.add_emod]
  exact (Int.emod_eq_of_lt (by omega) (by omega)).symm
theorem gap_hi {f t m : Int} (hm : 0 < m) (h : t % m < f % m) : m - (f % m - t % m) = gapU f t m := by
  have h1 := Int.emod_lt_of_pos f hm
  have h3 := Int.emod_nonneg t (show m ≠ 0 by omega)
  unfold gapU
  rw [if_neg (by omega)]
  generalize t % m = x at *
  generalize f % m = y at *
  rw [Int.emod_eq_of_lt (by omega) (by omega)]
  omega
theorem gap_lo {f t m : Int} (hm : 0 < m) (h : f % m ≤ t % m) : t % m - f % m = gapU f t m := by
  have h1 := Int.emod_lt_of_pos t hm
  have h3 := Int.emod_nonneg f (show m ≠ 0 by omega)
  unfold gapU
  rw [if_neg (by omega)]
  have h6 : (t % m + m - f % m - m) % m = (t % m + m - f % m) % m := Int.sub_emod_right _ m
  generalize t % m = x at *
  generalize f % m = y at *
  rw [← h6, show x + m - y - m = x - y by omega]
  exact (Int.emod_eq_of_lt (by omega) (by omega)).symm
theorem stepU_bd {c n m : Int} (hm : 0 ≤ m) : 0 ≤ stepU c n m ∧ stepU c n m ≤ m := by
  unfold stepU
  split
  · omega
  · have h1 := Int.emod_lt_of_pos (c + n) (show 0 < m by omega)
    have h3 := Int.emod_nonneg (c + n) (show m ≠ 0 by omega)
    omega
theorem gapU_bd {c n m : Int} (hm : 0 ≤ m) : 0 ≤ gapU c n m ∧ gapU c n m ≤ m := by
  unfold gapU
  split
  · omega
  · have h1 := Int.emod_lt_of_pos (n % m + m - c % m) (show 0 < m by omega)
    have h3 := Int.emod_nonneg (n % m + m - c % m) (show m ≠ 0 by omega)
    omega
end Go.Proofs.YtfkokbeloenfdaaDoor.word
