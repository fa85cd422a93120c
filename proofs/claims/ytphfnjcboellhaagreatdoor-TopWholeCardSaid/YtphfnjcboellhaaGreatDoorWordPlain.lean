namespace Go.Proofs.YtphfnjcboellhaaGreatDoor.word
def clamp (n low high : Int) : Int := max low (min n high)
def inside (n : Int) : Int := max 0 (min n 1099511627776)
def ceil (a b : Int) : Int := if a < 1 \/ b < 1 then 0 else (a - 1) / b + 1
def mulT (a b : Int) : Int := min (inside a * inside b) 1099511627776
def gcdI (a b : Int) : Int := if a < 1 \/ b < 1 then 0 else (Int.gcd a b : Int)
def lcmI (a b : Int) : Int := if a < 1 \/ b < 1 then 0 else mulT (a / gcdI a b) b
def stepU (c n m : Int) : Int := if m = 0 then 0 else (c + n) % m
def gapU (f t m : Int) : Int := if m = 0 then 0 else (t % m + m - f % m) % m
theorem step_hi {c n m : Int} (hm : 0 < m) (h : m - c % m <= n % m) : n % m - (m - c % m) = stepU c n m := by
 have h1 := Int.emod_lt_of_pos c hm
 have h2 := Int.emod_lt_of_pos n hm
 have h3 := Int.emod_nonneg c (show m ≠ 0 by omega)
 unfold stepU
 rw [if_neg (by omega), Int.add_emod]
 generalize c % m = x at *
 generalize n % m = y at *
 have h5 := Int.emod_eq_of_lt (show 0 <= y - (m - x) by omega) (show y - (m - x) < m by omega)
 have h6 : (x + y - m) % m = (x + y) % m := Int.sub_emod_right (x + y) m
 rw [<- h6, show x + y - m = y - (m - x) by omega, h5]
theorem step_lo {c n m : Int} (hm : 0 < m) (h : n % m < m - c % m) : c % m + n % m = stepU c n m := by
 have h3 := Int.emod_nonneg c (show m ≠ 0 by omega)
 have h4 := Int.emod_nonneg n (show m ≠ 0 by omega)
 unfold stepU
 rw [if_neg (by omega), Int.add_emod]
 exact (Int.emod_eq_of_lt (by omega) (by omega)).symm
theorem gap_hi {f t m : Int} (hm : 0 < m) (h : t % m < f % m) : m - (f % m - t % m) = gapU f t m := by
 have h1 := Int.emod_lt_of_pos f hm
 have h3 := Int.emod_nonneg t (show m ≠ 0 by omega)
 unfold gapU
 rw [if_neg (by omega)]
 generalize t % m = x at *
 generalize f % m = y at *
 rw [Int.emod_eq_of_lt (by omega) (by omega)]
 omega
theorem gap_lo {f t m : Int} (hm : 0 < m) (h : f % m <= t % m) : t % m - f % m = gapU f t m := by
 have h1 := Int.emod_lt_of_pos t hm
 have h3 := Int.emod_nonneg f (show m ≠ 0 by omega)
 unfold gapU
 rw [if_neg (by omega)]
 have h6 : (t % m + m - f % m - m) % m = (t % m + m - f % m) % m := Int.sub_emod_right _ m
 generalize t % m = x at *
 generalize f % m = y at *
 rw [<- h6, show x + m - y - m = x - y by omega]
 exact (Int.emod_eq_of_lt (by omega) (by omega)).symm
end Go.Proofs.YtphfnjcboellhaaGreatDoor.word
