/- The functions of package word and of its reference, each walked once. -/
import Derived.Test.YtkhbmgkofhdkmaaProg
import Derived.Test.YtkhbmgkofhdkmaaWordPlain
import Derived.WalkKit
import Derived.Deep.QuietTactic
import Derived.BigQuiet
import Derived.Lib.Hide
namespace Go.Proofs.Ytkhbmgkofhdkmaa.word
open Go.RowKit
open Go
set_option linter.unusedVariables false

theorem ret_int {k : IntKind} {a b : Int} (h : a = b) : Ending.returned (.int k a) = .returned (.int k b) := by rw [h]
theorem inside_clamp (n : Int) : clamp n 0 1099511627776 = inside n := rfl

theorem Clamp_any (n low high : Int) (w : World) :
    Calls Try.prog 26 #[.int .i64 n, .int .i64 low, .int .i64 high] w fun e w' => e = .returned (.int .i64 (clamp n low high)) ∧ w = w' := by
  go_enter Try.func26, Try.ntmps26
  go_wp2
  all_goals go_ret
  all_goals exact ⟨ret_int (by unfold clamp; omega), rfl⟩

theorem rClamp_any (n low high : Int) (w : World) :
    Calls Try.prog 27 #[.int .i64 n, .int .i64 low, .int .i64 high] w fun e w' => e = .returned (.int .i64 (clamp n low high)) ∧ w = w' := by
  by_cases h1 : high < low
  · go_enter Try.func27, Try.ntmps27
    go_wp2
    go_ret
    exact ⟨ret_int (by unfold clamp; omega), rfl⟩
  · by_cases h2 : n < low
    · go_enter Try.func27, Try.ntmps27
      go_wp2
      go_ret
      exact ⟨ret_int (by unfold clamp; omega), rfl⟩
    · go_enter Try.func27, Try.ntmps27
      go_wp2
      all_goals go_ret
      all_goals exact ⟨ret_int (by unfold clamp; omega), rfl⟩

theorem rInside_any (n : Int) (w : World) :
    Calls Try.prog 27 #[.int .i64 n, .int .i64 0, .int .i64 1099511627776] w fun e w' => e = .returned (.int .i64 (inside n)) ∧ w = w' := rClamp_any n _ _ w

theorem inside_any (n : Int) (w : World) :
    Calls Try.prog 49 #[.int .i64 n] w fun e w' => e = .returned (.int .i64 (inside n)) ∧ w = w' := by
  go_enter Try.func49, Try.ntmps49
  go_wp2_with (go_at_call 26; refine (Clamp_any _ _ _ _).mono ?_; rintro e w' ⟨rfl, rfl⟩)
  go_ret
  exact ⟨ret_int rfl, rfl⟩

theorem Add_any (a b : Int) (w : World) :
    Calls Try.prog 22 #[.int .i64 a, .int .i64 b] w fun e w' => e = .returned (.int .i64 (inside (inside a + inside b))) ∧ w = w' := by
  have ha := inside_bd a
  have hb := inside_bd b
  go_enter Try.func22, Try.ntmps22
  go_wp2_with (go_at_call 49; refine (inside_any _ _).mono ?_; rintro e w' ⟨rfl, rfl⟩)
  go_ret
  exact ⟨rfl, rfl⟩

theorem rAdd_any (a b : Int) (w : World) :
    Calls Try.prog 23 #[.int .i64 a, .int .i64 b] w fun e w' => e = .returned (.int .i64 (inside (inside a + inside b))) ∧ w = w' := by
  have ha := inside_bd a
  have hb := inside_bd b
  go_enter Try.func23, Try.ntmps23
  go_wp2_with (go_at_call 27; refine (rInside_any _ _).mono ?_; rintro e w' ⟨rfl, rfl⟩)
  go_ret
  exact ⟨rfl, rfl⟩

theorem Mul_any (a b : Int) (w : World) :
    Calls Try.prog 24 #[.int .i64 a, .int .i64 b] w fun e w' => e = .returned (.int .i64 (mulT a b)) ∧ w = w' := by
  have ha := inside_bd a
  have hb := inside_bd b
  generalize hx : inside a = x at *
  generalize hy : inside b = y at *
  have hm : mulT a b = min (x * y) 1099511627776 := by unfold mulT; rw [hx, hy]
  have HM := Lib.hid hm
  have HX := Lib.hid hx
  have HY := Lib.hid hy
  clear hm hx hy
  by_cases h1 : x = 0
  · subst h1
    go_enter Try.func24, Try.ntmps24
    go_wp2_with (go_at_call 49; refine (inside_any _ _).mono ?_; rintro e w' ⟨rfl, rfl⟩; first | rw [HX.out] | rw [HY.out])
    go_ret
    exact ⟨ret_int (by rw [HM.out]; omega), rfl⟩
  · by_cases h2 : y = 0
    · subst h2
      have h1' : (x == 0) = false := by simpa using h1
      go_enter Try.func24, Try.ntmps24
      go_wp2_with (go_at_call 49; refine (inside_any _ _).mono ?_; rintro e w' ⟨rfl, rfl⟩; first | rw [HX.out] | rw [HY.out])
      go_ret
      exact ⟨ret_int (by rw [HM.out]; omega), rfl⟩
    · have hx0 : 0 < x := by omega
      have hy0 : 0 < y := by omega
      have h1' : (x == 0) = false := by simpa using h1
      have h2' : (y == 0) = false := by simpa using h2
      clear h1 h2
      by_cases h3 : 1099511627776 / y < x
      · have HB := Lib.hid (mulT_big x y hx0 hy0 h3)
        go_enter Try.func24, Try.ntmps24
        go_wp2_with (go_at_call 49; refine (inside_any _ _).mono ?_; rintro e w' ⟨rfl, rfl⟩; first | rw [HX.out] | rw [HY.out])
        go_ret
        exact ⟨ret_int (by rw [HM.out, HB.out]), rfl⟩
      · have hs := mulT_small x y hx0 hy0 h3
        have hp : 0 ≤ x * y := Int.mul_nonneg (by omega) (by omega)
        go_enter Try.func24, Try.ntmps24
        go_wp2_with (go_at_call 49; refine (inside_any _ _).mono ?_; rintro e w' ⟨rfl, rfl⟩; first | rw [HX.out] | rw [HY.out])
        go_ret
        exact ⟨ret_int (by rw [HM.out]; omega), rfl⟩

theorem rMul_any (a b : Int) (w : World) :
    Calls Try.prog 25 #[.int .i64 a, .int .i64 b] w fun e w' => e = .returned (.int .i64 (mulT a b)) ∧ w = w' := by
  have ha := inside_bd a
  have hb := inside_bd b
  generalize hx : inside a = x at *
  generalize hy : inside b = y at *
  have hm : mulT a b = min (x * y) 1099511627776 := by unfold mulT; rw [hx, hy]
  have HM := Lib.hid hm
  have HX := Lib.hid hx
  have HY := Lib.hid hy
  clear hm hx hy
  by_cases h1 : x = 0
  · subst h1
    go_enter Try.func25, Try.ntmps25
    go_wp2_with (go_at_call 27; refine (rInside_any _ _).mono ?_; rintro e w' ⟨rfl, rfl⟩; first | rw [HX.out] | rw [HY.out])
    go_ret
    exact ⟨ret_int (by rw [HM.out]; omega), rfl⟩
  · have hx0 : 0 < x := by omega
    by_cases h3 : 1099511627775 / x < y
    · have HB := Lib.hid (rmulT_big x y hx0 (by omega) h3)
      go_enter Try.func25, Try.ntmps25
      go_wp2_with (go_at_call 27; refine (rInside_any _ _).mono ?_; rintro e w' ⟨rfl, rfl⟩; first | rw [HX.out] | rw [HY.out])
      go_ret
      exact ⟨ret_int (by rw [HM.out, HB.out]), rfl⟩
    · have hs := rmulT_small x y hx0 h3
      have hp : 0 ≤ x * y := Int.mul_nonneg (by omega) (by omega)
      go_enter Try.func25, Try.ntmps25
      go_wp2_with (go_at_call 27; refine (rInside_any _ _).mono ?_; rintro e w' ⟨rfl, rfl⟩; first | rw [HX.out] | rw [HY.out])
      go_ret
      exact ⟨ret_int (by rw [HM.out]; omega), rfl⟩

theorem Ceil_any (a b : Int) (w : World) (h64 : a ≤ 9223372036854775807) :
    Calls Try.prog 28 #[.int .i64 a, .int .i64 b] w fun e w' => e = .returned (.int .i64 (ceil a b)) ∧ w = w' := by
  by_cases h1 : a < 1
  · go_enter Try.func28, Try.ntmps28
    go_wp2
    go_ret
    exact ⟨ret_int (by unfold ceil; rw [if_pos (by omega)]), rfl⟩
  · by_cases h2 : b < 1
    · go_enter Try.func28, Try.ntmps28
      go_wp2
      go_ret
      exact ⟨ret_int (by unfold ceil; rw [if_pos (by omega)]), rfl⟩
    · have ha : 1 ≤ a := by omega
      have hb : 1 ≤ b := by omega
      have hl := (least ha hb).2.1
      have hl' := (least ha hb).1
      unfold ceil at hl hl'
      rw [if_neg (by omega)] at hl hl'
      go_enter Try.func28, Try.ntmps28
      go_wp2
      go_ret
      exact ⟨ret_int (by unfold ceil; rw [if_neg (by omega)]), rfl⟩

theorem rCeil_any (a b : Int) (w : World) (h64 : a ≤ 9223372036854775807) :
    Calls Try.prog 29 #[.int .i64 a, .int .i64 b] w fun e w' => e = .returned (.int .i64 (ceil a b)) ∧ w = w' := by
  by_cases h1 : a < 1
  · go_enter Try.func29, Try.ntmps29
    go_wp2
    go_ret
    exact ⟨ret_int (by unfold ceil; rw [if_pos (by omega)]), rfl⟩
  · by_cases h2 : b < 1
    · go_enter Try.func29, Try.ntmps29
      go_wp2
      go_ret
      exact ⟨ret_int (by unfold ceil; rw [if_pos (by omega)]), rfl⟩
    · have ha : 1 ≤ a := by omega
      have hb : 1 ≤ b := by omega
      have hl := (least ha hb).2.1
      have hn : 0 ≤ a % b := Int.emod_nonneg a (by omega)
      have hq : 0 ≤ a / b := Int.ediv_nonneg (by omega) (by omega)
      by_cases h3 : 0 < a % b
      · have HC := Lib.hid (ceil_pos a b ha hb h3)
        rw [← HC.out] at hl
        go_enter Try.func29, Try.ntmps29
        go_wp2
        go_ret
        exact ⟨ret_int HC.out, rfl⟩
      · have HC := Lib.hid (ceil_zero a b ha hb h3)
        go_enter Try.func29, Try.ntmps29
        go_wp2
        go_ret
        exact ⟨ret_int HC.out, rfl⟩

/-- 'w'' is 'w', but for draws. -/
def Quiet (w w' : World) : Prop := ∃ n, w' = w.drewN n
theorem Quiet.refl (w : World) : Quiet w w := ⟨0, rfl⟩
theorem Quiet.drewN {w v : World} (h : Quiet w v) (n : Nat) : Quiet w (v.drewN n) := by
  obtain ⟨m, rfl⟩ := h; exact ⟨m + n, by rw [World.drewN_drewN]⟩

/-- A quiet callee inside a region that draws its order. -/
theorem quiet_at {P : Program} {f : FuncId} {args : Array Value} {w W : World} {v : Value} (h : Calls P f args W fun e w' => e = .returned v ∧ Quiet W w') (hW : Quiet w W) :
    Calls P f args W fun e w'' => e = .returned v ∧ ∃ m, w'' = w.drewN m :=
  h.mono fun _ _ ⟨he, m, hm⟩ => ⟨he, by obtain ⟨n, rfl⟩ := hW; exact ⟨n + m, by rw [hm, World.drewN_drewN]⟩⟩

theorem quiet_add {P : Program} {f : FuncId} {args : Array Value} {w : World} {a n : Nat} {v : Value}
    (h : Calls P f args (w.drewN (a + n)) fun e w' => e = .returned v ∧ Quiet (w.drewN (a + n)) w') :
    Calls P f args (w.drewN (a + n)) fun e w'' => e = .returned v ∧ ∃ m, w'' = w.drewN (a + m) :=
  h.mono fun _ _ ⟨he, m, hm⟩ => ⟨he, n + m, by rw [hm, World.drewN_drewN, Nat.add_assoc]⟩

theorem Gcd_any (a b : Int) (w : World) :
    Calls Try.prog 31 #[.int .i64 a, .int .i64 b] w fun e w' => e = .returned (.int .i64 (gcdI a b)) ∧ Quiet w w' := by
  by_cases h1 : a < 1
  · go_enter Try.func31, Try.ntmps31
    go_wp2
    go_ret
    exact ⟨ret_int (by rw [gcdI_zero (.inl h1)]), Quiet.refl _⟩
  · by_cases h2 : b < 1
    · go_enter Try.func31, Try.ntmps31
      go_wp2
      go_ret
      exact ⟨ret_int (by rw [gcdI_zero (.inr h2)]), Quiet.refl _⟩
    · have HG := Lib.hid (gcdI_of (a := a) (b := b) (by omega) (by omega))
      go_enter Try.func31, Try.ntmps31
      go_wp2
      go_loopw [0, 1] (fun x y wr => ∃ p q : Int, 1 ≤ p ∧ 0 ≤ q ∧ x = .int .i64 p ∧ y = .int .i64 q ∧ Hid (Int.gcd p q = Int.gcd a b) ∧ Quiet w wr) (fun _ y _ => (intOf y).toNat)
      case atStart => exact ⟨a, b, by omega, by omega, rfl, rfl, Lib.hid rfl, Quiet.refl _⟩
      case round =>
        obtain ⟨p, q, hp, hq, rfl, rfl, HE, hw⟩ := hrel
        by_cases h3 : 0 < q
        · have hm1 : 0 ≤ p % q := Int.emod_nonneg p (by omega)
          have hm2 : p % q < q := Int.emod_lt_of_pos p h3
          go_wp2
          go_quiet (fail)
          go_wp2
          go_roundw
          case rel => exact ⟨q, p % q, by omega, by omega, rfl, rfl, Lib.hid (by rw [gcd_step]; exact HE.out), hw.drewN _⟩
          case measure => simp [intOf]; omega
        · go_wp2
          go_ret
          exact ⟨ret_int (by rw [HG.out, ← HE.out, show q = 0 by omega, Int.gcd_zero]; omega), hw⟩

theorem Step_any (c n m : Int) (w : World) (hc : 0 ≤ c) (hn : 0 ≤ n) (hm : 0 ≤ m) (hm' : m ≤ 4294967295) :
    Calls Try.prog 56 #[.int .u32 c, .int .u32 n, .int .u32 m] w fun e w' => e = .returned (.int .u32 (stepU c n m)) ∧ Quiet w w' := by
  by_cases h0 : m = 0
  · have HS : Hid (stepU c n m = 0) := Lib.hid (by unfold stepU; rw [if_pos h0])
    have h0' : (m == 0) = true := by simpa using h0
    clear h0
    go_enter Try.func56, Try.ntmps56
    go_wp2
    go_ret
    exact ⟨ret_int HS.out.symm, Quiet.refl _⟩
  · have h0' : (m == 0) = false := by simpa using h0
    have hp : 0 < m := by omega
    have h1 := Int.emod_lt_of_pos c hp
    have h2 := Int.emod_lt_of_pos n hp
    have h3 := Int.emod_nonneg c h0
    have h4 := Int.emod_nonneg n h0
    clear h0
    by_cases h : m - c % m ≤ n % m
    · have HS := Lib.hid (step_hi hp h)
      go_enter Try.func56, Try.ntmps56
      go_wp2
      go_quiet (fail)
      go_wp2
      go_ret
      exact ⟨ret_int HS.out, _, rfl⟩
    · have h' : n % m < m - c % m := by omega
      have HS := Lib.hid (step_lo hp h')
      go_enter Try.func56, Try.ntmps56
      go_wp2
      go_quiet (fail)
      go_wp2
      go_ret
      exact ⟨ret_int HS.out, _, rfl⟩

theorem Gap_any (c n m : Int) (w : World) (hc : 0 ≤ c) (hn : 0 ≤ n) (hm : 0 ≤ m) (hm' : m ≤ 4294967295) :
    Calls Try.prog 51 #[.int .u32 c, .int .u32 n, .int .u32 m] w fun e w' => e = .returned (.int .u32 (gapU c n m)) ∧ Quiet w w' := by
  by_cases h0 : m = 0
  · have HS : Hid (gapU c n m = 0) := Lib.hid (by unfold gapU; rw [if_pos h0])
    have h0' : (m == 0) = true := by simpa using h0
    clear h0
    go_enter Try.func51, Try.ntmps51
    go_wp2
    go_ret
    exact ⟨ret_int HS.out.symm, Quiet.refl _⟩
  · have h0' : (m == 0) = false := by simpa using h0
    have hp : 0 < m := by omega
    have h1 := Int.emod_lt_of_pos c hp
    have h2 := Int.emod_lt_of_pos n hp
    have h3 := Int.emod_nonneg c h0
    have h4 := Int.emod_nonneg n h0
    clear h0
    by_cases h : n % m < c % m
    · have HS := Lib.hid (gap_hi hp h)
      go_enter Try.func51, Try.ntmps51
      go_wp2
      go_quiet (fail)
      go_wp2
      go_ret
      exact ⟨ret_int HS.out, _, rfl⟩
    · have h' : c % m ≤ n % m := by omega
      have HS := Lib.hid (gap_lo hp h')
      go_enter Try.func51, Try.ntmps51
      go_wp2
      go_quiet (fail)
      go_wp2
      go_ret
      exact ⟨ret_int HS.out, _, rfl⟩

theorem Next_any (c m : Int) (w : World) (hc : 0 ≤ c) (hm : 0 ≤ m) (hm' : m ≤ 4294967295) :
    Calls Try.prog 50 #[.int .u32 c, .int .u32 m] w fun e w' => e = .returned (.int .u32 (stepU c 1 m)) ∧ Quiet w w' := by
  go_enter Try.func50, Try.ntmps50
  go_wp2_with (go_at_call 56; refine (Step_any _ _ _ _ hc (by omega) hm hm').mono ?_; rintro e w' ⟨rfl, n, rfl⟩)
  go_ret
  exact ⟨rfl, _, rfl⟩
end Go.Proofs.Ytkhbmgkofhdkmaa.word
