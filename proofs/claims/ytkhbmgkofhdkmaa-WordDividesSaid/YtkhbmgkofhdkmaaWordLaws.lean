/- Package word: gcd, lcm, and the chapter's examples, walked. -/
import Derived.Test.YtkhbmgkofhdkmaaWordWalks
namespace Go.Proofs.Ytkhbmgkofhdkmaa.word
open Go.RowKit
open Go
set_option linter.unusedVariables false

theorem quiet_grown (w : World) (n : Nat) : Grown w (w.drewN n) := by
  induction n with
  | zero => exact Grown.refl _
  | succ n ih => exact ih.drew

theorem rGcd_ind (k : Nat) : ∀ (a b : Int) (w : World), b ≤ k → 1 ≤ a → 1 ≤ b →
    Calls Try.prog 33 #[.int .i64 a, .int .i64 b] w fun e w' => e = .returned (.int .i64 (Int.gcd a b : Int)) ∧ w = w' := by
  induction k with
  | zero => intro a b w h1 h2 h3; omega
  | succ k ih =>
    intro a b w hk ha hb
    have hm1 : 0 ≤ a % b := Int.emod_nonneg a (by omega)
    have hm2 : a % b < b := Int.emod_lt_of_pos a (by omega)
    have IH := Lib.hid ih
    clear ih
    by_cases h : a % b = 0
    · have h' : (a % b == 0) = true := by simpa using h
      have HG : Hid (Int.gcd a b = b.natAbs) := Lib.hid (by rw [← gcd_step, h, Int.gcd_zero])
      clear h
      go_enter Try.func33, Try.ntmps33
      go_wp2_with fail
      go_ret
      exact ⟨ret_int (by rw [HG.out]; omega), rfl⟩
    · have h' : (a % b == 0) = false := by simpa using h
      have h1 : 1 ≤ a % b := by omega
      have HG : Hid (Int.gcd b (a % b) = Int.gcd a b) := Lib.hid (gcd_step a b)
      clear h
      go_enter Try.func33, Try.ntmps33
      go_wp2_with (go_at_call 33; refine (IH.out b (a % b) _ (by omega) (by omega) (by omega)).mono ?_; rintro e w' ⟨rfl, rfl⟩)
      go_ret
      exact ⟨ret_int (by rw [HG.out]), rfl⟩

theorem rGcd_any (a b : Int) (w : World) :
    Calls Try.prog 33 #[.int .i64 a, .int .i64 b] w fun e w' => e = .returned (.int .i64 (gcdI a b)) ∧ w = w' := by
  by_cases h1 : a < 1
  · go_enter Try.func33, Try.ntmps33
    go_wp2
    go_ret
    exact ⟨ret_int (by rw [gcdI_zero (.inl h1)]), rfl⟩
  · by_cases h2 : b < 1
    · go_enter Try.func33, Try.ntmps33
      go_wp2
      go_ret
      exact ⟨ret_int (by rw [gcdI_zero (.inr h2)]), rfl⟩
    · have h := rGcd_ind b.toNat a b w (by omega) (by omega) (by omega)
      rw [← gcdI_of (by omega) (by omega)] at h
      exact h

theorem Lcm_any (a b : Int) (w : World) (h64 : a ≤ 9223372036854775807) :
    Calls Try.prog 32 #[.int .i64 a, .int .i64 b] w fun e w' => e = .returned (.int .i64 (lcmI a b)) ∧ Quiet w w' := by
  by_cases h1 : a < 1 ∨ b < 1
  · have HZ := Lib.hid (gcdI_zero h1)
    have HL := Lib.hid (lcmI_zero h1)
    clear h1
    go_enter Try.func32, Try.ntmps32
    go_wp2_with (go_at_call 31; refine (Gcd_any _ _ _).mono ?_; rintro e w' ⟨rfl, n, rfl⟩; rw [HZ.out])
    go_ret
    exact ⟨ret_int (by rw [HL.out]), _, rfl⟩
  · have ha : 1 ≤ a := by omega
    have hb : 1 ≤ b := by omega
    have hp := gcdI_pos ha hb
    have hl := (gcdI_le ha hb).1
    have HL := Lib.hid (lcm_eq ha hb)
    have hd := div_pos ha hp (gcdI_left ha hb)
    have hd2 : a / gcdI a b ≤ a := Int.ediv_le_self _ (by omega)
    clear h1
    generalize hgg : gcdI a b = g at *
    have HG := Lib.hid hgg
    clear hgg
    have hg : (g == 0) = false := by simp; omega
    go_enter Try.func32, Try.ntmps32
    go_wp2_with (first | (go_at_call 31; refine (Gcd_any _ _ _).mono ?_; rintro e w' ⟨rfl, n, rfl⟩; rw [HG.out]) | (go_at_call 24; refine (Mul_any _ _ _).mono ?_; rintro e w' ⟨rfl, rfl⟩))
    go_ret
    exact ⟨ret_int (by rw [HL.out]), _, rfl⟩

theorem rLcm_any (a b : Int) (w : World) (h64 : a ≤ 9223372036854775807) :
    Calls Try.prog 34 #[.int .i64 a, .int .i64 b] w fun e w' => e = .returned (.int .i64 (lcmI a b)) ∧ w = w' := by
  by_cases h1 : a < 1
  · have HL := Lib.hid (lcmI_zero (a := a) (b := b) (.inl h1))
    go_enter Try.func34, Try.ntmps34
    go_wp2
    go_ret
    exact ⟨ret_int (by rw [HL.out]), rfl⟩
  · by_cases h2 : b < 1
    · have HL := Lib.hid (lcmI_zero (a := a) (b := b) (.inr h2))
      go_enter Try.func34, Try.ntmps34
      go_wp2
      go_ret
      exact ⟨ret_int (by rw [HL.out]), rfl⟩
    · have ha : 1 ≤ a := by omega
      have hb : 1 ≤ b := by omega
      have hp := gcdI_pos ha hb
      have hl := (gcdI_le ha hb).1
      have HL := Lib.hid (lcm_eq ha hb)
      have hd := div_pos ha hp (gcdI_left ha hb)
      have hd2 : a / gcdI a b ≤ a := Int.ediv_le_self _ (by omega)
      generalize hgg : gcdI a b = g at *
      have HG := Lib.hid hgg
      clear hgg
      go_enter Try.func34, Try.ntmps34
      go_wp2_with (first | (go_at_call 33; refine (rGcd_any _ _ _).mono ?_; rintro e w' ⟨rfl, rfl⟩; rw [HG.out]) | (go_at_call 25; refine (rMul_any _ _ _).mono ?_; rintro e w' ⟨rfl, rfl⟩))
      go_ret
      exact ⟨ret_int (by rw [HL.out]), rfl⟩

theorem awake_any (w : World) :
    Calls Try.prog 30 #[] w fun e w' => e = .returned (.bool true) ∧ Quiet w w' := by
  have e1 : Hid (lcmI 4 6 = 12) := Lib.hid (by decide)
  have e2 : Hid (inside (inside 2 + inside 3) = 5) := Lib.hid (by decide)
  have e3 : Hid (mulT 2 3 = 6) := Lib.hid (by decide)
  have e4 : Hid (ceil 7 3 = 3) := Lib.hid (by decide)
  have e5 : Hid (stepU 2 1 3 = 0) := Lib.hid (by decide)
  have e6 : Hid (gapU 2 1 4 = 3) := Lib.hid (by decide)
  go_enter Try.func30, Try.ntmps30
  go_wp2_with (first | (go_at_call 50; refine (Next_any _ _ _ (by omega) (by omega) (by omega)).mono ?_; rintro e w' ⟨rfl, n, rfl⟩; rw [e5.out]) | (go_at_call 51; refine (Gap_any _ _ _ _ (by omega) (by omega) (by omega) (by omega)).mono ?_; rintro e w' ⟨rfl, n, rfl⟩; rw [e6.out]) | (go_at_call 32; refine (Lcm_any _ _ _ (by omega)).mono ?_; rintro e w' ⟨rfl, n, rfl⟩; rw [e1.out]) | (go_at_call 22; refine (Add_any _ _ _).mono ?_; rintro e w' ⟨rfl, rfl⟩; rw [e2.out]) | (go_at_call 24; refine (Mul_any _ _ _).mono ?_; rintro e w' ⟨rfl, rfl⟩; rw [e3.out]) | (go_at_call 28; refine (Ceil_any _ _ _ (by omega)).mono ?_; rintro e w' ⟨rfl, rfl⟩; rw [e4.out]))
  go_ret
  exact ⟨rfl, _, rfl⟩
end Go.Proofs.Ytkhbmgkofhdkmaa.word
