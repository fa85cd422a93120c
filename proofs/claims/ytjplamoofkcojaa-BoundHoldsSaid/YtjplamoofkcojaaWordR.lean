/- The reference's counters: a step, a gap. -/
import Derived.Test.YtjplamoofkcojaaWordWalks
namespace Go.Proofs.Ytjplamoofkcojaa.word
open Go Go.RowKit
set_option linter.unusedVariables false
set_option linter.unusedSimpArgs false
set_option maxRecDepth 20000

theorem rStep_any (c n m : Int) (w : World) (hc : 0 ≤ c ∧ c ≤ 4294967295) (hn : 0 ≤ n ∧ n ≤ 4294967295) (hm : 0 ≤ m ∧ m ≤ 4294967295) :
    Calls Try.prog 95 #[.int .u32 c, .int .u32 n, .int .u32 m] w fun e w' => e = .returned (.int .u32 (stepU c n m)) ∧ w = w' := by
  by_cases h0 : m = 0
  · have HS : Hid (stepU c n m = 0) := Lib.hid (by unfold stepU; rw [if_pos h0])
    have h0' : (m == 0) = true := by simpa using h0
    clear h0
    go_enter Try.func95, Try.ntmps95
    go_wp2
    go_ret
    exact ⟨ret_int HS.out.symm, rfl⟩
  · have h0' : (m == 0) = false := by simpa using h0
    have h1 := Int.emod_lt_of_pos (c + n) (show 0 < m by omega)
    have h2 := Int.emod_nonneg (c + n) h0
    have HS : Hid (stepU c n m = (c + n) % m) := Lib.hid (by unfold stepU; rw [if_neg h0])
    have k1 : IntKind.u64.wrap c = c := by rw [IntKind.wrap_u64]; omega
    have k2 : IntKind.u64.wrap n = n := by rw [IntKind.wrap_u64]; omega
    have k3 : IntKind.u64.wrap m = m := by rw [IntKind.wrap_u64]; omega
    have k4 : IntKind.u64.wrap (c + n) = c + n := by rw [IntKind.wrap_u64]; omega
    have k5 : IntKind.u32.wrap ((c + n) % m) = (c + n) % m := by rw [IntKind.wrap_u32]; omega
    have k6 : Int.tmod (c + n) m = (c + n) % m := Int.tmod_eq_emod_of_nonneg (by omega)
    go_enter Try.func95, Try.ntmps95
    go_wp2
    go_ret
    exact ⟨ret_int HS.out.symm, rfl⟩
theorem rNext_any (c m : Int) (w : World) (hc : 0 ≤ c ∧ c ≤ 4294967295) (hm : 0 ≤ m ∧ m ≤ 4294967295) :
    Calls Try.prog 74 #[.int .u32 c, .int .u32 m] w fun e w' => e = .returned (.int .u32 (stepU c 1 m)) ∧ w = w' := by
  go_enter Try.func74, Try.ntmps74
  go_wp2_with (go_at_call 95; refine (rStep_any _ _ _ _ hc ⟨by omega, by omega⟩ hm).mono ?_; rintro e w' ⟨rfl, rfl⟩)
  go_ret
  exact ⟨rfl, rfl⟩
theorem rGap_any (c n m : Int) (w : World) (hc : 0 ≤ c ∧ c ≤ 4294967295) (hn : 0 ≤ n ∧ n ≤ 4294967295) (hm : 0 ≤ m ∧ m ≤ 4294967295) :
    Calls Try.prog 75 #[.int .u32 c, .int .u32 n, .int .u32 m] w fun e w' => e = .returned (.int .u32 (gapU c n m)) ∧ Quiet w w' := by
  by_cases h0 : m = 0
  · have HS : Hid (gapU c n m = 0) := Lib.hid (by unfold gapU; rw [if_pos h0])
    have h0' : (m == 0) = true := by simpa using h0
    clear h0
    go_enter Try.func75, Try.ntmps75
    go_wp2
    go_ret
    exact ⟨ret_int HS.out.symm, Quiet.refl _⟩
  · have h0' : (m == 0) = false := by simpa using h0
    have hp : 0 < m := by omega
    have a1 := Int.emod_lt_of_pos c hp
    have a2 := Int.emod_lt_of_pos n hp
    have a3 := Int.emod_nonneg c h0
    have a4 := Int.emod_nonneg n h0
    have h1 := Int.emod_lt_of_pos (n % m + m - c % m) hp
    have h2 := Int.emod_nonneg (n % m + m - c % m) h0
    have HS : Hid (gapU c n m = (n % m + m - c % m) % m) := Lib.hid (by unfold gapU; rw [if_neg h0])
    have h3 : (n % m + m - c % m) % m = (n % m + m - c) % m := by simp
    have HS3 : Hid ((n % m + m - c) % m = gapU c n m) := Lib.hid (by rw [HS.out, ← h3])
    have k0 : Int.tmod n m = n % m := Int.tmod_eq_emod_of_nonneg hn.1
    have k1 : Int.tmod c m = c % m := Int.tmod_eq_emod_of_nonneg hc.1
    have k2 : IntKind.u64.wrap (n % m) = n % m := by rw [IntKind.wrap_u64]; omega
    have k3 : IntKind.u64.wrap (c % m) = c % m := by rw [IntKind.wrap_u64]; omega
    have k4 : IntKind.u64.wrap m = m := by rw [IntKind.wrap_u64]; omega
    have k5 : IntKind.u64.wrap (n % m + m) = n % m + m := by rw [IntKind.wrap_u64]; omega
    have k6 : IntKind.u64.wrap (n % m + m - c % m) = n % m + m - c % m := by rw [IntKind.wrap_u64]; omega
    have k7 : Int.tmod (n % m + m - c % m) m = (n % m + m - c % m) % m := Int.tmod_eq_emod_of_nonneg (by omega)
    have k8 : IntKind.u32.wrap ((n % m + m - c % m) % m) = (n % m + m - c % m) % m := by rw [IntKind.wrap_u32]; omega
    go_enter Try.func75, Try.ntmps75
    go_wp2
    go_quiet (fail)
    go_wp2
    go_ret
    exact ⟨ret_int HS3.out, _, rfl⟩
end Go.Proofs.Ytjplamoofkcojaa.word
