/-
  coxswainlaw01.WordDivides returns true for every a and b: Gcd and Lcm are the reference's; Gcd divides both, what is left has none in common; Lcm is Top or both divide it. No conditions.
-/
import Derived.Test.YtkhbmgkofhdkmaaRows
import Derived.WalkKit
import Derived.ProofKit
import Derived.OpenShut
import Derived.ShutString
import Derived.Test.YtkhbmgkofhdkmaaWordLaws
import Derived.Deep.RegionWith
namespace Go.Proofs.Ytkhbmgkofhdkmaa.wordDivides
open Go.ChangeShapes Go.WideShapes Go.ChangeAt Go.RowKit
open Go.ChangeMaps (open_string shut_string)
set_option linter.unusedVariables false      -- a walk need not use every 'w<i>' (that an integer argument fits its kind)
open Go.Proofs.Ytkhbmgkofhdkmaa.word
set_option maxHeartbeats 1000000 in
theorem none1 (a0 a1 : Int) (w : World) (b0 : a0 ≤ 9223372036854775807) (b1 : a1 ≤ 9223372036854775807) (h1 : a0 < 1) (HG : Hid (gcdI a0 a1 = 0)) (HL : Hid (lcmI a0 a1 = 0)) :
    Calls Try.prog 6 #[.int .i64 a0, .int .i64 a1] w fun e w' => e = .returned (.bool true) ∧ Grown w w' := by
  go_enter Try.func6, Try.ntmps6
  go_wp2_with (first | (go_at_call 31; refine (Gcd_any _ _ _).mono ?_; rintro e w' ⟨rfl, n, rfl⟩; rw [HG.out]) | (go_at_call 33; refine (rGcd_any _ _ _).mono ?_; rintro e w' ⟨rfl, rfl⟩; rw [HG.out]) | (go_at_call 32; refine (Lcm_any _ _ _ b0).mono ?_; rintro e w' ⟨rfl, n, rfl⟩; rw [HL.out]) | (go_at_call 34; refine (rLcm_any _ _ _ b0).mono ?_; rintro e w' ⟨rfl, rfl⟩; rw [HL.out]) | (go_at_call 30; refine (awake_any _).mono ?_; rintro e w' ⟨rfl, n, rfl⟩))
  go_ret
  exact ⟨rfl, quiet_grown _ _⟩

set_option maxHeartbeats 1000000 in
theorem none2 (a0 a1 : Int) (w : World) (b0 : a0 ≤ 9223372036854775807) (b1 : a1 ≤ 9223372036854775807) (h1 : 1 ≤ a0) (h2 : a1 < 1) (HG : Hid (gcdI a0 a1 = 0)) (HL : Hid (lcmI a0 a1 = 0)) :
    Calls Try.prog 6 #[.int .i64 a0, .int .i64 a1] w fun e w' => e = .returned (.bool true) ∧ Grown w w' := by
  go_enter Try.func6, Try.ntmps6
  go_wp2_with (first | (go_at_call 31; refine (Gcd_any _ _ _).mono ?_; rintro e w' ⟨rfl, n, rfl⟩; rw [HG.out]) | (go_at_call 33; refine (rGcd_any _ _ _).mono ?_; rintro e w' ⟨rfl, rfl⟩; rw [HG.out]) | (go_at_call 32; refine (Lcm_any _ _ _ b0).mono ?_; rintro e w' ⟨rfl, n, rfl⟩; rw [HL.out]) | (go_at_call 34; refine (rLcm_any _ _ _ b0).mono ?_; rintro e w' ⟨rfl, rfl⟩; rw [HL.out]) | (go_at_call 30; refine (awake_any _).mono ?_; rintro e w' ⟨rfl, n, rfl⟩))
  go_ret
  exact ⟨rfl, quiet_grown _ _⟩

set_option maxHeartbeats 1000000 in
theorem top (a0 a1 g l : Int) (w : World) (b0 : a0 ≤ 9223372036854775807) (b1 : a1 ≤ 9223372036854775807) (ha : 1 ≤ a0) (hb : 1 ≤ a1) (hp : 1 ≤ g)
    (hd0 : (a0 % g != 0) = false) (hd1 : (a1 % g != 0) = false) (HO : Hid (gcdI (a0 / g) (a1 / g) = 1)) (q0 : 1 ≤ a0 / g) (q1 : a0 / g ≤ a0) (q2 : 1 ≤ a1 / g) (q3 : a1 / g ≤ a1)
    (hl0 : 0 ≤ l) (HG : Hid (gcdI a0 a1 = g)) (HL : Hid (lcmI a0 a1 = l)) (hT' : (l == 1099511627776) = true) :
    Calls Try.prog 6 #[.int .i64 a0, .int .i64 a1] w fun e w' => e = .returned (.bool true) ∧ Grown w w' := by
  go_enter Try.func6, Try.ntmps6
  go_wp2_with (first | (go_at_call_of 31 (Value.int .i64 a0); refine (Gcd_any _ _ _).mono ?_; rintro e w' ⟨rfl, n, rfl⟩; rw [HG.out]) | (go_at_call 33; refine (rGcd_any _ _ _).mono ?_; rintro e w' ⟨rfl, rfl⟩; rw [HG.out]) | (go_at_call 32; refine (Lcm_any _ _ _ b0).mono ?_; rintro e w' ⟨rfl, n, rfl⟩; rw [HL.out]) | (go_at_call 34; refine (rLcm_any _ _ _ b0).mono ?_; rintro e w' ⟨rfl, rfl⟩; rw [HL.out]) | (go_at_call 30; refine (awake_any _).mono ?_; rintro e w' ⟨rfl, n, rfl⟩))
  have hg1 : 0 < g := by omega
  have hg2 : ¬ g = 0 := by omega
  have hg3 : (g == 0) = false := by simpa using hg2
  have ha0 : 0 ≤ a0 := by omega
  have hb0 : 0 ≤ a1 := by omega
  have ht0 : (a0.tmod g != 0) = false := by rw [Int.tmod_eq_emod_of_nonneg ha0]; exact hd0
  have ht1 : (a1.tmod g != 0) = false := by rw [Int.tmod_eq_emod_of_nonneg hb0]; exact hd1
  have hv0 : IntKind.i64.wrap (a0.tdiv g) = a0 / g := by rw [Int.tdiv_eq_ediv_of_nonneg ha0]; exact IntWalk.i64_in _ (by omega)
  have hv1 : IntKind.i64.wrap (a1.tdiv g) = a1 / g := by rw [Int.tdiv_eq_ediv_of_nonneg hb0]; exact IntWalk.i64_in _ (by omega)
  go_quiet ((go_at_call 31; have hc := Gcd_any (a0 / g) (a1 / g); rw [HO.out] at hc; exact quiet_add (hc _)))
  go_wp2_with (go_at_call 30; refine (awake_any _).mono ?_; rintro e w' ⟨rfl, n, rfl⟩)
  go_ret
  exact ⟨rfl, quiet_grown _ _⟩

set_option maxHeartbeats 1000000 in
theorem small (a0 a1 g l : Int) (w : World) (b0 : a0 ≤ 9223372036854775807) (b1 : a1 ≤ 9223372036854775807) (ha : 1 ≤ a0) (hb : 1 ≤ a1) (hp : 1 ≤ g)
    (hd0 : (a0 % g != 0) = false) (hd1 : (a1 % g != 0) = false) (HO : Hid (gcdI (a0 / g) (a1 / g) = 1)) (q0 : 1 ≤ a0 / g) (q1 : a0 / g ≤ a0) (q2 : 1 ≤ a1 / g) (q3 : a1 / g ≤ a1)
    (hl0 : 0 ≤ l) (HG : Hid (gcdI a0 a1 = g)) (HL : Hid (lcmI a0 a1 = l)) (hT' : (l == 1099511627776) = false) (e0 : (l % a0 == 0) = true) (e1 : (l % a1 == 0) = true) :
    Calls Try.prog 6 #[.int .i64 a0, .int .i64 a1] w fun e w' => e = .returned (.bool true) ∧ Grown w w' := by
  go_enter Try.func6, Try.ntmps6
  go_wp2_with (first | (go_at_call_of 31 (Value.int .i64 a0); refine (Gcd_any _ _ _).mono ?_; rintro e w' ⟨rfl, n, rfl⟩; rw [HG.out]) | (go_at_call 33; refine (rGcd_any _ _ _).mono ?_; rintro e w' ⟨rfl, rfl⟩; rw [HG.out]) | (go_at_call 32; refine (Lcm_any _ _ _ b0).mono ?_; rintro e w' ⟨rfl, n, rfl⟩; rw [HL.out]) | (go_at_call 34; refine (rLcm_any _ _ _ b0).mono ?_; rintro e w' ⟨rfl, rfl⟩; rw [HL.out]) | (go_at_call 30; refine (awake_any _).mono ?_; rintro e w' ⟨rfl, n, rfl⟩))
  have hg1 : 0 < g := by omega
  have hg2 : ¬ g = 0 := by omega
  have hg3 : (g == 0) = false := by simpa using hg2
  have ha0 : 0 ≤ a0 := by omega
  have hb0 : 0 ≤ a1 := by omega
  have ht0 : (a0.tmod g != 0) = false := by rw [Int.tmod_eq_emod_of_nonneg ha0]; exact hd0
  have ht1 : (a1.tmod g != 0) = false := by rw [Int.tmod_eq_emod_of_nonneg hb0]; exact hd1
  have hv0 : IntKind.i64.wrap (a0.tdiv g) = a0 / g := by rw [Int.tdiv_eq_ediv_of_nonneg ha0]; exact IntWalk.i64_in _ (by omega)
  have hv1 : IntKind.i64.wrap (a1.tdiv g) = a1 / g := by rw [Int.tdiv_eq_ediv_of_nonneg hb0]; exact IntWalk.i64_in _ (by omega)
  go_quiet ((go_at_call 31; have hc := Gcd_any (a0 / g) (a1 / g); rw [HO.out] at hc; exact quiet_add (hc _)))
  go_wp2_with (go_at_call 30; refine (awake_any _).mono ?_; rintro e w' ⟨rfl, n, rfl⟩)
  go_ret
  exact ⟨rfl, quiet_grown _ _⟩


theorem own : ownKnob Try.prog.godebug = none := by kernel_rfl

/-! ### STEP 1: THE WALK: the Go text returns true. 'Grown w w'': the world has at most new blocks (Derived/RowKit3.lean). Part the cases AHEAD of 'go_enter' where a test parts the walk; take each callee by a contract of your own. -/
theorem walk (a0 : Int) (a1 : Int) (w0 : (Lit.int .i64 a0).wf = true) (w1 : (Lit.int .i64 a1).wf = true) (w : World) :
    Calls Try.prog 6 #[.int .i64 a0, .int .i64 a1] w fun e w' => e = .returned (.bool true) ∧ Grown w w' := by
  have b0 : a0 ≤ 9223372036854775807 := by have := w0; simp [Lit.wf, IntKind.min, IntKind.max, IntKind.signed, IntKind.bits] at this; omega
  have b1 : a1 ≤ 9223372036854775807 := by have := w1; simp [Lit.wf, IntKind.min, IntKind.max, IntKind.signed, IntKind.bits] at this; omega
  by_cases h1 : a0 < 1
  · exact none1 a0 a1 w b0 b1 h1 (Lib.hid (gcdI_zero (.inl h1))) (Lib.hid (lcmI_zero (.inl h1)))
  · by_cases h2 : a1 < 1
    · exact none2 a0 a1 w b0 b1 (by omega) h2 (Lib.hid (gcdI_zero (.inr h2))) (Lib.hid (lcmI_zero (.inr h2)))
    · have ha : 1 ≤ a0 := by omega
      have hb : 1 ≤ a1 := by omega
      have hp := gcdI_pos ha hb
      have hl0 : 0 ≤ lcmI a0 a1 := by
        rw [lcm_eq ha hb]; unfold mulT
        have := Int.mul_nonneg (inside_bd (a0 / gcdI a0 a1)).1 (inside_bd a1).1
        omega
      by_cases hT : lcmI a0 a1 = 1099511627776
      · exact top a0 a1 _ _ w b0 b1 ha hb hp (by simp [dvd_mod (gcdI_left ha hb)]) (by simp [dvd_mod (gcdI_right ha hb)]) (Lib.hid (gcd_one ha hb)) (div_pos ha hp (gcdI_left ha hb)) (Int.ediv_le_self _ (by omega)) (div_pos hb hp (gcdI_right ha hb)) (Int.ediv_le_self _ (by omega)) hl0 (Lib.hid rfl) (Lib.hid rfl) (by simpa using hT)
      · exact small a0 a1 _ _ w b0 b1 ha hb hp (by simp [dvd_mod (gcdI_left ha hb)]) (by simp [dvd_mod (gcdI_right ha hb)]) (Lib.hid (gcd_one ha hb)) (div_pos ha hp (gcdI_left ha hb)) (Int.ediv_le_self _ (by omega)) (div_pos hb hp (gcdI_right ha hb)) (Int.ediv_le_self _ (by omega)) hl0 (Lib.hid rfl) (Lib.hid rfl) (by simpa using hT) (by simp [dvd_mod (lcm_dvd ha hb hT).1]) (by simp [dvd_mod (lcm_dvd ha hb hT).2])

/-! ### THE ROW's STEP: WRITTEN OUT: LEAVE IT -/
set_option maxRecDepth 100000 in
theorem lifted (os : Os) (started : os.Started) (H : Type) (enc : TypeId × Value → H) :
    ReturnsInHanded {} Try.checked os 6 .any (Rows.wordDividesSpec.pre6 enc Try.prog Try.f6 Rows.wordDividesRow.domain false) (Rows.wordDividesSpec.post enc Try.prog Try.f6 false true false false) := by
  refine returnsInHanded_of_change (C := Try.checked) own started (by kernel_rfl) Try.func6
    (ChangeSpec.witness6 (enc := enc) (C := Try.checked) false ⟨#[], #[.int .i64 0, .int .i64 0], []⟩ 8 (by kernel_rfl) (by kernel_rfl) (by kernel_rfl) (by kernel_rfl)) ?_
  intro W base args ds gs before hval0 hW hcnd _
  have hval : ∀ (j : Nat) t v, Try.f6.params[j]? = some t → args[j]? = some v → Value.okWide Try.prog W .any base t v := hval0
  have hW' := hW
  obtain ⟨p, q, hA0, hV, rfl, hfz, hnd⟩ := hW
  have hA : DataW.TrodAll enc Try.prog W 0 (fun _ => true) true Try.f6.params.toList args.toList ds p := hA0
  rw [Try.params6] at hA hval
  obtain ⟨v0, vs0, d0, ds0, p0, q0, hargs, rfl, rfl, h0, r0⟩ := trodAll_cons hA
  obtain ⟨v1, vs1, d1, ds1, p1, q1, rfl, rfl, rfl, h1, r1⟩ := trodAll_cons r0
  obtain ⟨rfl, rfl, rfl⟩ := trodAll_nil r1
  obtain rfl : args = #[v0, v1] := by cases args; simp_all
  obtain ⟨rfl, rfl⟩ := trodVars_none hV
  obtain ⟨a0, rfl, rfl, rfl, w0⟩ := open_int Try.underlying3 (hval 0 3 v0 rfl rfl) h0
  obtain ⟨a1, rfl, rfl, rfl, w1⟩ := open_int Try.underlying3 (hval 1 3 v1 rfl rfl) h1
  clear hA0 hval0
  simp only [List.append_nil] at hW'
  refine (walk a0 a1 w0 w1 W).mono fun e W' ⟨he, hg⟩ => ?_
  subst he
  exact ⟨_, rfl, post_of_same (pa := []) (pv := []) hW' (fun _ _ _ => (trodAll_cons_mk (shut_bool Try.underlying4 _) trodAll_mk0)) (fun sp _ => (trodAll_cons_mk (shut_int Try.underlying3 w0) (trodAll_cons_mk (shut_int Try.underlying3 w1) trodAll_mk0))) (fun _ _ => rfl) rfl
    (hg.frame _) hg.2.1 (ok_one (by kernel_rfl) rfl (okWide_bool_mk Try.underlying4 _))⟩

theorem over : Rows.wordDividesRow.holds Try.pinned (OpenSpec.ofChange Rows.wordDividesSpec) :=
  OpenClaim.holds_of_wide 6 Try.f6 rfl rfl rfl rfl rfl rfl rfl ⟨rfl, rfl, rfl, rfl, rfl⟩ rfl rfl rfl rfl rfl (by kernel_rfl) Try.func6 (by kernel_rfl)
    (of_decide_eq_true (by kernel_rfl)) (by unfold Func.isWrapper; first | (rw [if_pos (by decide +kernel)]; kernel_rfl) | (rw [if_neg (by decide +kernel)]; exact ⟨rfl, rfl⟩))
    (fun os started H enc _ => lifted os started H enc)

/-- ████ THE STATEMENT ████ -/
theorem proved : Rows.WordDividesSaid :=
  over
#print axioms proved
end Go.Proofs.Ytkhbmgkofhdkmaa.wordDivides
