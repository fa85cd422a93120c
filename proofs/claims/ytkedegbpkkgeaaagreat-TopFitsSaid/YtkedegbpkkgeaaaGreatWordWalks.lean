/- The functions of package word and of its reference, each walked once. -/
import Derived.Test.YtkedegbpkkgeaaaGreatProg
import Derived.Test.YtkedegbpkkgeaaaGreatWordPlain
import Derived.WalkKit
import Derived.Deep.QuietTactic
import Derived.BigQuiet
import Derived.Lib.Hide
namespace Go.Proofs.YtkedegbpkkgeaaaGreat.word
open Go.RowKit
open Go
set_option linter.unusedVariables false
set_option linter.unusedSimpArgs false

theorem ret_int {k : IntKind} {a b : Int} (h : a = b) : Ending.returned (.int k a) = .returned (.int k b) := by rw [h]
theorem Clamp_any (n low high : Int) (w : World) :
    Calls Tryz.prog 111 #[.int .i64 n, .int .i64 low, .int .i64 high] w fun e w' => e = .returned (.int .i64 (clamp n low high)) ∧ w = w' := by
  go_enter Tryz.func111, Tryz.ntmps111
  go_wp2
  all_goals go_ret
  all_goals exact ⟨ret_int (by unfold clamp; omega), rfl⟩

theorem inside_any (n : Int) (w : World) :
    Calls Tryz.prog 80 #[.int .i64 n] w fun e w' => e = .returned (.int .i64 (inside n)) ∧ w = w' := by
  go_enter Tryz.func80, Tryz.ntmps80
  go_wp2_with (go_at_call 111; refine (Clamp_any _ _ _ _).mono ?_; rintro e w' ⟨rfl, rfl⟩)
  go_ret
  exact ⟨ret_int rfl, rfl⟩

theorem Add_any (a b : Int) (w : World) :
    Calls Tryz.prog 43 #[.int .i64 a, .int .i64 b] w fun e w' => e = .returned (.int .i64 (inside (inside a + inside b))) ∧ w = w' := by
  have ha := inside_bd a
  have hb := inside_bd b
  go_enter Tryz.func43, Tryz.ntmps43
  go_wp2_with (go_at_call 80; refine (inside_any _ _).mono ?_; rintro e w' ⟨rfl, rfl⟩)
  go_ret
  exact ⟨rfl, rfl⟩

theorem Mul_any (a b : Int) (w : World) :
    Calls Tryz.prog 44 #[.int .i64 a, .int .i64 b] w fun e w' => e = .returned (.int .i64 (mulT a b)) ∧ w = w' := by
  have ha := inside_bd a
  have hb := inside_bd b
  generalize hx : inside a = x at *
  generalize hy : inside b = y at *
  have hm : mulT a b = min (x * y) 1099511627776 := by unfold mulT; rw [hx, hy]
  have HM := Lib.hid hm
  have HX := Lib.hid hx
  have HY := Lib.hid hy
  clear hm hx hy
  by_cases h1 : x = 0
  · subst h1
    go_enter Tryz.func44, Tryz.ntmps44
    go_wp2_with (go_at_call 80; refine (inside_any _ _).mono ?_; rintro e w' ⟨rfl, rfl⟩; first | rw [HX.out] | rw [HY.out])
    go_ret
    exact ⟨ret_int (by rw [HM.out]; omega), rfl⟩
  · by_cases h2 : y = 0
    · subst h2
      have h1' : (x == 0) = false := by simpa using h1
      go_enter Tryz.func44, Tryz.ntmps44
      go_wp2_with (go_at_call 80; refine (inside_any _ _).mono ?_; rintro e w' ⟨rfl, rfl⟩; first | rw [HX.out] | rw [HY.out])
      go_ret
      exact ⟨ret_int (by rw [HM.out]; omega), rfl⟩
    · have hx0 : 0 < x := by omega
      have hy0 : 0 < y := by omega
      have h1' : (x == 0) = false := by simpa using h1
      have h2' : (y == 0) = false := by simpa using h2
      clear h1 h2
      by_cases h3 : 1099511627776 / y < x
      · have HB := Lib.hid (mulT_big x y hx0 hy0 h3)
        go_enter Tryz.func44, Tryz.ntmps44
        go_wp2_with (go_at_call 80; refine (inside_any _ _).mono ?_; rintro e w' ⟨rfl, rfl⟩; first | rw [HX.out] | rw [HY.out])
        go_ret
        exact ⟨ret_int (by rw [HM.out, HB.out]), rfl⟩
      · have hs := mulT_small x y hx0 hy0 h3
        have hp : 0 ≤ x * y := Int.mul_nonneg (by omega) (by omega)
        go_enter Tryz.func44, Tryz.ntmps44
        go_wp2_with (go_at_call 80; refine (inside_any _ _).mono ?_; rintro e w' ⟨rfl, rfl⟩; first | rw [HX.out] | rw [HY.out])
        go_ret
        exact ⟨ret_int (by rw [HM.out]; omega), rfl⟩

theorem Ceil_any (a b : Int) (w : World) (h64 : a ≤ 9223372036854775807) :
    Calls Tryz.prog 84 #[.int .i64 a, .int .i64 b] w fun e w' => e = .returned (.int .i64 (ceil a b)) ∧ w = w' := by
  by_cases h1 : a < 1
  · go_enter Tryz.func84, Tryz.ntmps84
    go_wp2
    go_ret
    exact ⟨ret_int (by unfold ceil; rw [if_pos (by omega)]), rfl⟩
  · by_cases h2 : b < 1
    · go_enter Tryz.func84, Tryz.ntmps84
      go_wp2
      go_ret
      exact ⟨ret_int (by unfold ceil; rw [if_pos (by omega)]), rfl⟩
    · have ha : 1 ≤ a := by omega
      have hb : 1 ≤ b := by omega
      have hl := (least ha hb).2.1
      have hl' := (least ha hb).1
      unfold ceil at hl hl'
      rw [if_neg (by omega)] at hl hl'
      go_enter Tryz.func84, Tryz.ntmps84
      go_wp2
      go_ret
      exact ⟨ret_int (by unfold ceil; rw [if_neg (by omega)]), rfl⟩

/-- 'w'' is 'w', but for draws. -/
def Quiet (w w' : World) : Prop := ∃ n, w' = w.drewN n
theorem Quiet.refl (w : World) : Quiet w w := ⟨0, rfl⟩
theorem Quiet.drewN {w v : World} (h : Quiet w v) (n : Nat) : Quiet w (v.drewN n) := by
  obtain ⟨m, rfl⟩ := h; exact ⟨m + n, by rw [World.drewN_drewN]⟩

end Go.Proofs.YtkedegbpkkgeaaaGreat.word
