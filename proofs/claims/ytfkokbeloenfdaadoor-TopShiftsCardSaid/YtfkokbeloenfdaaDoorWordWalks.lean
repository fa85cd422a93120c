/- The functions of package word and of its reference, each walked once. -/
import Derived.Test.YtfkokbeloenfdaaDoorProg
import Derived.Test.YtfkokbeloenfdaaDoorWordPlain
import Derived.WalkKit
import Derived.Deep.QuietTactic
import Derived.BigQuiet
import Derived.Lib.Hide
namespace Go.Proofs.YtfkokbeloenfdaaDoor.word
open Go.RowKit
open Go
set_option linter.unusedVariables false
set_option linter.unusedSimpArgs false

theorem ret_int {k : IntKind} {a b : Int} (h : a = b) : Ending.returned (.int k a) = .returned (.int k b) := by rw [h]
theorem inside_clamp (n : Int) : clamp n 0 1099511627776 = inside n := rfl

theorem Clamp_any (n low high : Int) (w : World) :
    Calls Tryd.prog 50 #[.int .i64 n, .int .i64 low, .int .i64 high] w fun e w' => e = .returned (.int .i64 (clamp n low high)) ∧ w = w' := by
  go_enter Tryd.func50, Tryd.ntmps50
  go_wp2
  all_goals go_ret
  all_goals exact ⟨ret_int (by unfold clamp; omega), rfl⟩

theorem inside_any (n : Int) (w : World) :
    Calls Tryd.prog 64 #[.int .i64 n] w fun e w' => e = .returned (.int .i64 (inside n)) ∧ w = w' := by
  go_enter Tryd.func64, Tryd.ntmps64
  go_wp2_with (go_at_call 50; refine (Clamp_any _ _ _ _).mono ?_; rintro e w' ⟨rfl, rfl⟩)
  go_ret
  exact ⟨ret_int rfl, rfl⟩

theorem Add_any (a b : Int) (w : World) :
    Calls Tryd.prog 56 #[.int .i64 a, .int .i64 b] w fun e w' => e = .returned (.int .i64 (inside (inside a + inside b))) ∧ w = w' := by
  have ha := inside_bd a
  have hb := inside_bd b
  go_enter Tryd.func56, Tryd.ntmps56
  go_wp2_with (go_at_call 64; refine (inside_any _ _).mono ?_; rintro e w' ⟨rfl, rfl⟩)
  go_ret
  exact ⟨rfl, rfl⟩

theorem Ceil_any (a b : Int) (w : World) (h64 : a ≤ 9223372036854775807) :
    Calls Tryd.prog 37 #[.int .i64 a, .int .i64 b] w fun e w' => e = .returned (.int .i64 (ceil a b)) ∧ w = w' := by
  by_cases h1 : a < 1
  · go_enter Tryd.func37, Tryd.ntmps37
    go_wp2
    go_ret
    exact ⟨ret_int (by unfold ceil; rw [if_pos (by omega)]), rfl⟩
  · by_cases h2 : b < 1
    · go_enter Tryd.func37, Tryd.ntmps37
      go_wp2
      go_ret
      exact ⟨ret_int (by unfold ceil; rw [if_pos (by omega)]), rfl⟩
    · have ha : 1 ≤ a := by omega
      have hb : 1 ≤ b := by omega
      have hl := (least ha hb).2.1
      have hl' := (least ha hb).1
      unfold ceil at hl hl'
      rw [if_neg (by omega)] at hl hl'
      go_enter Tryd.func37, Tryd.ntmps37
      go_wp2
      go_ret
      exact ⟨ret_int (by unfold ceil; rw [if_neg (by omega)]), rfl⟩

/-- 'w'' is 'w', but for draws. -/
def Quiet (w w' : World) : Prop := ∃ n, w' = w.drewN n
theorem Quiet.refl (w : World) : Quiet w w := ⟨0, rfl⟩
theorem Quiet.drewN {w v : World} (h : Quiet w v) (n : Nat) : Quiet w (v.drewN n) := by
  obtain ⟨m, rfl⟩ := h; exact ⟨m + n, by rw [World.drewN_drewN]⟩

/-- A quiet callee inside a region that draws its order. -/
theorem quiet_at {P : Program} {f : FuncId} {args : Array Value} {w W : World} {v : Value} (h : Calls P f args W fun e w' => e = .returned v ∧ Quiet W w') (hW : Quiet w W) :
    Calls P f args W fun e w'' => e = .returned v ∧ ∃ m, w'' = w.drewN m :=
  h.mono fun _ _ ⟨he, m, hm⟩ => ⟨he, by obtain ⟨n, rfl⟩ := hW; exact ⟨n + m, by rw [hm, World.drewN_drewN]⟩⟩

theorem quiet_add {P : Program} {f : FuncId} {args : Array Value} {w : World} {a n : Nat} {v : Value}
    (h : Calls P f args (w.drewN (a + n)) fun e w' => e = .returned v ∧ Quiet (w.drewN (a + n)) w') :
    Calls P f args (w.drewN (a + n)) fun e w'' => e = .returned v ∧ ∃ m, w'' = w.drewN (a + m) :=
  h.mono fun _ _ ⟨he, m, hm⟩ => ⟨he, n + m, by rw [hm, World.drewN_drewN, Nat.add_assoc]⟩

end Go.Proofs.YtfkokbeloenfdaaDoor.word
