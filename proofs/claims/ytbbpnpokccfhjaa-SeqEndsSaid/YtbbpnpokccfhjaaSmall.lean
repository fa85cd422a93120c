/- Whether an object's lists are short. -/
import Derived.Test.YtbbpnpokccfhjaaObjD
namespace Go.Proofs.Ytbbpnpokccfhjaa.obj
open Go Go.RowKit Go.Proofs.Ytbbpnpokccfhjaa.kit
set_option linter.unusedVariables false
set_option maxRecDepth 20000
set_option maxHeartbeats 4000000 in
theorem small_any (k : Int) (w s c st : Int) (ia : Option Addr) (il ic : Nat) (wr : Int) (ra : Option Addr) (rl rc : Nat) (W : World) :
    Calls Try.prog 13 #[.agg #[.int .i64 k, .int .i64 w, .int .i64 s, .int .i64 c, .int .u32 st, .slice ia il ic, .int .i64 wr, .slice ra rl rc]] W fun e W' => e = .returned (.bool (decide (il ≤ 100 ∧ rl ≤ 100))) ∧ Chg [] W W' := by
  generalize hr : decide (il ≤ 100 ∧ rl ≤ 100) = r
  have HR := Lib.hid hr
  clear hr
  go_enter Try.func13, Try.ntmps13
  go_wp2
  all_goals (go_ret; refine ⟨?_, (Chg.refl _ _).alloc _⟩; rw [← HR.out]; refine ret_bool ?_; rw [Bool.eq_iff_iff]; (first | (simp; done) | (simp; omega) | (simp_all; done) | (simp_all; omega) | (trace_state; fail)))
end Go.Proofs.Ytbbpnpokccfhjaa.obj
