/- Parts joined: ObjD, Obj2, Small, ObjO. -/
import Derived.Test.YtkmalnojkjmjiaaProg
import Derived.Test.YtkmalnojkjmjiaaPlans
import Derived.Test.YtkmalnojkjmjiaaOpen
/- Objects: words. -/
namespace Go.Proofs.Ytkmalnojkjmjiaa.obj
open Go Go.RowKit Go.Proofs.Ytkmalnojkjmjiaa.kit
set_option linter.unusedVariables false
set_option linter.unusedSimpArgs false
set_option maxRecDepth 20000

/-- an object's numbers are in their bounds -/
structure ObjW (k w s c st : Int) (il rl : Nat) : Prop where
  k64 : -9223372036854775808 ≤ k ∧ k ≤ 9223372036854775807
  w64 : -9223372036854775808 ≤ w ∧ w ≤ 9223372036854775807
  s64 : -9223372036854775808 ≤ s ∧ s ≤ 9223372036854775807
  c64 : -9223372036854775808 ≤ c ∧ c ≤ 9223372036854775807
  st32 : 0 ≤ st ∧ st ≤ 4294967295
  ilen : il ≤ 100
  rlen : rl ≤ 100

def rightB (k w s c st il rl : Int) : Bool := decide ((1 ≤ w ∧ w ≤ 8 ∧ 1 ≤ rl ∧ rl ≤ 4 ∧ (k = 6 ∨ il = w)) ∧
  ((k = 1 ∧ s = 0 ∧ c = 0 ∧ st = 0 ∧ rl = 1) ∨ (k = 2 ∧ s = 0 ∧ c = 0 ∧ st = 0) ∨ (k = 3 ∧ s = 0 ∧ 1 ≤ c ∧ c ≤ 16 ∧ st % 2 = 0) ∨
   (k = 4 ∧ 2 ≤ s ∧ s ≤ 16 ∧ 1 ≤ c ∧ c ≤ 16 ∧ st < s * 1048576) ∨ (k = 5 ∧ rl + 2 ≤ s ∧ s ≤ 16 ∧ 1 ≤ c ∧ c ≤ 16 ∧ st = 0) ∨
   (k = 6 ∧ 1 ≤ s ∧ s ≤ 16 ∧ c = 0 ∧ st < 2 * s ∧ rl = 1 ∧ il = 0)))

theorem rightB_out (k w s c st il rl : Int) (hk : k < 1 ∨ 6 < k) : rightB k w s c st il rl = false := by
  unfold rightB; rw [decide_eq_false_iff_not]; omega
/-- how many steps an operation of a right object has -/
def boundK (k w c rl op : Int) : Int :=
  if k = 1 then (if op = 2 then w + 4 else if op = 1 then w + 3 else 0)
  else if k = 2 then (if op = 2 then w + 2 * rl + 2 else if op = 1 then w + 4 else 0)
  else if k = 3 then (if op = 2 then w + 3 else if op = 1 then c * (w + 2) else 0)
  else if k = 4 then (if op = 2 then w + 2 else if op = 1 then c * (w + 2) else 0)
  else if k = 5 then (if op = 2 then w + rl + 2 else if op = 1 then 3 * c + w + 1 else 0)
  else (if op = 3 ∨ op = 4 then w + 3 else 0)
def boundI (k w s c st il rl op : Int) : Int := if rightB k w s c st il rl then boundK k w c rl op else 0
theorem rightB_bd {k w s c st il rl : Int} (h : rightB k w s c st il rl = true) : 1 ≤ w ∧ w ≤ 8 ∧ 1 ≤ rl ∧ rl ≤ 4 ∧ 0 ≤ c ∧ c ≤ 16 ∧ 0 ≤ s ∧ s ≤ 16 ∧ 1 ≤ k ∧ k ≤ 6 := by
  simp only [rightB, decide_eq_true_eq] at h
  omega
theorem mul_bd {c w : Int} (hc : 0 ≤ c ∧ c ≤ 16) (hw : 1 ≤ w ∧ w ≤ 8) : 0 ≤ c * (w + 2) ∧ c * (w + 2) ≤ 160 := by
  have h1 : c * (w + 2) ≤ 16 * (w + 2) := Int.mul_le_mul_of_nonneg_right hc.2 (by omega)
  have h2 : 0 ≤ c * (w + 2) := Int.mul_nonneg hc.1 (by omega)
  omega

end Go.Proofs.Ytkmalnojkjmjiaa.obj

/- Objects: words, attempts, and whether one is right as one of its kind: the program's. -/
namespace Go.Proofs.Ytkmalnojkjmjiaa.obj
open Go Go.RowKit Go.Proofs.Ytkmalnojkjmjiaa.kit
set_option linter.unusedVariables false
set_option linter.unusedSimpArgs false
set_option maxRecDepth 20000

def writesI (k : Int) : Int := if k = 6 then 3 else 2
def readsI (k : Int) : Int := if k = 6 then 4 else 1
def wordsOk (k kd w il init rl : Int) : Bool := decide (k = kd ∧ 1 ≤ w ∧ w ≤ 8 ∧ il = init ∧ 1 ≤ rl ∧ rl ≤ 4)
def capsOk (c : Int) : Bool := decide (1 ≤ c ∧ c ≤ 16)
end Go.Proofs.Ytkmalnojkjmjiaa.obj

/- Whether an object's lists are short. -/
namespace Go.Proofs.Ytkmalnojkjmjiaa.obj
open Go Go.RowKit Go.Proofs.Ytkmalnojkjmjiaa.kit
set_option linter.unusedVariables false
set_option linter.unusedSimpArgs false
set_option maxRecDepth 20000
set_option maxHeartbeats 4000000 in
theorem small_any (k : Int) (w s c st : Int) (ia : Option Addr) (il ic : Nat) (wr : Int) (ra : Option Addr) (rl rc : Nat) (W : World) :
    Calls Try.prog 29 #[.agg #[.int .i64 k, .int .i64 w, .int .i64 s, .int .i64 c, .int .u32 st, .slice ia il ic, .int .i64 wr, .slice ra rl rc]] W fun e W' => e = .returned (.bool (decide (il ≤ 100 ∧ rl ≤ 100))) ∧ Chg [] W W' := by
  generalize hr : decide (il ≤ 100 ∧ rl ≤ 100) = r
  have HR := Lib.hid hr
  clear hr
  go_enter Try.func29, Try.ntmps29
  go_wp2
  all_goals (go_ret; refine ⟨?_, (Chg.refl _ _).alloc _⟩; rw [← HR.out]; refine ret_bool ?_; rw [Bool.eq_iff_iff]; (first | (simp; done) | (simp; omega) | (simp_all; done) | (simp_all; omega) | (trace_state; fail)))
end Go.Proofs.Ytkmalnojkjmjiaa.obj

/- An object as an argument. -/
namespace Go.Proofs.Ytkmalnojkjmjiaa.obj
open Go Go.RowKit Go.Proofs.Ytkmalnojkjmjiaa.kit
set_option linter.unusedVariables false
set_option linter.unusedSimpArgs false
set_option maxRecDepth 20000

theorem cellsO : Try.prog.cellsOf 53 = 8 := by kernel_rfl
theorem cellsInt : Try.prog.cellsOf 3 = 1 := by kernel_rfl
theorem cellsU32 : Try.prog.cellsOf 49 = 1 := by kernel_rfl
theorem cellsWs : Try.prog.cellsOf 50 = 1 := by kernel_rfl
theorem cellsIs : Try.prog.cellsOf 51 = 1 := by kernel_rfl
theorem obj_open {w : World} {n : Nat} {cs : List Value} (h : kit.Opens Try.prog w (n + 3) 53 cs) :
    ∃ (k w' s c st : Int) (ia : Option Addr) (il ic : Nat) (wr : Int) (ra : Option Addr) (rl rc : Nat),
      cs = [.int .i64 k, .int .i64 w', .int .i64 s, .int .i64 c, .int .u32 st, .slice ia il ic, .int .i64 wr, .slice ra rl rc] ∧ (il ≤ 100 → rl ≤ 100 → ObjW k w' s c st il rl) := by
  have hl := (h.struct Try.underlying53).1
  obtain ⟨k0, h0, w0⟩ := (h.field Try.underlying53 0 _ rfl 0 1 rfl cellsInt).int Try.underlying3
  obtain ⟨k1, h1, w1⟩ := (h.field Try.underlying53 1 _ rfl 1 1 rfl cellsInt).int Try.underlying3
  obtain ⟨k2, h2, w2⟩ := (h.field Try.underlying53 2 _ rfl 2 1 rfl cellsInt).int Try.underlying3
  obtain ⟨k3, h3, w3⟩ := (h.field Try.underlying53 3 _ rfl 3 1 rfl cellsInt).int Try.underlying3
  obtain ⟨k4, h4, w4⟩ := (h.field Try.underlying53 4 _ rfl 4 1 rfl cellsU32).int Try.underlying49
  obtain ⟨ia, il, ic, h5⟩ := (h.field Try.underlying53 5 _ rfl 5 1 rfl cellsWs).isSlice Try.underlying50 (by rw [cellsU32]; decide)
  obtain ⟨k6, h6, w6⟩ := (h.field Try.underlying53 6 _ rfl 6 1 rfl cellsInt).int Try.underlying3
  obtain ⟨ra, rl, rc, h7⟩ := (h.field Try.underlying53 7 _ rfl 7 1 rfl cellsIs).isSlice Try.underlying51 (by rw [cellsInt]; decide)
  rw [cellsO] at hl
  refine ⟨k0, k1, k2, k3, k4, ia, il, ic, k6, ra, rl, rc, ?_, fun hi hr => ⟨wf_i64 w0, wf_i64 w1, wf_i64 w2, wf_i64 w3, wf_u32 w4, hi, hr⟩⟩
  match cs, hl with
  | [y0, y1, y2, y3, y4, y5, y6, y7], _ => simp at h0 h1 h2 h3 h4 h5 h6 h7; rw [h0, h1, h2, h3, h4, h5, h6, h7]
end Go.Proofs.Ytkmalnojkjmjiaa.obj
