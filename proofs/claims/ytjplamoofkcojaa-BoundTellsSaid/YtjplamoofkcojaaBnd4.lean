/- How many steps an operation of any object has: the chapter's example. -/
import Derived.Test.YtjplamoofkcojaaBnd3
namespace Go.Proofs.Ytjplamoofkcojaa.obj
open Go Go.RowKit Go.Proofs.Ytjplamoofkcojaa.kit
set_option linter.unusedVariables false
set_option maxRecDepth 20000

set_option maxHeartbeats 4000000 in
theorem small_any (k : Int) (w s c st : Int) (ia : Option Addr) (il ic : Nat) (wr : Int) (ra : Option Addr) (rl rc : Nat) (W : World) :
    Calls Try.prog 8 #[.agg #[.int .i64 k, .int .i64 w, .int .i64 s, .int .i64 c, .int .u32 st, .slice ia il ic, .int .i64 wr, .slice ra rl rc]] W fun e W' => e = .returned (.bool (decide (il ≤ 100 ∧ rl ≤ 100))) ∧ Chg [] W W' := by
  generalize hr : decide (il ≤ 100 ∧ rl ≤ 100) = r
  have HR := Lib.hid hr
  clear hr
  go_enter Try.func8, Try.ntmps8
  go_wp2
  all_goals (go_ret; refine ⟨?_, (Chg.refl _ _).alloc _⟩; rw [← HR.out]; refine ret_bool ?_; rw [Bool.eq_iff_iff]; (first | (simp; done) | (simp; omega) | (simp_all; done) | (simp_all; omega) | (trace_state; fail)))
theorem exW : ObjW 3 2 0 3 0 2 1 := ⟨by decide, by decide, by decide, by decide, by decide, by decide, by decide⟩
theorem ex1 : cleanI 3 2 0 3 0 ((2 : Nat) : Int) ((1 : Nat) : Int) 1 = 4 := by kernel_rfl
theorem ex2 : failI 3 2 0 3 0 ((2 : Nat) : Int) ((1 : Nat) : Int) 1 = 4 := by kernel_rfl
theorem ex3 : afterI 3 2 0 3 0 ((2 : Nat) : Int) ((1 : Nat) : Int) 1 1 = 8 := by kernel_rfl
theorem ex4 : afterI 3 2 0 3 0 ((2 : Nat) : Int) ((1 : Nat) : Int) 1 9 = 12 := by kernel_rfl
set_option maxHeartbeats 4000000 in
theorem awakeB_any (W : World) : Calls Try.prog 9 #[] W fun e W' => e = .returned (.bool true) ∧ Chg [] W W' := by
  go_enter Try.func9, Try.ntmps9
  have HBX : Hid (Blk (((W.alloc (.cells #[.int .u32 1, .int .u32 2] 22)).alloc (.cells #[.int .i64 1] 3)).alloc (.cells #[.int .i64 3, .int .i64 2, .int .i64 0, .int .i64 3, .int .u32 0, .slice (some ⟨W.heap.size, 0, none⟩) 2 2, .int .i64 0, .slice (some ⟨W.heap.size + 1, 0, none⟩) 1 1] 26)) (W.heap.size + 2) #[.int .i64 3, .int .i64 2, .int .i64 0, .int .i64 3, .int .u32 0, .slice (some ⟨W.heap.size, 0, none⟩) 2 2, .int .i64 0, .slice (some ⟨W.heap.size + 1, 0, none⟩) 1 1] 26) := Lib.hid (by
    have h := Blk.new ((W.alloc (.cells #[.int .u32 1, .int .u32 2] 22)).alloc (.cells #[.int .i64 1] 3)) #[.int .i64 3, .int .i64 2, .int .i64 0, .int .i64 3, .int .u32 0, .slice (some ⟨W.heap.size, 0, none⟩) 2 2, .int .i64 0, .slice (some ⟨W.heap.size + 1, 0, none⟩) 1 1] 26
    rwa [show ((W.alloc (.cells #[.int .u32 1, .int .u32 2] 22)).alloc (.cells #[.int .i64 1] 3)).heap.size = W.heap.size + 2 by simp] at h)
  have HCC : Hid (Chg [] W (((W.alloc (.cells #[.int .u32 1, .int .u32 2] 22)).alloc (.cells #[.int .i64 1] 3)).alloc (.cells #[.int .i64 3, .int .i64 2, .int .i64 0, .int .i64 3, .int .u32 0, .slice (some ⟨W.heap.size, 0, none⟩) 2 2, .int .i64 0, .slice (some ⟨W.heap.size + 1, 0, none⟩) 1 1] 26))) := Lib.hid ((((Chg.refl _ _).alloc _).alloc _).alloc _)
  go_wp2_with fail
  refine (bClean_any 3 2 0 3 0 (some ⟨W.heap.size, 0, none⟩) 2 2 0 (some ⟨W.heap.size + 1, 0, none⟩) 1 1 1 exW _).mono ?_
  rintro e w1 ⟨rfl, hcx⟩
  rw [ex1]
  have HBX := Lib.hid (Blk.keep HBX.out hcx (by simp)); have e0 := HBX.out.cell (o := 0) (v := .int .i64 3) rfl; have e1 := HBX.out.cell (o := 1) (v := .int .i64 2) rfl; have e2 := HBX.out.cell (o := 2) (v := .int .i64 0) rfl; have e3 := HBX.out.cell (o := 3) (v := .int .i64 3) rfl; have e4 := HBX.out.cell (o := 4) (v := .int .u32 0) rfl; have e5 := HBX.out.cell (o := 5) (v := .slice (some ⟨W.heap.size, 0, none⟩) 2 2) rfl; have e6 := HBX.out.cell (o := 6) (v := .int .i64 0) rfl; have e7 := HBX.out.cell (o := 7) (v := .slice (some ⟨W.heap.size + 1, 0, none⟩) 1 1) rfl; have HCC := Lib.hid (HCC.out.trans hcx); clear hcx
  go_wp2_with fail
  refine (bFail_any 3 2 0 3 0 (some ⟨W.heap.size, 0, none⟩) 2 2 0 (some ⟨W.heap.size + 1, 0, none⟩) 1 1 1 exW _).mono ?_
  rintro e w2 ⟨rfl, hcx⟩
  rw [ex2]
  have HBX := Lib.hid (Blk.keep HBX.out hcx (by simp)); have e0 := HBX.out.cell (o := 0) (v := .int .i64 3) rfl; have e1 := HBX.out.cell (o := 1) (v := .int .i64 2) rfl; have e2 := HBX.out.cell (o := 2) (v := .int .i64 0) rfl; have e3 := HBX.out.cell (o := 3) (v := .int .i64 3) rfl; have e4 := HBX.out.cell (o := 4) (v := .int .u32 0) rfl; have e5 := HBX.out.cell (o := 5) (v := .slice (some ⟨W.heap.size, 0, none⟩) 2 2) rfl; have e6 := HBX.out.cell (o := 6) (v := .int .i64 0) rfl; have e7 := HBX.out.cell (o := 7) (v := .slice (some ⟨W.heap.size + 1, 0, none⟩) 1 1) rfl; have HCC := Lib.hid (HCC.out.trans hcx); clear hcx
  go_wp2_with fail
  refine (bAfter_any 3 2 0 3 0 (some ⟨W.heap.size, 0, none⟩) 2 2 0 (some ⟨W.heap.size + 1, 0, none⟩) 1 1 1 1 exW _).mono ?_
  rintro e w3 ⟨rfl, hcx⟩
  rw [ex3]
  have HBX := Lib.hid (Blk.keep HBX.out hcx (by simp)); have e0 := HBX.out.cell (o := 0) (v := .int .i64 3) rfl; have e1 := HBX.out.cell (o := 1) (v := .int .i64 2) rfl; have e2 := HBX.out.cell (o := 2) (v := .int .i64 0) rfl; have e3 := HBX.out.cell (o := 3) (v := .int .i64 3) rfl; have e4 := HBX.out.cell (o := 4) (v := .int .u32 0) rfl; have e5 := HBX.out.cell (o := 5) (v := .slice (some ⟨W.heap.size, 0, none⟩) 2 2) rfl; have e6 := HBX.out.cell (o := 6) (v := .int .i64 0) rfl; have e7 := HBX.out.cell (o := 7) (v := .slice (some ⟨W.heap.size + 1, 0, none⟩) 1 1) rfl; have HCC := Lib.hid (HCC.out.trans hcx); clear hcx
  go_wp2_with fail
  refine (bAfter_any 3 2 0 3 0 (some ⟨W.heap.size, 0, none⟩) 2 2 0 (some ⟨W.heap.size + 1, 0, none⟩) 1 1 1 9 exW _).mono ?_
  rintro e w4 ⟨rfl, hcx⟩
  rw [ex4]
  have HBX := Lib.hid (Blk.keep HBX.out hcx (by simp)); have e0 := HBX.out.cell (o := 0) (v := .int .i64 3) rfl; have e1 := HBX.out.cell (o := 1) (v := .int .i64 2) rfl; have e2 := HBX.out.cell (o := 2) (v := .int .i64 0) rfl; have e3 := HBX.out.cell (o := 3) (v := .int .i64 3) rfl; have e4 := HBX.out.cell (o := 4) (v := .int .u32 0) rfl; have e5 := HBX.out.cell (o := 5) (v := .slice (some ⟨W.heap.size, 0, none⟩) 2 2) rfl; have e6 := HBX.out.cell (o := 6) (v := .int .i64 0) rfl; have e7 := HBX.out.cell (o := 7) (v := .slice (some ⟨W.heap.size + 1, 0, none⟩) 1 1) rfl; have HCC := Lib.hid (HCC.out.trans hcx); clear hcx
  go_wp2_with fail
  go_ret
  exact ⟨rfl, HCC.out⟩
end Go.Proofs.Ytjplamoofkcojaa.obj
