/- How many steps an operation of any object has, if none, or some, of its attempts fail: the reference. -/
import Derived.Test.YtjplamoofkcojaaBnd2
import Derived.Test.YtjplamoofkcojaaObj4
namespace Go.Proofs.Ytjplamoofkcojaa.obj
open Go Go.RowKit Go.Proofs.Ytjplamoofkcojaa.kit
set_option linter.unusedVariables false
set_option maxRecDepth 20000

set_option maxHeartbeats 4000000 in
theorem rTries_any (k : Int) (w s c st : Int) (ia : Option Addr) (il ic : Nat) (wr : Int) (ra : Option Addr) (rl rc : Nat) (op : Int) (h : ObjW k w s c st il rl) (W : World) :
    Calls Try.prog 33 #[.agg #[.int .i64 k, .int .i64 w, .int .i64 s, .int .i64 c, .int .u32 st, .slice ia il ic, .int .i64 wr, .slice ra rl rc], .int .i64 op] W fun e W' => e = .returned (.bool (rightB k w s c st il rl && retB k op)) ∧ Chg [] W W' := by
  have HRR := Lib.hid (fun u => rRight_any k w s c st ia il ic wr ra rl rc h u)
  clear h
  have HBX : Hid (Blk (W.alloc (.cells #[.int .i64 k, .int .i64 w, .int .i64 s, .int .i64 c, .int .u32 st, .slice ia il ic, .int .i64 wr, .slice ra rl rc] 26)) W.heap.size #[.int .i64 k, .int .i64 w, .int .i64 s, .int .i64 c, .int .u32 st, .slice ia il ic, .int .i64 wr, .slice ra rl rc] 26) := Lib.hid (Blk.new W _ _)
  have HCC : Hid (Chg [] W (W.alloc (.cells #[.int .i64 k, .int .i64 w, .int .i64 s, .int .i64 c, .int .u32 st, .slice ia il ic, .int .i64 wr, .slice ra rl rc] 26))) := Lib.hid ((Chg.refl _ _).alloc _)
  cases hg : rightB k w s c st il rl
  · have HG := Lib.hid hg
    rw [Bool.false_and]
    clear hg
    go_enter Try.func33, Try.ntmps33
    go_wp2_with (go_at_call 35; refine (HRR.out _).mono ?_; rintro e wx ⟨rfl, hcx⟩; rw [HG.out]; have HBX := Lib.hid (Blk.keep HBX.out hcx (by simp)); have e0 := HBX.out.cell (o := 0) (v := .int .i64 k) rfl; have e1 := HBX.out.cell (o := 1) (v := .int .i64 w) rfl; have e2 := HBX.out.cell (o := 2) (v := .int .i64 s) rfl; have e3 := HBX.out.cell (o := 3) (v := .int .i64 c) rfl; have e4 := HBX.out.cell (o := 4) (v := .int .u32 st) rfl; have e5 := HBX.out.cell (o := 5) (v := .slice ia il ic) rfl; have e6 := HBX.out.cell (o := 6) (v := .int .i64 wr) rfl; have e7 := HBX.out.cell (o := 7) (v := .slice ra rl rc) rfl; have HCC := Lib.hid (HCC.out.trans hcx); clear hcx)
    go_ret
    exact ⟨rfl, HCC.out⟩
  · have HG := Lib.hid hg
    rw [Bool.true_and]
    clear hg
    generalize hr : retB k op = r
    have HR := Lib.hid hr
    clear hr
    go_enter Try.func33, Try.ntmps33
    go_wp2_with (go_at_call 35; refine (HRR.out _).mono ?_; rintro e wx ⟨rfl, hcx⟩; rw [HG.out]; have HBX := Lib.hid (Blk.keep HBX.out hcx (by simp)); have e0 := HBX.out.cell (o := 0) (v := .int .i64 k) rfl; have e1 := HBX.out.cell (o := 1) (v := .int .i64 w) rfl; have e2 := HBX.out.cell (o := 2) (v := .int .i64 s) rfl; have e3 := HBX.out.cell (o := 3) (v := .int .i64 c) rfl; have e4 := HBX.out.cell (o := 4) (v := .int .u32 st) rfl; have e5 := HBX.out.cell (o := 5) (v := .slice ia il ic) rfl; have e6 := HBX.out.cell (o := 6) (v := .int .i64 wr) rfl; have e7 := HBX.out.cell (o := 7) (v := .slice ra rl rc) rfl; have HCC := Lib.hid (HCC.out.trans hcx); clear hcx)
    all_goals (go_ret; refine ⟨?_, HCC.out⟩; rw [← HR.out]; refine ret_bool ?_; rw [Bool.eq_iff_iff]; (first | (simp [retB]; done) | (simp [retB]; omega) | (simp_all [retB]; done) | (simp_all [retB]; omega) | (trace_state; fail)))

set_option maxHeartbeats 4000000 in
theorem rFail_any (k : Int) (w s c st : Int) (ia : Option Addr) (il ic : Nat) (wr : Int) (ra : Option Addr) (rl rc : Nat) (op : Int) (h : ObjW k w s c st il rl) (W : World) :
    Calls Try.prog 14 #[.agg #[.int .i64 k, .int .i64 w, .int .i64 s, .int .i64 c, .int .u32 st, .slice ia il ic, .int .i64 wr, .slice ra rl rc], .int .i64 op] W fun e W' => e = .returned (.int .i64 (failI k w s c st il rl op)) ∧ Chg [] W W' := by
  have HT := Lib.hid (fun u => rTries_any k w s c st ia il ic wr ra rl rc op h u)
  have HB := Lib.hid (fun u => rBound_any k w s c st ia il ic wr ra rl rc op h u)
  clear h
  have HBX : Hid (Blk (W.alloc (.cells #[.int .i64 k, .int .i64 w, .int .i64 s, .int .i64 c, .int .u32 st, .slice ia il ic, .int .i64 wr, .slice ra rl rc] 26)) W.heap.size #[.int .i64 k, .int .i64 w, .int .i64 s, .int .i64 c, .int .u32 st, .slice ia il ic, .int .i64 wr, .slice ra rl rc] 26) := Lib.hid (Blk.new W _ _)
  have HCC : Hid (Chg [] W (W.alloc (.cells #[.int .i64 k, .int .i64 w, .int .i64 s, .int .i64 c, .int .u32 st, .slice ia il ic, .int .i64 wr, .slice ra rl rc] 26))) := Lib.hid ((Chg.refl _ _).alloc _)
  cases hg : (rightB k w s c st il rl && retB k op)
  · have HG := Lib.hid hg
    rw [show failI k w s c st il rl op = 0 from by unfold failI; rw [hg]; rfl]
    clear hg
    go_enter Try.func14, Try.ntmps14
    go_wp2_with (first | (go_at_call 33; refine (HT.out _).mono ?_; rintro e wx ⟨rfl, hcx⟩; rw [HG.out]; have HBX := Lib.hid (Blk.keep HBX.out hcx (by simp)); have e0 := HBX.out.cell (o := 0) (v := .int .i64 k) rfl; have e1 := HBX.out.cell (o := 1) (v := .int .i64 w) rfl; have e2 := HBX.out.cell (o := 2) (v := .int .i64 s) rfl; have e3 := HBX.out.cell (o := 3) (v := .int .i64 c) rfl; have e4 := HBX.out.cell (o := 4) (v := .int .u32 st) rfl; have e5 := HBX.out.cell (o := 5) (v := .slice ia il ic) rfl; have e6 := HBX.out.cell (o := 6) (v := .int .i64 wr) rfl; have e7 := HBX.out.cell (o := 7) (v := .slice ra rl rc) rfl; have HCC := Lib.hid (HCC.out.trans hcx); clear hcx) | (go_at_call 16; refine (HB.out _).mono ?_; rintro e wx ⟨rfl, hcx⟩; have HBX := Lib.hid (Blk.keep HBX.out hcx (by simp)); have e0 := HBX.out.cell (o := 0) (v := .int .i64 k) rfl; have e1 := HBX.out.cell (o := 1) (v := .int .i64 w) rfl; have e2 := HBX.out.cell (o := 2) (v := .int .i64 s) rfl; have e3 := HBX.out.cell (o := 3) (v := .int .i64 c) rfl; have e4 := HBX.out.cell (o := 4) (v := .int .u32 st) rfl; have e5 := HBX.out.cell (o := 5) (v := .slice ia il ic) rfl; have e6 := HBX.out.cell (o := 6) (v := .int .i64 wr) rfl; have e7 := HBX.out.cell (o := 7) (v := .slice ra rl rc) rfl; have HCC := Lib.hid (HCC.out.trans hcx); clear hcx))
    go_ret
    exact ⟨rfl, HCC.out⟩
  · have HG := Lib.hid hg
    obtain ⟨_, ⟨hw1, hw2⟩, _⟩ := tries_parts hg
    have HV := Lib.hid (show failI k w s c st il rl op = (if k = 5 then 3 else w + 2) from by unfold failI; rw [hg]; rfl)
    clear hg
    by_cases h5 : k = 5
    · rw [HV.out, if_pos h5]
      have h5b : (k == 5) = true := by simpa using h5
      clear h5
      go_enter Try.func14, Try.ntmps14
      go_wp2_with (first | (go_at_call 33; refine (HT.out _).mono ?_; rintro e wx ⟨rfl, hcx⟩; rw [HG.out]; have HBX := Lib.hid (Blk.keep HBX.out hcx (by simp)); have e0 := HBX.out.cell (o := 0) (v := .int .i64 k) rfl; have e1 := HBX.out.cell (o := 1) (v := .int .i64 w) rfl; have e2 := HBX.out.cell (o := 2) (v := .int .i64 s) rfl; have e3 := HBX.out.cell (o := 3) (v := .int .i64 c) rfl; have e4 := HBX.out.cell (o := 4) (v := .int .u32 st) rfl; have e5 := HBX.out.cell (o := 5) (v := .slice ia il ic) rfl; have e6 := HBX.out.cell (o := 6) (v := .int .i64 wr) rfl; have e7 := HBX.out.cell (o := 7) (v := .slice ra rl rc) rfl; have HCC := Lib.hid (HCC.out.trans hcx); clear hcx) | (go_at_call 16; refine (HB.out _).mono ?_; rintro e wx ⟨rfl, hcx⟩; have HBX := Lib.hid (Blk.keep HBX.out hcx (by simp)); have e0 := HBX.out.cell (o := 0) (v := .int .i64 k) rfl; have e1 := HBX.out.cell (o := 1) (v := .int .i64 w) rfl; have e2 := HBX.out.cell (o := 2) (v := .int .i64 s) rfl; have e3 := HBX.out.cell (o := 3) (v := .int .i64 c) rfl; have e4 := HBX.out.cell (o := 4) (v := .int .u32 st) rfl; have e5 := HBX.out.cell (o := 5) (v := .slice ia il ic) rfl; have e6 := HBX.out.cell (o := 6) (v := .int .i64 wr) rfl; have e7 := HBX.out.cell (o := 7) (v := .slice ra rl rc) rfl; have HCC := Lib.hid (HCC.out.trans hcx); clear hcx))
      go_ret
      exact ⟨by rfl, HCC.out⟩
    · rw [HV.out, if_neg h5]
      have h5b : (k == 5) = false := by simpa using h5
      go_enter Try.func14, Try.ntmps14
      go_wp2_with (first | (go_at_call 33; refine (HT.out _).mono ?_; rintro e wx ⟨rfl, hcx⟩; rw [HG.out]; have HBX := Lib.hid (Blk.keep HBX.out hcx (by simp)); have e0 := HBX.out.cell (o := 0) (v := .int .i64 k) rfl; have e1 := HBX.out.cell (o := 1) (v := .int .i64 w) rfl; have e2 := HBX.out.cell (o := 2) (v := .int .i64 s) rfl; have e3 := HBX.out.cell (o := 3) (v := .int .i64 c) rfl; have e4 := HBX.out.cell (o := 4) (v := .int .u32 st) rfl; have e5 := HBX.out.cell (o := 5) (v := .slice ia il ic) rfl; have e6 := HBX.out.cell (o := 6) (v := .int .i64 wr) rfl; have e7 := HBX.out.cell (o := 7) (v := .slice ra rl rc) rfl; have HCC := Lib.hid (HCC.out.trans hcx); clear hcx) | (go_at_call 16; refine (HB.out _).mono ?_; rintro e wx ⟨rfl, hcx⟩; have HBX := Lib.hid (Blk.keep HBX.out hcx (by simp)); have e0 := HBX.out.cell (o := 0) (v := .int .i64 k) rfl; have e1 := HBX.out.cell (o := 1) (v := .int .i64 w) rfl; have e2 := HBX.out.cell (o := 2) (v := .int .i64 s) rfl; have e3 := HBX.out.cell (o := 3) (v := .int .i64 c) rfl; have e4 := HBX.out.cell (o := 4) (v := .int .u32 st) rfl; have e5 := HBX.out.cell (o := 5) (v := .slice ia il ic) rfl; have e6 := HBX.out.cell (o := 6) (v := .int .i64 wr) rfl; have e7 := HBX.out.cell (o := 7) (v := .slice ra rl rc) rfl; have HCC := Lib.hid (HCC.out.trans hcx); clear hcx))
      go_ret
      exact ⟨by rfl, HCC.out⟩

set_option maxHeartbeats 4000000 in
theorem rClean_any (k : Int) (w s c st : Int) (ia : Option Addr) (il ic : Nat) (wr : Int) (ra : Option Addr) (rl rc : Nat) (op : Int) (h : ObjW k w s c st il rl) (W : World) :
    Calls Try.prog 12 #[.agg #[.int .i64 k, .int .i64 w, .int .i64 s, .int .i64 c, .int .u32 st, .slice ia il ic, .int .i64 wr, .slice ra rl rc], .int .i64 op] W fun e W' => e = .returned (.int .i64 (cleanI k w s c st il rl op)) ∧ Chg [] W W' := by
  have HT := Lib.hid (fun u => rTries_any k w s c st ia il ic wr ra rl rc op h u)
  have HB := Lib.hid (fun u => rBound_any k w s c st ia il ic wr ra rl rc op h u)
  clear h
  have HBX : Hid (Blk (W.alloc (.cells #[.int .i64 k, .int .i64 w, .int .i64 s, .int .i64 c, .int .u32 st, .slice ia il ic, .int .i64 wr, .slice ra rl rc] 26)) W.heap.size #[.int .i64 k, .int .i64 w, .int .i64 s, .int .i64 c, .int .u32 st, .slice ia il ic, .int .i64 wr, .slice ra rl rc] 26) := Lib.hid (Blk.new W _ _)
  have HCC : Hid (Chg [] W (W.alloc (.cells #[.int .i64 k, .int .i64 w, .int .i64 s, .int .i64 c, .int .u32 st, .slice ia il ic, .int .i64 wr, .slice ra rl rc] 26))) := Lib.hid ((Chg.refl _ _).alloc _)
  cases hg : (rightB k w s c st il rl && retB k op)
  · have HG := Lib.hid hg
    rw [show cleanI k w s c st il rl op = boundI k w s c st il rl op from by unfold cleanI; rw [hg]; rfl]
    clear hg
    go_enter Try.func12, Try.ntmps12
    go_wp2_with (first | (go_at_call 33; refine (HT.out _).mono ?_; rintro e wx ⟨rfl, hcx⟩; rw [HG.out]; have HBX := Lib.hid (Blk.keep HBX.out hcx (by simp)); have e0 := HBX.out.cell (o := 0) (v := .int .i64 k) rfl; have e1 := HBX.out.cell (o := 1) (v := .int .i64 w) rfl; have e2 := HBX.out.cell (o := 2) (v := .int .i64 s) rfl; have e3 := HBX.out.cell (o := 3) (v := .int .i64 c) rfl; have e4 := HBX.out.cell (o := 4) (v := .int .u32 st) rfl; have e5 := HBX.out.cell (o := 5) (v := .slice ia il ic) rfl; have e6 := HBX.out.cell (o := 6) (v := .int .i64 wr) rfl; have e7 := HBX.out.cell (o := 7) (v := .slice ra rl rc) rfl; have HCC := Lib.hid (HCC.out.trans hcx); clear hcx) | (go_at_call 16; refine (HB.out _).mono ?_; rintro e wx ⟨rfl, hcx⟩; have HBX := Lib.hid (Blk.keep HBX.out hcx (by simp)); have e0 := HBX.out.cell (o := 0) (v := .int .i64 k) rfl; have e1 := HBX.out.cell (o := 1) (v := .int .i64 w) rfl; have e2 := HBX.out.cell (o := 2) (v := .int .i64 s) rfl; have e3 := HBX.out.cell (o := 3) (v := .int .i64 c) rfl; have e4 := HBX.out.cell (o := 4) (v := .int .u32 st) rfl; have e5 := HBX.out.cell (o := 5) (v := .slice ia il ic) rfl; have e6 := HBX.out.cell (o := 6) (v := .int .i64 wr) rfl; have e7 := HBX.out.cell (o := 7) (v := .slice ra rl rc) rfl; have HCC := Lib.hid (HCC.out.trans hcx); clear hcx))
    go_ret
    exact ⟨rfl, HCC.out⟩
  · have HG := Lib.hid hg
    obtain ⟨_, ⟨hw1, hw2⟩, _⟩ := tries_parts hg
    have HV := Lib.hid (show cleanI k w s c st il rl op = (if k = 5 then w + 4 else w + 2) from by unfold cleanI; rw [hg]; rfl)
    clear hg
    by_cases h5 : k = 5
    · rw [HV.out, if_pos h5]
      have h5b : (k == 5) = true := by simpa using h5
      clear h5
      go_enter Try.func12, Try.ntmps12
      go_wp2_with (first | (go_at_call 33; refine (HT.out _).mono ?_; rintro e wx ⟨rfl, hcx⟩; rw [HG.out]; have HBX := Lib.hid (Blk.keep HBX.out hcx (by simp)); have e0 := HBX.out.cell (o := 0) (v := .int .i64 k) rfl; have e1 := HBX.out.cell (o := 1) (v := .int .i64 w) rfl; have e2 := HBX.out.cell (o := 2) (v := .int .i64 s) rfl; have e3 := HBX.out.cell (o := 3) (v := .int .i64 c) rfl; have e4 := HBX.out.cell (o := 4) (v := .int .u32 st) rfl; have e5 := HBX.out.cell (o := 5) (v := .slice ia il ic) rfl; have e6 := HBX.out.cell (o := 6) (v := .int .i64 wr) rfl; have e7 := HBX.out.cell (o := 7) (v := .slice ra rl rc) rfl; have HCC := Lib.hid (HCC.out.trans hcx); clear hcx) | (go_at_call 16; refine (HB.out _).mono ?_; rintro e wx ⟨rfl, hcx⟩; have HBX := Lib.hid (Blk.keep HBX.out hcx (by simp)); have e0 := HBX.out.cell (o := 0) (v := .int .i64 k) rfl; have e1 := HBX.out.cell (o := 1) (v := .int .i64 w) rfl; have e2 := HBX.out.cell (o := 2) (v := .int .i64 s) rfl; have e3 := HBX.out.cell (o := 3) (v := .int .i64 c) rfl; have e4 := HBX.out.cell (o := 4) (v := .int .u32 st) rfl; have e5 := HBX.out.cell (o := 5) (v := .slice ia il ic) rfl; have e6 := HBX.out.cell (o := 6) (v := .int .i64 wr) rfl; have e7 := HBX.out.cell (o := 7) (v := .slice ra rl rc) rfl; have HCC := Lib.hid (HCC.out.trans hcx); clear hcx))
      go_ret
      exact ⟨by rfl, HCC.out⟩
    · rw [HV.out, if_neg h5]
      have h5b : (k == 5) = false := by simpa using h5
      go_enter Try.func12, Try.ntmps12
      go_wp2_with (first | (go_at_call 33; refine (HT.out _).mono ?_; rintro e wx ⟨rfl, hcx⟩; rw [HG.out]; have HBX := Lib.hid (Blk.keep HBX.out hcx (by simp)); have e0 := HBX.out.cell (o := 0) (v := .int .i64 k) rfl; have e1 := HBX.out.cell (o := 1) (v := .int .i64 w) rfl; have e2 := HBX.out.cell (o := 2) (v := .int .i64 s) rfl; have e3 := HBX.out.cell (o := 3) (v := .int .i64 c) rfl; have e4 := HBX.out.cell (o := 4) (v := .int .u32 st) rfl; have e5 := HBX.out.cell (o := 5) (v := .slice ia il ic) rfl; have e6 := HBX.out.cell (o := 6) (v := .int .i64 wr) rfl; have e7 := HBX.out.cell (o := 7) (v := .slice ra rl rc) rfl; have HCC := Lib.hid (HCC.out.trans hcx); clear hcx) | (go_at_call 16; refine (HB.out _).mono ?_; rintro e wx ⟨rfl, hcx⟩; have HBX := Lib.hid (Blk.keep HBX.out hcx (by simp)); have e0 := HBX.out.cell (o := 0) (v := .int .i64 k) rfl; have e1 := HBX.out.cell (o := 1) (v := .int .i64 w) rfl; have e2 := HBX.out.cell (o := 2) (v := .int .i64 s) rfl; have e3 := HBX.out.cell (o := 3) (v := .int .i64 c) rfl; have e4 := HBX.out.cell (o := 4) (v := .int .u32 st) rfl; have e5 := HBX.out.cell (o := 5) (v := .slice ia il ic) rfl; have e6 := HBX.out.cell (o := 6) (v := .int .i64 wr) rfl; have e7 := HBX.out.cell (o := 7) (v := .slice ra rl rc) rfl; have HCC := Lib.hid (HCC.out.trans hcx); clear hcx))
      go_ret
      exact ⟨by rfl, HCC.out⟩

theorem after_exit (k w s c st il rl op fails : Int) (j : Nat) (hj : (j : Int) = 0 ∨ ((j : Int) ≤ fails ∧ (j : Int) ≤ wrap64 (c - 1))) (he : ¬ ((j : Int) < fails ∧ (j : Int) < wrap64 (c - 1))) :
    cleanI k w s c st il rl op + j * failI k w s c st il rl op = afterI k w s c st il rl op fails := by
  unfold afterI
  cases h : (rightB k w s c st il rl && retB k op)
  · rw [(fail_none h).1, Int.mul_zero, Int.mul_zero]
  · obtain ⟨hc, _⟩ := tries_parts h
    have hw : wrap64 (c - 1) = c - 1 := by unfold wrap64; omega
    rw [hw] at hj he
    rw [show max 0 (min fails (max (c - 1) 0)) = (j : Int) by omega]
theorem fail_bd (k w s c st il rl op : Int) : 0 ≤ failI k w s c st il rl op ∧ failI k w s c st il rl op ≤ 10 := by
  cases h : (rightB k w s c st il rl && retB k op)
  · rw [(fail_none h).1]; omega
  · have := (tries_parts h).2.2.2.1; omega
theorem clean_bd (k w s c st il rl op : Int) : 0 ≤ cleanI k w s c st il rl op ∧ cleanI k w s c st il rl op ≤ 200 := by
  cases h : (rightB k w s c st il rl && retB k op)
  · rw [(fail_none h).2]; exact bound_bd k w s c st il rl op
  · have := (tries_parts h).2.2.2.2; omega
set_option maxHeartbeats 4000000 in
theorem rAfter_any (k : Int) (w s c st : Int) (ia : Option Addr) (il ic : Nat) (wtr : Int) (ra : Option Addr) (rl rc : Nat) (op fails : Int) (hf : fails ≤ 100) (h : ObjW k w s c st il rl) (W : World) :
    Calls Try.prog 15 #[.agg #[.int .i64 k, .int .i64 w, .int .i64 s, .int .i64 c, .int .u32 st, .slice ia il ic, .int .i64 wtr, .slice ra rl rc], .int .i64 op, .int .i64 fails] W fun e W' => e = .returned (.int .i64 (afterI k w s c st il rl op fails)) ∧ Chg [] W W' := by
  have HF := Lib.hid (fun u => rFail_any k w s c st ia il ic wtr ra rl rc op h u)
  have HX := Lib.hid (fun u => rClean_any k w s c st ia il ic wtr ra rl rc op h u)
  have HFB := Lib.hid (fail_bd k w s c st il rl op)
  have HCB := Lib.hid (clean_bd k w s c st il rl op)
  have HEX := Lib.hid (after_exit k w s c st il rl op fails)
  clear h
  have HBX : Hid (Blk (W.alloc (.cells #[.int .i64 k, .int .i64 w, .int .i64 s, .int .i64 c, .int .u32 st, .slice ia il ic, .int .i64 wtr, .slice ra rl rc] 26)) W.heap.size #[.int .i64 k, .int .i64 w, .int .i64 s, .int .i64 c, .int .u32 st, .slice ia il ic, .int .i64 wtr, .slice ra rl rc] 26) := Lib.hid (Blk.new W _ _)
  have HCC : Hid (Chg [] W (W.alloc (.cells #[.int .i64 k, .int .i64 w, .int .i64 s, .int .i64 c, .int .u32 st, .slice ia il ic, .int .i64 wtr, .slice ra rl rc] 26))) := Lib.hid ((Chg.refl _ _).alloc _)
  generalize failI k w s c st il rl op = fv at *
  generalize cleanI k w s c st il rl op = cv at *
  generalize afterI k w s c st il rl op fails = av at *
  go_enter Try.func15, Try.ntmps15
  go_wp2_with (go_at_call 12; refine (HX.out _).mono ?_; rintro e W0 ⟨rfl, hcx⟩; have HBX := Lib.hid (Blk.keep HBX.out hcx (by simp)); have e0 := HBX.out.cell (o := 0) (v := .int .i64 k) rfl; have e1 := HBX.out.cell (o := 1) (v := .int .i64 w) rfl; have e2 := HBX.out.cell (o := 2) (v := .int .i64 s) rfl; have e3 := HBX.out.cell (o := 3) (v := .int .i64 c) rfl; have e4 := HBX.out.cell (o := 4) (v := .int .u32 st) rfl; have e5 := HBX.out.cell (o := 5) (v := .slice ia il ic) rfl; have e6 := HBX.out.cell (o := 6) (v := .int .i64 wtr) rfl; have e7 := HBX.out.cell (o := 7) (v := .slice ra rl rc) rfl; have HCC := Lib.hid (HCC.out.trans hcx); clear hcx)
  have HC0 := HCC
  have HB0 := HBX
  clear HCC HBX e0 e1 e2 e3 e4 e5 e6 e7
  go_loopw [7, 8] (fun n i wr => ∃ j : Nat, j ≤ 100 ∧ i = .int .i64 j ∧ n = .int .i64 (cv + j * fv) ∧ Hid ((j : Int) = 0 ∨ ((j : Int) ≤ fails ∧ (j : Int) ≤ wrap64 (c - 1))) ∧ Hid (Chg [] W0 wr)) (fun _ i _ => 101 - (intOf i).toNat)
  case atStart => exact ⟨0, by omega, rfl, by simp, Lib.hid (.inl rfl), Lib.hid (Chg.refl _ _)⟩
  case round =>
    obtain ⟨j, hj, rfl, rfl, HJ, HG⟩ := hrel
    have HBX := Lib.hid (Blk.keep HB0.out HG.out (by simp))
    have HCC := Lib.hid (HC0.out.trans HG.out)
    have e0 := HBX.out.cell (o := 0) (v := .int .i64 k) rfl; have e1 := HBX.out.cell (o := 1) (v := .int .i64 w) rfl; have e2 := HBX.out.cell (o := 2) (v := .int .i64 s) rfl; have e3 := HBX.out.cell (o := 3) (v := .int .i64 c) rfl; have e4 := HBX.out.cell (o := 4) (v := .int .u32 st) rfl; have e5 := HBX.out.cell (o := 5) (v := .slice ia il ic) rfl; have e6 := HBX.out.cell (o := 6) (v := .int .i64 wtr) rfl; have e7 := HBX.out.cell (o := 7) (v := .slice ra rl rc) rfl
    have hm : 0 ≤ (j : Int) * fv ∧ (j : Int) * fv ≤ 1000 := by
      have h1 : (j : Int) * fv ≤ 100 * fv := Int.mul_le_mul_of_nonneg_right (by omega) HFB.out.1
      have h2 : 0 ≤ (j : Int) * fv := Int.mul_nonneg (by omega) HFB.out.1
      have := HFB.out; omega
    have hs : cv + ((j + 1 : Nat) : Int) * fv = cv + j * fv + fv := by rw [Int.natCast_add, Int.add_mul]; simp; omega
    have HS := Lib.hid hs
    have hnb : 0 ≤ cv + j * fv ∧ cv + j * fv ≤ 1200 := by have := HCB.out; omega
    have hfb := HFB.out
    clear hs hm
    by_cases hA : (j : Int) < fails
    · by_cases hB : (j : Int) < wrap64 (c - 1)
      · have bA : decide ((j : Int) < fails) = true := by simpa using hA
        have bB : decide ((j : Int) < wrap64 (c - 1)) = true := by simpa using hB
        have HAB := Lib.hid (And.intro hA hB)
        generalize cv + (j : Int) * fv = nv at *
        clear hB
        go_wp2_with (go_at_call 14; refine (HF.out _).mono ?_; rintro e wx ⟨rfl, hcx⟩; have HCX := Lib.hid hcx; clear hcx)
        go_roundw
        case rel => exact ⟨j + 1, by have := HAB.out; omega, by go_num, by rw [HS.out], Lib.hid (.inr (by have := HAB.out; omega)), Lib.hid (HG.out.trans HCX.out)⟩
        case measure => simp [intOf]; omega
      · have hE := HEX.out j HJ.out (fun hh => hB hh.2)
        have bA : decide ((j : Int) < fails) = true := by simpa using hA
        have bB : decide ((j : Int) < wrap64 (c - 1)) = false := by simpa using hB
        rw [hE]
        clear hB hE hnb
        go_wp2_with fail
        go_ret
        exact ⟨rfl, HCC.out⟩
    · have hE := HEX.out j HJ.out (fun hh => hA hh.1)
      rw [hE]
      clear hE hnb
      go_wp2_with fail
      go_ret
      exact ⟨rfl, HCC.out⟩

theorem after_cap (k w s c st il rl op : Int) : afterI k w s c st il rl op c = boundI k w s c st il rl op := by
  unfold afterI
  cases h : (rightB k w s c st il rl && retB k op)
  · obtain ⟨h1, h2⟩ := fail_none h
    rw [h1, h2, Int.mul_zero, Int.add_zero]
  · obtain ⟨hc, hw, hB, hF, hC⟩ := tries_parts h
    rw [hB, show max 0 (min c (max (c - 1) 0)) = c - 1 by omega]; omega
theorem after_many (k w s c st il rl op fails : Int) (hf : 100 < fails) : afterI k w s c st il rl op fails = boundI k w s c st il rl op := by
  unfold afterI
  cases h : (rightB k w s c st il rl && retB k op)
  · obtain ⟨h1, h2⟩ := fail_none h
    rw [h1, h2, Int.mul_zero, Int.add_zero]
  · obtain ⟨hc, hw, hB, hF, hC⟩ := tries_parts h
    rw [hB, show max 0 (min fails (max (c - 1) 0)) = c - 1 by omega]; omega
end Go.Proofs.Ytjplamoofkcojaa.obj
