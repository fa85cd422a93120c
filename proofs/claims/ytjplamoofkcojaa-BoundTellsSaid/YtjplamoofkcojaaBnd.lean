/- How many steps an operation of any object has: object.Bound, bound. -/
import Derived.Test.YtjplamoofkcojaaObj3
namespace Go.Proofs.Ytjplamoofkcojaa.obj
open Go Go.RowKit Go.Proofs.Ytjplamoofkcojaa.kit
set_option linter.unusedVariables false
set_option maxRecDepth 20000

set_option maxHeartbeats 4000000 in
theorem objBound_1 (w s c st : Int) (ia : Option Addr) (il ic : Nat) (wr : Int) (ra : Option Addr) (rl rc : Nat) (op : Int) (h : ObjW 1 w s c st il rl) (W : World) :
    Calls Try.prog 32 #[.agg #[.int .i64 1, .int .i64 w, .int .i64 s, .int .i64 c, .int .u32 st, .slice ia il ic, .int .i64 wr, .slice ra rl rc], .int .i64 op] W fun e W' => e = .returned (.int .i64 (boundI 1 w s c st il rl op)) ∧ Chg [] W W' := by
  have HX := Lib.hid (fun u => fourBound_any 1 w s c st ia il ic wr ra rl rc op h u)
  have HV := Lib.hid (show (if decide ((1 : Int) = 1) && rightB 1 w s c st il rl then boundK 1 w c rl op else 0) = boundI 1 w s c st il rl op from by simp [boundI])
  clear h
  go_enter Try.func32, Try.ntmps32
  go_wp2_with (go_at_call 60; refine (HX.out _).mono ?_; rintro e wx ⟨rfl, hcx⟩; rw [HV.out])
  go_ret
  exact ⟨rfl, ((Chg.refl _ _).alloc _).trans hcx⟩

set_option maxHeartbeats 4000000 in
theorem objBound_2 (w s c st : Int) (ia : Option Addr) (il ic : Nat) (wr : Int) (ra : Option Addr) (rl rc : Nat) (op : Int) (h : ObjW 2 w s c st il rl) (W : World) :
    Calls Try.prog 32 #[.agg #[.int .i64 2, .int .i64 w, .int .i64 s, .int .i64 c, .int .u32 st, .slice ia il ic, .int .i64 wr, .slice ra rl rc], .int .i64 op] W fun e W' => e = .returned (.int .i64 (boundI 2 w s c st il rl op)) ∧ Chg [] W W' := by
  have HX := Lib.hid (fun u => chenBound_any 2 w s c st ia il ic wr ra rl rc op h u)
  have HV := Lib.hid (show (if decide ((2 : Int) = 2) && rightB 2 w s c st il rl then boundK 2 w c rl op else 0) = boundI 2 w s c st il rl op from by simp [boundI])
  clear h
  go_enter Try.func32, Try.ntmps32
  go_wp2_with (go_at_call 61; refine (HX.out _).mono ?_; rintro e wx ⟨rfl, hcx⟩; rw [HV.out])
  go_ret
  exact ⟨rfl, ((Chg.refl _ _).alloc _).trans hcx⟩

set_option maxHeartbeats 4000000 in
theorem objBound_3 (w s c st : Int) (ia : Option Addr) (il ic : Nat) (wr : Int) (ra : Option Addr) (rl rc : Nat) (op : Int) (h : ObjW 3 w s c st il rl) (W : World) :
    Calls Try.prog 32 #[.agg #[.int .i64 3, .int .i64 w, .int .i64 s, .int .i64 c, .int .u32 st, .slice ia il ic, .int .i64 wr, .slice ra rl rc], .int .i64 op] W fun e W' => e = .returned (.int .i64 (boundI 3 w s c st il rl op)) ∧ Chg [] W W' := by
  have HX := Lib.hid (fun u => seqBound_any 3 w s c st ia il ic wr ra rl rc op h u)
  have HV := Lib.hid (show (if decide ((3 : Int) = 3) && rightB 3 w s c st il rl then boundK 3 w c rl op else 0) = boundI 3 w s c st il rl op from by simp [boundI])
  clear h
  go_enter Try.func32, Try.ntmps32
  go_wp2_with (go_at_call 62; refine (HX.out _).mono ?_; rintro e wx ⟨rfl, hcx⟩; rw [HV.out])
  go_ret
  exact ⟨rfl, ((Chg.refl _ _).alloc _).trans hcx⟩

set_option maxHeartbeats 4000000 in
theorem objBound_4 (w s c st : Int) (ia : Option Addr) (il ic : Nat) (wr : Int) (ra : Option Addr) (rl rc : Nat) (op : Int) (h : ObjW 4 w s c st il rl) (W : World) :
    Calls Try.prog 32 #[.agg #[.int .i64 4, .int .i64 w, .int .i64 s, .int .i64 c, .int .u32 st, .slice ia il ic, .int .i64 wr, .slice ra rl rc], .int .i64 op] W fun e W' => e = .returned (.int .i64 (boundI 4 w s c st il rl op)) ∧ Chg [] W W' := by
  have HX := Lib.hid (fun u => ringBound_any 4 w s c st ia il ic wr ra rl rc op h u)
  have HV := Lib.hid (show (if decide ((4 : Int) = 4) && rightB 4 w s c st il rl then boundK 4 w c rl op else 0) = boundI 4 w s c st il rl op from by simp [boundI])
  clear h
  go_enter Try.func32, Try.ntmps32
  go_wp2_with (go_at_call 63; refine (HX.out _).mono ?_; rintro e wx ⟨rfl, hcx⟩; rw [HV.out])
  go_ret
  exact ⟨rfl, ((Chg.refl _ _).alloc _).trans hcx⟩

set_option maxHeartbeats 4000000 in
theorem objBound_5 (w s c st : Int) (ia : Option Addr) (il ic : Nat) (wr : Int) (ra : Option Addr) (rl rc : Nat) (op : Int) (h : ObjW 5 w s c st il rl) (W : World) :
    Calls Try.prog 32 #[.agg #[.int .i64 5, .int .i64 w, .int .i64 s, .int .i64 c, .int .u32 st, .slice ia il ic, .int .i64 wr, .slice ra rl rc], .int .i64 op] W fun e W' => e = .returned (.int .i64 (boundI 5 w s c st il rl op)) ∧ Chg [] W W' := by
  have HX := Lib.hid (fun u => cabBound_any 5 w s c st ia il ic wr ra rl rc op h u)
  have HV := Lib.hid (show (if decide ((5 : Int) = 5) && rightB 5 w s c st il rl then boundK 5 w c rl op else 0) = boundI 5 w s c st il rl op from by simp [boundI])
  clear h
  go_enter Try.func32, Try.ntmps32
  go_wp2_with (go_at_call 64; refine (HX.out _).mono ?_; rintro e wx ⟨rfl, hcx⟩; rw [HV.out])
  go_ret
  exact ⟨rfl, ((Chg.refl _ _).alloc _).trans hcx⟩

set_option maxHeartbeats 4000000 in
theorem objBound_6 (w s c st : Int) (ia : Option Addr) (il ic : Nat) (wr : Int) (ra : Option Addr) (rl rc : Nat) (op : Int) (h : ObjW 6 w s c st il rl) (W : World) :
    Calls Try.prog 32 #[.agg #[.int .i64 6, .int .i64 w, .int .i64 s, .int .i64 c, .int .u32 st, .slice ia il ic, .int .i64 wr, .slice ra rl rc], .int .i64 op] W fun e W' => e = .returned (.int .i64 (boundI 6 w s c st il rl op)) ∧ Chg [] W W' := by
  have HX := Lib.hid (fun u => fifoBound_any 6 w s c st ia il ic wr ra rl rc op h u)
  have HV := Lib.hid (show (if decide ((6 : Int) = 6) && rightB 6 w s c st il rl then boundK 6 w c rl op else 0) = boundI 6 w s c st il rl op from by simp [boundI])
  clear h
  go_enter Try.func32, Try.ntmps32
  go_wp2_with (go_at_call 65; refine (HX.out _).mono ?_; rintro e wx ⟨rfl, hcx⟩; rw [HV.out])
  go_ret
  exact ⟨rfl, ((Chg.refl _ _).alloc _).trans hcx⟩

set_option maxHeartbeats 4000000 in
theorem objBound_any (k : Int) (w s c st : Int) (ia : Option Addr) (il ic : Nat) (wr : Int) (ra : Option Addr) (rl rc : Nat) (op : Int) (h : ObjW k w s c st il rl) (W : World) :
    Calls Try.prog 32 #[.agg #[.int .i64 k, .int .i64 w, .int .i64 s, .int .i64 c, .int .u32 st, .slice ia il ic, .int .i64 wr, .slice ra rl rc], .int .i64 op] W fun e W' => e = .returned (.int .i64 (boundI k w s c st il rl op)) ∧ Chg [] W W' := by
  have hk : k = 1 ∨ k = 2 ∨ k = 3 ∨ k = 4 ∨ k = 5 ∨ k = 6 ∨ (k < 1 ∨ 6 < k) := by omega
  rcases hk with rfl | rfl | rfl | rfl | rfl | rfl | hk
  · exact objBound_1 w s c st ia il ic wr ra rl rc op h W
  · exact objBound_2 w s c st ia il ic wr ra rl rc op h W
  · exact objBound_3 w s c st ia il ic wr ra rl rc op h W
  · exact objBound_4 w s c st ia il ic wr ra rl rc op h W
  · exact objBound_5 w s c st ia il ic wr ra rl rc op h W
  · exact objBound_6 w s c st ia il ic wr ra rl rc op h W
  · have HX := Lib.hid (fun u => fifoBound_any k w s c st ia il ic wr ra rl rc op h u)
    have HV := Lib.hid (show (if decide (k = 6) && rightB k w s c st il rl then boundK 6 w c rl op else 0) = boundI k w s c st il rl op from by simp [boundI, rightB_out k w s c st il rl hk])
    clear h
    have n1 : (k == 1) = false := by simp; omega
    have n2 : (k == 2) = false := by simp; omega
    have n3 : (k == 3) = false := by simp; omega
    have n4 : (k == 4) = false := by simp; omega
    have n5 : (k == 5) = false := by simp; omega
    have n6 : (k == 6) = false := by simp; omega
    go_enter Try.func32, Try.ntmps32
    go_wp2_with (go_at_call 65; refine (HX.out _).mono ?_; rintro e wx ⟨rfl, hcx⟩; rw [HV.out])
    go_ret
    exact ⟨rfl, ((Chg.refl _ _).alloc _).trans hcx⟩

def retB (k op : Int) : Bool := decide (op = 1 ∧ (k = 3 ∨ k = 4 ∨ k = 5))
set_option maxHeartbeats 4000000 in
theorem bRetries_any (k : Int) (w s c st : Int) (ia : Option Addr) (il ic : Nat) (wr : Int) (ra : Option Addr) (rl rc : Nat) (op : Int) (W : World) :
    Calls Try.prog 34 #[.agg #[.int .i64 k, .int .i64 w, .int .i64 s, .int .i64 c, .int .u32 st, .slice ia il ic, .int .i64 wr, .slice ra rl rc], .int .i64 op] W fun e W' => e = .returned (.bool (retB k op)) ∧ Chg [] W W' := by
  generalize hr : retB k op = r
  have HR := Lib.hid hr
  clear hr
  go_enter Try.func34, Try.ntmps34
  go_wp2
  all_goals (go_ret; refine ⟨?_, (Chg.refl _ _).alloc _⟩; rw [← HR.out]; refine ret_bool ?_; rw [Bool.eq_iff_iff]; (first | (simp [retB]; done) | (simp [retB]; omega) | (simp_all [retB]; done) | (simp_all [retB]; omega) | (trace_state; fail)))

/-- how many steps an attempt that fails has -/
def failI (k w s c st il rl op : Int) : Int := if rightB k w s c st il rl && retB k op then (if k = 5 then 3 else w + 2) else 0
theorem bound_pos (k w s c st il rl op : Int) (hr : rightB k w s c st il rl = true) (ht : retB k op = true) : 0 < boundI k w s c st il rl op ∧ boundI k w s c st il rl op ≤ 200 ∧ 1 ≤ c := by
  have hb := rightB_bd hr
  have hm := mul_bd (c := c) (w := w) ⟨hb.2.2.2.2.1, hb.2.2.2.2.2.1⟩ ⟨hb.1, hb.2.1⟩
  simp only [retB, decide_eq_true_eq] at ht
  have hc : 1 ≤ c := by simp only [rightB, decide_eq_true_eq] at hr; omega
  have hp : 0 < c * (w + 2) := Int.mul_pos (by omega) (by omega)
  unfold boundI
  rw [hr, if_pos rfl]
  obtain ⟨rfl, rfl | rfl | rfl⟩ := ht
  · simp only [boundK]; simp; omega
  · simp only [boundK]; simp; omega
  · simp only [boundK]; simp; omega
set_option maxHeartbeats 4000000 in
theorem bFail_any (k : Int) (w s c st : Int) (ia : Option Addr) (il ic : Nat) (wr : Int) (ra : Option Addr) (rl rc : Nat) (op : Int) (h : ObjW k w s c st il rl) (W : World) :
    Calls Try.prog 13 #[.agg #[.int .i64 k, .int .i64 w, .int .i64 s, .int .i64 c, .int .u32 st, .slice ia il ic, .int .i64 wr, .slice ra rl rc], .int .i64 op] W fun e W' => e = .returned (.int .i64 (failI k w s c st il rl op)) ∧ Chg [] W W' := by
  have HX := Lib.hid (fun u => objBound_any k w s c st ia il ic wr ra rl rc op h u)
  clear h
  have HBX : Hid (Blk (W.alloc (.cells #[.int .i64 k, .int .i64 w, .int .i64 s, .int .i64 c, .int .u32 st, .slice ia il ic, .int .i64 wr, .slice ra rl rc] 26)) W.heap.size #[.int .i64 k, .int .i64 w, .int .i64 s, .int .i64 c, .int .u32 st, .slice ia il ic, .int .i64 wr, .slice ra rl rc] 26) := Lib.hid (Blk.new W _ _)
  have HCC : Hid (Chg [] W (W.alloc (.cells #[.int .i64 k, .int .i64 w, .int .i64 s, .int .i64 c, .int .u32 st, .slice ia il ic, .int .i64 wr, .slice ra rl rc] 26))) := Lib.hid ((Chg.refl _ _).alloc _)
  cases hr : rightB k w s c st il rl
  · rw [show failI k w s c st il rl op = 0 from by unfold failI; rw [hr]; rfl]
    have HZ := Lib.hid (show boundI k w s c st il rl op = 0 from by unfold boundI; rw [hr]; rfl)
    clear hr
    go_enter Try.func13, Try.ntmps13
    go_wp2_with (go_at_call 32; refine (HX.out _).mono ?_; rintro e wx ⟨rfl, hcx⟩; rw [HZ.out]; have HBX := Lib.hid (Blk.keep HBX.out hcx (by simp)); have e0 := HBX.out.cell (o := 0) (v := .int .i64 k) rfl; have e1 := HBX.out.cell (o := 1) (v := .int .i64 w) rfl; have e2 := HBX.out.cell (o := 2) (v := .int .i64 s) rfl; have e3 := HBX.out.cell (o := 3) (v := .int .i64 c) rfl; have e4 := HBX.out.cell (o := 4) (v := .int .u32 st) rfl; have e5 := HBX.out.cell (o := 5) (v := .slice ia il ic) rfl; have e6 := HBX.out.cell (o := 6) (v := .int .i64 wr) rfl; have e7 := HBX.out.cell (o := 7) (v := .slice ra rl rc) rfl; have HCC := Lib.hid (HCC.out.trans hcx); clear hcx)
    go_ret
    exact ⟨rfl, HCC.out⟩
  · cases ht : retB k op
    · rw [show failI k w s c st il rl op = 0 from by unfold failI; rw [ht, Bool.and_false]; rfl]
      have HT := Lib.hid ht
      clear hr ht
      generalize boundI k w s c st il rl op = bv at *
      by_cases hz : bv = 0
      · subst hz
        go_enter Try.func13, Try.ntmps13
        go_wp2_with (go_at_call 32; refine (HX.out _).mono ?_; rintro e wx ⟨rfl, hcx⟩; have HBX := Lib.hid (Blk.keep HBX.out hcx (by simp)); have e0 := HBX.out.cell (o := 0) (v := .int .i64 k) rfl; have e1 := HBX.out.cell (o := 1) (v := .int .i64 w) rfl; have e2 := HBX.out.cell (o := 2) (v := .int .i64 s) rfl; have e3 := HBX.out.cell (o := 3) (v := .int .i64 c) rfl; have e4 := HBX.out.cell (o := 4) (v := .int .u32 st) rfl; have e5 := HBX.out.cell (o := 5) (v := .slice ia il ic) rfl; have e6 := HBX.out.cell (o := 6) (v := .int .i64 wr) rfl; have e7 := HBX.out.cell (o := 7) (v := .slice ra rl rc) rfl; have HCC := Lib.hid (HCC.out.trans hcx); clear hcx)
        go_ret
        exact ⟨rfl, HCC.out⟩
      · have hzb : (bv == 0) = false := by simpa using hz
        go_enter Try.func13, Try.ntmps13
        go_wp2_with (first | (go_at_call 32; refine (HX.out _).mono ?_; rintro e wx ⟨rfl, hcx⟩; have HBX := Lib.hid (Blk.keep HBX.out hcx (by simp)); have e0 := HBX.out.cell (o := 0) (v := .int .i64 k) rfl; have e1 := HBX.out.cell (o := 1) (v := .int .i64 w) rfl; have e2 := HBX.out.cell (o := 2) (v := .int .i64 s) rfl; have e3 := HBX.out.cell (o := 3) (v := .int .i64 c) rfl; have e4 := HBX.out.cell (o := 4) (v := .int .u32 st) rfl; have e5 := HBX.out.cell (o := 5) (v := .slice ia il ic) rfl; have e6 := HBX.out.cell (o := 6) (v := .int .i64 wr) rfl; have e7 := HBX.out.cell (o := 7) (v := .slice ra rl rc) rfl; have HCC := Lib.hid (HCC.out.trans hcx); clear hcx) | (go_at_call 34; refine (bRetries_any _ _ _ _ _ _ _ _ _ _ _ _ _ _).mono ?_; rintro e wx ⟨rfl, hcx⟩; rw [HT.out]; have HBX := Lib.hid (Blk.keep HBX.out hcx (by simp)); have e0 := HBX.out.cell (o := 0) (v := .int .i64 k) rfl; have e1 := HBX.out.cell (o := 1) (v := .int .i64 w) rfl; have e2 := HBX.out.cell (o := 2) (v := .int .i64 s) rfl; have e3 := HBX.out.cell (o := 3) (v := .int .i64 c) rfl; have e4 := HBX.out.cell (o := 4) (v := .int .u32 st) rfl; have e5 := HBX.out.cell (o := 5) (v := .slice ia il ic) rfl; have e6 := HBX.out.cell (o := 6) (v := .int .i64 wr) rfl; have e7 := HBX.out.cell (o := 7) (v := .slice ra rl rc) rfl; have HCC := Lib.hid (HCC.out.trans hcx); clear hcx))
        go_ret
        exact ⟨rfl, HCC.out⟩
    · have hp := bound_pos k w s c st il rl op hr ht
      have hb := rightB_bd hr
      have hw : 1 ≤ w ∧ w ≤ 8 := ⟨hb.1, hb.2.1⟩
      have HT := Lib.hid ht
      have HF := Lib.hid (show failI k w s c st il rl op = (if k = 5 then 3 else w + 2) from by unfold failI; rw [hr, ht]; rfl)
      clear hr ht hb
      generalize boundI k w s c st il rl op = bv at *
      have hzb : (bv == 0) = false := by simp; omega
      clear hp
      by_cases h5 : k = 5
      · rw [HF.out, if_pos h5]
        have h5b : (k == 5) = true := by simpa using h5
        clear h5
        go_enter Try.func13, Try.ntmps13
        go_wp2_with (first | (go_at_call 32; refine (HX.out _).mono ?_; rintro e wx ⟨rfl, hcx⟩; have HBX := Lib.hid (Blk.keep HBX.out hcx (by simp)); have e0 := HBX.out.cell (o := 0) (v := .int .i64 k) rfl; have e1 := HBX.out.cell (o := 1) (v := .int .i64 w) rfl; have e2 := HBX.out.cell (o := 2) (v := .int .i64 s) rfl; have e3 := HBX.out.cell (o := 3) (v := .int .i64 c) rfl; have e4 := HBX.out.cell (o := 4) (v := .int .u32 st) rfl; have e5 := HBX.out.cell (o := 5) (v := .slice ia il ic) rfl; have e6 := HBX.out.cell (o := 6) (v := .int .i64 wr) rfl; have e7 := HBX.out.cell (o := 7) (v := .slice ra rl rc) rfl; have HCC := Lib.hid (HCC.out.trans hcx); clear hcx) | (go_at_call 34; refine (bRetries_any _ _ _ _ _ _ _ _ _ _ _ _ _ _).mono ?_; rintro e wx ⟨rfl, hcx⟩; rw [HT.out]; have HBX := Lib.hid (Blk.keep HBX.out hcx (by simp)); have e0 := HBX.out.cell (o := 0) (v := .int .i64 k) rfl; have e1 := HBX.out.cell (o := 1) (v := .int .i64 w) rfl; have e2 := HBX.out.cell (o := 2) (v := .int .i64 s) rfl; have e3 := HBX.out.cell (o := 3) (v := .int .i64 c) rfl; have e4 := HBX.out.cell (o := 4) (v := .int .u32 st) rfl; have e5 := HBX.out.cell (o := 5) (v := .slice ia il ic) rfl; have e6 := HBX.out.cell (o := 6) (v := .int .i64 wr) rfl; have e7 := HBX.out.cell (o := 7) (v := .slice ra rl rc) rfl; have HCC := Lib.hid (HCC.out.trans hcx); clear hcx))
        go_ret
        exact ⟨rfl, HCC.out⟩
      · rw [HF.out, if_neg h5]
        have h5b : (k == 5) = false := by simpa using h5
        go_enter Try.func13, Try.ntmps13
        go_wp2_with (first | (go_at_call 32; refine (HX.out _).mono ?_; rintro e wx ⟨rfl, hcx⟩; have HBX := Lib.hid (Blk.keep HBX.out hcx (by simp)); have e0 := HBX.out.cell (o := 0) (v := .int .i64 k) rfl; have e1 := HBX.out.cell (o := 1) (v := .int .i64 w) rfl; have e2 := HBX.out.cell (o := 2) (v := .int .i64 s) rfl; have e3 := HBX.out.cell (o := 3) (v := .int .i64 c) rfl; have e4 := HBX.out.cell (o := 4) (v := .int .u32 st) rfl; have e5 := HBX.out.cell (o := 5) (v := .slice ia il ic) rfl; have e6 := HBX.out.cell (o := 6) (v := .int .i64 wr) rfl; have e7 := HBX.out.cell (o := 7) (v := .slice ra rl rc) rfl; have HCC := Lib.hid (HCC.out.trans hcx); clear hcx) | (go_at_call 34; refine (bRetries_any _ _ _ _ _ _ _ _ _ _ _ _ _ _).mono ?_; rintro e wx ⟨rfl, hcx⟩; rw [HT.out]; have HBX := Lib.hid (Blk.keep HBX.out hcx (by simp)); have e0 := HBX.out.cell (o := 0) (v := .int .i64 k) rfl; have e1 := HBX.out.cell (o := 1) (v := .int .i64 w) rfl; have e2 := HBX.out.cell (o := 2) (v := .int .i64 s) rfl; have e3 := HBX.out.cell (o := 3) (v := .int .i64 c) rfl; have e4 := HBX.out.cell (o := 4) (v := .int .u32 st) rfl; have e5 := HBX.out.cell (o := 5) (v := .slice ia il ic) rfl; have e6 := HBX.out.cell (o := 6) (v := .int .i64 wr) rfl; have e7 := HBX.out.cell (o := 7) (v := .slice ra rl rc) rfl; have HCC := Lib.hid (HCC.out.trans hcx); clear hcx))
        go_ret
        exact ⟨by rfl, HCC.out⟩
theorem Clamp_any (n lo hi : Int) (W : World) : Calls Try.prog 31 #[.int .i64 n, .int .i64 lo, .int .i64 hi] W fun e W' => e = .returned (.int .i64 (max lo (min n hi))) ∧ W = W' := by
  generalize hm : max lo (min n hi) = m
  have HM := Lib.hid hm
  clear hm
  go_enter Try.func31, Try.ntmps31
  go_wp2
  all_goals (go_ret; refine ⟨ret_int ?_, rfl⟩; rename_i h1; rw [← HM.out]; split at h1 <;> omega)
end Go.Proofs.Ytjplamoofkcojaa.obj
