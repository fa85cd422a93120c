/- Parts joined: Bnd, Bnd2, Bnd3, Bnd4. -/
import Derived.Test.YtkedegbpkkgeaaaGreatTop5
import Derived.Test.YtkedegbpkkgeaaaGreatTop4
/- How many steps an operation of any object has: object.Bound, bound. -/
namespace Go.Proofs.YtkedegbpkkgeaaaGreat.obj
open Go Go.RowKit Go.Proofs.YtkedegbpkkgeaaaGreat.kit
set_option linter.unusedVariables false
set_option linter.unusedSimpArgs false
set_option maxRecDepth 20000

set_option maxHeartbeats 4000000 in
theorem objBound_1 (w s c st : Int) (ia : Option Addr) (il ic : Nat) (wr : Int) (ra : Option Addr) (rl rc : Nat) (op : Int) (h : ObjW 1 w s c st il rl) (W : World) :
    Calls Tryz.prog 81 #[.agg #[.int .i64 1, .int .i64 w, .int .i64 s, .int .i64 c, .int .u32 st, .slice ia il ic, .int .i64 wr, .slice ra rl rc], .int .i64 op] W fun e W' => e = .returned (.int .i64 (boundI 1 w s c st il rl op)) ∧ Chg [] W W' := by
  have HX := Lib.hid (fun u => fourBound_any 1 w s c st ia il ic wr ra rl rc op h u)
  have HV := Lib.hid (show (if decide ((1 : Int) = 1) && rightB 1 w s c st il rl then boundK 1 w c rl op else 0) = boundI 1 w s c st il rl op from by simp [boundI])
  clear h
  go_enter Tryz.func81, Tryz.ntmps81
  go_wp2_with (go_at_call 112; refine (HX.out _).mono ?_; rintro e wx ⟨rfl, hcx⟩; rw [HV.out])
  go_ret
  exact ⟨rfl, ((Chg.refl _ _).alloc _).trans hcx⟩

set_option maxHeartbeats 4000000 in
theorem objBound_2 (w s c st : Int) (ia : Option Addr) (il ic : Nat) (wr : Int) (ra : Option Addr) (rl rc : Nat) (op : Int) (h : ObjW 2 w s c st il rl) (W : World) :
    Calls Tryz.prog 81 #[.agg #[.int .i64 2, .int .i64 w, .int .i64 s, .int .i64 c, .int .u32 st, .slice ia il ic, .int .i64 wr, .slice ra rl rc], .int .i64 op] W fun e W' => e = .returned (.int .i64 (boundI 2 w s c st il rl op)) ∧ Chg [] W W' := by
  have HX := Lib.hid (fun u => chenBound_any 2 w s c st ia il ic wr ra rl rc op h u)
  have HV := Lib.hid (show (if decide ((2 : Int) = 2) && rightB 2 w s c st il rl then boundK 2 w c rl op else 0) = boundI 2 w s c st il rl op from by simp [boundI])
  clear h
  go_enter Tryz.func81, Tryz.ntmps81
  go_wp2_with (go_at_call 113; refine (HX.out _).mono ?_; rintro e wx ⟨rfl, hcx⟩; rw [HV.out])
  go_ret
  exact ⟨rfl, ((Chg.refl _ _).alloc _).trans hcx⟩

set_option maxHeartbeats 4000000 in
theorem objBound_3 (w s c st : Int) (ia : Option Addr) (il ic : Nat) (wr : Int) (ra : Option Addr) (rl rc : Nat) (op : Int) (h : ObjW 3 w s c st il rl) (W : World) :
    Calls Tryz.prog 81 #[.agg #[.int .i64 3, .int .i64 w, .int .i64 s, .int .i64 c, .int .u32 st, .slice ia il ic, .int .i64 wr, .slice ra rl rc], .int .i64 op] W fun e W' => e = .returned (.int .i64 (boundI 3 w s c st il rl op)) ∧ Chg [] W W' := by
  have HX := Lib.hid (fun u => seqBound_any 3 w s c st ia il ic wr ra rl rc op h u)
  have HV := Lib.hid (show (if decide ((3 : Int) = 3) && rightB 3 w s c st il rl then boundK 3 w c rl op else 0) = boundI 3 w s c st il rl op from by simp [boundI])
  clear h
  go_enter Tryz.func81, Tryz.ntmps81
  go_wp2_with (go_at_call 114; refine (HX.out _).mono ?_; rintro e wx ⟨rfl, hcx⟩; rw [HV.out])
  go_ret
  exact ⟨rfl, ((Chg.refl _ _).alloc _).trans hcx⟩

set_option maxHeartbeats 4000000 in
theorem objBound_4 (w s c st : Int) (ia : Option Addr) (il ic : Nat) (wr : Int) (ra : Option Addr) (rl rc : Nat) (op : Int) (h : ObjW 4 w s c st il rl) (W : World) :
    Calls Tryz.prog 81 #[.agg #[.int .i64 4, .int .i64 w, .int .i64 s, .int .i64 c, .int .u32 st, .slice ia il ic, .int .i64 wr, .slice ra rl rc], .int .i64 op] W fun e W' => e = .returned (.int .i64 (boundI 4 w s c st il rl op)) ∧ Chg [] W W' := by
  have HX := Lib.hid (fun u => ringBound_any 4 w s c st ia il ic wr ra rl rc op h u)
  have HV := Lib.hid (show (if decide ((4 : Int) = 4) && rightB 4 w s c st il rl then boundK 4 w c rl op else 0) = boundI 4 w s c st il rl op from by simp [boundI])
  clear h
  go_enter Tryz.func81, Tryz.ntmps81
  go_wp2_with (go_at_call 115; refine (HX.out _).mono ?_; rintro e wx ⟨rfl, hcx⟩; rw [HV.out])
  go_ret
  exact ⟨rfl, ((Chg.refl _ _).alloc _).trans hcx⟩

set_option maxHeartbeats 4000000 in
theorem objBound_5 (w s c st : Int) (ia : Option Addr) (il ic : Nat) (wr : Int) (ra : Option Addr) (rl rc : Nat) (op : Int) (h : ObjW 5 w s c st il rl) (W : World) :
    Calls Tryz.prog 81 #[.agg #[.int .i64 5, .int .i64 w, .int .i64 s, .int .i64 c, .int .u32 st, .slice ia il ic, .int .i64 wr, .slice ra rl rc], .int .i64 op] W fun e W' => e = .returned (.int .i64 (boundI 5 w s c st il rl op)) ∧ Chg [] W W' := by
  have HX := Lib.hid (fun u => cabBound_any 5 w s c st ia il ic wr ra rl rc op h u)
  have HV := Lib.hid (show (if decide ((5 : Int) = 5) && rightB 5 w s c st il rl then boundK 5 w c rl op else 0) = boundI 5 w s c st il rl op from by simp [boundI])
  clear h
  go_enter Tryz.func81, Tryz.ntmps81
  go_wp2_with (go_at_call 116; refine (HX.out _).mono ?_; rintro e wx ⟨rfl, hcx⟩; rw [HV.out])
  go_ret
  exact ⟨rfl, ((Chg.refl _ _).alloc _).trans hcx⟩

set_option maxHeartbeats 4000000 in
theorem objBound_6 (w s c st : Int) (ia : Option Addr) (il ic : Nat) (wr : Int) (ra : Option Addr) (rl rc : Nat) (op : Int) (h : ObjW 6 w s c st il rl) (W : World) :
    Calls Tryz.prog 81 #[.agg #[.int .i64 6, .int .i64 w, .int .i64 s, .int .i64 c, .int .u32 st, .slice ia il ic, .int .i64 wr, .slice ra rl rc], .int .i64 op] W fun e W' => e = .returned (.int .i64 (boundI 6 w s c st il rl op)) ∧ Chg [] W W' := by
  have HX := Lib.hid (fun u => fifoBound_any 6 w s c st ia il ic wr ra rl rc op h u)
  have HV := Lib.hid (show (if decide ((6 : Int) = 6) && rightB 6 w s c st il rl then boundK 6 w c rl op else 0) = boundI 6 w s c st il rl op from by simp [boundI])
  clear h
  go_enter Tryz.func81, Tryz.ntmps81
  go_wp2_with (go_at_call 117; refine (HX.out _).mono ?_; rintro e wx ⟨rfl, hcx⟩; rw [HV.out])
  go_ret
  exact ⟨rfl, ((Chg.refl _ _).alloc _).trans hcx⟩

set_option maxHeartbeats 4000000 in
theorem objBound_any (k : Int) (w s c st : Int) (ia : Option Addr) (il ic : Nat) (wr : Int) (ra : Option Addr) (rl rc : Nat) (op : Int) (h : ObjW k w s c st il rl) (W : World) :
    Calls Tryz.prog 81 #[.agg #[.int .i64 k, .int .i64 w, .int .i64 s, .int .i64 c, .int .u32 st, .slice ia il ic, .int .i64 wr, .slice ra rl rc], .int .i64 op] W fun e W' => e = .returned (.int .i64 (boundI k w s c st il rl op)) ∧ Chg [] W W' := by
  have hk : k = 1 ∨ k = 2 ∨ k = 3 ∨ k = 4 ∨ k = 5 ∨ k = 6 ∨ (k < 1 ∨ 6 < k) := by omega
  rcases hk with rfl | rfl | rfl | rfl | rfl | rfl | hk
  · exact objBound_1 w s c st ia il ic wr ra rl rc op h W
  · exact objBound_2 w s c st ia il ic wr ra rl rc op h W
  · exact objBound_3 w s c st ia il ic wr ra rl rc op h W
  · exact objBound_4 w s c st ia il ic wr ra rl rc op h W
  · exact objBound_5 w s c st ia il ic wr ra rl rc op h W
  · exact objBound_6 w s c st ia il ic wr ra rl rc op h W
  · have HX := Lib.hid (fun u => fifoBound_any k w s c st ia il ic wr ra rl rc op h u)
    have HV := Lib.hid (show (if decide (k = 6) && rightB k w s c st il rl then boundK 6 w c rl op else 0) = boundI k w s c st il rl op from by simp [boundI, rightB_out k w s c st il rl hk])
    clear h
    have n1 : (k == 1) = false := by simp; omega
    have n2 : (k == 2) = false := by simp; omega
    have n3 : (k == 3) = false := by simp; omega
    have n4 : (k == 4) = false := by simp; omega
    have n5 : (k == 5) = false := by simp; omega
    have n6 : (k == 6) = false := by simp; omega
    go_enter Tryz.func81, Tryz.ntmps81
    go_wp2_with (go_at_call 117; refine (HX.out _).mono ?_; rintro e wx ⟨rfl, hcx⟩; rw [HV.out])
    go_ret
    exact ⟨rfl, ((Chg.refl _ _).alloc _).trans hcx⟩

def retB (k op : Int) : Bool := decide (op = 1 ∧ (k = 3 ∨ k = 4 ∨ k = 5))
set_option maxHeartbeats 4000000 in
theorem bRetries_any (k : Int) (w s c st : Int) (ia : Option Addr) (il ic : Nat) (wr : Int) (ra : Option Addr) (rl rc : Nat) (op : Int) (W : World) :
    Calls Tryz.prog 82 #[.agg #[.int .i64 k, .int .i64 w, .int .i64 s, .int .i64 c, .int .u32 st, .slice ia il ic, .int .i64 wr, .slice ra rl rc], .int .i64 op] W fun e W' => e = .returned (.bool (retB k op)) ∧ Chg [] W W' := by
  generalize hr : retB k op = r
  have HR := Lib.hid hr
  clear hr
  go_enter Tryz.func82, Tryz.ntmps82
  go_wp2
  all_goals (go_ret; refine ⟨?_, (Chg.refl _ _).alloc _⟩; rw [← HR.out]; refine ret_bool ?_; rw [Bool.eq_iff_iff]; (first | (simp [retB]; done) | (simp [retB]; omega) | (simp_all [retB]; done) | (simp_all [retB]; omega) | (trace_state; fail)))

/-- how many steps an attempt that fails has -/
def failI (k w s c st il rl op : Int) : Int := if rightB k w s c st il rl && retB k op then (if k = 5 then 3 else w + 2) else 0
theorem bound_pos (k w s c st il rl op : Int) (hr : rightB k w s c st il rl = true) (ht : retB k op = true) : 0 < boundI k w s c st il rl op ∧ boundI k w s c st il rl op ≤ 200 ∧ 1 ≤ c := by
  have hb := rightB_bd hr
  have hm := mul_bd (c := c) (w := w) ⟨hb.2.2.2.2.1, hb.2.2.2.2.2.1⟩ ⟨hb.1, hb.2.1⟩
  simp only [retB, decide_eq_true_eq] at ht
  have hc : 1 ≤ c := by simp only [rightB, decide_eq_true_eq] at hr; omega
  have hp : 0 < c * (w + 2) := Int.mul_pos (by omega) (by omega)
  unfold boundI
  rw [hr, if_pos rfl]
  obtain ⟨rfl, rfl | rfl | rfl⟩ := ht
  · simp only [boundK]; simp; omega
  · simp only [boundK]; simp; omega
  · simp only [boundK]; simp; omega
set_option maxHeartbeats 4000000 in
theorem bFail_any (k : Int) (w s c st : Int) (ia : Option Addr) (il ic : Nat) (wr : Int) (ra : Option Addr) (rl rc : Nat) (op : Int) (h : ObjW k w s c st il rl) (W : World) :
    Calls Tryz.prog 46 #[.agg #[.int .i64 k, .int .i64 w, .int .i64 s, .int .i64 c, .int .u32 st, .slice ia il ic, .int .i64 wr, .slice ra rl rc], .int .i64 op] W fun e W' => e = .returned (.int .i64 (failI k w s c st il rl op)) ∧ Chg [] W W' := by
  have HX := Lib.hid (fun u => objBound_any k w s c st ia il ic wr ra rl rc op h u)
  clear h
  have HBX : Hid (Blk (W.alloc (.cells #[.int .i64 k, .int .i64 w, .int .i64 s, .int .i64 c, .int .u32 st, .slice ia il ic, .int .i64 wr, .slice ra rl rc] 46)) W.heap.size #[.int .i64 k, .int .i64 w, .int .i64 s, .int .i64 c, .int .u32 st, .slice ia il ic, .int .i64 wr, .slice ra rl rc] 46) := Lib.hid (Blk.new W _ _)
  have HCC : Hid (Chg [] W (W.alloc (.cells #[.int .i64 k, .int .i64 w, .int .i64 s, .int .i64 c, .int .u32 st, .slice ia il ic, .int .i64 wr, .slice ra rl rc] 46))) := Lib.hid ((Chg.refl _ _).alloc _)
  cases hr : rightB k w s c st il rl
  · rw [show failI k w s c st il rl op = 0 from by unfold failI; rw [hr]; rfl]
    have HZ := Lib.hid (show boundI k w s c st il rl op = 0 from by unfold boundI; rw [hr]; rfl)
    clear hr
    go_enter Tryz.func46, Tryz.ntmps46
    go_wp2_with (go_at_call 81; refine (HX.out _).mono ?_; rintro e wx ⟨rfl, hcx⟩; rw [HZ.out]; have HBX := Lib.hid (Blk.keep HBX.out hcx (by simp)); have e0 := HBX.out.cell (o := 0) (v := .int .i64 k) rfl; have e1 := HBX.out.cell (o := 1) (v := .int .i64 w) rfl; have e2 := HBX.out.cell (o := 2) (v := .int .i64 s) rfl; have e3 := HBX.out.cell (o := 3) (v := .int .i64 c) rfl; have e4 := HBX.out.cell (o := 4) (v := .int .u32 st) rfl; have e5 := HBX.out.cell (o := 5) (v := .slice ia il ic) rfl; have e6 := HBX.out.cell (o := 6) (v := .int .i64 wr) rfl; have e7 := HBX.out.cell (o := 7) (v := .slice ra rl rc) rfl; have HCC := Lib.hid (HCC.out.trans hcx); clear hcx)
    go_ret
    exact ⟨rfl, HCC.out⟩
  · cases ht : retB k op
    · rw [show failI k w s c st il rl op = 0 from by unfold failI; rw [ht, Bool.and_false]; rfl]
      have HT := Lib.hid ht
      clear hr ht
      generalize boundI k w s c st il rl op = bv at *
      by_cases hz : bv = 0
      · subst hz
        go_enter Tryz.func46, Tryz.ntmps46
        go_wp2_with (go_at_call 81; refine (HX.out _).mono ?_; rintro e wx ⟨rfl, hcx⟩; have HBX := Lib.hid (Blk.keep HBX.out hcx (by simp)); have e0 := HBX.out.cell (o := 0) (v := .int .i64 k) rfl; have e1 := HBX.out.cell (o := 1) (v := .int .i64 w) rfl; have e2 := HBX.out.cell (o := 2) (v := .int .i64 s) rfl; have e3 := HBX.out.cell (o := 3) (v := .int .i64 c) rfl; have e4 := HBX.out.cell (o := 4) (v := .int .u32 st) rfl; have e5 := HBX.out.cell (o := 5) (v := .slice ia il ic) rfl; have e6 := HBX.out.cell (o := 6) (v := .int .i64 wr) rfl; have e7 := HBX.out.cell (o := 7) (v := .slice ra rl rc) rfl; have HCC := Lib.hid (HCC.out.trans hcx); clear hcx)
        go_ret
        exact ⟨rfl, HCC.out⟩
      · have hzb : (bv == 0) = false := by simpa using hz
        go_enter Tryz.func46, Tryz.ntmps46
        go_wp2_with (first | (go_at_call 81; refine (HX.out _).mono ?_; rintro e wx ⟨rfl, hcx⟩; have HBX := Lib.hid (Blk.keep HBX.out hcx (by simp)); have e0 := HBX.out.cell (o := 0) (v := .int .i64 k) rfl; have e1 := HBX.out.cell (o := 1) (v := .int .i64 w) rfl; have e2 := HBX.out.cell (o := 2) (v := .int .i64 s) rfl; have e3 := HBX.out.cell (o := 3) (v := .int .i64 c) rfl; have e4 := HBX.out.cell (o := 4) (v := .int .u32 st) rfl; have e5 := HBX.out.cell (o := 5) (v := .slice ia il ic) rfl; have e6 := HBX.out.cell (o := 6) (v := .int .i64 wr) rfl; have e7 := HBX.out.cell (o := 7) (v := .slice ra rl rc) rfl; have HCC := Lib.hid (HCC.out.trans hcx); clear hcx) | (go_at_call 82; refine (bRetries_any _ _ _ _ _ _ _ _ _ _ _ _ _ _).mono ?_; rintro e wx ⟨rfl, hcx⟩; rw [HT.out]; have HBX := Lib.hid (Blk.keep HBX.out hcx (by simp)); have e0 := HBX.out.cell (o := 0) (v := .int .i64 k) rfl; have e1 := HBX.out.cell (o := 1) (v := .int .i64 w) rfl; have e2 := HBX.out.cell (o := 2) (v := .int .i64 s) rfl; have e3 := HBX.out.cell (o := 3) (v := .int .i64 c) rfl; have e4 := HBX.out.cell (o := 4) (v := .int .u32 st) rfl; have e5 := HBX.out.cell (o := 5) (v := .slice ia il ic) rfl; have e6 := HBX.out.cell (o := 6) (v := .int .i64 wr) rfl; have e7 := HBX.out.cell (o := 7) (v := .slice ra rl rc) rfl; have HCC := Lib.hid (HCC.out.trans hcx); clear hcx))
        go_ret
        exact ⟨rfl, HCC.out⟩
    · have hp := bound_pos k w s c st il rl op hr ht
      have hb := rightB_bd hr
      have hw : 1 ≤ w ∧ w ≤ 8 := ⟨hb.1, hb.2.1⟩
      have HT := Lib.hid ht
      have HF := Lib.hid (show failI k w s c st il rl op = (if k = 5 then 3 else w + 2) from by unfold failI; rw [hr, ht]; rfl)
      clear hr ht hb
      generalize boundI k w s c st il rl op = bv at *
      have hzb : (bv == 0) = false := by simp; omega
      clear hp
      by_cases h5 : k = 5
      · rw [HF.out, if_pos h5]
        have h5b : (k == 5) = true := by simpa using h5
        clear h5
        go_enter Tryz.func46, Tryz.ntmps46
        go_wp2_with (first | (go_at_call 81; refine (HX.out _).mono ?_; rintro e wx ⟨rfl, hcx⟩; have HBX := Lib.hid (Blk.keep HBX.out hcx (by simp)); have e0 := HBX.out.cell (o := 0) (v := .int .i64 k) rfl; have e1 := HBX.out.cell (o := 1) (v := .int .i64 w) rfl; have e2 := HBX.out.cell (o := 2) (v := .int .i64 s) rfl; have e3 := HBX.out.cell (o := 3) (v := .int .i64 c) rfl; have e4 := HBX.out.cell (o := 4) (v := .int .u32 st) rfl; have e5 := HBX.out.cell (o := 5) (v := .slice ia il ic) rfl; have e6 := HBX.out.cell (o := 6) (v := .int .i64 wr) rfl; have e7 := HBX.out.cell (o := 7) (v := .slice ra rl rc) rfl; have HCC := Lib.hid (HCC.out.trans hcx); clear hcx) | (go_at_call 82; refine (bRetries_any _ _ _ _ _ _ _ _ _ _ _ _ _ _).mono ?_; rintro e wx ⟨rfl, hcx⟩; rw [HT.out]; have HBX := Lib.hid (Blk.keep HBX.out hcx (by simp)); have e0 := HBX.out.cell (o := 0) (v := .int .i64 k) rfl; have e1 := HBX.out.cell (o := 1) (v := .int .i64 w) rfl; have e2 := HBX.out.cell (o := 2) (v := .int .i64 s) rfl; have e3 := HBX.out.cell (o := 3) (v := .int .i64 c) rfl; have e4 := HBX.out.cell (o := 4) (v := .int .u32 st) rfl; have e5 := HBX.out.cell (o := 5) (v := .slice ia il ic) rfl; have e6 := HBX.out.cell (o := 6) (v := .int .i64 wr) rfl; have e7 := HBX.out.cell (o := 7) (v := .slice ra rl rc) rfl; have HCC := Lib.hid (HCC.out.trans hcx); clear hcx))
        go_ret
        exact ⟨rfl, HCC.out⟩
      · rw [HF.out, if_neg h5]
        have h5b : (k == 5) = false := by simpa using h5
        go_enter Tryz.func46, Tryz.ntmps46
        go_wp2_with (first | (go_at_call 81; refine (HX.out _).mono ?_; rintro e wx ⟨rfl, hcx⟩; have HBX := Lib.hid (Blk.keep HBX.out hcx (by simp)); have e0 := HBX.out.cell (o := 0) (v := .int .i64 k) rfl; have e1 := HBX.out.cell (o := 1) (v := .int .i64 w) rfl; have e2 := HBX.out.cell (o := 2) (v := .int .i64 s) rfl; have e3 := HBX.out.cell (o := 3) (v := .int .i64 c) rfl; have e4 := HBX.out.cell (o := 4) (v := .int .u32 st) rfl; have e5 := HBX.out.cell (o := 5) (v := .slice ia il ic) rfl; have e6 := HBX.out.cell (o := 6) (v := .int .i64 wr) rfl; have e7 := HBX.out.cell (o := 7) (v := .slice ra rl rc) rfl; have HCC := Lib.hid (HCC.out.trans hcx); clear hcx) | (go_at_call 82; refine (bRetries_any _ _ _ _ _ _ _ _ _ _ _ _ _ _).mono ?_; rintro e wx ⟨rfl, hcx⟩; rw [HT.out]; have HBX := Lib.hid (Blk.keep HBX.out hcx (by simp)); have e0 := HBX.out.cell (o := 0) (v := .int .i64 k) rfl; have e1 := HBX.out.cell (o := 1) (v := .int .i64 w) rfl; have e2 := HBX.out.cell (o := 2) (v := .int .i64 s) rfl; have e3 := HBX.out.cell (o := 3) (v := .int .i64 c) rfl; have e4 := HBX.out.cell (o := 4) (v := .int .u32 st) rfl; have e5 := HBX.out.cell (o := 5) (v := .slice ia il ic) rfl; have e6 := HBX.out.cell (o := 6) (v := .int .i64 wr) rfl; have e7 := HBX.out.cell (o := 7) (v := .slice ra rl rc) rfl; have HCC := Lib.hid (HCC.out.trans hcx); clear hcx))
        go_ret
        exact ⟨by rfl, HCC.out⟩
theorem Clamp_any (n lo hi : Int) (W : World) : Calls Tryz.prog 111 #[.int .i64 n, .int .i64 lo, .int .i64 hi] W fun e W' => e = .returned (.int .i64 (max lo (min n hi))) ∧ W = W' := by
  generalize hm : max lo (min n hi) = m
  have HM := Lib.hid hm
  clear hm
  go_enter Tryz.func111, Tryz.ntmps111
  go_wp2
  all_goals (go_ret; refine ⟨ret_int ?_, rfl⟩; rename_i h1; rw [← HM.out]; split at h1 <;> omega)
end Go.Proofs.YtkedegbpkkgeaaaGreat.obj

/- How many steps an operation of any object has, if none, or some, of its attempts fail: bound. -/
namespace Go.Proofs.YtkedegbpkkgeaaaGreat.obj
open Go Go.RowKit Go.Proofs.YtkedegbpkkgeaaaGreat.kit
set_option linter.unusedVariables false
set_option linter.unusedSimpArgs false
set_option maxRecDepth 20000

def cleanI (k w s c st il rl op : Int) : Int := if rightB k w s c st il rl && retB k op then (if k = 5 then w + 4 else w + 2) else boundI k w s c st il rl op
/-- an operation that has attempts, taken apart -/
theorem tries_parts {k w s c st il rl op : Int} (h : (rightB k w s c st il rl && retB k op) = true) : (1 ≤ c ∧ c ≤ 16) ∧ (1 ≤ w ∧ w ≤ 8) ∧
    boundI k w s c st il rl op = (c - 1) * failI k w s c st il rl op + cleanI k w s c st il rl op ∧ (3 ≤ failI k w s c st il rl op ∧ failI k w s c st il rl op ≤ 10) ∧ (3 ≤ cleanI k w s c st il rl op ∧ cleanI k w s c st il rl op ≤ 12) := by
  have hr : rightB k w s c st il rl = true := by simp only [Bool.and_eq_true] at h; exact h.1
  have ht : retB k op = true := by simp only [Bool.and_eq_true] at h; exact h.2
  have hb := rightB_bd hr
  have hc : 1 ≤ c := (bound_pos k w s c st il rl op hr ht).2.2
  have hF : failI k w s c st il rl op = (if k = 5 then 3 else w + 2) := by unfold failI; rw [h]; rfl
  have hC : cleanI k w s c st il rl op = (if k = 5 then w + 4 else w + 2) := by unfold cleanI; rw [h]; rfl
  have hB : boundI k w s c st il rl op = boundK k w c rl op := by unfold boundI; rw [hr]; rfl
  refine ⟨⟨hc, by omega⟩, ⟨hb.1, hb.2.1⟩, ?_, ?_, ?_⟩
  · rw [hF, hC, hB]
    simp only [retB, decide_eq_true_eq] at ht
    obtain ⟨rfl, rfl | rfl | rfl⟩ := ht
    · simp only [boundK]; simp; rw [Int.sub_mul]; omega
    · simp only [boundK]; simp; rw [Int.sub_mul]; omega
    · simp only [boundK]; simp; omega
  · rw [hF]; split <;> omega
  · rw [hC]; split <;> omega
theorem bound_bd (k w s c st il rl op : Int) : 0 ≤ boundI k w s c st il rl op ∧ boundI k w s c st il rl op ≤ 200 := by
  unfold boundI
  split
  · rename_i hr
    have hb := rightB_bd hr
    have hm := mul_bd (c := c) (w := w) ⟨hb.2.2.2.2.1, hb.2.2.2.2.2.1⟩ ⟨hb.1, hb.2.1⟩
    unfold boundK
    repeat' split
    all_goals omega
  · omega
theorem fail_none {k w s c st il rl op : Int} (h : (rightB k w s c st il rl && retB k op) = false) : failI k w s c st il rl op = 0 ∧ cleanI k w s c st il rl op = boundI k w s c st il rl op := by
  constructor
  · unfold failI; rw [h]; rfl
  · unfold cleanI; rw [h]; rfl
theorem mul15 {a b : Int} (ha : 0 ≤ a ∧ a ≤ 15) (hb : 3 ≤ b ∧ b ≤ 10) : 0 ≤ a * b ∧ a * b ≤ 150 := by
  have h1 : a * b ≤ 15 * b := Int.mul_le_mul_of_nonneg_right ha.2 (by omega)
  have h2 : 0 ≤ a * b := Int.mul_nonneg ha.1 (by omega)
  omega
theorem wrap_near {z : Int} (h : -1000 ≤ z ∧ z ≤ 1000) : IntKind.i64.wrap z = z := by rw [IntKind.wrap_i64]; omega
theorem clean_val (k w s c st il rl op : Int) (hx : 0 ≤ IntKind.i64.wrap (c - 1)) :
    IntKind.i64.wrap (boundI k w s c st il rl op - IntKind.i64.wrap (IntKind.i64.wrap (c - 1) * failI k w s c st il rl op)) = cleanI k w s c st il rl op := by
  have hbd := bound_bd k w s c st il rl op
  cases h : (rightB k w s c st il rl && retB k op)
  · obtain ⟨h1, h2⟩ := fail_none h
    rw [h1, h2, Int.mul_zero, wrap_near (z := 0) (by omega), Int.sub_zero, wrap_near (by omega)]
  · obtain ⟨hc, hw, hB, hF, hC⟩ := tries_parts h
    have hm := mul15 (a := c - 1) (by omega) hF
    rw [wrap_near (z := c - 1) (by omega), wrap_near (z := (c - 1) * _) (by omega), hB]
    rw [wrap_near (by omega)]
    omega
theorem clean_val0 (k w s c st il rl op : Int) (hx : ¬ 0 ≤ IntKind.i64.wrap (c - 1)) :
    IntKind.i64.wrap (boundI k w s c st il rl op - IntKind.i64.wrap 0) = cleanI k w s c st il rl op := by
  have hbd := bound_bd k w s c st il rl op
  cases h : (rightB k w s c st il rl && retB k op)
  · obtain ⟨h1, h2⟩ := fail_none h
    rw [h2, wrap_near (z := 0) (by omega), Int.sub_zero, wrap_near (by omega)]
  · obtain ⟨hc, _⟩ := tries_parts h
    rw [wrap_near (z := c - 1) (by omega)] at hx
    omega
set_option maxHeartbeats 4000000 in
theorem bClean_any (k : Int) (w s c st : Int) (ia : Option Addr) (il ic : Nat) (wr : Int) (ra : Option Addr) (rl rc : Nat) (op : Int) (h : ObjW k w s c st il rl) (W : World) :
    Calls Tryz.prog 172 #[.agg #[.int .i64 k, .int .i64 w, .int .i64 s, .int .i64 c, .int .u32 st, .slice ia il ic, .int .i64 wr, .slice ra rl rc], .int .i64 op] W fun e W' => e = .returned (.int .i64 (cleanI k w s c st il rl op)) ∧ Chg [] W W' := by
  have HX := Lib.hid (fun u => objBound_any k w s c st ia il ic wr ra rl rc op h u)
  have HF := Lib.hid (fun u => bFail_any k w s c st ia il ic wr ra rl rc op h u)
  clear h
  by_cases hx : 0 ≤ IntKind.i64.wrap (c - 1)
  · have HV := Lib.hid (clean_val k w s c st il rl op hx)
    have hx2 : ¬ IntKind.i64.wrap (c - 1) < 0 := by omega
    go_enter Tryz.func172, Tryz.ntmps172
    go_wp2_with fail
    generalize hW0 : (W.alloc (.cells #[.int .i64 k, .int .i64 w, .int .i64 s, .int .i64 c, .int .u32 st, .slice ia il ic, .int .i64 wr, .slice ra rl rc] 46)) = W0
    have hB0 : Blk W0 W.heap.size #[.int .i64 k, .int .i64 w, .int .i64 s, .int .i64 c, .int .u32 st, .slice ia il ic, .int .i64 wr, .slice ra rl rc] 46 := by rw [← hW0]; exact Blk.new W _ _
    have HC0 : Hid (Chg [] W W0) := Lib.hid (by rw [← hW0]; exact (Chg.refl _ _).alloc _)
    clear hW0
    have e0 : W0.cell? ⟨W.heap.size, 0, none⟩ = some (.int .i64 k) := hB0.cell rfl
    have e1 : W0.cell? ⟨W.heap.size, 1, none⟩ = some (.int .i64 w) := hB0.cell rfl
    have e2 : W0.cell? ⟨W.heap.size, 2, none⟩ = some (.int .i64 s) := hB0.cell rfl
    have e3 : W0.cell? ⟨W.heap.size, 3, none⟩ = some (.int .i64 c) := hB0.cell rfl
    have e4 : W0.cell? ⟨W.heap.size, 4, none⟩ = some (.int .u32 st) := hB0.cell rfl
    have e5 : W0.cell? ⟨W.heap.size, 5, none⟩ = some (.slice ia il ic) := hB0.cell rfl
    have e6 : W0.cell? ⟨W.heap.size, 6, none⟩ = some (.int .i64 wr) := hB0.cell rfl
    have e7 : W0.cell? ⟨W.heap.size, 7, none⟩ = some (.slice ra rl rc) := hB0.cell rfl
    have KEEP := Lib.hid (fun (V : World) (h : Chg [] W0 V) => (⟨h.keep e0 (by simp), h.keep e1 (by simp), h.keep e2 (by simp), h.keep e3 (by simp), h.keep e4 (by simp), h.keep e5 (by simp), h.keep e6 (by simp), h.keep e7 (by simp), Lib.hid h⟩ : (fun V : World => V.cell? ⟨W.heap.size, 0, none⟩ = some (.int .i64 k) ∧ V.cell? ⟨W.heap.size, 1, none⟩ = some (.int .i64 w) ∧ V.cell? ⟨W.heap.size, 2, none⟩ = some (.int .i64 s) ∧ V.cell? ⟨W.heap.size, 3, none⟩ = some (.int .i64 c) ∧ V.cell? ⟨W.heap.size, 4, none⟩ = some (.int .u32 st) ∧ V.cell? ⟨W.heap.size, 5, none⟩ = some (.slice ia il ic) ∧ V.cell? ⟨W.heap.size, 6, none⟩ = some (.int .i64 wr) ∧ V.cell? ⟨W.heap.size, 7, none⟩ = some (.slice ra rl rc) ∧ Hid (Chg [] W0 V)) V))
    clear e0 e1 e2 e3 e4 e5 e6 e7 hB0
    have hHeld : (fun V : World => V.cell? ⟨W.heap.size, 0, none⟩ = some (.int .i64 k) ∧ V.cell? ⟨W.heap.size, 1, none⟩ = some (.int .i64 w) ∧ V.cell? ⟨W.heap.size, 2, none⟩ = some (.int .i64 s) ∧ V.cell? ⟨W.heap.size, 3, none⟩ = some (.int .i64 c) ∧ V.cell? ⟨W.heap.size, 4, none⟩ = some (.int .u32 st) ∧ V.cell? ⟨W.heap.size, 5, none⟩ = some (.slice ia il ic) ∧ V.cell? ⟨W.heap.size, 6, none⟩ = some (.int .i64 wr) ∧ V.cell? ⟨W.heap.size, 7, none⟩ = some (.slice ra rl rc) ∧ Hid (Chg [] W0 V)) (World.drew W0) := KEEP.out _ (Chg.refl _ _).drew
    refine wp_region_plan (fun V : World => V.cell? ⟨W.heap.size, 0, none⟩ = some (.int .i64 k) ∧ V.cell? ⟨W.heap.size, 1, none⟩ = some (.int .i64 w) ∧ V.cell? ⟨W.heap.size, 2, none⟩ = some (.int .i64 s) ∧ V.cell? ⟨W.heap.size, 3, none⟩ = some (.int .i64 c) ∧ V.cell? ⟨W.heap.size, 4, none⟩ = some (.int .u32 st) ∧ V.cell? ⟨W.heap.size, 5, none⟩ = some (.slice ia il ic) ∧ V.cell? ⟨W.heap.size, 6, none⟩ = some (.int .i64 wr) ∧ V.cell? ⟨W.heap.size, 7, none⟩ = some (.slice ra rl rc) ∧ Hid (Chg [] W0 V)) [(0, true, some 5), (1, true, some 6), (3, true, some 8), (4, true, some 9), (5, true, some 10), (6, true, some 11), (7, true, some 12), (8, true, some 13), (2, false, some 7), (9, false, some 14), (10, true, some 15), (11, true, some 16), (12, true, some 4)] (by kernel_rfl) (by kernel_rfl) (by kernel_rfl) (by kernel_rfl) (fun d c a v w h => by cases d <;> exact h) hHeld ?_
    repeat (first
      | (refine planWp_read (v := ?_) rfl rfl ?_ ?_ ?_; rotate_left; (focus rfl); (focus (intro u hSw; (try dsimp only at hSw); go_simp; (try with_reducible rfl))); (try simp only [Act.put, List.setIfInBounds_toArray, List.set_cons_zero, List.set_cons_succ]))
      | (refine planWp_skip rfl rfl ?_ ?_; (focus rfl); (try simp only [Act.put, List.setIfInBounds_toArray, List.set_cons_zero, List.set_cons_succ]))
      | (refine planWp_leave rfl rfl ?_ hHeld ?_; (focus rfl); (try simp only [Act.put, List.setIfInBounds_toArray, List.set_cons_zero, List.set_cons_succ]))
      | (refine planWp_do rfl rfl ?_ (fun K hK => ?_); (focus rfl); go_simp; (try go_wp2_with (first | (go_at_call 81; refine (HX.out _).mono ?_; rintro e wx ⟨rfl, hcx⟩; have HCX := Lib.hid hcx; clear hcx) | (go_at_call 46; refine (HF.out _).mono ?_; rintro e wx ⟨rfl, hcx⟩; have HCX := Lib.hid hcx; clear hcx))); refine hK.out _ _ ?_ (fun hHeld2 => ?_); (focus (have hcn := Chg.trans hHeld.2.2.2.2.2.2.2.2.out HCX.out; exact KEEP.out _ hcn)); clear hK K hHeld; have hHeld := hHeld2; clear hHeld2; (try simp only [Act.put, List.setIfInBounds_toArray, List.set_cons_zero, List.set_cons_succ])))
    refine planWp_nil ?_
    have HCC := Lib.hid (HC0.out.trans hHeld.2.2.2.2.2.2.2.2.out)
    clear hHeld KEEP
    go_wp2_with fail
    go_ret
    exact ⟨by (refine ret_int ?_; exact HV.out), HCC.out⟩
  · have HV := Lib.hid (clean_val0 k w s c st il rl op hx)
    have hx2 : IntKind.i64.wrap (c - 1) < 0 := by omega
    clear hx
    go_enter Tryz.func172, Tryz.ntmps172
    go_wp2_with fail
    generalize hW0 : (W.alloc (.cells #[.int .i64 k, .int .i64 w, .int .i64 s, .int .i64 c, .int .u32 st, .slice ia il ic, .int .i64 wr, .slice ra rl rc] 46)) = W0
    have hB0 : Blk W0 W.heap.size #[.int .i64 k, .int .i64 w, .int .i64 s, .int .i64 c, .int .u32 st, .slice ia il ic, .int .i64 wr, .slice ra rl rc] 46 := by rw [← hW0]; exact Blk.new W _ _
    have HC0 : Hid (Chg [] W W0) := Lib.hid (by rw [← hW0]; exact (Chg.refl _ _).alloc _)
    clear hW0
    have e0 : W0.cell? ⟨W.heap.size, 0, none⟩ = some (.int .i64 k) := hB0.cell rfl
    have e1 : W0.cell? ⟨W.heap.size, 1, none⟩ = some (.int .i64 w) := hB0.cell rfl
    have e2 : W0.cell? ⟨W.heap.size, 2, none⟩ = some (.int .i64 s) := hB0.cell rfl
    have e3 : W0.cell? ⟨W.heap.size, 3, none⟩ = some (.int .i64 c) := hB0.cell rfl
    have e4 : W0.cell? ⟨W.heap.size, 4, none⟩ = some (.int .u32 st) := hB0.cell rfl
    have e5 : W0.cell? ⟨W.heap.size, 5, none⟩ = some (.slice ia il ic) := hB0.cell rfl
    have e6 : W0.cell? ⟨W.heap.size, 6, none⟩ = some (.int .i64 wr) := hB0.cell rfl
    have e7 : W0.cell? ⟨W.heap.size, 7, none⟩ = some (.slice ra rl rc) := hB0.cell rfl
    have KEEP := Lib.hid (fun (V : World) (h : Chg [] W0 V) => (⟨h.keep e0 (by simp), h.keep e1 (by simp), h.keep e2 (by simp), h.keep e3 (by simp), h.keep e4 (by simp), h.keep e5 (by simp), h.keep e6 (by simp), h.keep e7 (by simp), Lib.hid h⟩ : (fun V : World => V.cell? ⟨W.heap.size, 0, none⟩ = some (.int .i64 k) ∧ V.cell? ⟨W.heap.size, 1, none⟩ = some (.int .i64 w) ∧ V.cell? ⟨W.heap.size, 2, none⟩ = some (.int .i64 s) ∧ V.cell? ⟨W.heap.size, 3, none⟩ = some (.int .i64 c) ∧ V.cell? ⟨W.heap.size, 4, none⟩ = some (.int .u32 st) ∧ V.cell? ⟨W.heap.size, 5, none⟩ = some (.slice ia il ic) ∧ V.cell? ⟨W.heap.size, 6, none⟩ = some (.int .i64 wr) ∧ V.cell? ⟨W.heap.size, 7, none⟩ = some (.slice ra rl rc) ∧ Hid (Chg [] W0 V)) V))
    clear e0 e1 e2 e3 e4 e5 e6 e7 hB0
    have hHeld : (fun V : World => V.cell? ⟨W.heap.size, 0, none⟩ = some (.int .i64 k) ∧ V.cell? ⟨W.heap.size, 1, none⟩ = some (.int .i64 w) ∧ V.cell? ⟨W.heap.size, 2, none⟩ = some (.int .i64 s) ∧ V.cell? ⟨W.heap.size, 3, none⟩ = some (.int .i64 c) ∧ V.cell? ⟨W.heap.size, 4, none⟩ = some (.int .u32 st) ∧ V.cell? ⟨W.heap.size, 5, none⟩ = some (.slice ia il ic) ∧ V.cell? ⟨W.heap.size, 6, none⟩ = some (.int .i64 wr) ∧ V.cell? ⟨W.heap.size, 7, none⟩ = some (.slice ra rl rc) ∧ Hid (Chg [] W0 V)) (World.drew W0) := KEEP.out _ (Chg.refl _ _).drew
    refine wp_region_plan (fun V : World => V.cell? ⟨W.heap.size, 0, none⟩ = some (.int .i64 k) ∧ V.cell? ⟨W.heap.size, 1, none⟩ = some (.int .i64 w) ∧ V.cell? ⟨W.heap.size, 2, none⟩ = some (.int .i64 s) ∧ V.cell? ⟨W.heap.size, 3, none⟩ = some (.int .i64 c) ∧ V.cell? ⟨W.heap.size, 4, none⟩ = some (.int .u32 st) ∧ V.cell? ⟨W.heap.size, 5, none⟩ = some (.slice ia il ic) ∧ V.cell? ⟨W.heap.size, 6, none⟩ = some (.int .i64 wr) ∧ V.cell? ⟨W.heap.size, 7, none⟩ = some (.slice ra rl rc) ∧ Hid (Chg [] W0 V)) [(0, true, some 5), (1, true, some 6), (3, true, some 8), (4, true, some 9), (5, true, some 10), (6, true, some 11), (7, true, some 12), (8, true, some 13), (2, false, some 7), (9, false, some 14), (10, true, some 15), (11, true, some 16), (12, true, some 4)] (by kernel_rfl) (by kernel_rfl) (by kernel_rfl) (by kernel_rfl) (fun d c a v w h => by cases d <;> exact h) hHeld ?_
    repeat (first
      | (refine planWp_read (v := ?_) rfl rfl ?_ ?_ ?_; rotate_left; (focus rfl); (focus (intro u hSw; (try dsimp only at hSw); go_simp; (try with_reducible rfl))); (try simp only [Act.put, List.setIfInBounds_toArray, List.set_cons_zero, List.set_cons_succ]))
      | (refine planWp_skip rfl rfl ?_ ?_; (focus rfl); (try simp only [Act.put, List.setIfInBounds_toArray, List.set_cons_zero, List.set_cons_succ]))
      | (refine planWp_leave rfl rfl ?_ hHeld ?_; (focus rfl); (try simp only [Act.put, List.setIfInBounds_toArray, List.set_cons_zero, List.set_cons_succ]))
      | (refine planWp_do rfl rfl ?_ (fun K hK => ?_); (focus rfl); go_simp; (try go_wp2_with (first | (go_at_call 81; refine (HX.out _).mono ?_; rintro e wx ⟨rfl, hcx⟩; have HCX := Lib.hid hcx; clear hcx) | (go_at_call 46; refine (HF.out _).mono ?_; rintro e wx ⟨rfl, hcx⟩; have HCX := Lib.hid hcx; clear hcx))); refine hK.out _ _ ?_ (fun hHeld2 => ?_); (focus (have hcn := Chg.trans hHeld.2.2.2.2.2.2.2.2.out HCX.out; exact KEEP.out _ hcn)); clear hK K hHeld; have hHeld := hHeld2; clear hHeld2; (try simp only [Act.put, List.setIfInBounds_toArray, List.set_cons_zero, List.set_cons_succ])))
    refine planWp_nil ?_
    have HCC := Lib.hid (HC0.out.trans hHeld.2.2.2.2.2.2.2.2.out)
    clear hHeld KEEP
    go_wp2_with fail
    go_ret
    exact ⟨by (refine ret_int ?_; exact HV.out), HCC.out⟩

/-- so many of its attempts failed -/
def afterI (k w s c st il rl op fails : Int) : Int := cleanI k w s c st il rl op + max 0 (min fails (max (c - 1) 0)) * failI k w s c st il rl op
theorem Clamp_c (n lo hi : Int) (W : World) : Calls Tryz.prog 111 #[.int .i64 n, .int .i64 lo, .int .i64 hi] W fun e W' => e = .returned (.int .i64 (max lo (min n hi))) ∧ Chg [] W W' :=
  (Clamp_any n lo hi W).mono (by rintro e W' ⟨rfl, rfl⟩; exact ⟨rfl, Chg.refl _ _⟩)
theorem after_val (k w s c st il rl op fails x : Int) (hx : (0 ≤ IntKind.i64.wrap (c - 1) ∧ x = IntKind.i64.wrap (c - 1)) ∨ (¬ 0 ≤ IntKind.i64.wrap (c - 1) ∧ x = 0)) :
    IntKind.i64.wrap (cleanI k w s c st il rl op + IntKind.i64.wrap (max 0 (min fails x) * failI k w s c st il rl op)) = afterI k w s c st il rl op fails := by
  have hbd := bound_bd k w s c st il rl op
  unfold afterI
  cases h : (rightB k w s c st il rl && retB k op)
  · obtain ⟨h1, h2⟩ := fail_none h
    rw [h1, h2, Int.mul_zero, Int.mul_zero, wrap_near (z := 0) (by omega), Int.add_zero, wrap_near (by omega)]
  · obtain ⟨hc, hw, hB, hF, hC⟩ := tries_parts h
    rw [wrap_near (z := c - 1) (by omega)] at hx
    obtain rfl : x = c - 1 := by omega
    have he : max (c - 1) 0 = c - 1 := by omega
    rw [he]
    have hm := mul15 (a := max 0 (min fails (c - 1))) (by omega) hF
    rw [wrap_near (z := max 0 (min fails (c - 1)) * _) (by omega), wrap_near (by omega)]
set_option maxHeartbeats 4000000 in
theorem bAfter_any (k : Int) (w s c st : Int) (ia : Option Addr) (il ic : Nat) (wr : Int) (ra : Option Addr) (rl rc : Nat) (op fails : Int) (h : ObjW k w s c st il rl) (W : World) :
    Calls Tryz.prog 155 #[.agg #[.int .i64 k, .int .i64 w, .int .i64 s, .int .i64 c, .int .u32 st, .slice ia il ic, .int .i64 wr, .slice ra rl rc], .int .i64 op, .int .i64 fails] W fun e W' => e = .returned (.int .i64 (afterI k w s c st il rl op fails)) ∧ Chg [] W W' := by
  have HX := Lib.hid (fun u => bClean_any k w s c st ia il ic wr ra rl rc op h u)
  have HF := Lib.hid (fun u => bFail_any k w s c st ia il ic wr ra rl rc op h u)
  clear h
  by_cases hx : 0 ≤ IntKind.i64.wrap (c - 1)
  · have HV := Lib.hid (after_val k w s c st il rl op fails _ (.inl ⟨hx, rfl⟩))
    have hx2 : ¬ IntKind.i64.wrap (c - 1) < 0 := by omega
    go_enter Tryz.func155, Tryz.ntmps155
    go_wp2_with fail
    generalize hW0 : (W.alloc (.cells #[.int .i64 k, .int .i64 w, .int .i64 s, .int .i64 c, .int .u32 st, .slice ia il ic, .int .i64 wr, .slice ra rl rc] 46)) = W0
    have hB0 : Blk W0 W.heap.size #[.int .i64 k, .int .i64 w, .int .i64 s, .int .i64 c, .int .u32 st, .slice ia il ic, .int .i64 wr, .slice ra rl rc] 46 := by rw [← hW0]; exact Blk.new W _ _
    have HC0 : Hid (Chg [] W W0) := Lib.hid (by rw [← hW0]; exact (Chg.refl _ _).alloc _)
    clear hW0
    have e0 : W0.cell? ⟨W.heap.size, 0, none⟩ = some (.int .i64 k) := hB0.cell rfl
    have e1 : W0.cell? ⟨W.heap.size, 1, none⟩ = some (.int .i64 w) := hB0.cell rfl
    have e2 : W0.cell? ⟨W.heap.size, 2, none⟩ = some (.int .i64 s) := hB0.cell rfl
    have e3 : W0.cell? ⟨W.heap.size, 3, none⟩ = some (.int .i64 c) := hB0.cell rfl
    have e4 : W0.cell? ⟨W.heap.size, 4, none⟩ = some (.int .u32 st) := hB0.cell rfl
    have e5 : W0.cell? ⟨W.heap.size, 5, none⟩ = some (.slice ia il ic) := hB0.cell rfl
    have e6 : W0.cell? ⟨W.heap.size, 6, none⟩ = some (.int .i64 wr) := hB0.cell rfl
    have e7 : W0.cell? ⟨W.heap.size, 7, none⟩ = some (.slice ra rl rc) := hB0.cell rfl
    have KEEP := Lib.hid (fun (V : World) (h : Chg [] W0 V) => (⟨h.keep e0 (by simp), h.keep e1 (by simp), h.keep e2 (by simp), h.keep e3 (by simp), h.keep e4 (by simp), h.keep e5 (by simp), h.keep e6 (by simp), h.keep e7 (by simp), Lib.hid h⟩ : (fun V : World => V.cell? ⟨W.heap.size, 0, none⟩ = some (.int .i64 k) ∧ V.cell? ⟨W.heap.size, 1, none⟩ = some (.int .i64 w) ∧ V.cell? ⟨W.heap.size, 2, none⟩ = some (.int .i64 s) ∧ V.cell? ⟨W.heap.size, 3, none⟩ = some (.int .i64 c) ∧ V.cell? ⟨W.heap.size, 4, none⟩ = some (.int .u32 st) ∧ V.cell? ⟨W.heap.size, 5, none⟩ = some (.slice ia il ic) ∧ V.cell? ⟨W.heap.size, 6, none⟩ = some (.int .i64 wr) ∧ V.cell? ⟨W.heap.size, 7, none⟩ = some (.slice ra rl rc) ∧ Hid (Chg [] W0 V)) V))
    clear e0 e1 e2 e3 e4 e5 e6 e7 hB0
    have hHeld : (fun V : World => V.cell? ⟨W.heap.size, 0, none⟩ = some (.int .i64 k) ∧ V.cell? ⟨W.heap.size, 1, none⟩ = some (.int .i64 w) ∧ V.cell? ⟨W.heap.size, 2, none⟩ = some (.int .i64 s) ∧ V.cell? ⟨W.heap.size, 3, none⟩ = some (.int .i64 c) ∧ V.cell? ⟨W.heap.size, 4, none⟩ = some (.int .u32 st) ∧ V.cell? ⟨W.heap.size, 5, none⟩ = some (.slice ia il ic) ∧ V.cell? ⟨W.heap.size, 6, none⟩ = some (.int .i64 wr) ∧ V.cell? ⟨W.heap.size, 7, none⟩ = some (.slice ra rl rc) ∧ Hid (Chg [] W0 V)) (World.drew W0) := KEEP.out _ (Chg.refl _ _).drew
    refine wp_region_plan (fun V : World => V.cell? ⟨W.heap.size, 0, none⟩ = some (.int .i64 k) ∧ V.cell? ⟨W.heap.size, 1, none⟩ = some (.int .i64 w) ∧ V.cell? ⟨W.heap.size, 2, none⟩ = some (.int .i64 s) ∧ V.cell? ⟨W.heap.size, 3, none⟩ = some (.int .i64 c) ∧ V.cell? ⟨W.heap.size, 4, none⟩ = some (.int .u32 st) ∧ V.cell? ⟨W.heap.size, 5, none⟩ = some (.slice ia il ic) ∧ V.cell? ⟨W.heap.size, 6, none⟩ = some (.int .i64 wr) ∧ V.cell? ⟨W.heap.size, 7, none⟩ = some (.slice ra rl rc) ∧ Hid (Chg [] W0 V)) [(0, true, some 7), (1, true, some 8), (3, true, some 10), (4, true, some 11), (5, true, some 12), (6, true, some 13), (7, true, some 14), (9, true, some 16), (10, true, some 17), (2, false, some 9), (8, false, some 15), (11, false, some 18), (12, true, some 19), (13, true, some 20), (14, true, some 6)] (by kernel_rfl) (by kernel_rfl) (by kernel_rfl) (by kernel_rfl) (fun d c a v w h => by cases d <;> exact h) hHeld ?_
    repeat (first
      | (refine planWp_read (v := ?_) rfl rfl ?_ ?_ ?_; rotate_left; (focus rfl); (focus (intro u hSw; (try dsimp only at hSw); go_simp; (try with_reducible rfl))); (try simp only [Act.put, List.setIfInBounds_toArray, List.set_cons_zero, List.set_cons_succ]))
      | (refine planWp_skip rfl rfl ?_ ?_; (focus rfl); (try simp only [Act.put, List.setIfInBounds_toArray, List.set_cons_zero, List.set_cons_succ]))
      | (refine planWp_leave rfl rfl ?_ hHeld ?_; (focus rfl); (try simp only [Act.put, List.setIfInBounds_toArray, List.set_cons_zero, List.set_cons_succ]))
      | (refine planWp_do rfl rfl ?_ (fun K hK => ?_); (focus rfl); go_simp; (try go_wp2_with (first | (go_at_call 172; refine (HX.out _).mono ?_; rintro e wx ⟨rfl, hcx⟩; have HCX := Lib.hid hcx; clear hcx) | (go_at_call 46; refine (HF.out _).mono ?_; rintro e wx ⟨rfl, hcx⟩; have HCX := Lib.hid hcx; clear hcx) | (go_at_call 111; refine (Clamp_c _ _ _ _).mono ?_; rintro e wx ⟨rfl, hcx⟩; have HCX := Lib.hid hcx; clear hcx))); refine hK.out _ _ ?_ (fun hHeld2 => ?_); (focus (have hcn := Chg.trans hHeld.2.2.2.2.2.2.2.2.out HCX.out; exact KEEP.out _ hcn)); clear hK K hHeld; have hHeld := hHeld2; clear hHeld2; (try simp only [Act.put, List.setIfInBounds_toArray, List.set_cons_zero, List.set_cons_succ])))
    refine planWp_nil ?_
    have HCC := Lib.hid (HC0.out.trans hHeld.2.2.2.2.2.2.2.2.out)
    clear hHeld KEEP
    go_wp2_with fail
    go_ret
    exact ⟨by (refine ret_int ?_; exact HV.out), HCC.out⟩
  · have HV := Lib.hid (after_val k w s c st il rl op fails _ (.inr ⟨hx, rfl⟩))
    have hx2 : IntKind.i64.wrap (c - 1) < 0 := by omega
    clear hx
    go_enter Tryz.func155, Tryz.ntmps155
    go_wp2_with fail
    generalize hW0 : (W.alloc (.cells #[.int .i64 k, .int .i64 w, .int .i64 s, .int .i64 c, .int .u32 st, .slice ia il ic, .int .i64 wr, .slice ra rl rc] 46)) = W0
    have hB0 : Blk W0 W.heap.size #[.int .i64 k, .int .i64 w, .int .i64 s, .int .i64 c, .int .u32 st, .slice ia il ic, .int .i64 wr, .slice ra rl rc] 46 := by rw [← hW0]; exact Blk.new W _ _
    have HC0 : Hid (Chg [] W W0) := Lib.hid (by rw [← hW0]; exact (Chg.refl _ _).alloc _)
    clear hW0
    have e0 : W0.cell? ⟨W.heap.size, 0, none⟩ = some (.int .i64 k) := hB0.cell rfl
    have e1 : W0.cell? ⟨W.heap.size, 1, none⟩ = some (.int .i64 w) := hB0.cell rfl
    have e2 : W0.cell? ⟨W.heap.size, 2, none⟩ = some (.int .i64 s) := hB0.cell rfl
    have e3 : W0.cell? ⟨W.heap.size, 3, none⟩ = some (.int .i64 c) := hB0.cell rfl
    have e4 : W0.cell? ⟨W.heap.size, 4, none⟩ = some (.int .u32 st) := hB0.cell rfl
    have e5 : W0.cell? ⟨W.heap.size, 5, none⟩ = some (.slice ia il ic) := hB0.cell rfl
    have e6 : W0.cell? ⟨W.heap.size, 6, none⟩ = some (.int .i64 wr) := hB0.cell rfl
    have e7 : W0.cell? ⟨W.heap.size, 7, none⟩ = some (.slice ra rl rc) := hB0.cell rfl
    have KEEP := Lib.hid (fun (V : World) (h : Chg [] W0 V) => (⟨h.keep e0 (by simp), h.keep e1 (by simp), h.keep e2 (by simp), h.keep e3 (by simp), h.keep e4 (by simp), h.keep e5 (by simp), h.keep e6 (by simp), h.keep e7 (by simp), Lib.hid h⟩ : (fun V : World => V.cell? ⟨W.heap.size, 0, none⟩ = some (.int .i64 k) ∧ V.cell? ⟨W.heap.size, 1, none⟩ = some (.int .i64 w) ∧ V.cell? ⟨W.heap.size, 2, none⟩ = some (.int .i64 s) ∧ V.cell? ⟨W.heap.size, 3, none⟩ = some (.int .i64 c) ∧ V.cell? ⟨W.heap.size, 4, none⟩ = some (.int .u32 st) ∧ V.cell? ⟨W.heap.size, 5, none⟩ = some (.slice ia il ic) ∧ V.cell? ⟨W.heap.size, 6, none⟩ = some (.int .i64 wr) ∧ V.cell? ⟨W.heap.size, 7, none⟩ = some (.slice ra rl rc) ∧ Hid (Chg [] W0 V)) V))
    clear e0 e1 e2 e3 e4 e5 e6 e7 hB0
    have hHeld : (fun V : World => V.cell? ⟨W.heap.size, 0, none⟩ = some (.int .i64 k) ∧ V.cell? ⟨W.heap.size, 1, none⟩ = some (.int .i64 w) ∧ V.cell? ⟨W.heap.size, 2, none⟩ = some (.int .i64 s) ∧ V.cell? ⟨W.heap.size, 3, none⟩ = some (.int .i64 c) ∧ V.cell? ⟨W.heap.size, 4, none⟩ = some (.int .u32 st) ∧ V.cell? ⟨W.heap.size, 5, none⟩ = some (.slice ia il ic) ∧ V.cell? ⟨W.heap.size, 6, none⟩ = some (.int .i64 wr) ∧ V.cell? ⟨W.heap.size, 7, none⟩ = some (.slice ra rl rc) ∧ Hid (Chg [] W0 V)) (World.drew W0) := KEEP.out _ (Chg.refl _ _).drew
    refine wp_region_plan (fun V : World => V.cell? ⟨W.heap.size, 0, none⟩ = some (.int .i64 k) ∧ V.cell? ⟨W.heap.size, 1, none⟩ = some (.int .i64 w) ∧ V.cell? ⟨W.heap.size, 2, none⟩ = some (.int .i64 s) ∧ V.cell? ⟨W.heap.size, 3, none⟩ = some (.int .i64 c) ∧ V.cell? ⟨W.heap.size, 4, none⟩ = some (.int .u32 st) ∧ V.cell? ⟨W.heap.size, 5, none⟩ = some (.slice ia il ic) ∧ V.cell? ⟨W.heap.size, 6, none⟩ = some (.int .i64 wr) ∧ V.cell? ⟨W.heap.size, 7, none⟩ = some (.slice ra rl rc) ∧ Hid (Chg [] W0 V)) [(0, true, some 7), (1, true, some 8), (3, true, some 10), (4, true, some 11), (5, true, some 12), (6, true, some 13), (7, true, some 14), (9, true, some 16), (10, true, some 17), (2, false, some 9), (8, false, some 15), (11, false, some 18), (12, true, some 19), (13, true, some 20), (14, true, some 6)] (by kernel_rfl) (by kernel_rfl) (by kernel_rfl) (by kernel_rfl) (fun d c a v w h => by cases d <;> exact h) hHeld ?_
    repeat (first
      | (refine planWp_read (v := ?_) rfl rfl ?_ ?_ ?_; rotate_left; (focus rfl); (focus (intro u hSw; (try dsimp only at hSw); go_simp; (try with_reducible rfl))); (try simp only [Act.put, List.setIfInBounds_toArray, List.set_cons_zero, List.set_cons_succ]))
      | (refine planWp_skip rfl rfl ?_ ?_; (focus rfl); (try simp only [Act.put, List.setIfInBounds_toArray, List.set_cons_zero, List.set_cons_succ]))
      | (refine planWp_leave rfl rfl ?_ hHeld ?_; (focus rfl); (try simp only [Act.put, List.setIfInBounds_toArray, List.set_cons_zero, List.set_cons_succ]))
      | (refine planWp_do rfl rfl ?_ (fun K hK => ?_); (focus rfl); go_simp; (try go_wp2_with (first | (go_at_call 172; refine (HX.out _).mono ?_; rintro e wx ⟨rfl, hcx⟩; have HCX := Lib.hid hcx; clear hcx) | (go_at_call 46; refine (HF.out _).mono ?_; rintro e wx ⟨rfl, hcx⟩; have HCX := Lib.hid hcx; clear hcx) | (go_at_call 111; refine (Clamp_c _ _ _ _).mono ?_; rintro e wx ⟨rfl, hcx⟩; have HCX := Lib.hid hcx; clear hcx))); refine hK.out _ _ ?_ (fun hHeld2 => ?_); (focus (have hcn := Chg.trans hHeld.2.2.2.2.2.2.2.2.out HCX.out; exact KEEP.out _ hcn)); clear hK K hHeld; have hHeld := hHeld2; clear hHeld2; (try simp only [Act.put, List.setIfInBounds_toArray, List.set_cons_zero, List.set_cons_succ])))
    refine planWp_nil ?_
    have HCC := Lib.hid (HC0.out.trans hHeld.2.2.2.2.2.2.2.2.out)
    clear hHeld KEEP
    go_wp2_with fail
    go_ret
    exact ⟨by (refine ret_int ?_; exact HV.out), HCC.out⟩
end Go.Proofs.YtkedegbpkkgeaaaGreat.obj

/- How many steps an operation of any object has, if none, or some, of its attempts fail: the reference. -/
namespace Go.Proofs.YtkedegbpkkgeaaaGreat.obj
open Go Go.RowKit Go.Proofs.YtkedegbpkkgeaaaGreat.kit
set_option linter.unusedVariables false
set_option linter.unusedSimpArgs false
set_option maxRecDepth 20000

end Go.Proofs.YtkedegbpkkgeaaaGreat.obj

/- How many steps an operation of any object has: the chapter's example. -/
namespace Go.Proofs.YtkedegbpkkgeaaaGreat.obj
open Go Go.RowKit Go.Proofs.YtkedegbpkkgeaaaGreat.kit
set_option linter.unusedVariables false
set_option linter.unusedSimpArgs false
set_option maxRecDepth 20000

end Go.Proofs.YtkedegbpkkgeaaaGreat.obj
