/- Objects: words, attempts, and whether one is right as one of its kind: the program's. -/
import Derived.Test.YtbbpnpokccfhjaaObjD
namespace Go.Proofs.Ytbbpnpokccfhjaa.obj
open Go Go.RowKit Go.Proofs.Ytbbpnpokccfhjaa.kit
set_option linter.unusedVariables false
set_option maxRecDepth 20000

def writesI (k : Int) : Int := if k = 6 then 3 else 2
def readsI (k : Int) : Int := if k = 6 then 4 else 1
theorem rWrites_any (k : Int) (W : World) : Calls Try.prog 54 #[.int .i64 k] W fun e W' => e = .returned (.int .i64 (writesI k)) ∧ W = W' := by
  by_cases h : k = 6
  · subst h
    go_enter Try.func54, Try.ntmps54
    go_wp2
    go_ret
    exact ⟨rfl, rfl⟩
  · rw [show writesI k = 2 from if_neg h]
    go_enter Try.func54, Try.ntmps54
    go_wp2
    go_ret
    exact ⟨rfl, rfl⟩
theorem rReads_any (k : Int) (W : World) : Calls Try.prog 55 #[.int .i64 k] W fun e W' => e = .returned (.int .i64 (readsI k)) ∧ W = W' := by
  by_cases h : k = 6
  · subst h
    go_enter Try.func55, Try.ntmps55
    go_wp2
    go_ret
    exact ⟨rfl, rfl⟩
  · rw [show readsI k = 1 from if_neg h]
    go_enter Try.func55, Try.ntmps55
    go_wp2
    go_ret
    exact ⟨rfl, rfl⟩

def wordsOk (k kd w il init rl : Int) : Bool := decide (k = kd ∧ 1 ≤ w ∧ w ≤ 8 ∧ il = init ∧ 1 ≤ rl ∧ rl ≤ 4)
set_option maxHeartbeats 2000000 in
theorem mWords_any (k kd init : Int) (w s c st : Int) (ia : Option Addr) (il ic : Nat) (wr : Int) (ra : Option Addr) (rl rc : Nat) (h : ObjW k w s c st il rl) (W : World) :
    Calls Try.prog 50 #[.agg #[.int .i64 k, .int .i64 w, .int .i64 s, .int .i64 c, .int .u32 st, .slice ia il ic, .int .i64 wr, .slice ra rl rc], .int .i64 kd, .int .i64 init] W fun e W' => e = .returned (.bool (wordsOk k kd w il init rl)) ∧ Chg [] W W' := by
  obtain ⟨h1, h2, h3, h4, h5, h6, h7⟩ := h
  generalize hr : wordsOk k kd w il init rl = r
  have HR := Lib.hid hr
  clear hr
  go_enter Try.func50, Try.ntmps50
  go_wp2
  all_goals (go_ret; refine ⟨?_, (Chg.refl _ _).alloc _⟩; rw [← HR.out]; refine ret_bool ?_; rw [Bool.eq_iff_iff]; (first | (simp [wordsOk]; done) | (simp [wordsOk]; omega) | (simp_all [wordsOk]; done) | (simp_all [wordsOk]; omega) | (trace_state; fail)))
def capsOk (c : Int) : Bool := decide (1 ≤ c ∧ c ≤ 16)
theorem mCaps_any (k : Int) (w s c st : Int) (ia : Option Addr) (il ic : Nat) (wr : Int) (ra : Option Addr) (rl rc : Nat) (W : World) :
    Calls Try.prog 66 #[.agg #[.int .i64 k, .int .i64 w, .int .i64 s, .int .i64 c, .int .u32 st, .slice ia il ic, .int .i64 wr, .slice ra rl rc]] W fun e W' => e = .returned (.bool (capsOk c)) ∧ Chg [] W W' := by
  generalize hr : capsOk c = r
  have HR := Lib.hid hr
  clear hr
  go_enter Try.func66, Try.ntmps66
  go_wp2
  all_goals (go_ret; refine ⟨?_, (Chg.refl _ _).alloc _⟩; rw [← HR.out]; refine ret_bool ?_; rw [Bool.eq_iff_iff]; (first | (simp [capsOk]; done) | (simp [capsOk]; omega) | (simp_all [capsOk]; done) | (simp_all [capsOk]; omega) | (trace_state; fail)))

set_option maxHeartbeats 4000000 in
theorem fourRight_any (k : Int) (w s c st : Int) (ia : Option Addr) (il ic : Nat) (wr : Int) (ra : Option Addr) (rl rc : Nat) (h : ObjW k w s c st il rl) (W : World) :
    Calls Try.prog 16 #[.agg #[.int .i64 k, .int .i64 w, .int .i64 s, .int .i64 c, .int .u32 st, .slice ia il ic, .int .i64 wr, .slice ra rl rc]] W fun e W' => e = .returned (.bool (decide (k = 1) && rightB k w s c st il rl)) ∧ Chg [] W W' := by
  have HO := Lib.hid h
  obtain ⟨h1, h2, h3, h4, h5, h6, h7⟩ := h
  generalize hr : (decide (k = 1) && rightB k w s c st il rl) = r
  have HR := Lib.hid hr
  clear hr
  cases hwords : wordsOk k 1 w il w rl
  · have HW := Lib.hid hwords
    have hf : r = false := by
      rw [← HR.out]
      simp only [wordsOk, decide_eq_false_iff_not] at hwords
      rw [Bool.eq_false_iff]
      intro hx
      simp [rightB] at hx
      omega
    subst hf
    clear hwords
    go_enter Try.func16, Try.ntmps16
    go_wp2_with (go_at_call 50; refine (mWords_any k 1 w w s c st ia il ic wr ra rl rc HO.out _).mono ?_; rintro e wx ⟨rfl, hcx⟩; rw [HW.out])
    go_ret
    exact ⟨rfl, ((Chg.refl _ _).alloc _).trans hcx⟩
  · have HW := Lib.hid hwords
    simp only [wordsOk, decide_eq_true_eq] at hwords
    have HB := Lib.hid hwords
    (go_enter Try.func16, Try.ntmps16)
    (have HBX : Hid (Blk (W.alloc (.cells #[.int .i64 k, .int .i64 w, .int .i64 s, .int .i64 c, .int .u32 st, .slice ia il ic, .int .i64 wr, .slice ra rl rc] 26)) W.heap.size #[.int .i64 k, .int .i64 w, .int .i64 s, .int .i64 c, .int .u32 st, .slice ia il ic, .int .i64 wr, .slice ra rl rc] 26) := Lib.hid (Blk.new W _ _))
    (have HCC : Hid (Chg [] W (W.alloc (.cells #[.int .i64 k, .int .i64 w, .int .i64 s, .int .i64 c, .int .u32 st, .slice ia il ic, .int .i64 wr, .slice ra rl rc] 26))) := Lib.hid ((Chg.refl _ _).alloc _))
    (clear hwords)
    skip
    all_goals (go_wp2_with (first | (go_at_call 50; refine (mWords_any k 1 w w s c st ia il ic wr ra rl rc HO.out _).mono ?_; rintro e wx ⟨rfl, hcx⟩; rw [HW.out]; have HBX := Lib.hid (Blk.keep HBX.out hcx (by simp)); have e0 := HBX.out.cell (o := 0) (v := .int .i64 k) rfl; have e1 := HBX.out.cell (o := 1) (v := .int .i64 w) rfl; have e2 := HBX.out.cell (o := 2) (v := .int .i64 s) rfl; have e3 := HBX.out.cell (o := 3) (v := .int .i64 c) rfl; have e4 := HBX.out.cell (o := 4) (v := .int .u32 st) rfl; have e5 := HBX.out.cell (o := 5) (v := .slice ia il ic) rfl; have e6 := HBX.out.cell (o := 6) (v := .int .i64 wr) rfl; have e7 := HBX.out.cell (o := 7) (v := .slice ra rl rc) rfl; have HCC := Lib.hid (HCC.out.trans hcx); clear hcx)))
    all_goals (go_ret; refine ⟨?_, HCC.out⟩; rw [← HR.out]; refine ret_bool ?_; have hB := HB.out; rw [Bool.eq_iff_iff]; (first | (simp [rightB]; omega) | (simp [rightB]; done) | (simp_all [rightB]; done) | (simp_all [rightB]; omega) | (trace_state; fail)))

set_option maxHeartbeats 4000000 in
theorem seqRight_any (k : Int) (w s c st : Int) (ia : Option Addr) (il ic : Nat) (wr : Int) (ra : Option Addr) (rl rc : Nat) (h : ObjW k w s c st il rl) (W : World) :
    Calls Try.prog 34 #[.agg #[.int .i64 k, .int .i64 w, .int .i64 s, .int .i64 c, .int .u32 st, .slice ia il ic, .int .i64 wr, .slice ra rl rc]] W fun e W' => e = .returned (.bool (decide (k = 3) && rightB k w s c st il rl)) ∧ Chg [] W W' := by
  have HO := Lib.hid h
  obtain ⟨h1, h2, h3, h4, h5, h6, h7⟩ := h
  generalize hr : (decide (k = 3) && rightB k w s c st il rl) = r
  have HR := Lib.hid hr
  clear hr
  cases hwords : wordsOk k 3 w il w rl
  · have HW := Lib.hid hwords
    have hf : r = false := by
      rw [← HR.out]
      simp only [wordsOk, decide_eq_false_iff_not] at hwords
      rw [Bool.eq_false_iff]
      intro hx
      simp [rightB] at hx
      omega
    subst hf
    clear hwords
    go_enter Try.func34, Try.ntmps34
    go_wp2_with (go_at_call 50; refine (mWords_any k 3 w w s c st ia il ic wr ra rl rc HO.out _).mono ?_; rintro e wx ⟨rfl, hcx⟩; rw [HW.out])
    go_ret
    exact ⟨rfl, ((Chg.refl _ _).alloc _).trans hcx⟩
  · have HW := Lib.hid hwords
    simp only [wordsOk, decide_eq_true_eq] at hwords
    have HB := Lib.hid hwords
    cases hcaps : capsOk c
    all_goals (have HQ := Lib.hid hcaps)
    all_goals (go_enter Try.func34, Try.ntmps34)
    all_goals (have HBX : Hid (Blk (W.alloc (.cells #[.int .i64 k, .int .i64 w, .int .i64 s, .int .i64 c, .int .u32 st, .slice ia il ic, .int .i64 wr, .slice ra rl rc] 26)) W.heap.size #[.int .i64 k, .int .i64 w, .int .i64 s, .int .i64 c, .int .u32 st, .slice ia il ic, .int .i64 wr, .slice ra rl rc] 26) := Lib.hid (Blk.new W _ _))
    all_goals (have HCC : Hid (Chg [] W (W.alloc (.cells #[.int .i64 k, .int .i64 w, .int .i64 s, .int .i64 c, .int .u32 st, .slice ia il ic, .int .i64 wr, .slice ra rl rc] 26))) := Lib.hid ((Chg.refl _ _).alloc _))
    all_goals (clear hwords)
    all_goals (clear hcaps)
    all_goals (go_wp2_with (first | (go_at_call 50; refine (mWords_any k 3 w w s c st ia il ic wr ra rl rc HO.out _).mono ?_; rintro e wx ⟨rfl, hcx⟩; rw [HW.out]; have HBX := Lib.hid (Blk.keep HBX.out hcx (by simp)); have e0 := HBX.out.cell (o := 0) (v := .int .i64 k) rfl; have e1 := HBX.out.cell (o := 1) (v := .int .i64 w) rfl; have e2 := HBX.out.cell (o := 2) (v := .int .i64 s) rfl; have e3 := HBX.out.cell (o := 3) (v := .int .i64 c) rfl; have e4 := HBX.out.cell (o := 4) (v := .int .u32 st) rfl; have e5 := HBX.out.cell (o := 5) (v := .slice ia il ic) rfl; have e6 := HBX.out.cell (o := 6) (v := .int .i64 wr) rfl; have e7 := HBX.out.cell (o := 7) (v := .slice ra rl rc) rfl; have HCC := Lib.hid (HCC.out.trans hcx); clear hcx) | (go_at_call 66; refine (mCaps_any _ _ _ _ _ _ _ _ _ _ _ _ _).mono ?_; rintro e wx ⟨rfl, hcx⟩; rw [HQ.out]; have HBX := Lib.hid (Blk.keep HBX.out hcx (by simp)); have e0 := HBX.out.cell (o := 0) (v := .int .i64 k) rfl; have e1 := HBX.out.cell (o := 1) (v := .int .i64 w) rfl; have e2 := HBX.out.cell (o := 2) (v := .int .i64 s) rfl; have e3 := HBX.out.cell (o := 3) (v := .int .i64 c) rfl; have e4 := HBX.out.cell (o := 4) (v := .int .u32 st) rfl; have e5 := HBX.out.cell (o := 5) (v := .slice ia il ic) rfl; have e6 := HBX.out.cell (o := 6) (v := .int .i64 wr) rfl; have e7 := HBX.out.cell (o := 7) (v := .slice ra rl rc) rfl; have HCC := Lib.hid (HCC.out.trans hcx); clear hcx)))
    all_goals (go_ret; refine ⟨?_, HCC.out⟩; rw [← HR.out]; refine ret_bool ?_; have hB := HB.out; have hQ := HQ.out; simp only [capsOk, decide_eq_true_eq, decide_eq_false_iff_not] at hQ; rw [Bool.eq_iff_iff]; (first | (simp [rightB]; omega) | (simp [rightB]; done) | (simp_all [rightB]; done) | (simp_all [rightB]; omega) | (trace_state; fail)))

end Go.Proofs.Ytbbpnpokccfhjaa.obj
