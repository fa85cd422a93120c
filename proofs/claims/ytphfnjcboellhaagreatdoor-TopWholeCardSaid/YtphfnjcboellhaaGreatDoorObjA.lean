import Derived.Test.YtphfnjcboellhaaGreatDoorProg
import Derived.Test.YtphfnjcboellhaaGreatDoorPlans
import Derived.Test.YtphfnjcboellhaaGreatDoorOpen
namespace Go.Proofs.YtphfnjcboellhaaGreatDoor.obj
open Go Go.RowKit kit
set_option maxRecDepth 20000
structure ObjW (k w s c st : Int) (il rl : Nat) : Prop where
 k64 : -9223372036854775808 <= k /\ k <= 9223372036854775807
 w64 : -9223372036854775808 <= w /\ w <= 9223372036854775807
 s64 : -9223372036854775808 <= s /\ s <= 9223372036854775807
 c64 : -9223372036854775808 <= c /\ c <= 9223372036854775807
 st32 : 0 <= st /\ st <= 4294967295
 ilen : il <= 100
 rlen : rl <= 100
def rightB (k w s c st il rl : Int) : Bool := decide ((1 <= w /\ w <= 8 /\ 1 <= rl /\ rl <= 4 /\ (k = 6 \/ il = w)) ∧
 ((k = 1 /\ s = 0 /\ c = 0 /\ st = 0 /\ rl = 1) \/ (k = 2 /\ s = 0 /\ c = 0 /\ st = 0) \/ (k = 3 /\ s = 0 /\ 1 <= c /\ c <= 16 /\ st % 2 = 0) ∨
  (k = 4 /\ 2 <= s /\ s <= 16 /\ 1 <= c /\ c <= 16 /\ st < s * 1048576) \/ (k = 5 /\ rl + 2 <= s /\ s <= 16 /\ 1 <= c /\ c <= 16 /\ st = 0) ∨
  (k = 6 /\ 1 <= s /\ s <= 16 /\ c = 0 /\ st < 2 * s /\ rl = 1 /\ il = 0)))
theorem rightB_out (k w s c st il rl : Int) (hk : k < 1 \/ 6 < k) : rightB k w s c st il rl = false := by
 unfold rightB; rw [decide_eq_false_iff_not]; omega
def boundK (k w c rl op : Int) : Int :=
 if k = 1 then (if op = 2 then w + 4 else if op = 1 then w + 3 else 0)
 else if k = 2 then (if op = 2 then w + 2 * rl + 2 else if op = 1 then w + 4 else 0)
 else if k = 3 then (if op = 2 then w + 3 else if op = 1 then c * (w + 2) else 0)
 else if k = 4 then (if op = 2 then w + 2 else if op = 1 then c * (w + 2) else 0)
 else if k = 5 then (if op = 2 then w + rl + 2 else if op = 1 then 3 * c + w + 1 else 0)
 else (if op = 3 \/ op = 4 then w + 3 else 0)
def boundI (k w s c st il rl op : Int) : Int := if rightB k w s c st il rl then boundK k w c rl op else 0
theorem rightB_bd {k w s c st il rl : Int} (h : rightB k w s c st il rl = true) : 1 <= w /\ w <= 8 /\ 1 <= rl /\ rl <= 4 /\ 0 <= c /\ c <= 16 /\ 0 <= s /\ s <= 16 /\ 1 <= k /\ k <= 6 := by
 simp only [rightB, decide_eq_true_eq] at h
 omega
def writesI (k : Int) : Int := if k = 6 then 3 else 2
def readsI (k : Int) : Int := if k = 6 then 4 else 1
theorem rWrites_any (k : Int) (W : World) : Calls Tryz.prog 17 #[.int .i64 k] W fun e W' => e = .returned (.int .i64 (writesI k)) /\ W = W' := by
 by_cases h : k = 6
 · subst h
   go_enter Tryz.func17, Tryz.ntmps17
   go_wp2
   go_ret
   exact ⟨rfl, rfl⟩
 · rw [show writesI k = 2 from if_neg h]
   go_enter Tryz.func17, Tryz.ntmps17
   go_wp2
   go_ret
   exact ⟨rfl, rfl⟩
theorem rReads_any (k : Int) (W : World) : Calls Tryz.prog 18 #[.int .i64 k] W fun e W' => e = .returned (.int .i64 (readsI k)) /\ W = W' := by
 by_cases h : k = 6
 · subst h
   go_enter Tryz.func18, Tryz.ntmps18
   go_wp2
   go_ret
   exact ⟨rfl, rfl⟩
 · rw [show readsI k = 1 from if_neg h]
   go_enter Tryz.func18, Tryz.ntmps18
   go_wp2
   go_ret
   exact ⟨rfl, rfl⟩
def wordsOk (k kd w il init rl : Int) : Bool := decide (k = kd /\ 1 <= w /\ w <= 8 /\ il = init /\ 1 <= rl /\ rl <= 4)
set_option maxHeartbeats 2000000 in
theorem mWords_any (k kd init : Int) (w s c st : Int) (ia : Option Addr) (il ic : Nat) (wr : Int) (ra : Option Addr) (rl rc : Nat) (h : ObjW k w s c st il rl) (W : World) :
 Calls Tryz.prog 119 #[.agg #[.int .i64 k, .int .i64 w, .int .i64 s, .int .i64 c, .int .u32 st, .slice ia il ic, .int .i64 wr, .slice ra rl rc], .int .i64 kd, .int .i64 init] W fun e W' => e = .returned (.bool (wordsOk k kd w il init rl)) /\ Chg [] W W' := by
 obtain ⟨h1, h2, h3, h4, h5, h6, h7⟩ := h
 generalize hr : wordsOk k kd w il init rl = r
 have HR := hid hr
 clear hr
 go_enter Tryz.func119, Tryz.ntmps119
 go_wp2
 all_goals (go_ret; refine ⟨?_, (Chg.refl _ _).alloc _⟩; rw [<- HR.out]; refine ret_bool ?_; rw [Bool.eq_iff_iff]; (first | (simp [wordsOk]; done) | (simp [wordsOk]; omega) | (simp_all [wordsOk]; done) | (simp_all [wordsOk]; omega) | (trace_state; fail)))
def capsOk (c : Int) : Bool := decide (1 <= c /\ c <= 16)
theorem mCaps_any (k : Int) (w s c st : Int) (ia : Option Addr) (il ic : Nat) (wr : Int) (ra : Option Addr) (rl rc : Nat) (W : World) :
 Calls Tryz.prog 120 #[.agg #[.int .i64 k, .int .i64 w, .int .i64 s, .int .i64 c, .int .u32 st, .slice ia il ic, .int .i64 wr, .slice ra rl rc]] W fun e W' => e = .returned (.bool (capsOk c)) /\ Chg [] W W' := by
 generalize hr : capsOk c = r
 have HR := hid hr
 clear hr
 go_enter Tryz.func120, Tryz.ntmps120
 go_wp2
 all_goals (go_ret; refine ⟨?_, (Chg.refl _ _).alloc _⟩; rw [<- HR.out]; refine ret_bool ?_; rw [Bool.eq_iff_iff]; (first | (simp [capsOk]; done) | (simp [capsOk]; omega) | (simp_all [capsOk]; done) | (simp_all [capsOk]; omega) | (trace_state; fail)))
set_option maxHeartbeats 4000000 in
theorem fourRight_any (k : Int) (w s c st : Int) (ia : Option Addr) (il ic : Nat) (wr : Int) (ra : Option Addr) (rl rc : Nat) (h : ObjW k w s c st il rl) (W : World) :
 Calls Tryz.prog 80 #[.agg #[.int .i64 k, .int .i64 w, .int .i64 s, .int .i64 c, .int .u32 st, .slice ia il ic, .int .i64 wr, .slice ra rl rc]] W fun e W' => e = .returned (.bool (decide (k = 1) && rightB k w s c st il rl)) /\ Chg [] W W' := by
 have HO := hid h
 obtain ⟨h1, h2, h3, h4, h5, h6, h7⟩ := h
 generalize hr : (decide (k = 1) && rightB k w s c st il rl) = r
 have HR := hid hr
 clear hr
 cases hwords : wordsOk k 1 w il w rl
 · have HW := hid hwords
   have hf : r = false := by
    rw [<- HR.out]
    simp only [wordsOk, decide_eq_false_iff_not] at hwords
    rw [Bool.eq_false_iff]
    intro hx
    simp [rightB] at hx
    omega
   subst hf
   clear hwords
   go_enter Tryz.func80, Tryz.ntmps80
   go_wp2_with (go_at_call 119; refine (mWords_any k 1 w w s c st ia il ic wr ra rl rc HO.out _).mono ?_; rintro e wx ⟨rfl, hcx⟩; rw [HW.out])
   go_ret
   exact ⟨rfl, ((Chg.refl _ _).alloc _).trans hcx⟩
 · have HW := hid hwords
   simp only [wordsOk, decide_eq_true_eq] at hwords
   have HB := hid hwords
   (go_enter Tryz.func80, Tryz.ntmps80)
   (have HBX : Hid (Blk (W.alloc (.cells #[.int .i64 k, .int .i64 w, .int .i64 s, .int .i64 c, .int .u32 st, .slice ia il ic, .int .i64 wr, .slice ra rl rc] 26)) W.heap.size #[.int .i64 k, .int .i64 w, .int .i64 s, .int .i64 c, .int .u32 st, .slice ia il ic, .int .i64 wr, .slice ra rl rc] 26) := hid (Blk.new W _ _))
   (have HCC : Hid (Chg [] W (W.alloc (.cells #[.int .i64 k, .int .i64 w, .int .i64 s, .int .i64 c, .int .u32 st, .slice ia il ic, .int .i64 wr, .slice ra rl rc] 26))) := hid ((Chg.refl _ _).alloc _))
   (clear hwords)
   skip
   all_goals (go_wp2_with (first | (go_at_call 119; refine (mWords_any k 1 w w s c st ia il ic wr ra rl rc HO.out _).mono ?_; rintro e wx ⟨rfl, hcx⟩; rw [HW.out]; have HBX := hid (Blk.keep HBX.out hcx (by simp)); have e0 := HBX.out.cell (o := 0) (v := .int .i64 k) rfl; have e1 := HBX.out.cell (o := 1) (v := .int .i64 w) rfl; have e2 := HBX.out.cell (o := 2) (v := .int .i64 s) rfl; have e3 := HBX.out.cell (o := 3) (v := .int .i64 c) rfl; have e4 := HBX.out.cell (o := 4) (v := .int .u32 st) rfl; have e5 := HBX.out.cell (o := 5) (v := .slice ia il ic) rfl; have e6 := HBX.out.cell (o := 6) (v := .int .i64 wr) rfl; have e7 := HBX.out.cell (o := 7) (v := .slice ra rl rc) rfl; have HCC := hid (HCC.out.trans hcx); clear hcx)))
   all_goals (go_ret; refine ⟨?_, HCC.out⟩; rw [<- HR.out]; refine ret_bool ?_; have hB := HB.out; rw [Bool.eq_iff_iff]; (first | (simp [rightB]; omega) | (simp [rightB]; done) | (simp_all [rightB]; done) | (simp_all [rightB]; omega) | (trace_state; fail)))
set_option maxHeartbeats 4000000 in
theorem seqRight_any (k : Int) (w s c st : Int) (ia : Option Addr) (il ic : Nat) (wr : Int) (ra : Option Addr) (rl rc : Nat) (h : ObjW k w s c st il rl) (W : World) :
 Calls Tryz.prog 82 #[.agg #[.int .i64 k, .int .i64 w, .int .i64 s, .int .i64 c, .int .u32 st, .slice ia il ic, .int .i64 wr, .slice ra rl rc]] W fun e W' => e = .returned (.bool (decide (k = 3) && rightB k w s c st il rl)) /\ Chg [] W W' := by
 have HO := hid h
 obtain ⟨h1, h2, h3, h4, h5, h6, h7⟩ := h
 generalize hr : (decide (k = 3) && rightB k w s c st il rl) = r
 have HR := hid hr
 clear hr
 cases hwords : wordsOk k 3 w il w rl
 · have HW := hid hwords
   have hf : r = false := by
    rw [<- HR.out]
    simp only [wordsOk, decide_eq_false_iff_not] at hwords
    rw [Bool.eq_false_iff]
    intro hx
    simp [rightB] at hx
    omega
   subst hf
   clear hwords
   go_enter Tryz.func82, Tryz.ntmps82
   go_wp2_with (go_at_call 119; refine (mWords_any k 3 w w s c st ia il ic wr ra rl rc HO.out _).mono ?_; rintro e wx ⟨rfl, hcx⟩; rw [HW.out])
   go_ret
   exact ⟨rfl, ((Chg.refl _ _).alloc _).trans hcx⟩
 · have HW := hid hwords
   simp only [wordsOk, decide_eq_true_eq] at hwords
   have HB := hid hwords
   cases hcaps : capsOk c
   all_goals (have HQ := hid hcaps)
   all_goals (go_enter Tryz.func82, Tryz.ntmps82)
   all_goals (have HBX : Hid (Blk (W.alloc (.cells #[.int .i64 k, .int .i64 w, .int .i64 s, .int .i64 c, .int .u32 st, .slice ia il ic, .int .i64 wr, .slice ra rl rc] 26)) W.heap.size #[.int .i64 k, .int .i64 w, .int .i64 s, .int .i64 c, .int .u32 st, .slice ia il ic, .int .i64 wr, .slice ra rl rc] 26) := hid (Blk.new W _ _))
   all_goals (have HCC : Hid (Chg [] W (W.alloc (.cells #[.int .i64 k, .int .i64 w, .int .i64 s, .int .i64 c, .int .u32 st, .slice ia il ic, .int .i64 wr, .slice ra rl rc] 26))) := hid ((Chg.refl _ _).alloc _))
   all_goals (clear hwords)
   all_goals (clear hcaps)
   all_goals (go_wp2_with (first | (go_at_call 119; refine (mWords_any k 3 w w s c st ia il ic wr ra rl rc HO.out _).mono ?_; rintro e wx ⟨rfl, hcx⟩; rw [HW.out]; have HBX := hid (Blk.keep HBX.out hcx (by simp)); have e0 := HBX.out.cell (o := 0) (v := .int .i64 k) rfl; have e1 := HBX.out.cell (o := 1) (v := .int .i64 w) rfl; have e2 := HBX.out.cell (o := 2) (v := .int .i64 s) rfl; have e3 := HBX.out.cell (o := 3) (v := .int .i64 c) rfl; have e4 := HBX.out.cell (o := 4) (v := .int .u32 st) rfl; have e5 := HBX.out.cell (o := 5) (v := .slice ia il ic) rfl; have e6 := HBX.out.cell (o := 6) (v := .int .i64 wr) rfl; have e7 := HBX.out.cell (o := 7) (v := .slice ra rl rc) rfl; have HCC := hid (HCC.out.trans hcx); clear hcx) | (go_at_call 120; refine (mCaps_any _ _ _ _ _ _ _ _ _ _ _ _ _).mono ?_; rintro e wx ⟨rfl, hcx⟩; rw [HQ.out]; have HBX := hid (Blk.keep HBX.out hcx (by simp)); have e0 := HBX.out.cell (o := 0) (v := .int .i64 k) rfl; have e1 := HBX.out.cell (o := 1) (v := .int .i64 w) rfl; have e2 := HBX.out.cell (o := 2) (v := .int .i64 s) rfl; have e3 := HBX.out.cell (o := 3) (v := .int .i64 c) rfl; have e4 := HBX.out.cell (o := 4) (v := .int .u32 st) rfl; have e5 := HBX.out.cell (o := 5) (v := .slice ia il ic) rfl; have e6 := HBX.out.cell (o := 6) (v := .int .i64 wr) rfl; have e7 := HBX.out.cell (o := 7) (v := .slice ra rl rc) rfl; have HCC := hid (HCC.out.trans hcx); clear hcx)))
   all_goals (go_ret; refine ⟨?_, HCC.out⟩; rw [<- HR.out]; refine ret_bool ?_; have hB := HB.out; have hQ := HQ.out; simp only [capsOk, decide_eq_true_eq, decide_eq_false_iff_not] at hQ; rw [Bool.eq_iff_iff]; (first | (simp [rightB]; omega) | (simp [rightB]; done) | (simp_all [rightB]; done) | (simp_all [rightB]; omega) | (trace_state; fail)))
set_option maxHeartbeats 2000000 in
theorem ringMod_any (k : Int) (w s c st : Int) (ia : Option Addr) (il ic : Nat) (wr : Int) (ra : Option Addr) (rl rc : Nat) (h : 0 <= s /\ s <= 16) (W : World) :
 Calls Tryz.prog 121 #[.agg #[.int .i64 k, .int .i64 w, .int .i64 s, .int .i64 c, .int .u32 st, .slice ia il ic, .int .i64 wr, .slice ra rl rc]] W fun e W' => e = .returned (.int .u32 (s * 1048576)) /\ Chg [] W W' := by
 go_enter Tryz.func121, Tryz.ntmps121
 go_wp2
 go_ret
 exact ⟨by rfl, (Chg.refl _ _).alloc _⟩
set_option maxHeartbeats 2000000 in
theorem fifoMod_any (k : Int) (w s c st : Int) (ia : Option Addr) (il ic : Nat) (wr : Int) (ra : Option Addr) (rl rc : Nat) (h : 0 <= s /\ s <= 16) (W : World) :
 Calls Tryz.prog 122 #[.agg #[.int .i64 k, .int .i64 w, .int .i64 s, .int .i64 c, .int .u32 st, .slice ia il ic, .int .i64 wr, .slice ra rl rc]] W fun e W' => e = .returned (.int .u32 (2 * s)) /\ Chg [] W W' := by
 go_enter Tryz.func122, Tryz.ntmps122
 go_wp2
 go_ret
 exact ⟨by rfl, (Chg.refl _ _).alloc _⟩
set_option maxHeartbeats 4000000 in
theorem chenRight_any (k : Int) (w s c st : Int) (ia : Option Addr) (il ic : Nat) (wr : Int) (ra : Option Addr) (rl rc : Nat) (h : ObjW k w s c st il rl) (W : World) :
 Calls Tryz.prog 81 #[.agg #[.int .i64 k, .int .i64 w, .int .i64 s, .int .i64 c, .int .u32 st, .slice ia il ic, .int .i64 wr, .slice ra rl rc]] W fun e W' => e = .returned (.bool (decide (k = 2) && rightB k w s c st il rl)) /\ Chg [] W W' := by
 have HO := hid h
 obtain ⟨h1, h2, h3, h4, h5, h6, h7⟩ := h
 generalize hr : (decide (k = 2) && rightB k w s c st il rl) = r
 have HR := hid hr
 clear hr
 cases hwords : wordsOk k 2 w il w rl
 · have HW := hid hwords
   have hf : r = false := by
    rw [<- HR.out]
    simp only [wordsOk, decide_eq_false_iff_not] at hwords
    rw [Bool.eq_false_iff]
    intro hx
    simp [rightB] at hx
    omega
   subst hf
   clear hwords
   go_enter Tryz.func81, Tryz.ntmps81
   go_wp2_with (go_at_call 119; refine (mWords_any k 2 w w s c st ia il ic wr ra rl rc HO.out _).mono ?_; rintro e wx ⟨rfl, hcx⟩; rw [HW.out])
   go_ret
   exact ⟨rfl, ((Chg.refl _ _).alloc _).trans hcx⟩
 · have HW := hid hwords
   simp only [wordsOk, decide_eq_true_eq] at hwords
   have HB := hid hwords
   (go_enter Tryz.func81, Tryz.ntmps81)
   (have HBX : Hid (Blk (W.alloc (.cells #[.int .i64 k, .int .i64 w, .int .i64 s, .int .i64 c, .int .u32 st, .slice ia il ic, .int .i64 wr, .slice ra rl rc] 26)) W.heap.size #[.int .i64 k, .int .i64 w, .int .i64 s, .int .i64 c, .int .u32 st, .slice ia il ic, .int .i64 wr, .slice ra rl rc] 26) := hid (Blk.new W _ _))
   (have HCC : Hid (Chg [] W (W.alloc (.cells #[.int .i64 k, .int .i64 w, .int .i64 s, .int .i64 c, .int .u32 st, .slice ia il ic, .int .i64 wr, .slice ra rl rc] 26))) := hid ((Chg.refl _ _).alloc _))
   (clear hwords)
   skip
   all_goals (go_wp2_with (first | (go_at_call 119; refine (mWords_any k 2 w w s c st ia il ic wr ra rl rc HO.out _).mono ?_; rintro e wx ⟨rfl, hcx⟩; rw [HW.out]; have HBX := hid (Blk.keep HBX.out hcx (by simp)); have e0 := HBX.out.cell (o := 0) (v := .int .i64 k) rfl; have e1 := HBX.out.cell (o := 1) (v := .int .i64 w) rfl; have e2 := HBX.out.cell (o := 2) (v := .int .i64 s) rfl; have e3 := HBX.out.cell (o := 3) (v := .int .i64 c) rfl; have e4 := HBX.out.cell (o := 4) (v := .int .u32 st) rfl; have e5 := HBX.out.cell (o := 5) (v := .slice ia il ic) rfl; have e6 := HBX.out.cell (o := 6) (v := .int .i64 wr) rfl; have e7 := HBX.out.cell (o := 7) (v := .slice ra rl rc) rfl; have HCC := hid (HCC.out.trans hcx); clear hcx)))
   all_goals (go_ret; refine ⟨?_, HCC.out⟩; rw [<- HR.out]; refine ret_bool ?_; have hB := HB.out; rw [Bool.eq_iff_iff]; (first | (simp [rightB]; omega) | (simp [rightB]; done) | (simp_all [rightB]; done) | (simp_all [rightB]; omega) | (trace_state; fail)))
set_option maxHeartbeats 4000000 in
theorem cabRight_any (k : Int) (w s c st : Int) (ia : Option Addr) (il ic : Nat) (wr : Int) (ra : Option Addr) (rl rc : Nat) (h : ObjW k w s c st il rl) (W : World) :
 Calls Tryz.prog 84 #[.agg #[.int .i64 k, .int .i64 w, .int .i64 s, .int .i64 c, .int .u32 st, .slice ia il ic, .int .i64 wr, .slice ra rl rc]] W fun e W' => e = .returned (.bool (decide (k = 5) && rightB k w s c st il rl)) /\ Chg [] W W' := by
 have HO := hid h
 obtain ⟨h1, h2, h3, h4, h5, h6, h7⟩ := h
 generalize hr : (decide (k = 5) && rightB k w s c st il rl) = r
 have HR := hid hr
 clear hr
 cases hwords : wordsOk k 5 w il w rl
 · have HW := hid hwords
   have hf : r = false := by
    rw [<- HR.out]
    simp only [wordsOk, decide_eq_false_iff_not] at hwords
    rw [Bool.eq_false_iff]
    intro hx
    simp [rightB] at hx
    omega
   subst hf
   clear hwords
   go_enter Tryz.func84, Tryz.ntmps84
   go_wp2_with (go_at_call 119; refine (mWords_any k 5 w w s c st ia il ic wr ra rl rc HO.out _).mono ?_; rintro e wx ⟨rfl, hcx⟩; rw [HW.out])
   go_ret
   exact ⟨rfl, ((Chg.refl _ _).alloc _).trans hcx⟩
 · have HW := hid hwords
   simp only [wordsOk, decide_eq_true_eq] at hwords
   have HB := hid hwords
   cases hcaps : capsOk c
   all_goals (have HQ := hid hcaps)
   all_goals (go_enter Tryz.func84, Tryz.ntmps84)
   all_goals (have HBX : Hid (Blk (W.alloc (.cells #[.int .i64 k, .int .i64 w, .int .i64 s, .int .i64 c, .int .u32 st, .slice ia il ic, .int .i64 wr, .slice ra rl rc] 26)) W.heap.size #[.int .i64 k, .int .i64 w, .int .i64 s, .int .i64 c, .int .u32 st, .slice ia il ic, .int .i64 wr, .slice ra rl rc] 26) := hid (Blk.new W _ _))
   all_goals (have HCC : Hid (Chg [] W (W.alloc (.cells #[.int .i64 k, .int .i64 w, .int .i64 s, .int .i64 c, .int .u32 st, .slice ia il ic, .int .i64 wr, .slice ra rl rc] 26))) := hid ((Chg.refl _ _).alloc _))
   all_goals (clear hwords)
   all_goals (clear hcaps)
   all_goals (go_wp2_with (first | (go_at_call 119; refine (mWords_any k 5 w w s c st ia il ic wr ra rl rc HO.out _).mono ?_; rintro e wx ⟨rfl, hcx⟩; rw [HW.out]; have HBX := hid (Blk.keep HBX.out hcx (by simp)); have e0 := HBX.out.cell (o := 0) (v := .int .i64 k) rfl; have e1 := HBX.out.cell (o := 1) (v := .int .i64 w) rfl; have e2 := HBX.out.cell (o := 2) (v := .int .i64 s) rfl; have e3 := HBX.out.cell (o := 3) (v := .int .i64 c) rfl; have e4 := HBX.out.cell (o := 4) (v := .int .u32 st) rfl; have e5 := HBX.out.cell (o := 5) (v := .slice ia il ic) rfl; have e6 := HBX.out.cell (o := 6) (v := .int .i64 wr) rfl; have e7 := HBX.out.cell (o := 7) (v := .slice ra rl rc) rfl; have HCC := hid (HCC.out.trans hcx); clear hcx) | (go_at_call 120; refine (mCaps_any _ _ _ _ _ _ _ _ _ _ _ _ _).mono ?_; rintro e wx ⟨rfl, hcx⟩; rw [HQ.out]; have HBX := hid (Blk.keep HBX.out hcx (by simp)); have e0 := HBX.out.cell (o := 0) (v := .int .i64 k) rfl; have e1 := HBX.out.cell (o := 1) (v := .int .i64 w) rfl; have e2 := HBX.out.cell (o := 2) (v := .int .i64 s) rfl; have e3 := HBX.out.cell (o := 3) (v := .int .i64 c) rfl; have e4 := HBX.out.cell (o := 4) (v := .int .u32 st) rfl; have e5 := HBX.out.cell (o := 5) (v := .slice ia il ic) rfl; have e6 := HBX.out.cell (o := 6) (v := .int .i64 wr) rfl; have e7 := HBX.out.cell (o := 7) (v := .slice ra rl rc) rfl; have HCC := hid (HCC.out.trans hcx); clear hcx)))
   all_goals (go_ret; refine ⟨?_, HCC.out⟩; rw [<- HR.out]; refine ret_bool ?_; have hB := HB.out; have hQ := HQ.out; simp only [capsOk, decide_eq_true_eq, decide_eq_false_iff_not] at hQ; rw [Bool.eq_iff_iff]; (first | (simp [rightB]; omega) | (simp [rightB]; done) | (simp_all [rightB]; done) | (simp_all [rightB]; omega) | (trace_state; fail)))
set_option maxHeartbeats 4000000 in
theorem small_any (k : Int) (w s c st : Int) (ia : Option Addr) (il ic : Nat) (wr : Int) (ra : Option Addr) (rl rc : Nat) (W : World) :
 Calls Tryz.prog 15 #[.agg #[.int .i64 k, .int .i64 w, .int .i64 s, .int .i64 c, .int .u32 st, .slice ia il ic, .int .i64 wr, .slice ra rl rc]] W fun e W' => e = .returned (.bool (decide (il <= 100 /\ rl <= 100))) /\ Chg [] W W' := by
 generalize hr : decide (il <= 100 /\ rl <= 100) = r
 have HR := hid hr
 clear hr
 go_enter Tryz.func15, Tryz.ntmps15
 go_wp2
 all_goals (go_ret; refine ⟨?_, (Chg.refl _ _).alloc _⟩; rw [<- HR.out]; refine ret_bool ?_; rw [Bool.eq_iff_iff]; (first | (simp; done) | (simp; omega) | (simp_all; done) | (simp_all; omega) | (trace_state; fail)))
theorem cellsO : Tryz.prog.cellsOf 26 = 8 := by kernel_rfl
theorem cellsInt : Tryz.prog.cellsOf 3 = 1 := by kernel_rfl
theorem cellsU32 : Tryz.prog.cellsOf 22 = 1 := by kernel_rfl
theorem cellsWs : Tryz.prog.cellsOf 23 = 1 := by kernel_rfl
theorem cellsIs : Tryz.prog.cellsOf 24 = 1 := by kernel_rfl
theorem obj_open {w : World} {n : Nat} {cs : List Value} (h : kit.Opens Tryz.prog w (n + 3) 26 cs) :
 ∃ (k w' s c st : Int) (ia : Option Addr) (il ic : Nat) (wr : Int) (ra : Option Addr) (rl rc : Nat),
  cs = [.int .i64 k, .int .i64 w', .int .i64 s, .int .i64 c, .int .u32 st, .slice ia il ic, .int .i64 wr, .slice ra rl rc] /\ (il <= 100 -> rl <= 100 -> ObjW k w' s c st il rl) := by
 have hl := (h.struct Tryz.underlying26).1
 obtain ⟨k0, h0, w0⟩ := (h.field Tryz.underlying26 0 _ rfl 0 1 rfl cellsInt).int Tryz.underlying3
 obtain ⟨k1, h1, w1⟩ := (h.field Tryz.underlying26 1 _ rfl 1 1 rfl cellsInt).int Tryz.underlying3
 obtain ⟨k2, h2, w2⟩ := (h.field Tryz.underlying26 2 _ rfl 2 1 rfl cellsInt).int Tryz.underlying3
 obtain ⟨k3, h3, w3⟩ := (h.field Tryz.underlying26 3 _ rfl 3 1 rfl cellsInt).int Tryz.underlying3
 obtain ⟨k4, h4, w4⟩ := (h.field Tryz.underlying26 4 _ rfl 4 1 rfl cellsU32).int Tryz.underlying22
 obtain ⟨ia, il, ic, h5⟩ := (h.field Tryz.underlying26 5 _ rfl 5 1 rfl cellsWs).isSlice Tryz.underlying23 (by rw [cellsU32]; decide)
 obtain ⟨k6, h6, w6⟩ := (h.field Tryz.underlying26 6 _ rfl 6 1 rfl cellsInt).int Tryz.underlying3
 obtain ⟨ra, rl, rc, h7⟩ := (h.field Tryz.underlying26 7 _ rfl 7 1 rfl cellsIs).isSlice Tryz.underlying24 (by rw [cellsInt]; decide)
 rw [cellsO] at hl
 refine ⟨k0, k1, k2, k3, k4, ia, il, ic, k6, ra, rl, rc, ?_, fun hi hr => ⟨wf_i64 w0, wf_i64 w1, wf_i64 w2, wf_i64 w3, wf_u32 w4, hi, hr⟩⟩
 match cs, hl with
 | [y0, y1, y2, y3, y4, y5, y6, y7], _ => simp at h0 h1 h2 h3 h4 h5 h6 h7; rw [h0, h1, h2, h3, h4, h5, h6, h7]
end Go.Proofs.YtphfnjcboellhaaGreatDoor.obj
