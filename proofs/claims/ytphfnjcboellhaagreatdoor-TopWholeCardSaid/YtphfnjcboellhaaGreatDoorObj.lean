import Derived.Test.YtphfnjcboellhaaGreatDoorObjA
namespace Go.Proofs.YtphfnjcboellhaaGreatDoor.obj
open Go Go.RowKit kit
set_option maxRecDepth 20000
set_option maxHeartbeats 4000000 in
theorem rRight_1 (w s c st : Int) (ia : Option Addr) (il ic : Nat) (wr : Int) (ra : Option Addr) (rl rc : Nat) (h : ObjW 1 w s c st il rl) (W : World) :
 Calls Tryz.prog 16 #[.agg #[.int .i64 1, .int .i64 w, .int .i64 s, .int .i64 c, .int .u32 st, .slice ia il ic, .int .i64 wr, .slice ra rl rc]] W fun e W' => e = .returned (.bool (rightB 1 w s c st il rl)) /\ Chg [] W W' := by
 obtain ⟨h1, h2, h3, h4, h5, h6, h7⟩ := h
 have h8 : wrap64 st = st := by unfold wrap64; omega
 generalize hr : rightB 1 w s c st il rl = r
 have HR := hid hr
 clear hr
 go_enter Tryz.func16, Tryz.ntmps16
 go_wp2
 all_goals (go_ret; refine ⟨?_, (Chg.refl _ _).alloc _⟩; rw [<- HR.out]; refine ret_bool ?_; rw [Bool.eq_iff_iff]; (first | (simp [rightB]; done) | (simp [rightB]; omega) | (simp_all [rightB]; done) | (simp_all [rightB]; omega) | (trace_state; fail)))
set_option maxHeartbeats 4000000 in
theorem rRight_2 (w s c st : Int) (ia : Option Addr) (il ic : Nat) (wr : Int) (ra : Option Addr) (rl rc : Nat) (h : ObjW 2 w s c st il rl) (W : World) :
 Calls Tryz.prog 16 #[.agg #[.int .i64 2, .int .i64 w, .int .i64 s, .int .i64 c, .int .u32 st, .slice ia il ic, .int .i64 wr, .slice ra rl rc]] W fun e W' => e = .returned (.bool (rightB 2 w s c st il rl)) /\ Chg [] W W' := by
 obtain ⟨h1, h2, h3, h4, h5, h6, h7⟩ := h
 have h8 : wrap64 st = st := by unfold wrap64; omega
 generalize hr : rightB 2 w s c st il rl = r
 have HR := hid hr
 clear hr
 go_enter Tryz.func16, Tryz.ntmps16
 go_wp2
 all_goals (go_ret; refine ⟨?_, (Chg.refl _ _).alloc _⟩; rw [<- HR.out]; refine ret_bool ?_; rw [Bool.eq_iff_iff]; (first | (simp [rightB]; done) | (simp [rightB]; omega) | (simp_all [rightB]; done) | (simp_all [rightB]; omega) | (trace_state; fail)))
set_option maxHeartbeats 4000000 in
theorem rRight_3 (w s c st : Int) (ia : Option Addr) (il ic : Nat) (wr : Int) (ra : Option Addr) (rl rc : Nat) (h : ObjW 3 w s c st il rl) (W : World) :
 Calls Tryz.prog 16 #[.agg #[.int .i64 3, .int .i64 w, .int .i64 s, .int .i64 c, .int .u32 st, .slice ia il ic, .int .i64 wr, .slice ra rl rc]] W fun e W' => e = .returned (.bool (rightB 3 w s c st il rl)) /\ Chg [] W W' := by
 obtain ⟨h1, h2, h3, h4, h5, h6, h7⟩ := h
 have h8 : wrap64 st = st := by unfold wrap64; omega
 generalize hr : rightB 3 w s c st il rl = r
 have HR := hid hr
 clear hr
 go_enter Tryz.func16, Tryz.ntmps16
 go_wp2
 all_goals (go_ret; refine ⟨?_, (Chg.refl _ _).alloc _⟩; rw [<- HR.out]; refine ret_bool ?_; rw [Bool.eq_iff_iff]; (first | (simp [rightB]; done) | (simp [rightB]; omega) | (simp_all [rightB]; done) | (simp_all [rightB]; omega) | (trace_state; fail)))
set_option maxHeartbeats 4000000 in
theorem rRight_4 (w s c st : Int) (ia : Option Addr) (il ic : Nat) (wr : Int) (ra : Option Addr) (rl rc : Nat) (h : ObjW 4 w s c st il rl) (W : World) :
 Calls Tryz.prog 16 #[.agg #[.int .i64 4, .int .i64 w, .int .i64 s, .int .i64 c, .int .u32 st, .slice ia il ic, .int .i64 wr, .slice ra rl rc]] W fun e W' => e = .returned (.bool (rightB 4 w s c st il rl)) /\ Chg [] W W' := by
 obtain ⟨h1, h2, h3, h4, h5, h6, h7⟩ := h
 have h8 : wrap64 st = st := by unfold wrap64; omega
 generalize hr : rightB 4 w s c st il rl = r
 have HR := hid hr
 clear hr
 go_enter Tryz.func16, Tryz.ntmps16
 go_wp2
 all_goals (go_ret; refine ⟨?_, (Chg.refl _ _).alloc _⟩; rw [<- HR.out]; refine ret_bool ?_; rw [Bool.eq_iff_iff]; (first | (simp [rightB]; done) | (simp [rightB]; omega) | (simp_all [rightB]; done) | (simp_all [rightB]; omega) | (trace_state; fail)))
set_option maxHeartbeats 4000000 in
theorem rRight_5 (w s c st : Int) (ia : Option Addr) (il ic : Nat) (wr : Int) (ra : Option Addr) (rl rc : Nat) (h : ObjW 5 w s c st il rl) (W : World) :
 Calls Tryz.prog 16 #[.agg #[.int .i64 5, .int .i64 w, .int .i64 s, .int .i64 c, .int .u32 st, .slice ia il ic, .int .i64 wr, .slice ra rl rc]] W fun e W' => e = .returned (.bool (rightB 5 w s c st il rl)) /\ Chg [] W W' := by
 obtain ⟨h1, h2, h3, h4, h5, h6, h7⟩ := h
 have h8 : wrap64 st = st := by unfold wrap64; omega
 generalize hr : rightB 5 w s c st il rl = r
 have HR := hid hr
 clear hr
 go_enter Tryz.func16, Tryz.ntmps16
 go_wp2
 all_goals (go_ret; refine ⟨?_, (Chg.refl _ _).alloc _⟩; rw [<- HR.out]; refine ret_bool ?_; rw [Bool.eq_iff_iff]; (first | (simp [rightB]; done) | (simp [rightB]; omega) | (simp_all [rightB]; done) | (simp_all [rightB]; omega) | (trace_state; fail)))
set_option maxHeartbeats 4000000 in
theorem rRight_6 (w s c st : Int) (ia : Option Addr) (il ic : Nat) (wr : Int) (ra : Option Addr) (rl rc : Nat) (h : ObjW 6 w s c st il rl) (W : World) :
 Calls Tryz.prog 16 #[.agg #[.int .i64 6, .int .i64 w, .int .i64 s, .int .i64 c, .int .u32 st, .slice ia il ic, .int .i64 wr, .slice ra rl rc]] W fun e W' => e = .returned (.bool (rightB 6 w s c st il rl)) /\ Chg [] W W' := by
 obtain ⟨h1, h2, h3, h4, h5, h6, h7⟩ := h
 have h8 : wrap64 st = st := by unfold wrap64; omega
 generalize hr : rightB 6 w s c st il rl = r
 have HR := hid hr
 clear hr
 go_enter Tryz.func16, Tryz.ntmps16
 go_wp2
 all_goals (go_ret; refine ⟨?_, (Chg.refl _ _).alloc _⟩; rw [<- HR.out]; refine ret_bool ?_; rw [Bool.eq_iff_iff]; (first | (simp [rightB]; done) | (simp [rightB]; omega) | (simp_all [rightB]; done) | (simp_all [rightB]; omega) | (trace_state; fail)))
set_option maxHeartbeats 4000000 in
theorem rRight_out (k : Int) (w s c st : Int) (ia : Option Addr) (il ic : Nat) (wr : Int) (ra : Option Addr) (rl rc : Nat) (hk : k < 1 \/ 6 < k) (h : ObjW k w s c st il rl) (W : World) :
 Calls Tryz.prog 16 #[.agg #[.int .i64 k, .int .i64 w, .int .i64 s, .int .i64 c, .int .u32 st, .slice ia il ic, .int .i64 wr, .slice ra rl rc]] W fun e W' => e = .returned (.bool (rightB k w s c st il rl)) /\ Chg [] W W' := by
 rw [rightB_out k w s c st il rl hk]
 obtain ⟨h1, h2, h3, h4, h5, h6, h7⟩ := h
 have n1 : (k == 1) = false := by simp; omega
 have m1 : ¬ k = 1 := by omega
 have n2 : (k == 2) = false := by simp; omega
 have m2 : ¬ k = 2 := by omega
 have n3 : (k == 3) = false := by simp; omega
 have m3 : ¬ k = 3 := by omega
 have n4 : (k == 4) = false := by simp; omega
 have m4 : ¬ k = 4 := by omega
 have n5 : (k == 5) = false := by simp; omega
 have m5 : ¬ k = 5 := by omega
 have n6 : (k == 6) = false := by simp; omega
 have m6 : ¬ k = 6 := by omega
 clear hk
 go_enter Tryz.func16, Tryz.ntmps16
 go_wp2
 all_goals (go_ret; exact ⟨rfl, (Chg.refl _ _).alloc _⟩)
theorem rRight_any (k : Int) (w s c st : Int) (ia : Option Addr) (il ic : Nat) (wr : Int) (ra : Option Addr) (rl rc : Nat) (h : ObjW k w s c st il rl) (W : World) :
 Calls Tryz.prog 16 #[.agg #[.int .i64 k, .int .i64 w, .int .i64 s, .int .i64 c, .int .u32 st, .slice ia il ic, .int .i64 wr, .slice ra rl rc]] W fun e W' => e = .returned (.bool (rightB k w s c st il rl)) /\ Chg [] W W' := by
 have hk : k = 1 \/ k = 2 \/ k = 3 \/ k = 4 \/ k = 5 \/ k = 6 \/ (k < 1 \/ 6 < k) := by omega
 rcases hk with rfl | rfl | rfl | rfl | rfl | rfl | hk
 · exact rRight_1 w s c st ia il ic wr ra rl rc h W
 · exact rRight_2 w s c st ia il ic wr ra rl rc h W
 · exact rRight_3 w s c st ia il ic wr ra rl rc h W
 · exact rRight_4 w s c st ia il ic wr ra rl rc h W
 · exact rRight_5 w s c st ia il ic wr ra rl rc h W
 · exact rRight_6 w s c st ia il ic wr ra rl rc h W
 · exact rRight_out k w s c st ia il ic wr ra rl rc hk h W
end Go.Proofs.YtphfnjcboellhaaGreatDoor.obj
