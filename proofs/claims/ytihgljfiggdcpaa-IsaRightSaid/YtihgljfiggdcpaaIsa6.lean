/- Package isa's reference: Right, Bytes, Encode. -/
import Derived.Test.YtihgljfiggdcpaaIsa5
namespace Go.Proofs.Ytihgljfiggdcpaa.isa
open Go Go.RowKit Go.Proofs.Ytihgljfiggdcpaa.kit Go.Proofs.Ytihgljfiggdcpaa.codec
set_option linter.unusedVariables false
set_option maxRecDepth 20000

theorem reg_any (n : Int) (w : World) : Calls Try.prog 55 #[.int .i64 n] w fun e w' => ((e = .returned (.bool true) ∧ 0 ≤ n ∧ n ≤ 7) ∨ (e = .returned (.bool false) ∧ ¬ (0 ≤ n ∧ n ≤ 7))) ∧ w = w' := by
  go_enter Try.func55, Try.ntmps55
  go_wp2
  all_goals (go_ret; refine ⟨?_, rfl⟩; first | (refine .inl ⟨rfl, ?_⟩; omega) | (refine .inr ⟨rfl, ?_⟩; omega) | (rename_i h1; by_cases h : n ≤ 7; exact .inl ⟨by simp [h], by omega⟩; exact .inr ⟨by simp [h], by omega⟩) | (trace_state; fail))
theorem rightI_0 (a b c n : Int) : rightI ⟨0, a, b, c, n⟩ = (fitsI 0 a && (fitsI 0 b && (fitsI 0 c && fitsI 0 n))) := by simp [rightI, shapeAt, shapes]
theorem rightI_1 (a b c n : Int) : rightI ⟨1, a, b, c, n⟩ = (fitsI 1 a && (fitsI 0 b && (fitsI 0 c && fitsI 6 n))) := by simp [rightI, shapeAt, shapes]
theorem rightI_2 (a b c n : Int) : rightI ⟨2, a, b, c, n⟩ = (fitsI 1 a && (fitsI 1 b && (fitsI 0 c && fitsI 0 n))) := by simp [rightI, shapeAt, shapes]
theorem rightI_3 (a b c n : Int) : rightI ⟨3, a, b, c, n⟩ = (fitsI 1 a && (fitsI 1 b && (fitsI 1 c && fitsI 0 n))) := by simp [rightI, shapeAt, shapes]
theorem rightI_4 (a b c n : Int) : rightI ⟨4, a, b, c, n⟩ = (fitsI 1 a && (fitsI 1 b && (fitsI 1 c && fitsI 0 n))) := by simp [rightI, shapeAt, shapes]
theorem rightI_5 (a b c n : Int) : rightI ⟨5, a, b, c, n⟩ = (fitsI 1 a && (fitsI 1 b && (fitsI 1 c && fitsI 0 n))) := by simp [rightI, shapeAt, shapes]
theorem rightI_6 (a b c n : Int) : rightI ⟨6, a, b, c, n⟩ = (fitsI 1 a && (fitsI 1 b && (fitsI 1 c && fitsI 0 n))) := by simp [rightI, shapeAt, shapes]
theorem rightI_7 (a b c n : Int) : rightI ⟨7, a, b, c, n⟩ = (fitsI 1 a && (fitsI 1 b && (fitsI 1 c && fitsI 0 n))) := by simp [rightI, shapeAt, shapes]
theorem rightI_8 (a b c n : Int) : rightI ⟨8, a, b, c, n⟩ = (fitsI 1 a && (fitsI 1 b && (fitsI 1 c && fitsI 0 n))) := by simp [rightI, shapeAt, shapes]
theorem rightI_9 (a b c n : Int) : rightI ⟨9, a, b, c, n⟩ = (fitsI 1 a && (fitsI 1 b && (fitsI 1 c && fitsI 0 n))) := by simp [rightI, shapeAt, shapes]
theorem rightI_10 (a b c n : Int) : rightI ⟨10, a, b, c, n⟩ = (fitsI 1 a && (fitsI 1 b && (fitsI 1 c && fitsI 0 n))) := by simp [rightI, shapeAt, shapes]
theorem rightI_11 (a b c n : Int) : rightI ⟨11, a, b, c, n⟩ = (fitsI 1 a && (fitsI 1 b && (fitsI 0 c && fitsI 6 n))) := by simp [rightI, shapeAt, shapes]
theorem rightI_12 (a b c n : Int) : rightI ⟨12, a, b, c, n⟩ = (fitsI 1 a && (fitsI 1 b && (fitsI 0 c && fitsI 6 n))) := by simp [rightI, shapeAt, shapes]
theorem rightI_13 (a b c n : Int) : rightI ⟨13, a, b, c, n⟩ = (fitsI 1 a && (fitsI 1 b && (fitsI 1 c && fitsI 6 n))) := by simp [rightI, shapeAt, shapes]
theorem rightI_14 (a b c n : Int) : rightI ⟨14, a, b, c, n⟩ = (fitsI 0 a && (fitsI 0 b && (fitsI 0 c && fitsI 4 n))) := by simp [rightI, shapeAt, shapes]
theorem rightI_15 (a b c n : Int) : rightI ⟨15, a, b, c, n⟩ = (fitsI 1 a && (fitsI 0 b && (fitsI 0 c && fitsI 4 n))) := by simp [rightI, shapeAt, shapes]
theorem rightI_16 (a b c n : Int) : rightI ⟨16, a, b, c, n⟩ = (fitsI 0 a && (fitsI 0 b && (fitsI 3 c && fitsI 4 n))) := by simp [rightI, shapeAt, shapes]
theorem rightI_17 (a b c n : Int) : rightI ⟨17, a, b, c, n⟩ = (fitsI 1 a && (fitsI 2 b && (fitsI 0 c && fitsI 5 n))) := by simp [rightI, shapeAt, shapes]
theorem rightI_18 (a b c n : Int) : rightI ⟨18, a, b, c, n⟩ = (fitsI 1 a && (fitsI 2 b && (fitsI 0 c && fitsI 5 n))) := by simp [rightI, shapeAt, shapes]
theorem rightI_19 (a b c n : Int) : rightI ⟨19, a, b, c, n⟩ = (fitsI 1 a && (fitsI 2 b && (fitsI 0 c && fitsI 5 n))) := by simp [rightI, shapeAt, shapes]
theorem rightI_20 (a b c n : Int) : rightI ⟨20, a, b, c, n⟩ = (fitsI 1 a && (fitsI 2 b && (fitsI 0 c && fitsI 5 n))) := by simp [rightI, shapeAt, shapes]
theorem rightI_21 (a b c n : Int) : rightI ⟨21, a, b, c, n⟩ = (fitsI 0 a && (fitsI 0 b && (fitsI 0 c && fitsI 0 n))) := by simp [rightI, shapeAt, shapes]
theorem rightI_out (op a b c n : Int) (h : op < 0 ∨ 22 ≤ op) : rightI ⟨op, a, b, c, n⟩ = false := by unfold rightI; exact if_neg (by show ¬ (0 ≤ op ∧ op < 22); omega)
set_option maxHeartbeats 4000000 in
theorem rRight_0 (op a b c n : Int) (hk : 0 ≤ op ∧ op < 4) (hn : (Lit.int .u32 n).wf = true) (w : World) : Calls Try.prog 33 #[.agg #[.int .i64 op, .int .i64 a, .int .i64 b, .int .i64 c, .int .u32 n]] w fun e w' => e = .returned (.bool (rightI ⟨op, a, b, c, n⟩)) ∧ Chg [] w w' := by
  have hn0 := wf_u32 hn
  clear hn
  generalize hr : rightI ⟨op, a, b, c, n⟩ = r
  have HR := Lib.hid hr
  clear hr
  have hk2 : op = 0 ∨ op = 1 ∨ op = 2 ∨ op = 3 := by omega
  clear hk
  rcases hk2 with rfl | rfl | rfl | rfl
  all_goals (go_enter Try.func33, Try.ntmps33)
  all_goals (go_wp2_with (go_at_call 55; refine (reg_any _ _).mono ?_; rintro e w1 ⟨⟨rfl, hr1, hr2⟩ | ⟨rfl, hr⟩, rfl⟩))
  all_goals go_ret
  all_goals (refine ⟨?_, (Chg.refl _ _).alloc _⟩)
  all_goals (have hR := HR.out; clear HR; simp only [rightI_0, rightI_1, rightI_2, rightI_3] at hR; rw [← hR]; clear hR; refine ret_bool ?_)
  all_goals first | (simp_all [fitsI]; done) | (simp_all [fitsI]; omega) | (rw [Bool.eq_iff_iff]; simp [fitsI]; omega) | (trace_state; fail)
set_option maxHeartbeats 4000000 in
theorem rRight_4 (op a b c n : Int) (hk : 4 ≤ op ∧ op < 8) (hn : (Lit.int .u32 n).wf = true) (w : World) : Calls Try.prog 33 #[.agg #[.int .i64 op, .int .i64 a, .int .i64 b, .int .i64 c, .int .u32 n]] w fun e w' => e = .returned (.bool (rightI ⟨op, a, b, c, n⟩)) ∧ Chg [] w w' := by
  have hn0 := wf_u32 hn
  clear hn
  generalize hr : rightI ⟨op, a, b, c, n⟩ = r
  have HR := Lib.hid hr
  clear hr
  have hk2 : op = 4 ∨ op = 5 ∨ op = 6 ∨ op = 7 := by omega
  clear hk
  rcases hk2 with rfl | rfl | rfl | rfl
  all_goals (go_enter Try.func33, Try.ntmps33)
  all_goals (go_wp2_with (go_at_call 55; refine (reg_any _ _).mono ?_; rintro e w1 ⟨⟨rfl, hr1, hr2⟩ | ⟨rfl, hr⟩, rfl⟩))
  all_goals go_ret
  all_goals (refine ⟨?_, (Chg.refl _ _).alloc _⟩)
  all_goals (have hR := HR.out; clear HR; simp only [rightI_4, rightI_5, rightI_6, rightI_7] at hR; rw [← hR]; clear hR; refine ret_bool ?_)
  all_goals first | (simp_all [fitsI]; done) | (simp_all [fitsI]; omega) | (rw [Bool.eq_iff_iff]; simp [fitsI]; omega) | (trace_state; fail)
set_option maxHeartbeats 4000000 in
theorem rRight_8 (op a b c n : Int) (hk : 8 ≤ op ∧ op < 12) (hn : (Lit.int .u32 n).wf = true) (w : World) : Calls Try.prog 33 #[.agg #[.int .i64 op, .int .i64 a, .int .i64 b, .int .i64 c, .int .u32 n]] w fun e w' => e = .returned (.bool (rightI ⟨op, a, b, c, n⟩)) ∧ Chg [] w w' := by
  have hn0 := wf_u32 hn
  clear hn
  generalize hr : rightI ⟨op, a, b, c, n⟩ = r
  have HR := Lib.hid hr
  clear hr
  have hk2 : op = 8 ∨ op = 9 ∨ op = 10 ∨ op = 11 := by omega
  clear hk
  rcases hk2 with rfl | rfl | rfl | rfl
  all_goals (go_enter Try.func33, Try.ntmps33)
  all_goals (go_wp2_with (go_at_call 55; refine (reg_any _ _).mono ?_; rintro e w1 ⟨⟨rfl, hr1, hr2⟩ | ⟨rfl, hr⟩, rfl⟩))
  all_goals go_ret
  all_goals (refine ⟨?_, (Chg.refl _ _).alloc _⟩)
  all_goals (have hR := HR.out; clear HR; simp only [rightI_8, rightI_9, rightI_10, rightI_11] at hR; rw [← hR]; clear hR; refine ret_bool ?_)
  all_goals first | (simp_all [fitsI]; done) | (simp_all [fitsI]; omega) | (rw [Bool.eq_iff_iff]; simp [fitsI]; omega) | (trace_state; fail)
set_option maxHeartbeats 4000000 in
theorem rRight_12 (op a b c n : Int) (hk : 12 ≤ op ∧ op < 16) (hn : (Lit.int .u32 n).wf = true) (w : World) : Calls Try.prog 33 #[.agg #[.int .i64 op, .int .i64 a, .int .i64 b, .int .i64 c, .int .u32 n]] w fun e w' => e = .returned (.bool (rightI ⟨op, a, b, c, n⟩)) ∧ Chg [] w w' := by
  have hn0 := wf_u32 hn
  clear hn
  generalize hr : rightI ⟨op, a, b, c, n⟩ = r
  have HR := Lib.hid hr
  clear hr
  have hk2 : op = 12 ∨ op = 13 ∨ op = 14 ∨ op = 15 := by omega
  clear hk
  rcases hk2 with rfl | rfl | rfl | rfl
  all_goals (go_enter Try.func33, Try.ntmps33)
  all_goals (go_wp2_with (go_at_call 55; refine (reg_any _ _).mono ?_; rintro e w1 ⟨⟨rfl, hr1, hr2⟩ | ⟨rfl, hr⟩, rfl⟩))
  all_goals go_ret
  all_goals (refine ⟨?_, (Chg.refl _ _).alloc _⟩)
  all_goals (have hR := HR.out; clear HR; simp only [rightI_12, rightI_13, rightI_14, rightI_15] at hR; rw [← hR]; clear hR; refine ret_bool ?_)
  all_goals first | (simp_all [fitsI]; done) | (simp_all [fitsI]; omega) | (rw [Bool.eq_iff_iff]; simp [fitsI]; omega) | (trace_state; fail)
set_option maxHeartbeats 4000000 in
theorem rRight_16 (op a b c n : Int) (hk : 16 ≤ op ∧ op < 20) (hn : (Lit.int .u32 n).wf = true) (w : World) : Calls Try.prog 33 #[.agg #[.int .i64 op, .int .i64 a, .int .i64 b, .int .i64 c, .int .u32 n]] w fun e w' => e = .returned (.bool (rightI ⟨op, a, b, c, n⟩)) ∧ Chg [] w w' := by
  have hn0 := wf_u32 hn
  clear hn
  generalize hr : rightI ⟨op, a, b, c, n⟩ = r
  have HR := Lib.hid hr
  clear hr
  have hk2 : op = 16 ∨ op = 17 ∨ op = 18 ∨ op = 19 := by omega
  clear hk
  rcases hk2 with rfl | rfl | rfl | rfl
  all_goals (go_enter Try.func33, Try.ntmps33)
  all_goals (go_wp2_with (go_at_call 55; refine (reg_any _ _).mono ?_; rintro e w1 ⟨⟨rfl, hr1, hr2⟩ | ⟨rfl, hr⟩, rfl⟩))
  all_goals go_ret
  all_goals (refine ⟨?_, (Chg.refl _ _).alloc _⟩)
  all_goals (have hR := HR.out; clear HR; simp only [rightI_16, rightI_17, rightI_18, rightI_19] at hR; rw [← hR]; clear hR; refine ret_bool ?_)
  all_goals first | (simp_all [fitsI]; done) | (simp_all [fitsI]; omega) | (rw [Bool.eq_iff_iff]; simp [fitsI]; omega) | (trace_state; fail)
set_option maxHeartbeats 4000000 in
theorem rRight_20 (op a b c n : Int) (hk : 20 ≤ op ∧ op < 22) (hn : (Lit.int .u32 n).wf = true) (w : World) : Calls Try.prog 33 #[.agg #[.int .i64 op, .int .i64 a, .int .i64 b, .int .i64 c, .int .u32 n]] w fun e w' => e = .returned (.bool (rightI ⟨op, a, b, c, n⟩)) ∧ Chg [] w w' := by
  have hn0 := wf_u32 hn
  clear hn
  generalize hr : rightI ⟨op, a, b, c, n⟩ = r
  have HR := Lib.hid hr
  clear hr
  have hk2 : op = 20 ∨ op = 21 := by omega
  clear hk
  rcases hk2 with rfl | rfl
  all_goals (go_enter Try.func33, Try.ntmps33)
  all_goals (go_wp2_with (go_at_call 55; refine (reg_any _ _).mono ?_; rintro e w1 ⟨⟨rfl, hr1, hr2⟩ | ⟨rfl, hr⟩, rfl⟩))
  all_goals go_ret
  all_goals (refine ⟨?_, (Chg.refl _ _).alloc _⟩)
  all_goals (have hR := HR.out; clear HR; simp only [rightI_20, rightI_21] at hR; rw [← hR]; clear hR; refine ret_bool ?_)
  all_goals first | (simp_all [fitsI]; done) | (simp_all [fitsI]; omega) | (rw [Bool.eq_iff_iff]; simp [fitsI]; omega) | (trace_state; fail)
set_option maxHeartbeats 4000000 in
theorem rRight_out (op a b c n : Int) (hk : op < 0 ∨ 22 ≤ op) (hn : (Lit.int .u32 n).wf = true) (w : World) : Calls Try.prog 33 #[.agg #[.int .i64 op, .int .i64 a, .int .i64 b, .int .i64 c, .int .u32 n]] w fun e w' => e = .returned (.bool (rightI ⟨op, a, b, c, n⟩)) ∧ Chg [] w w' := by
  rw [rightI_out op a b c n hk]
  have n0 : (op == 0) = false := by simp; omega
  have n1 : (op == 1) = false := by simp; omega
  have n2 : (op == 2) = false := by simp; omega
  have n3 : (op == 3) = false := by simp; omega
  have n4 : (op == 4) = false := by simp; omega
  have n5 : (op == 5) = false := by simp; omega
  have n6 : (op == 6) = false := by simp; omega
  have n7 : (op == 7) = false := by simp; omega
  have n8 : (op == 8) = false := by simp; omega
  have n9 : (op == 9) = false := by simp; omega
  have n10 : (op == 10) = false := by simp; omega
  have n11 : (op == 11) = false := by simp; omega
  have n12 : (op == 12) = false := by simp; omega
  have n13 : (op == 13) = false := by simp; omega
  have n14 : (op == 14) = false := by simp; omega
  have n15 : (op == 15) = false := by simp; omega
  have n16 : (op == 16) = false := by simp; omega
  have n17 : (op == 17) = false := by simp; omega
  have n18 : (op == 18) = false := by simp; omega
  have n19 : (op == 19) = false := by simp; omega
  have n20 : (op == 20) = false := by simp; omega
  have n21 : (op == 21) = false := by simp; omega
  clear hk
  go_enter Try.func33, Try.ntmps33
  go_wp2
  go_ret
  exact ⟨rfl, (Chg.refl _ _).alloc _⟩
theorem rRight_any (op a b c n : Int) (hn : (Lit.int .u32 n).wf = true) (w : World) : Calls Try.prog 33 #[.agg #[.int .i64 op, .int .i64 a, .int .i64 b, .int .i64 c, .int .u32 n]] w fun e w' => e = .returned (.bool (rightI ⟨op, a, b, c, n⟩)) ∧ Chg [] w w' := by
  by_cases h0 : op < 0 ∨ 22 ≤ op
  · exact rRight_out op a b c n h0 hn w
  by_cases h1 : op < 4
  · exact rRight_0 op a b c n (by omega) hn w
  by_cases h2 : op < 8
  · exact rRight_4 op a b c n (by omega) hn w
  by_cases h3 : op < 12
  · exact rRight_8 op a b c n (by omega) hn w
  by_cases h4 : op < 16
  · exact rRight_12 op a b c n (by omega) hn w
  by_cases h5 : op < 20
  · exact rRight_16 op a b c n (by omega) hn w
  · exact rRight_20 op a b c n (by omega) hn w
end Go.Proofs.Ytihgljfiggdcpaa.isa
