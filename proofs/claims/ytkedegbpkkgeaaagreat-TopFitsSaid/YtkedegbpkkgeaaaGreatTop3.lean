import Derived.Test.YtkedegbpkkgeaaaGreatIsa3
import Derived.Test.YtkedegbpkkgeaaaGreatTop2
import Derived.Test.YtkedegbpkkgeaaaGreatOpen
import Derived.Laws.RangeString
/- Package isa: instructions as bytes: Encode. -/
namespace Go.Proofs.YtkedegbpkkgeaaaGreat.isa
open Go Go.RowKit Go.Proofs.YtkedegbpkkgeaaaGreat.kit Go.Proofs.YtkedegbpkkgeaaaGreat.codec
set_option linter.unusedVariables false
set_option linter.unusedSimpArgs false
set_option maxRecDepth 20000

theorem szI : (Tryz.prog.info? 53).map (·.size) = some 5 := by kernel_rfl
def opB (x : Int) : List Int := leB (x % 4294967296) 1
def headB (i : Ins) (j : Nat) : List Int := ([i.op, i.a, i.b, i.c].take j).flatMap opB
def insB (i : Ins) : List Int := headB i 4 ++ leB i.n 4
def insW (p : List Ins) : Prop := ∀ i ∈ p, (Lit.int .u32 i.n).wf = true
def encL (p : List Ins) (b : Bool) : List Int := if b then p.flatMap insB else []
end Go.Proofs.YtkedegbpkkgeaaaGreat.isa
/- Package isa: the chapter's example (awake); the reference's words. -/
namespace Go.Proofs.YtkedegbpkkgeaaaGreat.isa
open Go Go.RowKit Go.Proofs.YtkedegbpkkgeaaaGreat.kit Go.Proofs.YtkedegbpkkgeaaaGreat.codec
set_option linter.unusedVariables false
set_option linter.unusedSimpArgs false
set_option maxRecDepth 20000

def wordsC : Array Value := ((List.range 22).map fun k => Value.string (wordB k)).toArray
end Go.Proofs.YtkedegbpkkgeaaaGreat.isa
/- Package isa's reference: Right, Bytes, Encode. -/
namespace Go.Proofs.YtkedegbpkkgeaaaGreat.isa
open Go Go.RowKit Go.Proofs.YtkedegbpkkgeaaaGreat.kit Go.Proofs.YtkedegbpkkgeaaaGreat.codec
set_option linter.unusedVariables false
set_option linter.unusedSimpArgs false
set_option maxRecDepth 20000

theorem reg_any (n : Int) (w : World) : Calls Tryz.prog 123 #[.int .i64 n] w fun e w' => ((e = .returned (.bool true) ∧ 0 ≤ n ∧ n ≤ 7) ∨ (e = .returned (.bool false) ∧ ¬ (0 ≤ n ∧ n ≤ 7))) ∧ w = w' := by
  go_enter Tryz.func123, Tryz.ntmps123
  go_wp2
  all_goals (go_ret; refine ⟨?_, rfl⟩; first | (refine .inl ⟨rfl, ?_⟩; omega) | (refine .inr ⟨rfl, ?_⟩; omega) | (rename_i h1; by_cases h : n ≤ 7; exact .inl ⟨by simp [h], by omega⟩; exact .inr ⟨by simp [h], by omega⟩) | (trace_state; fail))
theorem rightI_0 (a b c n : Int) : rightI ⟨0, a, b, c, n⟩ = (fitsI 0 a && (fitsI 0 b && (fitsI 0 c && fitsI 0 n))) := by simp [rightI, shapeAt, shapes]
theorem rightI_1 (a b c n : Int) : rightI ⟨1, a, b, c, n⟩ = (fitsI 1 a && (fitsI 0 b && (fitsI 0 c && fitsI 6 n))) := by simp [rightI, shapeAt, shapes]
theorem rightI_2 (a b c n : Int) : rightI ⟨2, a, b, c, n⟩ = (fitsI 1 a && (fitsI 1 b && (fitsI 0 c && fitsI 0 n))) := by simp [rightI, shapeAt, shapes]
theorem rightI_3 (a b c n : Int) : rightI ⟨3, a, b, c, n⟩ = (fitsI 1 a && (fitsI 1 b && (fitsI 1 c && fitsI 0 n))) := by simp [rightI, shapeAt, shapes]
theorem rightI_4 (a b c n : Int) : rightI ⟨4, a, b, c, n⟩ = (fitsI 1 a && (fitsI 1 b && (fitsI 1 c && fitsI 0 n))) := by simp [rightI, shapeAt, shapes]
theorem rightI_5 (a b c n : Int) : rightI ⟨5, a, b, c, n⟩ = (fitsI 1 a && (fitsI 1 b && (fitsI 1 c && fitsI 0 n))) := by simp [rightI, shapeAt, shapes]
theorem rightI_6 (a b c n : Int) : rightI ⟨6, a, b, c, n⟩ = (fitsI 1 a && (fitsI 1 b && (fitsI 1 c && fitsI 0 n))) := by simp [rightI, shapeAt, shapes]
theorem rightI_7 (a b c n : Int) : rightI ⟨7, a, b, c, n⟩ = (fitsI 1 a && (fitsI 1 b && (fitsI 1 c && fitsI 0 n))) := by simp [rightI, shapeAt, shapes]
theorem rightI_8 (a b c n : Int) : rightI ⟨8, a, b, c, n⟩ = (fitsI 1 a && (fitsI 1 b && (fitsI 1 c && fitsI 0 n))) := by simp [rightI, shapeAt, shapes]
theorem rightI_9 (a b c n : Int) : rightI ⟨9, a, b, c, n⟩ = (fitsI 1 a && (fitsI 1 b && (fitsI 1 c && fitsI 0 n))) := by simp [rightI, shapeAt, shapes]
theorem rightI_10 (a b c n : Int) : rightI ⟨10, a, b, c, n⟩ = (fitsI 1 a && (fitsI 1 b && (fitsI 1 c && fitsI 0 n))) := by simp [rightI, shapeAt, shapes]
theorem rightI_11 (a b c n : Int) : rightI ⟨11, a, b, c, n⟩ = (fitsI 1 a && (fitsI 1 b && (fitsI 0 c && fitsI 6 n))) := by simp [rightI, shapeAt, shapes]
theorem rightI_12 (a b c n : Int) : rightI ⟨12, a, b, c, n⟩ = (fitsI 1 a && (fitsI 1 b && (fitsI 0 c && fitsI 6 n))) := by simp [rightI, shapeAt, shapes]
theorem rightI_13 (a b c n : Int) : rightI ⟨13, a, b, c, n⟩ = (fitsI 1 a && (fitsI 1 b && (fitsI 1 c && fitsI 6 n))) := by simp [rightI, shapeAt, shapes]
theorem rightI_14 (a b c n : Int) : rightI ⟨14, a, b, c, n⟩ = (fitsI 0 a && (fitsI 0 b && (fitsI 0 c && fitsI 4 n))) := by simp [rightI, shapeAt, shapes]
theorem rightI_15 (a b c n : Int) : rightI ⟨15, a, b, c, n⟩ = (fitsI 1 a && (fitsI 0 b && (fitsI 0 c && fitsI 4 n))) := by simp [rightI, shapeAt, shapes]
theorem rightI_16 (a b c n : Int) : rightI ⟨16, a, b, c, n⟩ = (fitsI 0 a && (fitsI 0 b && (fitsI 3 c && fitsI 4 n))) := by simp [rightI, shapeAt, shapes]
theorem rightI_17 (a b c n : Int) : rightI ⟨17, a, b, c, n⟩ = (fitsI 1 a && (fitsI 2 b && (fitsI 0 c && fitsI 5 n))) := by simp [rightI, shapeAt, shapes]
theorem rightI_18 (a b c n : Int) : rightI ⟨18, a, b, c, n⟩ = (fitsI 1 a && (fitsI 2 b && (fitsI 0 c && fitsI 5 n))) := by simp [rightI, shapeAt, shapes]
theorem rightI_19 (a b c n : Int) : rightI ⟨19, a, b, c, n⟩ = (fitsI 1 a && (fitsI 2 b && (fitsI 0 c && fitsI 5 n))) := by simp [rightI, shapeAt, shapes]
theorem rightI_20 (a b c n : Int) : rightI ⟨20, a, b, c, n⟩ = (fitsI 1 a && (fitsI 2 b && (fitsI 0 c && fitsI 5 n))) := by simp [rightI, shapeAt, shapes]
theorem rightI_21 (a b c n : Int) : rightI ⟨21, a, b, c, n⟩ = (fitsI 0 a && (fitsI 0 b && (fitsI 0 c && fitsI 0 n))) := by simp [rightI, shapeAt, shapes]
theorem rightI_out (op a b c n : Int) (h : op < 0 ∨ 22 ≤ op) : rightI ⟨op, a, b, c, n⟩ = false := by unfold rightI; exact if_neg (by show ¬ (0 ≤ op ∧ op < 22); omega)
set_option maxHeartbeats 4000000 in
theorem rRight_0 (op a b c n : Int) (hk : 0 ≤ op ∧ op < 4) (hn : (Lit.int .u32 n).wf = true) (w : World) : Calls Tryz.prog 96 #[.agg #[.int .i64 op, .int .i64 a, .int .i64 b, .int .i64 c, .int .u32 n]] w fun e w' => e = .returned (.bool (rightI ⟨op, a, b, c, n⟩)) ∧ Chg [] w w' := by
  have hn0 := wf_u32 hn
  clear hn
  generalize hr : rightI ⟨op, a, b, c, n⟩ = r
  have HR := Lib.hid hr
  clear hr
  have hk2 : op = 0 ∨ op = 1 ∨ op = 2 ∨ op = 3 := by omega
  clear hk
  rcases hk2 with rfl | rfl | rfl | rfl
  all_goals (go_enter Tryz.func96, Tryz.ntmps96)
  all_goals (go_wp2_with (go_at_call 123; refine (reg_any _ _).mono ?_; rintro e w1 ⟨⟨rfl, hr1, hr2⟩ | ⟨rfl, hr⟩, rfl⟩))
  all_goals go_ret
  all_goals (refine ⟨?_, (Chg.refl _ _).alloc _⟩)
  all_goals (have hR := HR.out; clear HR; simp only [rightI_0, rightI_1, rightI_2, rightI_3] at hR; rw [← hR]; clear hR; refine ret_bool ?_)
  all_goals first | (simp_all [fitsI]; done) | (simp_all [fitsI]; omega) | (rw [Bool.eq_iff_iff]; simp [fitsI]; omega) | (trace_state; fail)
set_option maxHeartbeats 4000000 in
theorem rRight_4 (op a b c n : Int) (hk : 4 ≤ op ∧ op < 8) (hn : (Lit.int .u32 n).wf = true) (w : World) : Calls Tryz.prog 96 #[.agg #[.int .i64 op, .int .i64 a, .int .i64 b, .int .i64 c, .int .u32 n]] w fun e w' => e = .returned (.bool (rightI ⟨op, a, b, c, n⟩)) ∧ Chg [] w w' := by
  have hn0 := wf_u32 hn
  clear hn
  generalize hr : rightI ⟨op, a, b, c, n⟩ = r
  have HR := Lib.hid hr
  clear hr
  have hk2 : op = 4 ∨ op = 5 ∨ op = 6 ∨ op = 7 := by omega
  clear hk
  rcases hk2 with rfl | rfl | rfl | rfl
  all_goals (go_enter Tryz.func96, Tryz.ntmps96)
  all_goals (go_wp2_with (go_at_call 123; refine (reg_any _ _).mono ?_; rintro e w1 ⟨⟨rfl, hr1, hr2⟩ | ⟨rfl, hr⟩, rfl⟩))
  all_goals go_ret
  all_goals (refine ⟨?_, (Chg.refl _ _).alloc _⟩)
  all_goals (have hR := HR.out; clear HR; simp only [rightI_4, rightI_5, rightI_6, rightI_7] at hR; rw [← hR]; clear hR; refine ret_bool ?_)
  all_goals first | (simp_all [fitsI]; done) | (simp_all [fitsI]; omega) | (rw [Bool.eq_iff_iff]; simp [fitsI]; omega) | (trace_state; fail)
set_option maxHeartbeats 4000000 in
theorem rRight_8 (op a b c n : Int) (hk : 8 ≤ op ∧ op < 12) (hn : (Lit.int .u32 n).wf = true) (w : World) : Calls Tryz.prog 96 #[.agg #[.int .i64 op, .int .i64 a, .int .i64 b, .int .i64 c, .int .u32 n]] w fun e w' => e = .returned (.bool (rightI ⟨op, a, b, c, n⟩)) ∧ Chg [] w w' := by
  have hn0 := wf_u32 hn
  clear hn
  generalize hr : rightI ⟨op, a, b, c, n⟩ = r
  have HR := Lib.hid hr
  clear hr
  have hk2 : op = 8 ∨ op = 9 ∨ op = 10 ∨ op = 11 := by omega
  clear hk
  rcases hk2 with rfl | rfl | rfl | rfl
  all_goals (go_enter Tryz.func96, Tryz.ntmps96)
  all_goals (go_wp2_with (go_at_call 123; refine (reg_any _ _).mono ?_; rintro e w1 ⟨⟨rfl, hr1, hr2⟩ | ⟨rfl, hr⟩, rfl⟩))
  all_goals go_ret
  all_goals (refine ⟨?_, (Chg.refl _ _).alloc _⟩)
  all_goals (have hR := HR.out; clear HR; simp only [rightI_8, rightI_9, rightI_10, rightI_11] at hR; rw [← hR]; clear hR; refine ret_bool ?_)
  all_goals first | (simp_all [fitsI]; done) | (simp_all [fitsI]; omega) | (rw [Bool.eq_iff_iff]; simp [fitsI]; omega) | (trace_state; fail)
set_option maxHeartbeats 4000000 in
theorem rRight_12 (op a b c n : Int) (hk : 12 ≤ op ∧ op < 16) (hn : (Lit.int .u32 n).wf = true) (w : World) : Calls Tryz.prog 96 #[.agg #[.int .i64 op, .int .i64 a, .int .i64 b, .int .i64 c, .int .u32 n]] w fun e w' => e = .returned (.bool (rightI ⟨op, a, b, c, n⟩)) ∧ Chg [] w w' := by
  have hn0 := wf_u32 hn
  clear hn
  generalize hr : rightI ⟨op, a, b, c, n⟩ = r
  have HR := Lib.hid hr
  clear hr
  have hk2 : op = 12 ∨ op = 13 ∨ op = 14 ∨ op = 15 := by omega
  clear hk
  rcases hk2 with rfl | rfl | rfl | rfl
  all_goals (go_enter Tryz.func96, Tryz.ntmps96)
  all_goals (go_wp2_with (go_at_call 123; refine (reg_any _ _).mono ?_; rintro e w1 ⟨⟨rfl, hr1, hr2⟩ | ⟨rfl, hr⟩, rfl⟩))
  all_goals go_ret
  all_goals (refine ⟨?_, (Chg.refl _ _).alloc _⟩)
  all_goals (have hR := HR.out; clear HR; simp only [rightI_12, rightI_13, rightI_14, rightI_15] at hR; rw [← hR]; clear hR; refine ret_bool ?_)
  all_goals first | (simp_all [fitsI]; done) | (simp_all [fitsI]; omega) | (rw [Bool.eq_iff_iff]; simp [fitsI]; omega) | (trace_state; fail)
set_option maxHeartbeats 4000000 in
theorem rRight_16 (op a b c n : Int) (hk : 16 ≤ op ∧ op < 20) (hn : (Lit.int .u32 n).wf = true) (w : World) : Calls Tryz.prog 96 #[.agg #[.int .i64 op, .int .i64 a, .int .i64 b, .int .i64 c, .int .u32 n]] w fun e w' => e = .returned (.bool (rightI ⟨op, a, b, c, n⟩)) ∧ Chg [] w w' := by
  have hn0 := wf_u32 hn
  clear hn
  generalize hr : rightI ⟨op, a, b, c, n⟩ = r
  have HR := Lib.hid hr
  clear hr
  have hk2 : op = 16 ∨ op = 17 ∨ op = 18 ∨ op = 19 := by omega
  clear hk
  rcases hk2 with rfl | rfl | rfl | rfl
  all_goals (go_enter Tryz.func96, Tryz.ntmps96)
  all_goals (go_wp2_with (go_at_call 123; refine (reg_any _ _).mono ?_; rintro e w1 ⟨⟨rfl, hr1, hr2⟩ | ⟨rfl, hr⟩, rfl⟩))
  all_goals go_ret
  all_goals (refine ⟨?_, (Chg.refl _ _).alloc _⟩)
  all_goals (have hR := HR.out; clear HR; simp only [rightI_16, rightI_17, rightI_18, rightI_19] at hR; rw [← hR]; clear hR; refine ret_bool ?_)
  all_goals first | (simp_all [fitsI]; done) | (simp_all [fitsI]; omega) | (rw [Bool.eq_iff_iff]; simp [fitsI]; omega) | (trace_state; fail)
set_option maxHeartbeats 4000000 in
theorem rRight_20 (op a b c n : Int) (hk : 20 ≤ op ∧ op < 22) (hn : (Lit.int .u32 n).wf = true) (w : World) : Calls Tryz.prog 96 #[.agg #[.int .i64 op, .int .i64 a, .int .i64 b, .int .i64 c, .int .u32 n]] w fun e w' => e = .returned (.bool (rightI ⟨op, a, b, c, n⟩)) ∧ Chg [] w w' := by
  have hn0 := wf_u32 hn
  clear hn
  generalize hr : rightI ⟨op, a, b, c, n⟩ = r
  have HR := Lib.hid hr
  clear hr
  have hk2 : op = 20 ∨ op = 21 := by omega
  clear hk
  rcases hk2 with rfl | rfl
  all_goals (go_enter Tryz.func96, Tryz.ntmps96)
  all_goals (go_wp2_with (go_at_call 123; refine (reg_any _ _).mono ?_; rintro e w1 ⟨⟨rfl, hr1, hr2⟩ | ⟨rfl, hr⟩, rfl⟩))
  all_goals go_ret
  all_goals (refine ⟨?_, (Chg.refl _ _).alloc _⟩)
  all_goals (have hR := HR.out; clear HR; simp only [rightI_20, rightI_21] at hR; rw [← hR]; clear hR; refine ret_bool ?_)
  all_goals first | (simp_all [fitsI]; done) | (simp_all [fitsI]; omega) | (rw [Bool.eq_iff_iff]; simp [fitsI]; omega) | (trace_state; fail)
set_option maxHeartbeats 4000000 in
theorem rRight_out (op a b c n : Int) (hk : op < 0 ∨ 22 ≤ op) (hn : (Lit.int .u32 n).wf = true) (w : World) : Calls Tryz.prog 96 #[.agg #[.int .i64 op, .int .i64 a, .int .i64 b, .int .i64 c, .int .u32 n]] w fun e w' => e = .returned (.bool (rightI ⟨op, a, b, c, n⟩)) ∧ Chg [] w w' := by
  rw [rightI_out op a b c n hk]
  have n0 : (op == 0) = false := by simp; omega
  have n1 : (op == 1) = false := by simp; omega
  have n2 : (op == 2) = false := by simp; omega
  have n3 : (op == 3) = false := by simp; omega
  have n4 : (op == 4) = false := by simp; omega
  have n5 : (op == 5) = false := by simp; omega
  have n6 : (op == 6) = false := by simp; omega
  have n7 : (op == 7) = false := by simp; omega
  have n8 : (op == 8) = false := by simp; omega
  have n9 : (op == 9) = false := by simp; omega
  have n10 : (op == 10) = false := by simp; omega
  have n11 : (op == 11) = false := by simp; omega
  have n12 : (op == 12) = false := by simp; omega
  have n13 : (op == 13) = false := by simp; omega
  have n14 : (op == 14) = false := by simp; omega
  have n15 : (op == 15) = false := by simp; omega
  have n16 : (op == 16) = false := by simp; omega
  have n17 : (op == 17) = false := by simp; omega
  have n18 : (op == 18) = false := by simp; omega
  have n19 : (op == 19) = false := by simp; omega
  have n20 : (op == 20) = false := by simp; omega
  have n21 : (op == 21) = false := by simp; omega
  clear hk
  go_enter Tryz.func96, Tryz.ntmps96
  go_wp2
  go_ret
  exact ⟨rfl, (Chg.refl _ _).alloc _⟩
theorem rRight_any (op a b c n : Int) (hn : (Lit.int .u32 n).wf = true) (w : World) : Calls Tryz.prog 96 #[.agg #[.int .i64 op, .int .i64 a, .int .i64 b, .int .i64 c, .int .u32 n]] w fun e w' => e = .returned (.bool (rightI ⟨op, a, b, c, n⟩)) ∧ Chg [] w w' := by
  by_cases h0 : op < 0 ∨ 22 ≤ op
  · exact rRight_out op a b c n h0 hn w
  by_cases h1 : op < 4
  · exact rRight_0 op a b c n (by omega) hn w
  by_cases h2 : op < 8
  · exact rRight_4 op a b c n (by omega) hn w
  by_cases h3 : op < 12
  · exact rRight_8 op a b c n (by omega) hn w
  by_cases h4 : op < 16
  · exact rRight_12 op a b c n (by omega) hn w
  by_cases h5 : op < 20
  · exact rRight_16 op a b c n (by omega) hn w
  · exact rRight_20 op a b c n (by omega) hn w
end Go.Proofs.YtkedegbpkkgeaaaGreat.isa
/- Package isa: Decode. -/
namespace Go.Proofs.YtkedegbpkkgeaaaGreat.isa
open Go Go.RowKit Go.Proofs.YtkedegbpkkgeaaaGreat.kit Go.Proofs.YtkedegbpkkgeaaaGreat.codec
set_option linter.unusedVariables false
set_option linter.unusedSimpArgs false
set_option maxRecDepth 20000

def insAt (zs : List Int) (k : Nat) : Ins := ⟨numL ((zs.drop (8 * k)).take 1), numL ((zs.drop (8 * k + 1)).take 1), numL ((zs.drop (8 * k + 2)).take 1), numL ((zs.drop (8 * k + 3)).take 1), numL ((zs.drop (8 * k + 4)).take 4)⟩
def insN (zs : List Int) (k : Nat) : List Ins := (List.range k).map (insAt zs)
/-- what Decode tells of bytes -/
def DecR (zs : List Int) (out : List Ins) (at_ er : Int) : Prop :=
  ∃ k : Nat, 8 * k ≤ zs.length ∧ (∀ j, j < k → rightI (insAt zs j) = true) ∧
    ((8 * k + 8 ≤ zs.length ∧ rightI (insAt zs k) = false ∧ out = [] ∧ at_ = k ∧ er = 4) ∨
     (zs.length < 8 * k + 8 ∧ 8 * k < zs.length ∧ out = [] ∧ at_ = k ∧ er = 2) ∨
     (zs.length = 8 * k ∧ out = insN zs k ∧ at_ = 0 ∧ er = 0))
theorem DecR.same {zs : List Int} {o1 o2 : List Ins} {a1 a2 e1 e2 : Int} (h1 : DecR zs o1 a1 e1) (h2 : DecR zs o2 a2 e2) : o1 = o2 ∧ a1 = a2 ∧ e1 = e2 := by
  obtain ⟨k, hk, hr, hc⟩ := h1
  obtain ⟨m, hm, hs, hd⟩ := h2
  have key : k = m := by
    rcases Nat.lt_trichotomy k m with h | h | h
    · exfalso
      have := hs k h
      rcases hc with ⟨_, hx, _⟩ | ⟨hx, _⟩ | ⟨hx, _⟩
      · rw [this] at hx; cases hx
      · omega
      · omega
    · exact h
    · exfalso
      have := hr m h
      rcases hd with ⟨_, hx, _⟩ | ⟨hx, _⟩ | ⟨hx, _⟩
      · rw [this] at hx; cases hx
      · omega
      · omega
  subst key
  rcases hc with ⟨q1, q2, rfl, rfl, rfl⟩ | ⟨q1, q2, rfl, rfl, rfl⟩ | ⟨q1, rfl, rfl, rfl⟩ <;> rcases hd with ⟨p1, p2, rfl, rfl, rfl⟩ | ⟨p1, p2, rfl, rfl, rfl⟩ | ⟨p1, rfl, rfl, rfl⟩ <;> first | exact ⟨rfl, rfl, rfl⟩ | (exfalso; omega)

/-- a row of instructions -/
def ReadsI (w : World) (v : Value) (p : List Ins) : Prop := Reads w 5 v p.length (p.flatMap Ins.cells) ∧ insW p
def OwnI (w : World) (B : Nat) (v : Value) (p : List Ins) : Prop := w.ownsRow B 53 5 v p.length (p.flatMap Ins.cells)
theorem ReadsI.nil (w : World) : ReadsI w (.slice none 0 0) [] := ⟨Reads.nil w 5, by intro i hi; cases hi⟩
theorem ReadsI.chg {w w' : World} {v : Value} {p : List Ins} (h : ReadsI w v p) (k : Chg [] w w') : ReadsI w' v p := ⟨h.1.fresh k, h.2⟩
theorem own_chg {w w' : World} {B e size n : Nat} {v : Value} {xs : List Value} {L : List Nat} (h : w.ownsRow B e size v n xs) (k : Chg L w w') (hn : ∀ b, v.ownBlock = some b → b ∉ L) : w'.ownsRow B e size v n xs := by
  refine ⟨h.1, ?_⟩
  rcases h.2 with h0 | ⟨g, cap, cur, rfl, hb, hg, r⟩
  · exact .inl h0
  · exact .inr ⟨g, cap, cur, rfl, hb, k.heap hg (hn g rfl), r⟩
def lenV : Value → Nat | .slice _ n _ => n | _ => 0
end Go.Proofs.YtkedegbpkkgeaaaGreat.isa
/- Package isa's reference: Bytes, Encode. -/
namespace Go.Proofs.YtkedegbpkkgeaaaGreat.isa
open Go Go.RowKit Go.Proofs.YtkedegbpkkgeaaaGreat.kit Go.Proofs.YtkedegbpkkgeaaaGreat.codec
set_option linter.unusedVariables false
set_option linter.unusedSimpArgs false
set_option maxRecDepth 20000

end Go.Proofs.YtkedegbpkkgeaaaGreat.isa
/- Package isa's reference: Of, Decode; plain.Code. -/
namespace Go.Proofs.YtkedegbpkkgeaaaGreat.isa
open Go Go.RowKit Go.Proofs.YtkedegbpkkgeaaaGreat.kit Go.Proofs.YtkedegbpkkgeaaaGreat.codec
set_option linter.unusedVariables false
set_option linter.unusedSimpArgs false
set_option maxRecDepth 20000

end Go.Proofs.YtkedegbpkkgeaaaGreat.isa
/- Package isa: arguments that are rows of instructions, or of bytes. -/
namespace Go.Proofs.YtkedegbpkkgeaaaGreat.isa
open Go Go.RowKit Go.Proofs.YtkedegbpkkgeaaaGreat.kit Go.Proofs.YtkedegbpkkgeaaaGreat.codec
set_option linter.unusedVariables false
set_option linter.unusedSimpArgs false
set_option maxRecDepth 20000

theorem cellsInt : Tryz.prog.cellsOf 3 = 1 := by kernel_rfl
end Go.Proofs.YtkedegbpkkgeaaaGreat.isa
/- Package isa: registers, targets, calls. -/
namespace Go.Proofs.YtkedegbpkkgeaaaGreat.isa
open Go Go.RowKit Go.Proofs.YtkedegbpkkgeaaaGreat.kit Go.Proofs.YtkedegbpkkgeaaaGreat.codec
set_option linter.unusedVariables false
set_option linter.unusedSimpArgs false
set_option maxRecDepth 20000

def bitV (x : Int) : Int := (2 ^ x.toNat : Nat)
def orV (m x : Int) : Int := bits BinOp.or IntKind.u64 m (bitV x)
/-- a string's letters as registers -/
def pickI (ch : UInt8) (a b c : Int) : Int := if ch.toNat = 97 then a else if ch.toNat = 98 then b else c
def pickL (s : ByteArray) (a b c : Int) : List Int := s.data.toList.map fun ch => pickI ch a b c
def setL (l : List Int) : Int := l.foldl orV 0
def iterPosAt (w : World) (k : Nat) : Nat := match w.heap[k]? with | some (.stringIter _ p) => p | _ => 0
end Go.Proofs.YtkedegbpkkgeaaaGreat.isa
