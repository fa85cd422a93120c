/- Package isa: fits, Right; the reference's words. -/
import Derived.Test.YtkedegbpkkgeaaaGreatTop2
import Derived.Deep.RegionHeld
namespace Go.Proofs.YtkedegbpkkgeaaaGreat.isa
open Go Go.RowKit Go.Proofs.YtkedegbpkkgeaaaGreat.kit
set_option linter.unusedVariables false
set_option linter.unusedSimpArgs false
set_option maxRecDepth 20000

def fitsI (k n : Int) : Bool :=
  if k = 0 then decide (n = 0) else if k = 1 then decide (0 ≤ n ∧ n < 8) else if k = 2 then decide (0 ≤ n ∧ n < 8) else if k = 3 then decide (1 ≤ n ∧ n ≤ 255) else if k = 4 then decide (n < 64) else if k = 5 then decide (n < 64) else true
theorem fits_any (k n : Int) (w : World) : Calls Tryz.prog 150 #[.int .i64 k, .int .i64 n] w fun e w' => e = .returned (.bool (fitsI k n)) ∧ w = w' := by
  generalize hr : fitsI k n = r
  have HR := Lib.hid hr
  clear hr
  go_enter Tryz.func150, Tryz.ntmps150
  go_wp2
  all_goals (go_ret; refine ⟨?_, rfl⟩; rw [← HR.out]; simp_all [fitsI]; try first | rfl | omega)

structure Ins where
  op : Int
  a : Int
  b : Int
  c : Int
  n : Int
def Ins.cells (i : Ins) : List Value := [.int .i64 i.op, .int .i64 i.a, .int .i64 i.b, .int .i64 i.c, .int .u32 i.n]
def Ins.wf (i : Ins) : Prop := (Lit.int .i64 i.op).wf = true ∧ (Lit.int .i64 i.a).wf = true ∧ (Lit.int .i64 i.b).wf = true ∧ (Lit.int .i64 i.c).wf = true ∧ (Lit.int .u32 i.n).wf = true
def rightI (i : Ins) : Bool := if 0 ≤ i.op ∧ i.op < 22 then fitsI (shapeAt i.op.toNat).a i.a && (fitsI (shapeAt i.op.toNat).b i.b && (fitsI (shapeAt i.op.toNat).c i.c && fitsI (shapeAt i.op.toNat).n i.n)) else false
theorem wrap64_u32 {n : Int} (hn : (Lit.int .u32 n).wf = true) : wrap64 n = n := by
  simp [Lit.wf, IntKind.min, IntKind.max, IntKind.signed, IntKind.bits] at hn
  unfold wrap64
  omega
theorem rightI_in (k : Nat) (hk : k < 22) {a b c n : Int} : rightI ⟨k, a, b, c, n⟩ = (fitsI (shapeAt k).a a && (fitsI (shapeAt k).b b && (fitsI (shapeAt k).c c && fitsI (shapeAt k).n n))) := by
  unfold rightI
  rw [if_pos (show 0 ≤ (k : Int) ∧ (k : Int) < 22 by omega)]
  simp only [Int.toNat_natCast]
theorem then_gen {K : Act → World → Prop} {Q' : Exit → Act → World → Prop} {e : Exit} {a : Act} {W : World} {R : World → Prop} (hp : R W) (h : ∀ W', R W' → Exit.then K Q' e a W') : Exit.then K Q' e a W := h W hp
set_option maxHeartbeats 2000000 in
theorem Right_any (op a b c n : Int) (hn : (Lit.int .u32 n).wf = true) (w : World) : Calls Tryz.prog 124 #[.agg #[.int .i64 op, .int .i64 a, .int .i64 b, .int .i64 c, .int .u32 n]] w fun e w' => e = .returned (.bool (rightI ⟨op, a, b, c, n⟩)) ∧ Chg [] w w' := by
  by_cases hk : 0 ≤ op ∧ op < 22
  · obtain ⟨k, rfl⟩ := Int.eq_ofNat_of_zero_le hk.1
    have hk2 : k < 22 := by omega
    have hp := pick_run k hk2
    clear hk
    have HWR := Lib.hid (wrap64_u32 hn)
    go_enter Tryz.func124, Tryz.ntmps124
    go_wp2_with (first | (go_at_call 148; refine (known_in k hk2 _).mono ?_; rintro e w1 ⟨rfl, rfl⟩))
    generalize hW0 : (w.alloc (.cells #[.int .i64 k, .int .i64 a, .int .i64 b, .int .i64 c, .int .u32 n] 53)) = W0
    have hB0 : Blk W0 w.heap.size #[.int .i64 k, .int .i64 a, .int .i64 b, .int .i64 c, .int .u32 n] 53 := by rw [← hW0]; exact Blk.new w _ _
    have hC0 : Chg [] w W0 := by rw [← hW0]; exact (Chg.refl _ _).alloc _
    clear hW0
    have e0 : W0.cell? ⟨w.heap.size, 0, none⟩ = some (.int .i64 k) := hB0.cell rfl
    have KEEP := Lib.hid (fun (W : World) (h : Chg [] W0 W) => (⟨h.keep e0 (by simp), Lib.hid h⟩ : W.cell? ⟨w.heap.size, 0, none⟩ = some (.int .i64 k) ∧ Hid (Chg [] W0 W)))
    go_region_held (fun W => W.cell? ⟨w.heap.size, 0, none⟩ = some (.int .i64 k) ∧ Hid (Chg [] W0 W)) (first | with_reducible assumption | (refine KEEP.out _ ?_; (repeat (first | with_reducible exact HD2.out | with_reducible exact Chg.refl _ _ | with_reducible refine Chg.drew ?_ | with_reducible refine Chg.alloc ?_ _ | with_reducible refine Chg.setCell ?_ (.inr (Nat.le_refl _)) _)); done) | (trace_state; fail)) (first | (go_at_call 149; refine (shapes_any _).mono ?_; rintro e w2 ⟨rfl, hc2⟩; first | (have HD2 := Lib.hid (((Chg.refl [] W0).drew).trans hc2); clear hc2) | (have HD2 := Lib.hid ((((Chg.refl [] W0).alloc _).drew).trans hc2); have hb2 : Blk w2 W0.heap.size #[.string ⟨#[]⟩, .int .i64 0, .int .i64 0, .int .i64 0, .int .i64 0, .string ⟨#[]⟩, .string ⟨#[]⟩] 139 := Blk.keep (Blk.drew (Blk.new W0 _ _)) hc2 (by simp); have q0 : w2.cell? ⟨W0.heap.size, 0, none⟩ = some (.string ⟨#[]⟩) := hb2.cell rfl; have r0 : w2.frozen? ⟨W0.heap.size, 0, none⟩ = false := hb2.free 0; have q1 : w2.cell? ⟨W0.heap.size, 1, none⟩ = some (.int .i64 0) := hb2.cell rfl; have r1 : w2.frozen? ⟨W0.heap.size, 1, none⟩ = false := hb2.free 1; have q2 : w2.cell? ⟨W0.heap.size, 2, none⟩ = some (.int .i64 0) := hb2.cell rfl; have r2 : w2.frozen? ⟨W0.heap.size, 2, none⟩ = false := hb2.free 2; have q3 : w2.cell? ⟨W0.heap.size, 3, none⟩ = some (.int .i64 0) := hb2.cell rfl; have r3 : w2.frozen? ⟨W0.heap.size, 3, none⟩ = false := hb2.free 3; have q4 : w2.cell? ⟨W0.heap.size, 4, none⟩ = some (.int .i64 0) := hb2.cell rfl; have r4 : w2.frozen? ⟨W0.heap.size, 4, none⟩ = false := hb2.free 4; have q5 : w2.cell? ⟨W0.heap.size, 5, none⟩ = some (.string ⟨#[]⟩) := hb2.cell rfl; have r5 : w2.frozen? ⟨W0.heap.size, 5, none⟩ = false := hb2.free 5; have q6 : w2.cell? ⟨W0.heap.size, 6, none⟩ = some (.string ⟨#[]⟩) := hb2.cell rfl; have r6 : w2.frozen? ⟨W0.heap.size, 6, none⟩ = false := hb2.free 6; clear hc2; have HB2 := Lib.hid hb2; clear hb2)))
    all_goals (first
      | (have hb3 := (((((((HB2.out.set 0 (.string (wordB k))).set 1 (.int .i64 (shapeAt k).a)).set 2 (.int .i64 (shapeAt k).b)).set 3 (.int .i64 (shapeAt k).c)).set 4 (.int .i64 (shapeAt k).n)).set 5 (.string (usesB k))).set 6 (.string (setsB k))); simp only [List.setIfInBounds_toArray, List.set_cons_zero, List.set_cons_succ] at hb3; refine then_gen (R := fun W => Hid (Blk W W0.heap.size #[.string (wordB k), .int .i64 (shapeAt k).a, .int .i64 (shapeAt k).b, .int .i64 (shapeAt k).c, .int .i64 (shapeAt k).n, .string (usesB k), .string (setsB k)] 139) ∧ Hid (Chg [] W0 W)) (And.intro (Lib.hid hb3) (by rename_i h; exact h.2)) ?_; clear hb3)
      | refine then_gen (R := fun W => Hid (Blk W w2.heap.size #[.string (wordB k), .int .i64 (shapeAt k).a, .int .i64 (shapeAt k).b, .int .i64 (shapeAt k).c, .int .i64 (shapeAt k).n, .string (usesB k), .string (setsB k)] 139) ∧ Hid (Chg [] W0 W)) ⟨Lib.hid (Blk.new _ _ _), Lib.hid (HD2.out.alloc _)⟩ ?_)
    all_goals (try clear q0 r0 q1 r1 q2 r2 q3 r3 q4 r4 q5 r5 q6 r6 HB2)
    all_goals (rename_i hHeld; clear hHeld; rintro W4 ⟨HS, HC⟩)
    all_goals (have i1 : W4.cell? ⟨w.heap.size, 1, none⟩ = some (.int .i64 a) := HC.out.keep (hB0.cell rfl) (by simp))
    all_goals (have i2 : W4.cell? ⟨w.heap.size, 2, none⟩ = some (.int .i64 b) := HC.out.keep (hB0.cell rfl) (by simp))
    all_goals (have i3 : W4.cell? ⟨w.heap.size, 3, none⟩ = some (.int .i64 c) := HC.out.keep (hB0.cell rfl) (by simp))
    all_goals (have i4 : W4.cell? ⟨w.heap.size, 4, none⟩ = some (.int .u32 n) := HC.out.keep (hB0.cell rfl) (by simp))
    all_goals (have s1 := HS.out.cell (o := 1) (v := .int .i64 (shapeAt k).a) rfl; have s2 := HS.out.cell (o := 2) (v := .int .i64 (shapeAt k).b) rfl; have s3 := HS.out.cell (o := 3) (v := .int .i64 (shapeAt k).c) rfl; have s4 := HS.out.cell (o := 4) (v := .int .i64 (shapeAt k).n) rfl)
    all_goals (have HF := Lib.hid (hC0.trans HC.out); clear HC HS KEEP hB0 hC0 e0)
    all_goals (generalize hg1 : fitsI (shapeAt k).a a = g1; generalize hg2 : fitsI (shapeAt k).b b = g2; generalize hg3 : fitsI (shapeAt k).c c = g3; generalize hg4 : fitsI (shapeAt k).n n = g4)
    all_goals (have hr : rightI ⟨k, a, b, c, n⟩ = (g1 && (g2 && (g3 && g4))) := by (rw [rightI_in k hk2, hg1, hg2, hg3, hg4]))
    all_goals (have HR := Lib.hid hr; have H1 := Lib.hid hg1; have H2 := Lib.hid hg2; have H3 := Lib.hid hg3; have H4 := Lib.hid hg4; clear hr hg1 hg2 hg3 hg4 hp)
    all_goals (cases g1 <;> cases g2 <;> cases g3 <;> cases g4)
    all_goals (go_wp2_with (go_at_call 150; refine (fits_any _ _ _).mono ?_; rintro e w5 ⟨rfl, rfl⟩; first | rw [H1.out] | rw [H2.out] | rw [H3.out] | rw [HWR.out, H4.out]))
    all_goals (first | (go_ret; exact ⟨by (rw [HR.out]; rfl), HF.out⟩) | (trace_state; fail))
  · have hr : rightI ⟨op, a, b, c, n⟩ = false := by unfold rightI; rw [if_neg hk]
    rw [hr]
    go_enter Tryz.func124, Tryz.ntmps124
    go_wp2_with (first | (go_at_call 148; refine (known_out op (by omega) _).mono ?_; rintro e w1 ⟨rfl, rfl⟩))
    go_ret
    exact ⟨rfl, (Chg.refl _ _).alloc _⟩
end Go.Proofs.YtkedegbpkkgeaaaGreat.isa
