/-
  coxswainlaw35.BoundTells returns true for every o, op and fails: how many steps any operation has, if none, or some, of its attempts fail. No conditions.
-/
import Derived.Test.YtjplamoofkcojaaRows
import Derived.WalkKit
import Derived.ProofKit
import Derived.OpenShut
import Derived.ShutString
import Derived.ChangeOld
import Derived.Below
import Derived.Test.YtjplamoofkcojaaOpen
import Derived.Test.YtjplamoofkcojaaBnd4
import Derived.Test.YtjplamoofkcojaaObjO
namespace Go.Proofs.Ytjplamoofkcojaa.boundTells
open Go.ChangeShapes Go.WideShapes Go.ChangeAt Go.RowKit
open Go.ChangeMaps (open_string shut_string)
set_option linter.unusedVariables false
open Go.Proofs.Ytjplamoofkcojaa.kit Go.Proofs.Ytjplamoofkcojaa.obj
set_option maxRecDepth 100000
set_option maxRecDepth 100000 in
set_option maxHeartbeats 8000000 in
theorem big (k : Int) (w s c st : Int) (ia : Option Addr) (il ic : Nat) (wr : Int) (ra : Option Addr) (rl rc : Nat) (op fails : Int) (h : ¬ (il ≤ 100 ∧ rl ≤ 100)) (W : World) :
    Calls Try.prog 3 #[.agg #[.int .i64 k, .int .i64 w, .int .i64 s, .int .i64 c, .int .u32 st, .slice ia il ic, .int .i64 wr, .slice ra rl rc], .int .i64 op, .int .i64 fails] W fun e W' => e = .returned (.bool true) ∧ Below W.heap.size W W' := by
  have HSM := Lib.hid (decide_eq_false h)
  clear h
  go_enter Try.func3, Try.ntmps3
  go_wp2_with (first | (go_at_call 8; refine (small_any k w s c st ia il ic wr ra rl rc _).mono ?_; rintro e w1 ⟨rfl, hc1⟩; rw [HSM.out]) | (go_at_call 9; refine (awakeB_any _).mono ?_; rintro e w2 ⟨rfl, hc2⟩))
  go_ret
  exact ⟨rfl, ((((Chg.refl _ _).alloc _).trans hc1).trans hc2).below⟩

set_option maxRecDepth 100000 in
set_option maxHeartbeats 8000000 in
theorem few (k : Int) (w s c st : Int) (ia : Option Addr) (il ic : Nat) (wr : Int) (ra : Option Addr) (rl rc : Nat) (op fails : Int) (hf : fails ≤ 100) (h : ObjW k w s c st il rl) (W : World) :
    Calls Try.prog 3 #[.agg #[.int .i64 k, .int .i64 w, .int .i64 s, .int .i64 c, .int .u32 st, .slice ia il ic, .int .i64 wr, .slice ra rl rc], .int .i64 op, .int .i64 fails] W fun e W' => e = .returned (.bool true) ∧ Below W.heap.size W W' := by
  have HSM : Hid (decide (il ≤ 100 ∧ rl ≤ 100) = true) := Lib.hid (decide_eq_true ⟨h.ilen, h.rlen⟩)
  have haf := fun u => bAfter_any k w s c st ia il ic wr ra rl rc op fails h u
  have hac := fun u => bAfter_any k w s c st ia il ic wr ra rl rc op c h u
  rw [after_cap] at hac
  have hcl := fun u => bClean_any k w s c st ia il ic wr ra rl rc op h u
  have hrc := fun u => rClean_any k w s c st ia il ic wr ra rl rc op h u
  have hfl := fun u => bFail_any k w s c st ia il ic wr ra rl rc op h u
  have hrf := fun u => rFail_any k w s c st ia il ic wr ra rl rc op h u
  have hrb := fun u => rBound_any k w s c st ia il ic wr ra rl rc op h u
  have hra := fun u => rAfter_any k w s c st ia il ic wr ra rl rc op fails hf h u
  have hfb : decide (fails ≤ 100) = true := by simp; omega
  clear h hf
  generalize cleanI k w s c st il rl op = cv at *
  generalize failI k w s c st il rl op = fv at *
  generalize boundI k w s c st il rl op = bv at *
  generalize afterI k w s c st il rl op fails = av at *
  have HAF := Lib.hid haf
  have HAC := Lib.hid hac
  have HCL := Lib.hid hcl
  have HRC := Lib.hid hrc
  have HFL := Lib.hid hfl
  have HRF := Lib.hid hrf
  have HRB := Lib.hid hrb
  have HRA := Lib.hid hra
  clear hra
  clear haf hac hcl hrc hfl hrf hrb
  have HBX : Hid (Blk (W.alloc (.cells #[.int .i64 k, .int .i64 w, .int .i64 s, .int .i64 c, .int .u32 st, .slice ia il ic, .int .i64 wr, .slice ra rl rc] 26)) W.heap.size #[.int .i64 k, .int .i64 w, .int .i64 s, .int .i64 c, .int .u32 st, .slice ia il ic, .int .i64 wr, .slice ra rl rc] 26) := Lib.hid (Blk.new W _ _)
  have HCC : Hid (Chg [] W (W.alloc (.cells #[.int .i64 k, .int .i64 w, .int .i64 s, .int .i64 c, .int .u32 st, .slice ia il ic, .int .i64 wr, .slice ra rl rc] 26))) := Lib.hid ((Chg.refl _ _).alloc _)
  go_enter Try.func3, Try.ntmps3
  go_wp2_with (first | (go_at_call 8; refine (small_any k w s c st ia il ic wr ra rl rc _).mono ?_; rintro e wx ⟨rfl, hcx⟩; rw [HSM.out]; have HBX := Lib.hid (Blk.keep HBX.out hcx (by simp)); have e0 := HBX.out.cell (o := 0) (v := .int .i64 k) rfl; have e1 := HBX.out.cell (o := 1) (v := .int .i64 w) rfl; have e2 := HBX.out.cell (o := 2) (v := .int .i64 s) rfl; have e3 := HBX.out.cell (o := 3) (v := .int .i64 c) rfl; have e4 := HBX.out.cell (o := 4) (v := .int .u32 st) rfl; have e5 := HBX.out.cell (o := 5) (v := .slice ia il ic) rfl; have e6 := HBX.out.cell (o := 6) (v := .int .i64 wr) rfl; have e7 := HBX.out.cell (o := 7) (v := .slice ra rl rc) rfl; have HCC := Lib.hid (HCC.out.trans hcx); clear hcx) | (go_at_call 10; refine (HAF.out _).mono ?_; rintro e W0 ⟨rfl, hcx⟩; have HBX := Lib.hid (Blk.keep HBX.out hcx (by simp)); have e0 := HBX.out.cell (o := 0) (v := .int .i64 k) rfl; have e1 := HBX.out.cell (o := 1) (v := .int .i64 w) rfl; have e2 := HBX.out.cell (o := 2) (v := .int .i64 s) rfl; have e3 := HBX.out.cell (o := 3) (v := .int .i64 c) rfl; have e4 := HBX.out.cell (o := 4) (v := .int .u32 st) rfl; have e5 := HBX.out.cell (o := 5) (v := .slice ia il ic) rfl; have e6 := HBX.out.cell (o := 6) (v := .int .i64 wr) rfl; have e7 := HBX.out.cell (o := 7) (v := .slice ra rl rc) rfl; have HCC := Lib.hid (HCC.out.trans hcx); clear hcx))
  have hB0 : Blk W0 W.heap.size #[.int .i64 k, .int .i64 w, .int .i64 s, .int .i64 c, .int .u32 st, .slice ia il ic, .int .i64 wr, .slice ra rl rc] 26 := HBX.out
  have e0 : W0.cell? ⟨W.heap.size, 0, none⟩ = some (.int .i64 k) := hB0.cell rfl
  have e1 : W0.cell? ⟨W.heap.size, 1, none⟩ = some (.int .i64 w) := hB0.cell rfl
  have e2 : W0.cell? ⟨W.heap.size, 2, none⟩ = some (.int .i64 s) := hB0.cell rfl
  have e3 : W0.cell? ⟨W.heap.size, 3, none⟩ = some (.int .i64 c) := hB0.cell rfl
  have e4 : W0.cell? ⟨W.heap.size, 4, none⟩ = some (.int .u32 st) := hB0.cell rfl
  have e5 : W0.cell? ⟨W.heap.size, 5, none⟩ = some (.slice ia il ic) := hB0.cell rfl
  have e6 : W0.cell? ⟨W.heap.size, 6, none⟩ = some (.int .i64 wr) := hB0.cell rfl
  have e7 : W0.cell? ⟨W.heap.size, 7, none⟩ = some (.slice ra rl rc) := hB0.cell rfl
  have KEEP := Lib.hid (fun (V : World) (h : Chg [] W0 V) => (⟨h.keep e0 (by simp), h.keep e1 (by simp), h.keep e2 (by simp), h.keep e3 (by simp), h.keep e4 (by simp), h.keep e5 (by simp), h.keep e6 (by simp), h.keep e7 (by simp), Lib.hid h⟩ : (fun V : World => V.cell? ⟨W.heap.size, 0, none⟩ = some (.int .i64 k) ∧ V.cell? ⟨W.heap.size, 1, none⟩ = some (.int .i64 w) ∧ V.cell? ⟨W.heap.size, 2, none⟩ = some (.int .i64 s) ∧ V.cell? ⟨W.heap.size, 3, none⟩ = some (.int .i64 c) ∧ V.cell? ⟨W.heap.size, 4, none⟩ = some (.int .u32 st) ∧ V.cell? ⟨W.heap.size, 5, none⟩ = some (.slice ia il ic) ∧ V.cell? ⟨W.heap.size, 6, none⟩ = some (.int .i64 wr) ∧ V.cell? ⟨W.heap.size, 7, none⟩ = some (.slice ra rl rc) ∧ Hid (Chg [] W0 V)) V))
  clear e0 e1 e2 e3 e4 e5 e6 e7 hB0
  have hHeld : (fun V : World => V.cell? ⟨W.heap.size, 0, none⟩ = some (.int .i64 k) ∧ V.cell? ⟨W.heap.size, 1, none⟩ = some (.int .i64 w) ∧ V.cell? ⟨W.heap.size, 2, none⟩ = some (.int .i64 s) ∧ V.cell? ⟨W.heap.size, 3, none⟩ = some (.int .i64 c) ∧ V.cell? ⟨W.heap.size, 4, none⟩ = some (.int .u32 st) ∧ V.cell? ⟨W.heap.size, 5, none⟩ = some (.slice ia il ic) ∧ V.cell? ⟨W.heap.size, 6, none⟩ = some (.int .i64 wr) ∧ V.cell? ⟨W.heap.size, 7, none⟩ = some (.slice ra rl rc) ∧ Hid (Chg [] W0 V)) (World.drew W0) := KEEP.out _ (Chg.refl _ _).drew
  refine wp_region_plan (fun V : World => V.cell? ⟨W.heap.size, 0, none⟩ = some (.int .i64 k) ∧ V.cell? ⟨W.heap.size, 1, none⟩ = some (.int .i64 w) ∧ V.cell? ⟨W.heap.size, 2, none⟩ = some (.int .i64 s) ∧ V.cell? ⟨W.heap.size, 3, none⟩ = some (.int .i64 c) ∧ V.cell? ⟨W.heap.size, 4, none⟩ = some (.int .u32 st) ∧ V.cell? ⟨W.heap.size, 5, none⟩ = some (.slice ia il ic) ∧ V.cell? ⟨W.heap.size, 6, none⟩ = some (.int .i64 wr) ∧ V.cell? ⟨W.heap.size, 7, none⟩ = some (.slice ra rl rc) ∧ Hid (Chg [] W0 V)) [(0, true, some 16), (1, true, some 17), (3, true, some 19), (4, true, some 20), (2, false, some 18), (5, false, some 21), (6, true, some 22), (7, true, some 23), (8, true, some 24), (9, true, some 25), (11, true, some 27), (12, true, some 28), (10, false, some 26), (13, false, some 29), (14, true, some 30), (15, true, some 31), (16, true, some 32), (17, true, some 33), (18, true, some 34), (19, true, some 35), (20, true, some 36), (21, true, some 37), (22, true, some 38), (23, true, some 39), (24, false, some 40), (25, true, some 41), (26, true, some 42), (27, true, some 43)] (by kernel_rfl) (by kernel_rfl) (by kernel_rfl) (by kernel_rfl) (fun d c a v w h => by cases d <;> exact h) hHeld ?_
  repeat (first
    | (refine planWp_read (v := ?_) rfl rfl ?_ ?_ ?_; rotate_left; (focus rfl); (focus (intro u hSw; (try dsimp only at hSw); go_simp; (try with_reducible rfl))); (try simp only [Act.put, List.setIfInBounds_toArray, List.set_cons_zero, List.set_cons_succ]))
    | (refine planWp_skip rfl rfl ?_ ?_; (focus rfl); (try simp only [Act.put, List.setIfInBounds_toArray, List.set_cons_zero, List.set_cons_succ]))
    | (refine planWp_leave rfl rfl ?_ hHeld ?_; (focus rfl); (try simp only [Act.put, List.setIfInBounds_toArray, List.set_cons_zero, List.set_cons_succ]))
    | (refine planWp_do rfl rfl ?_ (fun K hK => ?_); (focus rfl); go_simp; (try go_wp2_with (first | (go_at_call 11; refine (HCL.out _).mono ?_; rintro e wx ⟨rfl, hcx⟩; have HCX := Lib.hid hcx; clear hcx) | (go_at_call 12; refine (HRC.out _).mono ?_; rintro e wx ⟨rfl, hcx⟩; have HCX := Lib.hid hcx; clear hcx) | (go_at_call 13; refine (HFL.out _).mono ?_; rintro e wx ⟨rfl, hcx⟩; have HCX := Lib.hid hcx; clear hcx) | (go_at_call 14; refine (HRF.out _).mono ?_; rintro e wx ⟨rfl, hcx⟩; have HCX := Lib.hid hcx; clear hcx) | (go_at_call 15; refine (HRA.out _).mono ?_; rintro e wx ⟨rfl, hcx⟩; have HCX := Lib.hid hcx; clear hcx))); refine hK.out _ _ ?_ (fun hHeld2 => ?_); (focus (have hcn := Chg.trans hHeld.2.2.2.2.2.2.2.2.out HCX.out; exact KEEP.out _ hcn)); clear hK K hHeld; have hHeld := hHeld2; clear hHeld2; (try simp only [Act.put, List.setIfInBounds_toArray, List.set_cons_zero, List.set_cons_succ])))
  refine planWp_nil ?_
  have HCC := Lib.hid (HCC.out.trans hHeld.2.2.2.2.2.2.2.2.out)
  have HBX := Lib.hid (Blk.keep HBX.out hHeld.2.2.2.2.2.2.2.2.out (by simp))
  clear hHeld KEEP
  go_wp2_with fail
  have hB0 : Blk wx W.heap.size #[.int .i64 k, .int .i64 w, .int .i64 s, .int .i64 c, .int .u32 st, .slice ia il ic, .int .i64 wr, .slice ra rl rc] 26 := HBX.out
  have e0 : wx.cell? ⟨W.heap.size, 0, none⟩ = some (.int .i64 k) := hB0.cell rfl
  have e1 : wx.cell? ⟨W.heap.size, 1, none⟩ = some (.int .i64 w) := hB0.cell rfl
  have e2 : wx.cell? ⟨W.heap.size, 2, none⟩ = some (.int .i64 s) := hB0.cell rfl
  have e3 : wx.cell? ⟨W.heap.size, 3, none⟩ = some (.int .i64 c) := hB0.cell rfl
  have e4 : wx.cell? ⟨W.heap.size, 4, none⟩ = some (.int .u32 st) := hB0.cell rfl
  have e5 : wx.cell? ⟨W.heap.size, 5, none⟩ = some (.slice ia il ic) := hB0.cell rfl
  have e6 : wx.cell? ⟨W.heap.size, 6, none⟩ = some (.int .i64 wr) := hB0.cell rfl
  have e7 : wx.cell? ⟨W.heap.size, 7, none⟩ = some (.slice ra rl rc) := hB0.cell rfl
  have KEEP := Lib.hid (fun (V : World) (h : Chg [] wx V) => (⟨h.keep e0 (by simp), h.keep e1 (by simp), h.keep e2 (by simp), h.keep e3 (by simp), h.keep e4 (by simp), h.keep e5 (by simp), h.keep e6 (by simp), h.keep e7 (by simp), Lib.hid h⟩ : (fun V : World => V.cell? ⟨W.heap.size, 0, none⟩ = some (.int .i64 k) ∧ V.cell? ⟨W.heap.size, 1, none⟩ = some (.int .i64 w) ∧ V.cell? ⟨W.heap.size, 2, none⟩ = some (.int .i64 s) ∧ V.cell? ⟨W.heap.size, 3, none⟩ = some (.int .i64 c) ∧ V.cell? ⟨W.heap.size, 4, none⟩ = some (.int .u32 st) ∧ V.cell? ⟨W.heap.size, 5, none⟩ = some (.slice ia il ic) ∧ V.cell? ⟨W.heap.size, 6, none⟩ = some (.int .i64 wr) ∧ V.cell? ⟨W.heap.size, 7, none⟩ = some (.slice ra rl rc) ∧ Hid (Chg [] wx V)) V))
  clear e0 e1 e2 e3 e4 e5 e6 e7 hB0
  have hHeld : (fun V : World => V.cell? ⟨W.heap.size, 0, none⟩ = some (.int .i64 k) ∧ V.cell? ⟨W.heap.size, 1, none⟩ = some (.int .i64 w) ∧ V.cell? ⟨W.heap.size, 2, none⟩ = some (.int .i64 s) ∧ V.cell? ⟨W.heap.size, 3, none⟩ = some (.int .i64 c) ∧ V.cell? ⟨W.heap.size, 4, none⟩ = some (.int .u32 st) ∧ V.cell? ⟨W.heap.size, 5, none⟩ = some (.slice ia il ic) ∧ V.cell? ⟨W.heap.size, 6, none⟩ = some (.int .i64 wr) ∧ V.cell? ⟨W.heap.size, 7, none⟩ = some (.slice ra rl rc) ∧ Hid (Chg [] wx V)) (World.drew wx) := KEEP.out _ (Chg.refl _ _).drew
  refine wp_region_plan (fun V : World => V.cell? ⟨W.heap.size, 0, none⟩ = some (.int .i64 k) ∧ V.cell? ⟨W.heap.size, 1, none⟩ = some (.int .i64 w) ∧ V.cell? ⟨W.heap.size, 2, none⟩ = some (.int .i64 s) ∧ V.cell? ⟨W.heap.size, 3, none⟩ = some (.int .i64 c) ∧ V.cell? ⟨W.heap.size, 4, none⟩ = some (.int .u32 st) ∧ V.cell? ⟨W.heap.size, 5, none⟩ = some (.slice ia il ic) ∧ V.cell? ⟨W.heap.size, 6, none⟩ = some (.int .i64 wr) ∧ V.cell? ⟨W.heap.size, 7, none⟩ = some (.slice ra rl rc) ∧ Hid (Chg [] wx V)) [(0, true, some 44), (1, true, some 45), (2, true, some 46), (3, true, some 47), (5, true, some 49), (6, true, some 50), (4, false, some 48), (7, false, some 51), (8, true, some 52), (9, true, some 53), (10, true, some 54), (11, true, some 55), (12, true, some 56), (13, true, some 57), (14, true, some 58), (15, true, some 59), (16, false, some 60), (17, true, some 61), (18, true, some 62), (19, true, some 63), (20, true, some 64), (21, false, some 65), (22, true, some 66), (23, true, some 6)] (by kernel_rfl) (by kernel_rfl) (by kernel_rfl) (by kernel_rfl) (fun d c a v w h => by cases d <;> exact h) hHeld ?_
  repeat (first
    | (refine planWp_read (v := ?_) rfl rfl ?_ ?_ ?_; rotate_left; (focus rfl); (focus (intro u hSw; (try dsimp only at hSw); go_simp; (try with_reducible rfl))); (try simp only [Act.put, List.setIfInBounds_toArray, List.set_cons_zero, List.set_cons_succ]))
    | (refine planWp_skip rfl rfl ?_ ?_; (focus rfl); (try simp only [Act.put, List.setIfInBounds_toArray, List.set_cons_zero, List.set_cons_succ]))
    | (refine planWp_leave rfl rfl ?_ hHeld ?_; (focus rfl); (try simp only [Act.put, List.setIfInBounds_toArray, List.set_cons_zero, List.set_cons_succ]))
    | (refine planWp_do rfl rfl ?_ (fun K hK => ?_); (focus rfl); go_simp; (try go_wp2_with (first | (go_at_call 10; refine (HAC.out _).mono ?_; rintro e wx ⟨rfl, hcx⟩; have HCX := Lib.hid hcx; clear hcx) | (go_at_call 16; refine (HRB.out _).mono ?_; rintro e wx ⟨rfl, hcx⟩; have HCX := Lib.hid hcx; clear hcx) | (go_at_call 9; refine (awakeB_any _).mono ?_; rintro e wx ⟨rfl, hcx⟩; have HCX := Lib.hid hcx; clear hcx))); refine hK.out _ _ ?_ (fun hHeld2 => ?_); (focus (have hcn := Chg.trans hHeld.2.2.2.2.2.2.2.2.out HCX.out; exact KEEP.out _ hcn)); clear hK K hHeld; have hHeld := hHeld2; clear hHeld2; (try simp only [Act.put, List.setIfInBounds_toArray, List.set_cons_zero, List.set_cons_succ])))
  refine planWp_nil ?_
  have HCC := Lib.hid (HCC.out.trans hHeld.2.2.2.2.2.2.2.2.out)
  clear hHeld KEEP
  go_wp2_with fail
  go_ret
  exact ⟨rfl, HCC.out.below⟩

set_option maxRecDepth 100000 in
set_option maxHeartbeats 8000000 in
theorem many (k : Int) (w s c st : Int) (ia : Option Addr) (il ic : Nat) (wr : Int) (ra : Option Addr) (rl rc : Nat) (op fails : Int) (hf : 100 < fails) (h : ObjW k w s c st il rl) (W : World) :
    Calls Try.prog 3 #[.agg #[.int .i64 k, .int .i64 w, .int .i64 s, .int .i64 c, .int .u32 st, .slice ia il ic, .int .i64 wr, .slice ra rl rc], .int .i64 op, .int .i64 fails] W fun e W' => e = .returned (.bool true) ∧ Below W.heap.size W W' := by
  have HSM : Hid (decide (il ≤ 100 ∧ rl ≤ 100) = true) := Lib.hid (decide_eq_true ⟨h.ilen, h.rlen⟩)
  have haf := fun u => bAfter_any k w s c st ia il ic wr ra rl rc op fails h u
  have hac := fun u => bAfter_any k w s c st ia il ic wr ra rl rc op c h u
  rw [after_cap] at hac
  have hcl := fun u => bClean_any k w s c st ia il ic wr ra rl rc op h u
  have hrc := fun u => rClean_any k w s c st ia il ic wr ra rl rc op h u
  have hfl := fun u => bFail_any k w s c st ia il ic wr ra rl rc op h u
  have hrf := fun u => rFail_any k w s c st ia il ic wr ra rl rc op h u
  have hrb := fun u => rBound_any k w s c st ia il ic wr ra rl rc op h u
  rw [after_many _ _ _ _ _ _ _ _ _ hf] at haf
  have hfb : decide (fails ≤ 100) = false := by simp; omega
  clear h hf
  generalize cleanI k w s c st il rl op = cv at *
  generalize failI k w s c st il rl op = fv at *
  generalize boundI k w s c st il rl op = bv at *
  have HAF := Lib.hid haf
  have HAC := Lib.hid hac
  have HCL := Lib.hid hcl
  have HRC := Lib.hid hrc
  have HFL := Lib.hid hfl
  have HRF := Lib.hid hrf
  have HRB := Lib.hid hrb
  clear haf hac hcl hrc hfl hrf hrb
  have HBX : Hid (Blk (W.alloc (.cells #[.int .i64 k, .int .i64 w, .int .i64 s, .int .i64 c, .int .u32 st, .slice ia il ic, .int .i64 wr, .slice ra rl rc] 26)) W.heap.size #[.int .i64 k, .int .i64 w, .int .i64 s, .int .i64 c, .int .u32 st, .slice ia il ic, .int .i64 wr, .slice ra rl rc] 26) := Lib.hid (Blk.new W _ _)
  have HCC : Hid (Chg [] W (W.alloc (.cells #[.int .i64 k, .int .i64 w, .int .i64 s, .int .i64 c, .int .u32 st, .slice ia il ic, .int .i64 wr, .slice ra rl rc] 26))) := Lib.hid ((Chg.refl _ _).alloc _)
  go_enter Try.func3, Try.ntmps3
  go_wp2_with (first | (go_at_call 8; refine (small_any k w s c st ia il ic wr ra rl rc _).mono ?_; rintro e wx ⟨rfl, hcx⟩; rw [HSM.out]; have HBX := Lib.hid (Blk.keep HBX.out hcx (by simp)); have e0 := HBX.out.cell (o := 0) (v := .int .i64 k) rfl; have e1 := HBX.out.cell (o := 1) (v := .int .i64 w) rfl; have e2 := HBX.out.cell (o := 2) (v := .int .i64 s) rfl; have e3 := HBX.out.cell (o := 3) (v := .int .i64 c) rfl; have e4 := HBX.out.cell (o := 4) (v := .int .u32 st) rfl; have e5 := HBX.out.cell (o := 5) (v := .slice ia il ic) rfl; have e6 := HBX.out.cell (o := 6) (v := .int .i64 wr) rfl; have e7 := HBX.out.cell (o := 7) (v := .slice ra rl rc) rfl; have HCC := Lib.hid (HCC.out.trans hcx); clear hcx) | (go_at_call 10; refine (HAF.out _).mono ?_; rintro e W0 ⟨rfl, hcx⟩; have HBX := Lib.hid (Blk.keep HBX.out hcx (by simp)); have e0 := HBX.out.cell (o := 0) (v := .int .i64 k) rfl; have e1 := HBX.out.cell (o := 1) (v := .int .i64 w) rfl; have e2 := HBX.out.cell (o := 2) (v := .int .i64 s) rfl; have e3 := HBX.out.cell (o := 3) (v := .int .i64 c) rfl; have e4 := HBX.out.cell (o := 4) (v := .int .u32 st) rfl; have e5 := HBX.out.cell (o := 5) (v := .slice ia il ic) rfl; have e6 := HBX.out.cell (o := 6) (v := .int .i64 wr) rfl; have e7 := HBX.out.cell (o := 7) (v := .slice ra rl rc) rfl; have HCC := Lib.hid (HCC.out.trans hcx); clear hcx))
  have hB0 : Blk W0 W.heap.size #[.int .i64 k, .int .i64 w, .int .i64 s, .int .i64 c, .int .u32 st, .slice ia il ic, .int .i64 wr, .slice ra rl rc] 26 := HBX.out
  have e0 : W0.cell? ⟨W.heap.size, 0, none⟩ = some (.int .i64 k) := hB0.cell rfl
  have e1 : W0.cell? ⟨W.heap.size, 1, none⟩ = some (.int .i64 w) := hB0.cell rfl
  have e2 : W0.cell? ⟨W.heap.size, 2, none⟩ = some (.int .i64 s) := hB0.cell rfl
  have e3 : W0.cell? ⟨W.heap.size, 3, none⟩ = some (.int .i64 c) := hB0.cell rfl
  have e4 : W0.cell? ⟨W.heap.size, 4, none⟩ = some (.int .u32 st) := hB0.cell rfl
  have e5 : W0.cell? ⟨W.heap.size, 5, none⟩ = some (.slice ia il ic) := hB0.cell rfl
  have e6 : W0.cell? ⟨W.heap.size, 6, none⟩ = some (.int .i64 wr) := hB0.cell rfl
  have e7 : W0.cell? ⟨W.heap.size, 7, none⟩ = some (.slice ra rl rc) := hB0.cell rfl
  have KEEP := Lib.hid (fun (V : World) (h : Chg [] W0 V) => (⟨h.keep e0 (by simp), h.keep e1 (by simp), h.keep e2 (by simp), h.keep e3 (by simp), h.keep e4 (by simp), h.keep e5 (by simp), h.keep e6 (by simp), h.keep e7 (by simp), Lib.hid h⟩ : (fun V : World => V.cell? ⟨W.heap.size, 0, none⟩ = some (.int .i64 k) ∧ V.cell? ⟨W.heap.size, 1, none⟩ = some (.int .i64 w) ∧ V.cell? ⟨W.heap.size, 2, none⟩ = some (.int .i64 s) ∧ V.cell? ⟨W.heap.size, 3, none⟩ = some (.int .i64 c) ∧ V.cell? ⟨W.heap.size, 4, none⟩ = some (.int .u32 st) ∧ V.cell? ⟨W.heap.size, 5, none⟩ = some (.slice ia il ic) ∧ V.cell? ⟨W.heap.size, 6, none⟩ = some (.int .i64 wr) ∧ V.cell? ⟨W.heap.size, 7, none⟩ = some (.slice ra rl rc) ∧ Hid (Chg [] W0 V)) V))
  clear e0 e1 e2 e3 e4 e5 e6 e7 hB0
  have hHeld : (fun V : World => V.cell? ⟨W.heap.size, 0, none⟩ = some (.int .i64 k) ∧ V.cell? ⟨W.heap.size, 1, none⟩ = some (.int .i64 w) ∧ V.cell? ⟨W.heap.size, 2, none⟩ = some (.int .i64 s) ∧ V.cell? ⟨W.heap.size, 3, none⟩ = some (.int .i64 c) ∧ V.cell? ⟨W.heap.size, 4, none⟩ = some (.int .u32 st) ∧ V.cell? ⟨W.heap.size, 5, none⟩ = some (.slice ia il ic) ∧ V.cell? ⟨W.heap.size, 6, none⟩ = some (.int .i64 wr) ∧ V.cell? ⟨W.heap.size, 7, none⟩ = some (.slice ra rl rc) ∧ Hid (Chg [] W0 V)) (World.drew W0) := KEEP.out _ (Chg.refl _ _).drew
  refine wp_region_plan (fun V : World => V.cell? ⟨W.heap.size, 0, none⟩ = some (.int .i64 k) ∧ V.cell? ⟨W.heap.size, 1, none⟩ = some (.int .i64 w) ∧ V.cell? ⟨W.heap.size, 2, none⟩ = some (.int .i64 s) ∧ V.cell? ⟨W.heap.size, 3, none⟩ = some (.int .i64 c) ∧ V.cell? ⟨W.heap.size, 4, none⟩ = some (.int .u32 st) ∧ V.cell? ⟨W.heap.size, 5, none⟩ = some (.slice ia il ic) ∧ V.cell? ⟨W.heap.size, 6, none⟩ = some (.int .i64 wr) ∧ V.cell? ⟨W.heap.size, 7, none⟩ = some (.slice ra rl rc) ∧ Hid (Chg [] W0 V)) [(0, true, some 16), (1, true, some 17), (3, true, some 19), (4, true, some 20), (2, false, some 18), (5, false, some 21), (6, true, some 22), (7, true, some 23), (8, true, some 24), (9, true, some 25), (11, true, some 27), (12, true, some 28), (10, false, some 26), (13, false, some 29), (14, true, some 30), (15, true, some 31), (16, true, some 32), (17, true, some 33), (18, true, some 34), (19, true, some 35), (20, true, some 36), (21, true, some 37), (22, true, some 38), (23, true, some 39), (24, false, some 40), (25, true, some 41), (26, true, some 42), (27, true, some 43)] (by kernel_rfl) (by kernel_rfl) (by kernel_rfl) (by kernel_rfl) (fun d c a v w h => by cases d <;> exact h) hHeld ?_
  repeat (first
    | (refine planWp_read (v := ?_) rfl rfl ?_ ?_ ?_; rotate_left; (focus rfl); (focus (intro u hSw; (try dsimp only at hSw); go_simp; (try with_reducible rfl))); (try simp only [Act.put, List.setIfInBounds_toArray, List.set_cons_zero, List.set_cons_succ]))
    | (refine planWp_skip rfl rfl ?_ ?_; (focus rfl); (try simp only [Act.put, List.setIfInBounds_toArray, List.set_cons_zero, List.set_cons_succ]))
    | (refine planWp_leave rfl rfl ?_ hHeld ?_; (focus rfl); (try simp only [Act.put, List.setIfInBounds_toArray, List.set_cons_zero, List.set_cons_succ]))
    | (refine planWp_do rfl rfl ?_ (fun K hK => ?_); (focus rfl); go_simp; (try go_wp2_with (first | (go_at_call 11; refine (HCL.out _).mono ?_; rintro e wx ⟨rfl, hcx⟩; have HCX := Lib.hid hcx; clear hcx) | (go_at_call 12; refine (HRC.out _).mono ?_; rintro e wx ⟨rfl, hcx⟩; have HCX := Lib.hid hcx; clear hcx) | (go_at_call 13; refine (HFL.out _).mono ?_; rintro e wx ⟨rfl, hcx⟩; have HCX := Lib.hid hcx; clear hcx) | (go_at_call 14; refine (HRF.out _).mono ?_; rintro e wx ⟨rfl, hcx⟩; have HCX := Lib.hid hcx; clear hcx) | (go_at_call 15; refine (HRA.out _).mono ?_; rintro e wx ⟨rfl, hcx⟩; have HCX := Lib.hid hcx; clear hcx))); refine hK.out _ _ ?_ (fun hHeld2 => ?_); (focus (have hcn := Chg.trans hHeld.2.2.2.2.2.2.2.2.out HCX.out; exact KEEP.out _ hcn)); clear hK K hHeld; have hHeld := hHeld2; clear hHeld2; (try simp only [Act.put, List.setIfInBounds_toArray, List.set_cons_zero, List.set_cons_succ])))
  refine planWp_nil ?_
  have HCC := Lib.hid (HCC.out.trans hHeld.2.2.2.2.2.2.2.2.out)
  have HBX := Lib.hid (Blk.keep HBX.out hHeld.2.2.2.2.2.2.2.2.out (by simp))
  clear hHeld KEEP
  go_wp2_with fail
  have hB0 : Blk wx W.heap.size #[.int .i64 k, .int .i64 w, .int .i64 s, .int .i64 c, .int .u32 st, .slice ia il ic, .int .i64 wr, .slice ra rl rc] 26 := HBX.out
  have e0 : wx.cell? ⟨W.heap.size, 0, none⟩ = some (.int .i64 k) := hB0.cell rfl
  have e1 : wx.cell? ⟨W.heap.size, 1, none⟩ = some (.int .i64 w) := hB0.cell rfl
  have e2 : wx.cell? ⟨W.heap.size, 2, none⟩ = some (.int .i64 s) := hB0.cell rfl
  have e3 : wx.cell? ⟨W.heap.size, 3, none⟩ = some (.int .i64 c) := hB0.cell rfl
  have e4 : wx.cell? ⟨W.heap.size, 4, none⟩ = some (.int .u32 st) := hB0.cell rfl
  have e5 : wx.cell? ⟨W.heap.size, 5, none⟩ = some (.slice ia il ic) := hB0.cell rfl
  have e6 : wx.cell? ⟨W.heap.size, 6, none⟩ = some (.int .i64 wr) := hB0.cell rfl
  have e7 : wx.cell? ⟨W.heap.size, 7, none⟩ = some (.slice ra rl rc) := hB0.cell rfl
  have KEEP := Lib.hid (fun (V : World) (h : Chg [] wx V) => (⟨h.keep e0 (by simp), h.keep e1 (by simp), h.keep e2 (by simp), h.keep e3 (by simp), h.keep e4 (by simp), h.keep e5 (by simp), h.keep e6 (by simp), h.keep e7 (by simp), Lib.hid h⟩ : (fun V : World => V.cell? ⟨W.heap.size, 0, none⟩ = some (.int .i64 k) ∧ V.cell? ⟨W.heap.size, 1, none⟩ = some (.int .i64 w) ∧ V.cell? ⟨W.heap.size, 2, none⟩ = some (.int .i64 s) ∧ V.cell? ⟨W.heap.size, 3, none⟩ = some (.int .i64 c) ∧ V.cell? ⟨W.heap.size, 4, none⟩ = some (.int .u32 st) ∧ V.cell? ⟨W.heap.size, 5, none⟩ = some (.slice ia il ic) ∧ V.cell? ⟨W.heap.size, 6, none⟩ = some (.int .i64 wr) ∧ V.cell? ⟨W.heap.size, 7, none⟩ = some (.slice ra rl rc) ∧ Hid (Chg [] wx V)) V))
  clear e0 e1 e2 e3 e4 e5 e6 e7 hB0
  have hHeld : (fun V : World => V.cell? ⟨W.heap.size, 0, none⟩ = some (.int .i64 k) ∧ V.cell? ⟨W.heap.size, 1, none⟩ = some (.int .i64 w) ∧ V.cell? ⟨W.heap.size, 2, none⟩ = some (.int .i64 s) ∧ V.cell? ⟨W.heap.size, 3, none⟩ = some (.int .i64 c) ∧ V.cell? ⟨W.heap.size, 4, none⟩ = some (.int .u32 st) ∧ V.cell? ⟨W.heap.size, 5, none⟩ = some (.slice ia il ic) ∧ V.cell? ⟨W.heap.size, 6, none⟩ = some (.int .i64 wr) ∧ V.cell? ⟨W.heap.size, 7, none⟩ = some (.slice ra rl rc) ∧ Hid (Chg [] wx V)) (World.drew wx) := KEEP.out _ (Chg.refl _ _).drew
  refine wp_region_plan (fun V : World => V.cell? ⟨W.heap.size, 0, none⟩ = some (.int .i64 k) ∧ V.cell? ⟨W.heap.size, 1, none⟩ = some (.int .i64 w) ∧ V.cell? ⟨W.heap.size, 2, none⟩ = some (.int .i64 s) ∧ V.cell? ⟨W.heap.size, 3, none⟩ = some (.int .i64 c) ∧ V.cell? ⟨W.heap.size, 4, none⟩ = some (.int .u32 st) ∧ V.cell? ⟨W.heap.size, 5, none⟩ = some (.slice ia il ic) ∧ V.cell? ⟨W.heap.size, 6, none⟩ = some (.int .i64 wr) ∧ V.cell? ⟨W.heap.size, 7, none⟩ = some (.slice ra rl rc) ∧ Hid (Chg [] wx V)) [(0, true, some 44), (1, true, some 45), (2, true, some 46), (3, true, some 47), (5, true, some 49), (6, true, some 50), (4, false, some 48), (7, false, some 51), (8, true, some 52), (9, true, some 53), (10, true, some 54), (11, true, some 55), (12, true, some 56), (13, true, some 57), (14, true, some 58), (15, true, some 59), (16, false, some 60), (17, true, some 61), (18, true, some 62), (19, true, some 63), (20, true, some 64), (21, false, some 65), (22, true, some 66), (23, true, some 6)] (by kernel_rfl) (by kernel_rfl) (by kernel_rfl) (by kernel_rfl) (fun d c a v w h => by cases d <;> exact h) hHeld ?_
  repeat (first
    | (refine planWp_read (v := ?_) rfl rfl ?_ ?_ ?_; rotate_left; (focus rfl); (focus (intro u hSw; (try dsimp only at hSw); go_simp; (try with_reducible rfl))); (try simp only [Act.put, List.setIfInBounds_toArray, List.set_cons_zero, List.set_cons_succ]))
    | (refine planWp_skip rfl rfl ?_ ?_; (focus rfl); (try simp only [Act.put, List.setIfInBounds_toArray, List.set_cons_zero, List.set_cons_succ]))
    | (refine planWp_leave rfl rfl ?_ hHeld ?_; (focus rfl); (try simp only [Act.put, List.setIfInBounds_toArray, List.set_cons_zero, List.set_cons_succ]))
    | (refine planWp_do rfl rfl ?_ (fun K hK => ?_); (focus rfl); go_simp; (try go_wp2_with (first | (go_at_call 10; refine (HAC.out _).mono ?_; rintro e wx ⟨rfl, hcx⟩; have HCX := Lib.hid hcx; clear hcx) | (go_at_call 16; refine (HRB.out _).mono ?_; rintro e wx ⟨rfl, hcx⟩; have HCX := Lib.hid hcx; clear hcx) | (go_at_call 9; refine (awakeB_any _).mono ?_; rintro e wx ⟨rfl, hcx⟩; have HCX := Lib.hid hcx; clear hcx))); refine hK.out _ _ ?_ (fun hHeld2 => ?_); (focus (have hcn := Chg.trans hHeld.2.2.2.2.2.2.2.2.out HCX.out; exact KEEP.out _ hcn)); clear hK K hHeld; have hHeld := hHeld2; clear hHeld2; (try simp only [Act.put, List.setIfInBounds_toArray, List.set_cons_zero, List.set_cons_succ])))
  refine planWp_nil ?_
  have HCC := Lib.hid (HCC.out.trans hHeld.2.2.2.2.2.2.2.2.out)
  clear hHeld KEEP
  go_wp2_with fail
  go_ret
  exact ⟨rfl, HCC.out.below⟩
theorem own : ownKnob Try.prog.godebug = none := by kernel_rfl
theorem laidOut : laidOutB Try.prog = true := by kernel_rfl

/-- The walk: the law returns true, and nothing that was there has turned. -/
theorem walk (w : World) (cs0 : Array Value) (hs0 : cs0.size = Try.prog.cellsOf 26) (o0 : kit.Opens Try.prog w 9 26 cs0.toList) (x1 : Int) (w1 : (Lit.int .i64 x1).wf = true) (x2 : Int) (w2 : (Lit.int .i64 x2).wf = true) :
    Calls Try.prog 3 #[.agg cs0, .int .i64 x1, .int .i64 x2] w fun e w' => e = .returned (.bool true) ∧ Below w.heap.size w w' := by
  set_option maxRecDepth 100000 in
  obtain ⟨k, w', s, c, st, ia, il, ic, wr, ra, rl, rc, hcs, hb⟩ := obj_open (n := 6) o0
  have hcs2 : cs0 = #[.int .i64 k, .int .i64 w', .int .i64 s, .int .i64 c, .int .u32 st, .slice ia il ic, .int .i64 wr, .slice ra rl rc] := by
    apply Array.toList_inj.1; rw [hcs]
  subst hcs2
  by_cases h : il ≤ 100 ∧ rl ≤ 100
  · by_cases hf : x2 ≤ 100
    · exact few k w' s c st ia il ic wr ra rl rc x1 x2 hf (hb h.1 h.2) w
    · exact many k w' s c st ia il ic wr ra rl rc x1 x2 (by omega) (hb h.1 h.2) w
  · exact big k w' s c st ia il ic wr ra rl rc x1 x2 h w

set_option maxRecDepth 100000 in
theorem lifted (os : Os) (started : os.Started) (H : Type) (enc : TypeId × Value → H) :
    ReturnsInHanded {} Try.checked os 3 .any (Rows.boundTellsSpec.pre6 enc Try.prog Try.f3 Rows.boundTellsRow.domain false) (Rows.boundTellsSpec.post enc Try.prog Try.f3 false true false false) := by
  refine returnsInHanded_of_change (C := Try.checked) own started (by kernel_rfl) Try.func3
    (ChangeSpec.witness6 (enc := enc) (C := Try.checked) false ⟨#[], #[.agg #[.int .i64 0, .int .i64 0, .int .i64 0, .int .i64 0, .int .u32 0, .slice none 0 0, .int .i64 0, .slice none 0 0], .int .i64 0, .int .i64 0], []⟩ 8 (by kernel_rfl) (by kernel_rfl) (by kernel_rfl) (by kernel_rfl)) ?_
  intro W base args ds gs before hval0 hW hcnd _
  have hval : ∀ (j : Nat) t v, Try.f3.params[j]? = some t → args[j]? = some v → Value.okWide Try.prog W .any base t v := hval0
  have hW' := hW
  obtain ⟨p, q, hA0, hV, rfl, hfz, hnd⟩ := hW
  have hA : DataW.TrodAll enc Try.prog W 0 (fun _ => true) true Try.f3.params.toList args.toList ds p := hA0
  rw [Try.params3] at hA hval
  obtain ⟨v0, vs0, d0, ds0, p0, q0, hargs, rfl, rfl, h0, r0⟩ := trodAll_cons hA
  obtain ⟨v1, vs1, d1, ds1, p1, q1, rfl, rfl, rfl, h1, r1⟩ := trodAll_cons r0
  obtain ⟨v2, vs2, d2, ds2, p2, q2, rfl, rfl, rfl, h2, r2⟩ := trodAll_cons r1
  obtain ⟨rfl, rfl, rfl⟩ := trodAll_nil r2
  obtain rfl : args = #[v0, v1, v2] := by cases args; simp_all
  obtain ⟨rfl, rfl⟩ := trodVars_none hV
  have k0 := h0
  have lt0 : ∀ x ∈ p0, x.block < W.heap.size := by obtain ⟨m, hm⟩ := k0; exact DataW.trod_lt m _ _ _ hm
  have k1 := h1
  have lt1 : ∀ x ∈ p1, x.block < W.heap.size := by obtain ⟨m, hm⟩ := k1; exact DataW.trod_lt m _ _ _ hm
  have k2 := h2
  have lt2 : ∀ x ∈ p2, x.block < W.heap.size := by obtain ⟨m, hm⟩ := k2; exact DataW.trod_lt m _ _ _ hm
  obtain ⟨cs0, rfl, hs0⟩ := okWide_struct Try.underlying26 (hval 0 26 v0 rfl rfl)
  have o0 : kit.Opens Try.prog W 9 26 cs0.toList := by simpa [Value.cells] using kit.Trod_opens 9 k0
  obtain ⟨x1, rfl, _, _, w1⟩ := open_int Try.underlying3 (hval 1 3 v1 rfl rfl) h1
  obtain ⟨x2, rfl, _, _, w2⟩ := open_int Try.underlying3 (hval 2 3 v2 rfl rfl) h2
  clear hA0 hval0
  refine (walk W cs0 hs0 o0 x1 w1 x2 w2).mono fun e W' ⟨he, bel⟩ => ?_
  subst he
  exact ⟨_, rfl, _, _, _, [], _, [], hW', trodAll_mk1 (shut_bool Try.underlying4 _), (trodAll_cons_mk (Below.trod laidOut (by kernel_rfl) (of_decide_eq_true (by kernel_rfl)) k0 bel lt0) (trodAll_cons_mk (Below.trod laidOut (by kernel_rfl) (of_decide_eq_true (by kernel_rfl)) k1 bel lt1) (trodAll_cons_mk (Below.trod laidOut (by kernel_rfl) (of_decide_eq_true (by kernel_rfl)) k2 bel lt2) trodAll_mk0))), rfl, bel.frame _, fun h => by cases h⟩

theorem over : Rows.boundTellsRow.holds Try.pinned (OpenSpec.ofChange Rows.boundTellsSpec) :=
  OpenClaim.holds_of_wide 3 Try.f3 rfl rfl rfl rfl rfl rfl rfl ⟨rfl, rfl, rfl, rfl, rfl⟩ rfl rfl rfl rfl rfl (by kernel_rfl) Try.func3 (by kernel_rfl)
    (of_decide_eq_true (by kernel_rfl)) (by unfold Func.isWrapper; first | (rw [if_pos (by decide +kernel)]; kernel_rfl) | (rw [if_neg (by decide +kernel)]; exact ⟨rfl, rfl⟩))
    (fun os started H enc _ => lifted os started H enc)

/-- The statement. -/
theorem proved : Rows.BoundTellsSaid := over
end Go.Proofs.Ytjplamoofkcojaa.boundTells
