import Derived.Test.YtkedegbpkkgeaaaGreatTop4
import Derived.Test.YtkedegbpkkgeaaaGreatPlans
/- Objects: whether one is right as a ring, or as a queue: the program's. -/
namespace Go.Proofs.YtkedegbpkkgeaaaGreat.obj
open Go Go.RowKit Go.Proofs.YtkedegbpkkgeaaaGreat.kit
set_option linter.unusedVariables false
set_option linter.unusedSimpArgs false
set_option maxRecDepth 20000

set_option maxHeartbeats 8000000 in
theorem ringRight_any (k : Int) (w s c st : Int) (ia : Option Addr) (il ic : Nat) (wr : Int) (ra : Option Addr) (rl rc : Nat) (h : ObjW k w s c st il rl) (W : World) :
    Calls Tryz.prog 58 #[.agg #[.int .i64 k, .int .i64 w, .int .i64 s, .int .i64 c, .int .u32 st, .slice ia il ic, .int .i64 wr, .slice ra rl rc]] W fun e W' => e = .returned (.bool (decide (k = 4) && rightB k w s c st il rl)) ∧ Chg [] W W' := by
  have HO := Lib.hid h
  have hst := h.st32
  clear h
  generalize hr : (decide (k = 4) && rightB k w s c st il rl) = r
  cases hwords : wordsOk k 4 w il w rl
  · have HW := Lib.hid hwords
    have hf : r = false := by
      rw [← hr]
      simp only [wordsOk, decide_eq_false_iff_not] at hwords
      rw [Bool.eq_false_iff]
      intro hx
      simp [rightB] at hx
      omega
    subst hf
    clear hwords hr
    go_enter Tryz.func58, Tryz.ntmps58
    go_wp2_with fail
    generalize hW0 : (W.alloc (.cells #[.int .i64 k, .int .i64 w, .int .i64 s, .int .i64 c, .int .u32 st, .slice ia il ic, .int .i64 wr, .slice ra rl rc] 46)) = W0
    have hB0 : Blk W0 W.heap.size #[.int .i64 k, .int .i64 w, .int .i64 s, .int .i64 c, .int .u32 st, .slice ia il ic, .int .i64 wr, .slice ra rl rc] 46 := by rw [← hW0]; exact Blk.new W _ _
    have HC0 : Hid (Chg [] W W0) := Lib.hid (by rw [← hW0]; exact (Chg.refl _ _).alloc _)
    clear hW0
    have e0 : W0.cell? ⟨W.heap.size, 0, none⟩ = some (.int .i64 k) := hB0.cell rfl
    have e1 : W0.cell? ⟨W.heap.size, 1, none⟩ = some (.int .i64 w) := hB0.cell rfl
    have e2 : W0.cell? ⟨W.heap.size, 2, none⟩ = some (.int .i64 s) := hB0.cell rfl
    have e3 : W0.cell? ⟨W.heap.size, 3, none⟩ = some (.int .i64 c) := hB0.cell rfl
    have e4 : W0.cell? ⟨W.heap.size, 4, none⟩ = some (.int .u32 st) := hB0.cell rfl
    have e5 : W0.cell? ⟨W.heap.size, 5, none⟩ = some (.slice ia il ic) := hB0.cell rfl
    have e6 : W0.cell? ⟨W.heap.size, 6, none⟩ = some (.int .i64 wr) := hB0.cell rfl
    have e7 : W0.cell? ⟨W.heap.size, 7, none⟩ = some (.slice ra rl rc) := hB0.cell rfl
    have KEEP := Lib.hid (fun (V : World) (h : Chg [] W0 V) => (⟨h.keep e0 (by simp), h.keep e1 (by simp), h.keep e2 (by simp), h.keep e3 (by simp), h.keep e4 (by simp), h.keep e5 (by simp), h.keep e6 (by simp), h.keep e7 (by simp), Lib.hid h⟩ : (fun V : World => V.cell? ⟨W.heap.size, 0, none⟩ = some (.int .i64 k) ∧ V.cell? ⟨W.heap.size, 1, none⟩ = some (.int .i64 w) ∧ V.cell? ⟨W.heap.size, 2, none⟩ = some (.int .i64 s) ∧ V.cell? ⟨W.heap.size, 3, none⟩ = some (.int .i64 c) ∧ V.cell? ⟨W.heap.size, 4, none⟩ = some (.int .u32 st) ∧ V.cell? ⟨W.heap.size, 5, none⟩ = some (.slice ia il ic) ∧ V.cell? ⟨W.heap.size, 6, none⟩ = some (.int .i64 wr) ∧ V.cell? ⟨W.heap.size, 7, none⟩ = some (.slice ra rl rc) ∧ Hid (Chg [] W0 V)) V))
    clear e0 e1 e2 e3 e4 e5 e6 e7 hB0
    have hHeld : (fun V : World => V.cell? ⟨W.heap.size, 0, none⟩ = some (.int .i64 k) ∧ V.cell? ⟨W.heap.size, 1, none⟩ = some (.int .i64 w) ∧ V.cell? ⟨W.heap.size, 2, none⟩ = some (.int .i64 s) ∧ V.cell? ⟨W.heap.size, 3, none⟩ = some (.int .i64 c) ∧ V.cell? ⟨W.heap.size, 4, none⟩ = some (.int .u32 st) ∧ V.cell? ⟨W.heap.size, 5, none⟩ = some (.slice ia il ic) ∧ V.cell? ⟨W.heap.size, 6, none⟩ = some (.int .i64 wr) ∧ V.cell? ⟨W.heap.size, 7, none⟩ = some (.slice ra rl rc) ∧ Hid (Chg [] W0 V)) (World.drew W0) := KEEP.out _ (Chg.refl _ _).drew
    refine wp_region_plan (fun V : World => V.cell? ⟨W.heap.size, 0, none⟩ = some (.int .i64 k) ∧ V.cell? ⟨W.heap.size, 1, none⟩ = some (.int .i64 w) ∧ V.cell? ⟨W.heap.size, 2, none⟩ = some (.int .i64 s) ∧ V.cell? ⟨W.heap.size, 3, none⟩ = some (.int .i64 c) ∧ V.cell? ⟨W.heap.size, 4, none⟩ = some (.int .u32 st) ∧ V.cell? ⟨W.heap.size, 5, none⟩ = some (.slice ia il ic) ∧ V.cell? ⟨W.heap.size, 6, none⟩ = some (.int .i64 wr) ∧ V.cell? ⟨W.heap.size, 7, none⟩ = some (.slice ra rl rc) ∧ Hid (Chg [] W0 V)) [(0, true, some 3), (1, true, some 4), (2, true, some 5), (3, false, some 6), (4, true, some 7), (5, true, some 8), (6, true, some 9), (7, true, some 10), (8, true, some 11), (9, true, some 12), (10, true, some 13), (11, true, some 14), (12, true, some 15), (13, true, some 16), (14, true, some 17), (15, true, some 18), (16, false, some 19), (17, true, some 20), (18, true, some 21), (19, true, some 22), (20, true, some 23), (21, true, some 24), (22, false, some 25), (23, true, some 26), (24, true, some 27), (25, true, some 2)] (by kernel_rfl) (by kernel_rfl) (by kernel_rfl) (by kernel_rfl) (fun d c a v w h => by cases d <;> exact h) hHeld ?_
    repeat (first
      | (refine planWp_read (v := ?_) rfl rfl ?_ ?_ ?_; rotate_left; (focus rfl); (focus (intro u hSw; (try dsimp only at hSw); go_simp; (try with_reducible rfl))); (try simp only [Act.put, List.setIfInBounds_toArray, List.set_cons_zero, List.set_cons_succ]))
      | (refine planWp_skip rfl rfl ?_ ?_; (focus rfl); (try simp only [Act.put, List.setIfInBounds_toArray, List.set_cons_zero, List.set_cons_succ]))
      | (refine planWp_leave rfl rfl ?_ hHeld ?_; (focus rfl); (try simp only [Act.put, List.setIfInBounds_toArray, List.set_cons_zero, List.set_cons_succ]))
      | (refine planWp_do rfl rfl ?_ (fun K hK => ?_); (focus rfl); go_simp; (try go_wp2_with (first | (go_at_call 86; refine (mWords_any k 4 w w s c st ia il ic wr ra rl rc HO.out _).mono ?_; rintro e wx ⟨rfl, hcx⟩; rw [HW.out]; have HCX := Lib.hid hcx; clear hcx) | (go_at_call 87; refine (mCaps_any _ _ _ _ _ _ _ _ _ _ _ _ _).mono ?_; rintro e wx ⟨rfl, hcx⟩; rw [HQ.out]; have HCX := Lib.hid hcx; clear hcx) | (go_at_call 88; refine (ringMod_any _ _ _ _ _ _ _ _ _ _ _ _ HS.out _).mono ?_; rintro e wx ⟨rfl, hcx⟩; have HCX := Lib.hid hcx; clear hcx))); refine hK.out _ _ ?_ (fun hHeld2 => ?_); (focus (have hcn := Chg.trans hHeld.2.2.2.2.2.2.2.2.out HCX.out; exact KEEP.out _ hcn)); clear hK K hHeld; have hHeld := hHeld2; clear hHeld2; (try simp only [Act.put, List.setIfInBounds_toArray, List.set_cons_zero, List.set_cons_succ])))
    refine planWp_nil ?_
    have HCC := Lib.hid (HC0.out.trans hHeld.2.2.2.2.2.2.2.2.out)
    clear hHeld KEEP
    go_wp2_with fail
    go_ret
    exact ⟨by rfl, HCC.out⟩
  have HW := Lib.hid hwords
  simp only [wordsOk, decide_eq_true_eq] at hwords
  by_cases p0 : 2 ≤ s
  rotate_left
  · have hf : r = false := by
      rw [← hr]
      rw [Bool.eq_false_iff]
      intro hx
      simp [rightB] at hx
      omega
    subst hf
    have q0 : decide (2 ≤ s) = false := by simp; omega
    clear hwords hr p0
    go_enter Tryz.func58, Tryz.ntmps58
    go_wp2_with fail
    generalize hW0 : (W.alloc (.cells #[.int .i64 k, .int .i64 w, .int .i64 s, .int .i64 c, .int .u32 st, .slice ia il ic, .int .i64 wr, .slice ra rl rc] 46)) = W0
    have hB0 : Blk W0 W.heap.size #[.int .i64 k, .int .i64 w, .int .i64 s, .int .i64 c, .int .u32 st, .slice ia il ic, .int .i64 wr, .slice ra rl rc] 46 := by rw [← hW0]; exact Blk.new W _ _
    have HC0 : Hid (Chg [] W W0) := Lib.hid (by rw [← hW0]; exact (Chg.refl _ _).alloc _)
    clear hW0
    have e0 : W0.cell? ⟨W.heap.size, 0, none⟩ = some (.int .i64 k) := hB0.cell rfl
    have e1 : W0.cell? ⟨W.heap.size, 1, none⟩ = some (.int .i64 w) := hB0.cell rfl
    have e2 : W0.cell? ⟨W.heap.size, 2, none⟩ = some (.int .i64 s) := hB0.cell rfl
    have e3 : W0.cell? ⟨W.heap.size, 3, none⟩ = some (.int .i64 c) := hB0.cell rfl
    have e4 : W0.cell? ⟨W.heap.size, 4, none⟩ = some (.int .u32 st) := hB0.cell rfl
    have e5 : W0.cell? ⟨W.heap.size, 5, none⟩ = some (.slice ia il ic) := hB0.cell rfl
    have e6 : W0.cell? ⟨W.heap.size, 6, none⟩ = some (.int .i64 wr) := hB0.cell rfl
    have e7 : W0.cell? ⟨W.heap.size, 7, none⟩ = some (.slice ra rl rc) := hB0.cell rfl
    have KEEP := Lib.hid (fun (V : World) (h : Chg [] W0 V) => (⟨h.keep e0 (by simp), h.keep e1 (by simp), h.keep e2 (by simp), h.keep e3 (by simp), h.keep e4 (by simp), h.keep e5 (by simp), h.keep e6 (by simp), h.keep e7 (by simp), Lib.hid h⟩ : (fun V : World => V.cell? ⟨W.heap.size, 0, none⟩ = some (.int .i64 k) ∧ V.cell? ⟨W.heap.size, 1, none⟩ = some (.int .i64 w) ∧ V.cell? ⟨W.heap.size, 2, none⟩ = some (.int .i64 s) ∧ V.cell? ⟨W.heap.size, 3, none⟩ = some (.int .i64 c) ∧ V.cell? ⟨W.heap.size, 4, none⟩ = some (.int .u32 st) ∧ V.cell? ⟨W.heap.size, 5, none⟩ = some (.slice ia il ic) ∧ V.cell? ⟨W.heap.size, 6, none⟩ = some (.int .i64 wr) ∧ V.cell? ⟨W.heap.size, 7, none⟩ = some (.slice ra rl rc) ∧ Hid (Chg [] W0 V)) V))
    clear e0 e1 e2 e3 e4 e5 e6 e7 hB0
    have hHeld : (fun V : World => V.cell? ⟨W.heap.size, 0, none⟩ = some (.int .i64 k) ∧ V.cell? ⟨W.heap.size, 1, none⟩ = some (.int .i64 w) ∧ V.cell? ⟨W.heap.size, 2, none⟩ = some (.int .i64 s) ∧ V.cell? ⟨W.heap.size, 3, none⟩ = some (.int .i64 c) ∧ V.cell? ⟨W.heap.size, 4, none⟩ = some (.int .u32 st) ∧ V.cell? ⟨W.heap.size, 5, none⟩ = some (.slice ia il ic) ∧ V.cell? ⟨W.heap.size, 6, none⟩ = some (.int .i64 wr) ∧ V.cell? ⟨W.heap.size, 7, none⟩ = some (.slice ra rl rc) ∧ Hid (Chg [] W0 V)) (World.drew W0) := KEEP.out _ (Chg.refl _ _).drew
    refine wp_region_plan (fun V : World => V.cell? ⟨W.heap.size, 0, none⟩ = some (.int .i64 k) ∧ V.cell? ⟨W.heap.size, 1, none⟩ = some (.int .i64 w) ∧ V.cell? ⟨W.heap.size, 2, none⟩ = some (.int .i64 s) ∧ V.cell? ⟨W.heap.size, 3, none⟩ = some (.int .i64 c) ∧ V.cell? ⟨W.heap.size, 4, none⟩ = some (.int .u32 st) ∧ V.cell? ⟨W.heap.size, 5, none⟩ = some (.slice ia il ic) ∧ V.cell? ⟨W.heap.size, 6, none⟩ = some (.int .i64 wr) ∧ V.cell? ⟨W.heap.size, 7, none⟩ = some (.slice ra rl rc) ∧ Hid (Chg [] W0 V)) [(0, true, some 3), (1, true, some 4), (2, true, some 5), (3, false, some 6), (4, true, some 7), (5, true, some 8), (6, true, some 9), (7, true, some 10), (8, true, some 11), (9, true, some 12), (10, true, some 13), (11, true, some 14), (12, true, some 15), (13, true, some 16), (14, true, some 17), (15, true, some 18), (16, false, some 19), (17, true, some 20), (18, true, some 21), (19, true, some 22), (20, true, some 23), (21, true, some 24), (22, false, some 25), (23, true, some 26), (24, true, some 27), (25, true, some 2)] (by kernel_rfl) (by kernel_rfl) (by kernel_rfl) (by kernel_rfl) (fun d c a v w h => by cases d <;> exact h) hHeld ?_
    repeat (first
      | (refine planWp_read (v := ?_) rfl rfl ?_ ?_ ?_; rotate_left; (focus rfl); (focus (intro u hSw; (try dsimp only at hSw); go_simp; (try with_reducible rfl))); (try simp only [Act.put, List.setIfInBounds_toArray, List.set_cons_zero, List.set_cons_succ]))
      | (refine planWp_skip rfl rfl ?_ ?_; (focus rfl); (try simp only [Act.put, List.setIfInBounds_toArray, List.set_cons_zero, List.set_cons_succ]))
      | (refine planWp_leave rfl rfl ?_ hHeld ?_; (focus rfl); (try simp only [Act.put, List.setIfInBounds_toArray, List.set_cons_zero, List.set_cons_succ]))
      | (refine planWp_do rfl rfl ?_ (fun K hK => ?_); (focus rfl); go_simp; (try go_wp2_with (first | (go_at_call 86; refine (mWords_any k 4 w w s c st ia il ic wr ra rl rc HO.out _).mono ?_; rintro e wx ⟨rfl, hcx⟩; rw [HW.out]; have HCX := Lib.hid hcx; clear hcx) | (go_at_call 87; refine (mCaps_any _ _ _ _ _ _ _ _ _ _ _ _ _).mono ?_; rintro e wx ⟨rfl, hcx⟩; rw [HQ.out]; have HCX := Lib.hid hcx; clear hcx) | (go_at_call 88; refine (ringMod_any _ _ _ _ _ _ _ _ _ _ _ _ HS.out _).mono ?_; rintro e wx ⟨rfl, hcx⟩; have HCX := Lib.hid hcx; clear hcx))); refine hK.out _ _ ?_ (fun hHeld2 => ?_); (focus (have hcn := Chg.trans hHeld.2.2.2.2.2.2.2.2.out HCX.out; exact KEEP.out _ hcn)); clear hK K hHeld; have hHeld := hHeld2; clear hHeld2; (try simp only [Act.put, List.setIfInBounds_toArray, List.set_cons_zero, List.set_cons_succ])))
    refine planWp_nil ?_
    have HCC := Lib.hid (HC0.out.trans hHeld.2.2.2.2.2.2.2.2.out)
    clear hHeld KEEP
    go_wp2_with fail
    go_ret
    exact ⟨by rfl, HCC.out⟩
  have q0 : decide (2 ≤ s) = true := by simp; omega
  by_cases p1 : s ≤ 16
  rotate_left
  · have hf : r = false := by
      rw [← hr]
      rw [Bool.eq_false_iff]
      intro hx
      simp [rightB] at hx
      omega
    subst hf
    have q1 : decide (s ≤ 16) = false := by simp; omega
    clear hwords hr p0 p1
    go_enter Tryz.func58, Tryz.ntmps58
    go_wp2_with fail
    generalize hW0 : (W.alloc (.cells #[.int .i64 k, .int .i64 w, .int .i64 s, .int .i64 c, .int .u32 st, .slice ia il ic, .int .i64 wr, .slice ra rl rc] 46)) = W0
    have hB0 : Blk W0 W.heap.size #[.int .i64 k, .int .i64 w, .int .i64 s, .int .i64 c, .int .u32 st, .slice ia il ic, .int .i64 wr, .slice ra rl rc] 46 := by rw [← hW0]; exact Blk.new W _ _
    have HC0 : Hid (Chg [] W W0) := Lib.hid (by rw [← hW0]; exact (Chg.refl _ _).alloc _)
    clear hW0
    have e0 : W0.cell? ⟨W.heap.size, 0, none⟩ = some (.int .i64 k) := hB0.cell rfl
    have e1 : W0.cell? ⟨W.heap.size, 1, none⟩ = some (.int .i64 w) := hB0.cell rfl
    have e2 : W0.cell? ⟨W.heap.size, 2, none⟩ = some (.int .i64 s) := hB0.cell rfl
    have e3 : W0.cell? ⟨W.heap.size, 3, none⟩ = some (.int .i64 c) := hB0.cell rfl
    have e4 : W0.cell? ⟨W.heap.size, 4, none⟩ = some (.int .u32 st) := hB0.cell rfl
    have e5 : W0.cell? ⟨W.heap.size, 5, none⟩ = some (.slice ia il ic) := hB0.cell rfl
    have e6 : W0.cell? ⟨W.heap.size, 6, none⟩ = some (.int .i64 wr) := hB0.cell rfl
    have e7 : W0.cell? ⟨W.heap.size, 7, none⟩ = some (.slice ra rl rc) := hB0.cell rfl
    have KEEP := Lib.hid (fun (V : World) (h : Chg [] W0 V) => (⟨h.keep e0 (by simp), h.keep e1 (by simp), h.keep e2 (by simp), h.keep e3 (by simp), h.keep e4 (by simp), h.keep e5 (by simp), h.keep e6 (by simp), h.keep e7 (by simp), Lib.hid h⟩ : (fun V : World => V.cell? ⟨W.heap.size, 0, none⟩ = some (.int .i64 k) ∧ V.cell? ⟨W.heap.size, 1, none⟩ = some (.int .i64 w) ∧ V.cell? ⟨W.heap.size, 2, none⟩ = some (.int .i64 s) ∧ V.cell? ⟨W.heap.size, 3, none⟩ = some (.int .i64 c) ∧ V.cell? ⟨W.heap.size, 4, none⟩ = some (.int .u32 st) ∧ V.cell? ⟨W.heap.size, 5, none⟩ = some (.slice ia il ic) ∧ V.cell? ⟨W.heap.size, 6, none⟩ = some (.int .i64 wr) ∧ V.cell? ⟨W.heap.size, 7, none⟩ = some (.slice ra rl rc) ∧ Hid (Chg [] W0 V)) V))
    clear e0 e1 e2 e3 e4 e5 e6 e7 hB0
    have hHeld : (fun V : World => V.cell? ⟨W.heap.size, 0, none⟩ = some (.int .i64 k) ∧ V.cell? ⟨W.heap.size, 1, none⟩ = some (.int .i64 w) ∧ V.cell? ⟨W.heap.size, 2, none⟩ = some (.int .i64 s) ∧ V.cell? ⟨W.heap.size, 3, none⟩ = some (.int .i64 c) ∧ V.cell? ⟨W.heap.size, 4, none⟩ = some (.int .u32 st) ∧ V.cell? ⟨W.heap.size, 5, none⟩ = some (.slice ia il ic) ∧ V.cell? ⟨W.heap.size, 6, none⟩ = some (.int .i64 wr) ∧ V.cell? ⟨W.heap.size, 7, none⟩ = some (.slice ra rl rc) ∧ Hid (Chg [] W0 V)) (World.drew W0) := KEEP.out _ (Chg.refl _ _).drew
    refine wp_region_plan (fun V : World => V.cell? ⟨W.heap.size, 0, none⟩ = some (.int .i64 k) ∧ V.cell? ⟨W.heap.size, 1, none⟩ = some (.int .i64 w) ∧ V.cell? ⟨W.heap.size, 2, none⟩ = some (.int .i64 s) ∧ V.cell? ⟨W.heap.size, 3, none⟩ = some (.int .i64 c) ∧ V.cell? ⟨W.heap.size, 4, none⟩ = some (.int .u32 st) ∧ V.cell? ⟨W.heap.size, 5, none⟩ = some (.slice ia il ic) ∧ V.cell? ⟨W.heap.size, 6, none⟩ = some (.int .i64 wr) ∧ V.cell? ⟨W.heap.size, 7, none⟩ = some (.slice ra rl rc) ∧ Hid (Chg [] W0 V)) [(0, true, some 3), (1, true, some 4), (2, true, some 5), (3, false, some 6), (4, true, some 7), (5, true, some 8), (6, true, some 9), (7, true, some 10), (8, true, some 11), (9, true, some 12), (10, true, some 13), (11, true, some 14), (12, true, some 15), (13, true, some 16), (14, true, some 17), (15, true, some 18), (16, false, some 19), (17, true, some 20), (18, true, some 21), (19, true, some 22), (20, true, some 23), (21, true, some 24), (22, false, some 25), (23, true, some 26), (24, true, some 27), (25, true, some 2)] (by kernel_rfl) (by kernel_rfl) (by kernel_rfl) (by kernel_rfl) (fun d c a v w h => by cases d <;> exact h) hHeld ?_
    repeat (first
      | (refine planWp_read (v := ?_) rfl rfl ?_ ?_ ?_; rotate_left; (focus rfl); (focus (intro u hSw; (try dsimp only at hSw); go_simp; (try with_reducible rfl))); (try simp only [Act.put, List.setIfInBounds_toArray, List.set_cons_zero, List.set_cons_succ]))
      | (refine planWp_skip rfl rfl ?_ ?_; (focus rfl); (try simp only [Act.put, List.setIfInBounds_toArray, List.set_cons_zero, List.set_cons_succ]))
      | (refine planWp_leave rfl rfl ?_ hHeld ?_; (focus rfl); (try simp only [Act.put, List.setIfInBounds_toArray, List.set_cons_zero, List.set_cons_succ]))
      | (refine planWp_do rfl rfl ?_ (fun K hK => ?_); (focus rfl); go_simp; (try go_wp2_with (first | (go_at_call 86; refine (mWords_any k 4 w w s c st ia il ic wr ra rl rc HO.out _).mono ?_; rintro e wx ⟨rfl, hcx⟩; rw [HW.out]; have HCX := Lib.hid hcx; clear hcx) | (go_at_call 87; refine (mCaps_any _ _ _ _ _ _ _ _ _ _ _ _ _).mono ?_; rintro e wx ⟨rfl, hcx⟩; rw [HQ.out]; have HCX := Lib.hid hcx; clear hcx) | (go_at_call 88; refine (ringMod_any _ _ _ _ _ _ _ _ _ _ _ _ HS.out _).mono ?_; rintro e wx ⟨rfl, hcx⟩; have HCX := Lib.hid hcx; clear hcx))); refine hK.out _ _ ?_ (fun hHeld2 => ?_); (focus (have hcn := Chg.trans hHeld.2.2.2.2.2.2.2.2.out HCX.out; exact KEEP.out _ hcn)); clear hK K hHeld; have hHeld := hHeld2; clear hHeld2; (try simp only [Act.put, List.setIfInBounds_toArray, List.set_cons_zero, List.set_cons_succ])))
    refine planWp_nil ?_
    have HCC := Lib.hid (HC0.out.trans hHeld.2.2.2.2.2.2.2.2.out)
    clear hHeld KEEP
    go_wp2_with fail
    go_ret
    exact ⟨by rfl, HCC.out⟩
  have q1 : decide (s ≤ 16) = true := by simp; omega
  by_cases p2 : 1 ≤ c ∧ c ≤ 16
  rotate_left
  · have hf : r = false := by
      rw [← hr]
      rw [Bool.eq_false_iff]
      intro hx
      simp [rightB] at hx
      omega
    subst hf
    have HQ := Lib.hid (show capsOk c = false by simp only [capsOk, decide_eq_false_iff_not]; exact p2)
    have HS : Hid (0 ≤ s ∧ s ≤ 16) := Lib.hid (by omega)
    clear hwords hr p0 p1 p2
    go_enter Tryz.func58, Tryz.ntmps58
    go_wp2_with fail
    generalize hW0 : (W.alloc (.cells #[.int .i64 k, .int .i64 w, .int .i64 s, .int .i64 c, .int .u32 st, .slice ia il ic, .int .i64 wr, .slice ra rl rc] 46)) = W0
    have hB0 : Blk W0 W.heap.size #[.int .i64 k, .int .i64 w, .int .i64 s, .int .i64 c, .int .u32 st, .slice ia il ic, .int .i64 wr, .slice ra rl rc] 46 := by rw [← hW0]; exact Blk.new W _ _
    have HC0 : Hid (Chg [] W W0) := Lib.hid (by rw [← hW0]; exact (Chg.refl _ _).alloc _)
    clear hW0
    have e0 : W0.cell? ⟨W.heap.size, 0, none⟩ = some (.int .i64 k) := hB0.cell rfl
    have e1 : W0.cell? ⟨W.heap.size, 1, none⟩ = some (.int .i64 w) := hB0.cell rfl
    have e2 : W0.cell? ⟨W.heap.size, 2, none⟩ = some (.int .i64 s) := hB0.cell rfl
    have e3 : W0.cell? ⟨W.heap.size, 3, none⟩ = some (.int .i64 c) := hB0.cell rfl
    have e4 : W0.cell? ⟨W.heap.size, 4, none⟩ = some (.int .u32 st) := hB0.cell rfl
    have e5 : W0.cell? ⟨W.heap.size, 5, none⟩ = some (.slice ia il ic) := hB0.cell rfl
    have e6 : W0.cell? ⟨W.heap.size, 6, none⟩ = some (.int .i64 wr) := hB0.cell rfl
    have e7 : W0.cell? ⟨W.heap.size, 7, none⟩ = some (.slice ra rl rc) := hB0.cell rfl
    have KEEP := Lib.hid (fun (V : World) (h : Chg [] W0 V) => (⟨h.keep e0 (by simp), h.keep e1 (by simp), h.keep e2 (by simp), h.keep e3 (by simp), h.keep e4 (by simp), h.keep e5 (by simp), h.keep e6 (by simp), h.keep e7 (by simp), Lib.hid h⟩ : (fun V : World => V.cell? ⟨W.heap.size, 0, none⟩ = some (.int .i64 k) ∧ V.cell? ⟨W.heap.size, 1, none⟩ = some (.int .i64 w) ∧ V.cell? ⟨W.heap.size, 2, none⟩ = some (.int .i64 s) ∧ V.cell? ⟨W.heap.size, 3, none⟩ = some (.int .i64 c) ∧ V.cell? ⟨W.heap.size, 4, none⟩ = some (.int .u32 st) ∧ V.cell? ⟨W.heap.size, 5, none⟩ = some (.slice ia il ic) ∧ V.cell? ⟨W.heap.size, 6, none⟩ = some (.int .i64 wr) ∧ V.cell? ⟨W.heap.size, 7, none⟩ = some (.slice ra rl rc) ∧ Hid (Chg [] W0 V)) V))
    clear e0 e1 e2 e3 e4 e5 e6 e7 hB0
    have hHeld : (fun V : World => V.cell? ⟨W.heap.size, 0, none⟩ = some (.int .i64 k) ∧ V.cell? ⟨W.heap.size, 1, none⟩ = some (.int .i64 w) ∧ V.cell? ⟨W.heap.size, 2, none⟩ = some (.int .i64 s) ∧ V.cell? ⟨W.heap.size, 3, none⟩ = some (.int .i64 c) ∧ V.cell? ⟨W.heap.size, 4, none⟩ = some (.int .u32 st) ∧ V.cell? ⟨W.heap.size, 5, none⟩ = some (.slice ia il ic) ∧ V.cell? ⟨W.heap.size, 6, none⟩ = some (.int .i64 wr) ∧ V.cell? ⟨W.heap.size, 7, none⟩ = some (.slice ra rl rc) ∧ Hid (Chg [] W0 V)) (World.drew W0) := KEEP.out _ (Chg.refl _ _).drew
    refine wp_region_plan (fun V : World => V.cell? ⟨W.heap.size, 0, none⟩ = some (.int .i64 k) ∧ V.cell? ⟨W.heap.size, 1, none⟩ = some (.int .i64 w) ∧ V.cell? ⟨W.heap.size, 2, none⟩ = some (.int .i64 s) ∧ V.cell? ⟨W.heap.size, 3, none⟩ = some (.int .i64 c) ∧ V.cell? ⟨W.heap.size, 4, none⟩ = some (.int .u32 st) ∧ V.cell? ⟨W.heap.size, 5, none⟩ = some (.slice ia il ic) ∧ V.cell? ⟨W.heap.size, 6, none⟩ = some (.int .i64 wr) ∧ V.cell? ⟨W.heap.size, 7, none⟩ = some (.slice ra rl rc) ∧ Hid (Chg [] W0 V)) [(0, true, some 3), (1, true, some 4), (2, true, some 5), (3, false, some 6), (4, true, some 7), (5, true, some 8), (6, true, some 9), (7, true, some 10), (8, true, some 11), (9, true, some 12), (10, true, some 13), (11, true, some 14), (12, true, some 15), (13, true, some 16), (14, true, some 17), (15, true, some 18), (16, false, some 19), (17, true, some 20), (18, true, some 21), (19, true, some 22), (20, true, some 23), (21, true, some 24), (22, false, some 25), (23, true, some 26), (24, true, some 27), (25, true, some 2)] (by kernel_rfl) (by kernel_rfl) (by kernel_rfl) (by kernel_rfl) (fun d c a v w h => by cases d <;> exact h) hHeld ?_
    repeat (first
      | (refine planWp_read (v := ?_) rfl rfl ?_ ?_ ?_; rotate_left; (focus rfl); (focus (intro u hSw; (try dsimp only at hSw); go_simp; (try with_reducible rfl))); (try simp only [Act.put, List.setIfInBounds_toArray, List.set_cons_zero, List.set_cons_succ]))
      | (refine planWp_skip rfl rfl ?_ ?_; (focus rfl); (try simp only [Act.put, List.setIfInBounds_toArray, List.set_cons_zero, List.set_cons_succ]))
      | (refine planWp_leave rfl rfl ?_ hHeld ?_; (focus rfl); (try simp only [Act.put, List.setIfInBounds_toArray, List.set_cons_zero, List.set_cons_succ]))
      | (refine planWp_do rfl rfl ?_ (fun K hK => ?_); (focus rfl); go_simp; (try go_wp2_with (first | (go_at_call 86; refine (mWords_any k 4 w w s c st ia il ic wr ra rl rc HO.out _).mono ?_; rintro e wx ⟨rfl, hcx⟩; rw [HW.out]; have HCX := Lib.hid hcx; clear hcx) | (go_at_call 87; refine (mCaps_any _ _ _ _ _ _ _ _ _ _ _ _ _).mono ?_; rintro e wx ⟨rfl, hcx⟩; rw [HQ.out]; have HCX := Lib.hid hcx; clear hcx) | (go_at_call 88; refine (ringMod_any _ _ _ _ _ _ _ _ _ _ _ _ HS.out _).mono ?_; rintro e wx ⟨rfl, hcx⟩; have HCX := Lib.hid hcx; clear hcx))); refine hK.out _ _ ?_ (fun hHeld2 => ?_); (focus (have hcn := Chg.trans hHeld.2.2.2.2.2.2.2.2.out HCX.out; exact KEEP.out _ hcn)); clear hK K hHeld; have hHeld := hHeld2; clear hHeld2; (try simp only [Act.put, List.setIfInBounds_toArray, List.set_cons_zero, List.set_cons_succ])))
    refine planWp_nil ?_
    have HCC := Lib.hid (HC0.out.trans hHeld.2.2.2.2.2.2.2.2.out)
    clear hHeld KEEP
    go_wp2_with fail
    go_ret
    exact ⟨by rfl, HCC.out⟩
  have HQ := Lib.hid (show capsOk c = true by simp only [capsOk, decide_eq_true_eq]; exact p2)
  by_cases p3 : st < s * 1048576
  rotate_left
  · have hf : r = false := by
      rw [← hr]
      rw [Bool.eq_false_iff]
      intro hx
      simp [rightB] at hx
      omega
    subst hf
    have q3 : decide (st < s * 1048576) = false := by simp; omega
    have HS : Hid (0 ≤ s ∧ s ≤ 16) := Lib.hid (by omega)
    clear hwords hr p0 p1 p2 p3
    go_enter Tryz.func58, Tryz.ntmps58
    go_wp2_with fail
    generalize hW0 : (W.alloc (.cells #[.int .i64 k, .int .i64 w, .int .i64 s, .int .i64 c, .int .u32 st, .slice ia il ic, .int .i64 wr, .slice ra rl rc] 46)) = W0
    have hB0 : Blk W0 W.heap.size #[.int .i64 k, .int .i64 w, .int .i64 s, .int .i64 c, .int .u32 st, .slice ia il ic, .int .i64 wr, .slice ra rl rc] 46 := by rw [← hW0]; exact Blk.new W _ _
    have HC0 : Hid (Chg [] W W0) := Lib.hid (by rw [← hW0]; exact (Chg.refl _ _).alloc _)
    clear hW0
    have e0 : W0.cell? ⟨W.heap.size, 0, none⟩ = some (.int .i64 k) := hB0.cell rfl
    have e1 : W0.cell? ⟨W.heap.size, 1, none⟩ = some (.int .i64 w) := hB0.cell rfl
    have e2 : W0.cell? ⟨W.heap.size, 2, none⟩ = some (.int .i64 s) := hB0.cell rfl
    have e3 : W0.cell? ⟨W.heap.size, 3, none⟩ = some (.int .i64 c) := hB0.cell rfl
    have e4 : W0.cell? ⟨W.heap.size, 4, none⟩ = some (.int .u32 st) := hB0.cell rfl
    have e5 : W0.cell? ⟨W.heap.size, 5, none⟩ = some (.slice ia il ic) := hB0.cell rfl
    have e6 : W0.cell? ⟨W.heap.size, 6, none⟩ = some (.int .i64 wr) := hB0.cell rfl
    have e7 : W0.cell? ⟨W.heap.size, 7, none⟩ = some (.slice ra rl rc) := hB0.cell rfl
    have KEEP := Lib.hid (fun (V : World) (h : Chg [] W0 V) => (⟨h.keep e0 (by simp), h.keep e1 (by simp), h.keep e2 (by simp), h.keep e3 (by simp), h.keep e4 (by simp), h.keep e5 (by simp), h.keep e6 (by simp), h.keep e7 (by simp), Lib.hid h⟩ : (fun V : World => V.cell? ⟨W.heap.size, 0, none⟩ = some (.int .i64 k) ∧ V.cell? ⟨W.heap.size, 1, none⟩ = some (.int .i64 w) ∧ V.cell? ⟨W.heap.size, 2, none⟩ = some (.int .i64 s) ∧ V.cell? ⟨W.heap.size, 3, none⟩ = some (.int .i64 c) ∧ V.cell? ⟨W.heap.size, 4, none⟩ = some (.int .u32 st) ∧ V.cell? ⟨W.heap.size, 5, none⟩ = some (.slice ia il ic) ∧ V.cell? ⟨W.heap.size, 6, none⟩ = some (.int .i64 wr) ∧ V.cell? ⟨W.heap.size, 7, none⟩ = some (.slice ra rl rc) ∧ Hid (Chg [] W0 V)) V))
    clear e0 e1 e2 e3 e4 e5 e6 e7 hB0
    have hHeld : (fun V : World => V.cell? ⟨W.heap.size, 0, none⟩ = some (.int .i64 k) ∧ V.cell? ⟨W.heap.size, 1, none⟩ = some (.int .i64 w) ∧ V.cell? ⟨W.heap.size, 2, none⟩ = some (.int .i64 s) ∧ V.cell? ⟨W.heap.size, 3, none⟩ = some (.int .i64 c) ∧ V.cell? ⟨W.heap.size, 4, none⟩ = some (.int .u32 st) ∧ V.cell? ⟨W.heap.size, 5, none⟩ = some (.slice ia il ic) ∧ V.cell? ⟨W.heap.size, 6, none⟩ = some (.int .i64 wr) ∧ V.cell? ⟨W.heap.size, 7, none⟩ = some (.slice ra rl rc) ∧ Hid (Chg [] W0 V)) (World.drew W0) := KEEP.out _ (Chg.refl _ _).drew
    refine wp_region_plan (fun V : World => V.cell? ⟨W.heap.size, 0, none⟩ = some (.int .i64 k) ∧ V.cell? ⟨W.heap.size, 1, none⟩ = some (.int .i64 w) ∧ V.cell? ⟨W.heap.size, 2, none⟩ = some (.int .i64 s) ∧ V.cell? ⟨W.heap.size, 3, none⟩ = some (.int .i64 c) ∧ V.cell? ⟨W.heap.size, 4, none⟩ = some (.int .u32 st) ∧ V.cell? ⟨W.heap.size, 5, none⟩ = some (.slice ia il ic) ∧ V.cell? ⟨W.heap.size, 6, none⟩ = some (.int .i64 wr) ∧ V.cell? ⟨W.heap.size, 7, none⟩ = some (.slice ra rl rc) ∧ Hid (Chg [] W0 V)) [(0, true, some 3), (1, true, some 4), (2, true, some 5), (3, false, some 6), (4, true, some 7), (5, true, some 8), (6, true, some 9), (7, true, some 10), (8, true, some 11), (9, true, some 12), (10, true, some 13), (11, true, some 14), (12, true, some 15), (13, true, some 16), (14, true, some 17), (15, true, some 18), (16, false, some 19), (17, true, some 20), (18, true, some 21), (19, true, some 22), (20, true, some 23), (21, true, some 24), (22, false, some 25), (23, true, some 26), (24, true, some 27), (25, true, some 2)] (by kernel_rfl) (by kernel_rfl) (by kernel_rfl) (by kernel_rfl) (fun d c a v w h => by cases d <;> exact h) hHeld ?_
    repeat (first
      | (refine planWp_read (v := ?_) rfl rfl ?_ ?_ ?_; rotate_left; (focus rfl); (focus (intro u hSw; (try dsimp only at hSw); go_simp; (try with_reducible rfl))); (try simp only [Act.put, List.setIfInBounds_toArray, List.set_cons_zero, List.set_cons_succ]))
      | (refine planWp_skip rfl rfl ?_ ?_; (focus rfl); (try simp only [Act.put, List.setIfInBounds_toArray, List.set_cons_zero, List.set_cons_succ]))
      | (refine planWp_leave rfl rfl ?_ hHeld ?_; (focus rfl); (try simp only [Act.put, List.setIfInBounds_toArray, List.set_cons_zero, List.set_cons_succ]))
      | (refine planWp_do rfl rfl ?_ (fun K hK => ?_); (focus rfl); go_simp; (try go_wp2_with (first | (go_at_call 86; refine (mWords_any k 4 w w s c st ia il ic wr ra rl rc HO.out _).mono ?_; rintro e wx ⟨rfl, hcx⟩; rw [HW.out]; have HCX := Lib.hid hcx; clear hcx) | (go_at_call 87; refine (mCaps_any _ _ _ _ _ _ _ _ _ _ _ _ _).mono ?_; rintro e wx ⟨rfl, hcx⟩; rw [HQ.out]; have HCX := Lib.hid hcx; clear hcx) | (go_at_call 88; refine (ringMod_any _ _ _ _ _ _ _ _ _ _ _ _ HS.out _).mono ?_; rintro e wx ⟨rfl, hcx⟩; have HCX := Lib.hid hcx; clear hcx))); refine hK.out _ _ ?_ (fun hHeld2 => ?_); (focus (have hcn := Chg.trans hHeld.2.2.2.2.2.2.2.2.out HCX.out; exact KEEP.out _ hcn)); clear hK K hHeld; have hHeld := hHeld2; clear hHeld2; (try simp only [Act.put, List.setIfInBounds_toArray, List.set_cons_zero, List.set_cons_succ])))
    refine planWp_nil ?_
    have HCC := Lib.hid (HC0.out.trans hHeld.2.2.2.2.2.2.2.2.out)
    clear hHeld KEEP
    go_wp2_with fail
    go_ret
    exact ⟨by rfl, HCC.out⟩
  have q3 : decide (st < s * 1048576) = true := by simp; omega
  have hf : r = true := by
    rw [← hr, Bool.and_eq_true]
    refine ⟨by simp; omega, ?_⟩
    simp only [rightB, decide_eq_true_eq]
    omega
  subst hf
  have HS : Hid (0 ≤ s ∧ s ≤ 16) := Lib.hid (by omega)
  clear hwords hr p0 p1 p2 p3
  go_enter Tryz.func58, Tryz.ntmps58
  go_wp2_with fail
  generalize hW0 : (W.alloc (.cells #[.int .i64 k, .int .i64 w, .int .i64 s, .int .i64 c, .int .u32 st, .slice ia il ic, .int .i64 wr, .slice ra rl rc] 46)) = W0
  have hB0 : Blk W0 W.heap.size #[.int .i64 k, .int .i64 w, .int .i64 s, .int .i64 c, .int .u32 st, .slice ia il ic, .int .i64 wr, .slice ra rl rc] 46 := by rw [← hW0]; exact Blk.new W _ _
  have HC0 : Hid (Chg [] W W0) := Lib.hid (by rw [← hW0]; exact (Chg.refl _ _).alloc _)
  clear hW0
  have e0 : W0.cell? ⟨W.heap.size, 0, none⟩ = some (.int .i64 k) := hB0.cell rfl
  have e1 : W0.cell? ⟨W.heap.size, 1, none⟩ = some (.int .i64 w) := hB0.cell rfl
  have e2 : W0.cell? ⟨W.heap.size, 2, none⟩ = some (.int .i64 s) := hB0.cell rfl
  have e3 : W0.cell? ⟨W.heap.size, 3, none⟩ = some (.int .i64 c) := hB0.cell rfl
  have e4 : W0.cell? ⟨W.heap.size, 4, none⟩ = some (.int .u32 st) := hB0.cell rfl
  have e5 : W0.cell? ⟨W.heap.size, 5, none⟩ = some (.slice ia il ic) := hB0.cell rfl
  have e6 : W0.cell? ⟨W.heap.size, 6, none⟩ = some (.int .i64 wr) := hB0.cell rfl
  have e7 : W0.cell? ⟨W.heap.size, 7, none⟩ = some (.slice ra rl rc) := hB0.cell rfl
  have KEEP := Lib.hid (fun (V : World) (h : Chg [] W0 V) => (⟨h.keep e0 (by simp), h.keep e1 (by simp), h.keep e2 (by simp), h.keep e3 (by simp), h.keep e4 (by simp), h.keep e5 (by simp), h.keep e6 (by simp), h.keep e7 (by simp), Lib.hid h⟩ : (fun V : World => V.cell? ⟨W.heap.size, 0, none⟩ = some (.int .i64 k) ∧ V.cell? ⟨W.heap.size, 1, none⟩ = some (.int .i64 w) ∧ V.cell? ⟨W.heap.size, 2, none⟩ = some (.int .i64 s) ∧ V.cell? ⟨W.heap.size, 3, none⟩ = some (.int .i64 c) ∧ V.cell? ⟨W.heap.size, 4, none⟩ = some (.int .u32 st) ∧ V.cell? ⟨W.heap.size, 5, none⟩ = some (.slice ia il ic) ∧ V.cell? ⟨W.heap.size, 6, none⟩ = some (.int .i64 wr) ∧ V.cell? ⟨W.heap.size, 7, none⟩ = some (.slice ra rl rc) ∧ Hid (Chg [] W0 V)) V))
  clear e0 e1 e2 e3 e4 e5 e6 e7 hB0
  have hHeld : (fun V : World => V.cell? ⟨W.heap.size, 0, none⟩ = some (.int .i64 k) ∧ V.cell? ⟨W.heap.size, 1, none⟩ = some (.int .i64 w) ∧ V.cell? ⟨W.heap.size, 2, none⟩ = some (.int .i64 s) ∧ V.cell? ⟨W.heap.size, 3, none⟩ = some (.int .i64 c) ∧ V.cell? ⟨W.heap.size, 4, none⟩ = some (.int .u32 st) ∧ V.cell? ⟨W.heap.size, 5, none⟩ = some (.slice ia il ic) ∧ V.cell? ⟨W.heap.size, 6, none⟩ = some (.int .i64 wr) ∧ V.cell? ⟨W.heap.size, 7, none⟩ = some (.slice ra rl rc) ∧ Hid (Chg [] W0 V)) (World.drew W0) := KEEP.out _ (Chg.refl _ _).drew
  refine wp_region_plan (fun V : World => V.cell? ⟨W.heap.size, 0, none⟩ = some (.int .i64 k) ∧ V.cell? ⟨W.heap.size, 1, none⟩ = some (.int .i64 w) ∧ V.cell? ⟨W.heap.size, 2, none⟩ = some (.int .i64 s) ∧ V.cell? ⟨W.heap.size, 3, none⟩ = some (.int .i64 c) ∧ V.cell? ⟨W.heap.size, 4, none⟩ = some (.int .u32 st) ∧ V.cell? ⟨W.heap.size, 5, none⟩ = some (.slice ia il ic) ∧ V.cell? ⟨W.heap.size, 6, none⟩ = some (.int .i64 wr) ∧ V.cell? ⟨W.heap.size, 7, none⟩ = some (.slice ra rl rc) ∧ Hid (Chg [] W0 V)) [(0, true, some 3), (1, true, some 4), (2, true, some 5), (3, false, some 6), (4, true, some 7), (5, true, some 8), (6, true, some 9), (7, true, some 10), (8, true, some 11), (9, true, some 12), (10, true, some 13), (11, true, some 14), (12, true, some 15), (13, true, some 16), (14, true, some 17), (15, true, some 18), (16, false, some 19), (17, true, some 20), (18, true, some 21), (19, true, some 22), (20, true, some 23), (21, true, some 24), (22, false, some 25), (23, true, some 26), (24, true, some 27), (25, true, some 2)] (by kernel_rfl) (by kernel_rfl) (by kernel_rfl) (by kernel_rfl) (fun d c a v w h => by cases d <;> exact h) hHeld ?_
  repeat (first
    | (refine planWp_read (v := ?_) rfl rfl ?_ ?_ ?_; rotate_left; (focus rfl); (focus (intro u hSw; (try dsimp only at hSw); go_simp; (try with_reducible rfl))); (try simp only [Act.put, List.setIfInBounds_toArray, List.set_cons_zero, List.set_cons_succ]))
    | (refine planWp_skip rfl rfl ?_ ?_; (focus rfl); (try simp only [Act.put, List.setIfInBounds_toArray, List.set_cons_zero, List.set_cons_succ]))
    | (refine planWp_leave rfl rfl ?_ hHeld ?_; (focus rfl); (try simp only [Act.put, List.setIfInBounds_toArray, List.set_cons_zero, List.set_cons_succ]))
    | (refine planWp_do rfl rfl ?_ (fun K hK => ?_); (focus rfl); go_simp; (try go_wp2_with (first | (go_at_call 86; refine (mWords_any k 4 w w s c st ia il ic wr ra rl rc HO.out _).mono ?_; rintro e wx ⟨rfl, hcx⟩; rw [HW.out]; have HCX := Lib.hid hcx; clear hcx) | (go_at_call 87; refine (mCaps_any _ _ _ _ _ _ _ _ _ _ _ _ _).mono ?_; rintro e wx ⟨rfl, hcx⟩; rw [HQ.out]; have HCX := Lib.hid hcx; clear hcx) | (go_at_call 88; refine (ringMod_any _ _ _ _ _ _ _ _ _ _ _ _ HS.out _).mono ?_; rintro e wx ⟨rfl, hcx⟩; have HCX := Lib.hid hcx; clear hcx))); refine hK.out _ _ ?_ (fun hHeld2 => ?_); (focus (have hcn := Chg.trans hHeld.2.2.2.2.2.2.2.2.out HCX.out; exact KEEP.out _ hcn)); clear hK K hHeld; have hHeld := hHeld2; clear hHeld2; (try simp only [Act.put, List.setIfInBounds_toArray, List.set_cons_zero, List.set_cons_succ])))
  refine planWp_nil ?_
  have HCC := Lib.hid (HC0.out.trans hHeld.2.2.2.2.2.2.2.2.out)
  clear hHeld KEEP
  go_wp2_with fail
  go_ret
  exact ⟨by rfl, HCC.out⟩
end Go.Proofs.YtkedegbpkkgeaaaGreat.obj
/- Objects: how many steps an operation has: the program's, and the reference's. -/
namespace Go.Proofs.YtkedegbpkkgeaaaGreat.obj
open Go Go.RowKit Go.Proofs.YtkedegbpkkgeaaaGreat.kit
set_option linter.unusedVariables false
set_option linter.unusedSimpArgs false
set_option maxRecDepth 20000


set_option maxHeartbeats 4000000 in
theorem fourBound_any (k : Int) (w s c st : Int) (ia : Option Addr) (il ic : Nat) (wr : Int) (ra : Option Addr) (rl rc : Nat) (op : Int) (h : ObjW k w s c st il rl) (W : World) :
    Calls Tryz.prog 112 #[.agg #[.int .i64 k, .int .i64 w, .int .i64 s, .int .i64 c, .int .u32 st, .slice ia il ic, .int .i64 wr, .slice ra rl rc], .int .i64 op] W fun e W' => e = .returned (.int .i64 (if decide (k = 1) && rightB k w s c st il rl then boundK 1 w c rl op else 0)) ∧ Chg [] W W' := by
  have HRR := Lib.hid (fun u => fourRight_any k w s c st ia il ic wr ra rl rc h u)
  have hst := h.st32
  clear h
  cases hg : (decide (k = 1) && rightB k w s c st il rl)
  · rw [if_neg (by decide)]
    have HG := Lib.hid hg
    clear hg
    go_enter Tryz.func112, Tryz.ntmps112
    go_wp2_with (go_at_call 55; refine (HRR.out _).mono ?_; rintro e wx ⟨rfl, hcx⟩; rw [HG.out])
    go_ret
    exact ⟨rfl, ((Chg.refl _ _).alloc _).trans hcx⟩
  · rw [if_pos rfl]
    have HG := Lib.hid hg
    have hb := rightB_bd (by simp only [Bool.and_eq_true] at hg; exact hg.2)
    obtain ⟨b1, b2, b3, b4, b5, b6, b7, b8, _, _⟩ := hb
    have hm := mul_bd ⟨b5, b6⟩ ⟨b1, b2⟩
    have hmw : wrap64 (c * (w + 2)) = c * (w + 2) := by unfold wrap64; omega
    have HMW := Lib.hid hmw
    clear hmw
    clear hg hm
    have hop : op = 1 ∨ op = 2 ∨ (op ≠ 1 ∧ op ≠ 2) := by omega
    rcases hop with rfl | rfl | ⟨n1, n2⟩
    · rw [show boundK 1 w c rl 1 = w + 3 from by simp [boundK]]
      go_enter Tryz.func112, Tryz.ntmps112
      go_wp2_with (go_at_call 55; refine (HRR.out _).mono ?_; rintro e wx ⟨rfl, hcx⟩; rw [HG.out]; have HBX := Lib.hid (Blk.keep (Blk.new W #[.int .i64 k, .int .i64 w, .int .i64 s, .int .i64 c, .int .u32 st, .slice ia il ic, .int .i64 wr, .slice ra rl rc] 46) hcx (by simp)); have e0 := HBX.out.cell (o := 0) (v := .int .i64 k) rfl; have e1 := HBX.out.cell (o := 1) (v := .int .i64 w) rfl; have e2 := HBX.out.cell (o := 2) (v := .int .i64 s) rfl; have e3 := HBX.out.cell (o := 3) (v := .int .i64 c) rfl; have e4 := HBX.out.cell (o := 4) (v := .int .u32 st) rfl; have e5 := HBX.out.cell (o := 5) (v := .slice ia il ic) rfl; have e6 := HBX.out.cell (o := 6) (v := .int .i64 wr) rfl; have e7 := HBX.out.cell (o := 7) (v := .slice ra rl rc) rfl; have HCX := Lib.hid hcx; clear hcx)
      go_ret
      exact ⟨by first | rfl | (rw [HMW.out]; rfl), ((Chg.refl _ _).alloc _).trans HCX.out⟩
    · rw [show boundK 1 w c rl 2 = w + 4 from by simp [boundK]]
      go_enter Tryz.func112, Tryz.ntmps112
      go_wp2_with (go_at_call 55; refine (HRR.out _).mono ?_; rintro e wx ⟨rfl, hcx⟩; rw [HG.out]; have HBX := Lib.hid (Blk.keep (Blk.new W #[.int .i64 k, .int .i64 w, .int .i64 s, .int .i64 c, .int .u32 st, .slice ia il ic, .int .i64 wr, .slice ra rl rc] 46) hcx (by simp)); have e0 := HBX.out.cell (o := 0) (v := .int .i64 k) rfl; have e1 := HBX.out.cell (o := 1) (v := .int .i64 w) rfl; have e2 := HBX.out.cell (o := 2) (v := .int .i64 s) rfl; have e3 := HBX.out.cell (o := 3) (v := .int .i64 c) rfl; have e4 := HBX.out.cell (o := 4) (v := .int .u32 st) rfl; have e5 := HBX.out.cell (o := 5) (v := .slice ia il ic) rfl; have e6 := HBX.out.cell (o := 6) (v := .int .i64 wr) rfl; have e7 := HBX.out.cell (o := 7) (v := .slice ra rl rc) rfl; have HCX := Lib.hid hcx; clear hcx)
      go_ret
      exact ⟨by first | rfl | (rw [HMW.out]; rfl), ((Chg.refl _ _).alloc _).trans HCX.out⟩
    · rw [show boundK 1 w c rl op = 0 from by simp [boundK, n1, n2]]
      have m1 : (op == 1) = false := by simpa using n1
      have k1 : (op != 1) = true := by simp [n1]
      have m2 : (op == 2) = false := by simpa using n2
      have k2 : (op != 2) = true := by simp [n2]
      go_enter Tryz.func112, Tryz.ntmps112
      go_wp2_with (go_at_call 55; refine (HRR.out _).mono ?_; rintro e wx ⟨rfl, hcx⟩; rw [HG.out]; have HBX := Lib.hid (Blk.keep (Blk.new W #[.int .i64 k, .int .i64 w, .int .i64 s, .int .i64 c, .int .u32 st, .slice ia il ic, .int .i64 wr, .slice ra rl rc] 46) hcx (by simp)); have e0 := HBX.out.cell (o := 0) (v := .int .i64 k) rfl; have e1 := HBX.out.cell (o := 1) (v := .int .i64 w) rfl; have e2 := HBX.out.cell (o := 2) (v := .int .i64 s) rfl; have e3 := HBX.out.cell (o := 3) (v := .int .i64 c) rfl; have e4 := HBX.out.cell (o := 4) (v := .int .u32 st) rfl; have e5 := HBX.out.cell (o := 5) (v := .slice ia il ic) rfl; have e6 := HBX.out.cell (o := 6) (v := .int .i64 wr) rfl; have e7 := HBX.out.cell (o := 7) (v := .slice ra rl rc) rfl; have HCX := Lib.hid hcx; clear hcx)
      go_ret
      exact ⟨rfl, ((Chg.refl _ _).alloc _).trans HCX.out⟩

set_option maxHeartbeats 4000000 in
theorem chenBound_any (k : Int) (w s c st : Int) (ia : Option Addr) (il ic : Nat) (wr : Int) (ra : Option Addr) (rl rc : Nat) (op : Int) (h : ObjW k w s c st il rl) (W : World) :
    Calls Tryz.prog 113 #[.agg #[.int .i64 k, .int .i64 w, .int .i64 s, .int .i64 c, .int .u32 st, .slice ia il ic, .int .i64 wr, .slice ra rl rc], .int .i64 op] W fun e W' => e = .returned (.int .i64 (if decide (k = 2) && rightB k w s c st il rl then boundK 2 w c rl op else 0)) ∧ Chg [] W W' := by
  have HRR := Lib.hid (fun u => chenRight_any k w s c st ia il ic wr ra rl rc h u)
  have hst := h.st32
  clear h
  cases hg : (decide (k = 2) && rightB k w s c st il rl)
  · rw [if_neg (by decide)]
    have HG := Lib.hid hg
    clear hg
    go_enter Tryz.func113, Tryz.ntmps113
    go_wp2_with (go_at_call 56; refine (HRR.out _).mono ?_; rintro e wx ⟨rfl, hcx⟩; rw [HG.out])
    go_ret
    exact ⟨rfl, ((Chg.refl _ _).alloc _).trans hcx⟩
  · rw [if_pos rfl]
    have HG := Lib.hid hg
    have hb := rightB_bd (by simp only [Bool.and_eq_true] at hg; exact hg.2)
    obtain ⟨b1, b2, b3, b4, b5, b6, b7, b8, _, _⟩ := hb
    have hm := mul_bd ⟨b5, b6⟩ ⟨b1, b2⟩
    have hmw : wrap64 (c * (w + 2)) = c * (w + 2) := by unfold wrap64; omega
    have HMW := Lib.hid hmw
    clear hmw
    clear hg hm
    have hop : op = 1 ∨ op = 2 ∨ (op ≠ 1 ∧ op ≠ 2) := by omega
    rcases hop with rfl | rfl | ⟨n1, n2⟩
    · rw [show boundK 2 w c rl 1 = w + 4 from by simp [boundK]]
      go_enter Tryz.func113, Tryz.ntmps113
      go_wp2_with (go_at_call 56; refine (HRR.out _).mono ?_; rintro e wx ⟨rfl, hcx⟩; rw [HG.out]; have HBX := Lib.hid (Blk.keep (Blk.new W #[.int .i64 k, .int .i64 w, .int .i64 s, .int .i64 c, .int .u32 st, .slice ia il ic, .int .i64 wr, .slice ra rl rc] 46) hcx (by simp)); have e0 := HBX.out.cell (o := 0) (v := .int .i64 k) rfl; have e1 := HBX.out.cell (o := 1) (v := .int .i64 w) rfl; have e2 := HBX.out.cell (o := 2) (v := .int .i64 s) rfl; have e3 := HBX.out.cell (o := 3) (v := .int .i64 c) rfl; have e4 := HBX.out.cell (o := 4) (v := .int .u32 st) rfl; have e5 := HBX.out.cell (o := 5) (v := .slice ia il ic) rfl; have e6 := HBX.out.cell (o := 6) (v := .int .i64 wr) rfl; have e7 := HBX.out.cell (o := 7) (v := .slice ra rl rc) rfl; have HCX := Lib.hid hcx; clear hcx)
      go_ret
      exact ⟨by first | rfl | (rw [HMW.out]; rfl), ((Chg.refl _ _).alloc _).trans HCX.out⟩
    · rw [show boundK 2 w c rl 2 = w + 2 * rl + 2 from by simp [boundK]]
      go_enter Tryz.func113, Tryz.ntmps113
      go_wp2_with (go_at_call 56; refine (HRR.out _).mono ?_; rintro e wx ⟨rfl, hcx⟩; rw [HG.out]; have HBX := Lib.hid (Blk.keep (Blk.new W #[.int .i64 k, .int .i64 w, .int .i64 s, .int .i64 c, .int .u32 st, .slice ia il ic, .int .i64 wr, .slice ra rl rc] 46) hcx (by simp)); have e0 := HBX.out.cell (o := 0) (v := .int .i64 k) rfl; have e1 := HBX.out.cell (o := 1) (v := .int .i64 w) rfl; have e2 := HBX.out.cell (o := 2) (v := .int .i64 s) rfl; have e3 := HBX.out.cell (o := 3) (v := .int .i64 c) rfl; have e4 := HBX.out.cell (o := 4) (v := .int .u32 st) rfl; have e5 := HBX.out.cell (o := 5) (v := .slice ia il ic) rfl; have e6 := HBX.out.cell (o := 6) (v := .int .i64 wr) rfl; have e7 := HBX.out.cell (o := 7) (v := .slice ra rl rc) rfl; have HCX := Lib.hid hcx; clear hcx)
      go_ret
      exact ⟨by first | rfl | (rw [HMW.out]; rfl), ((Chg.refl _ _).alloc _).trans HCX.out⟩
    · rw [show boundK 2 w c rl op = 0 from by simp [boundK, n1, n2]]
      have m1 : (op == 1) = false := by simpa using n1
      have k1 : (op != 1) = true := by simp [n1]
      have m2 : (op == 2) = false := by simpa using n2
      have k2 : (op != 2) = true := by simp [n2]
      go_enter Tryz.func113, Tryz.ntmps113
      go_wp2_with (go_at_call 56; refine (HRR.out _).mono ?_; rintro e wx ⟨rfl, hcx⟩; rw [HG.out]; have HBX := Lib.hid (Blk.keep (Blk.new W #[.int .i64 k, .int .i64 w, .int .i64 s, .int .i64 c, .int .u32 st, .slice ia il ic, .int .i64 wr, .slice ra rl rc] 46) hcx (by simp)); have e0 := HBX.out.cell (o := 0) (v := .int .i64 k) rfl; have e1 := HBX.out.cell (o := 1) (v := .int .i64 w) rfl; have e2 := HBX.out.cell (o := 2) (v := .int .i64 s) rfl; have e3 := HBX.out.cell (o := 3) (v := .int .i64 c) rfl; have e4 := HBX.out.cell (o := 4) (v := .int .u32 st) rfl; have e5 := HBX.out.cell (o := 5) (v := .slice ia il ic) rfl; have e6 := HBX.out.cell (o := 6) (v := .int .i64 wr) rfl; have e7 := HBX.out.cell (o := 7) (v := .slice ra rl rc) rfl; have HCX := Lib.hid hcx; clear hcx)
      go_ret
      exact ⟨rfl, ((Chg.refl _ _).alloc _).trans HCX.out⟩

set_option maxHeartbeats 4000000 in
theorem seqBound_any (k : Int) (w s c st : Int) (ia : Option Addr) (il ic : Nat) (wr : Int) (ra : Option Addr) (rl rc : Nat) (op : Int) (h : ObjW k w s c st il rl) (W : World) :
    Calls Tryz.prog 114 #[.agg #[.int .i64 k, .int .i64 w, .int .i64 s, .int .i64 c, .int .u32 st, .slice ia il ic, .int .i64 wr, .slice ra rl rc], .int .i64 op] W fun e W' => e = .returned (.int .i64 (if decide (k = 3) && rightB k w s c st il rl then boundK 3 w c rl op else 0)) ∧ Chg [] W W' := by
  have HRR := Lib.hid (fun u => seqRight_any k w s c st ia il ic wr ra rl rc h u)
  have hst := h.st32
  clear h
  cases hg : (decide (k = 3) && rightB k w s c st il rl)
  · rw [if_neg (by decide)]
    have HG := Lib.hid hg
    clear hg
    go_enter Tryz.func114, Tryz.ntmps114
    go_wp2_with (go_at_call 57; refine (HRR.out _).mono ?_; rintro e wx ⟨rfl, hcx⟩; rw [HG.out])
    go_ret
    exact ⟨rfl, ((Chg.refl _ _).alloc _).trans hcx⟩
  · rw [if_pos rfl]
    have HG := Lib.hid hg
    have hb := rightB_bd (by simp only [Bool.and_eq_true] at hg; exact hg.2)
    obtain ⟨b1, b2, b3, b4, b5, b6, b7, b8, _, _⟩ := hb
    have hm := mul_bd ⟨b5, b6⟩ ⟨b1, b2⟩
    have hmw : wrap64 (c * (w + 2)) = c * (w + 2) := by unfold wrap64; omega
    have HMW := Lib.hid hmw
    clear hmw
    clear hg hm
    have hop : op = 1 ∨ op = 2 ∨ (op ≠ 1 ∧ op ≠ 2) := by omega
    rcases hop with rfl | rfl | ⟨n1, n2⟩
    · rw [show boundK 3 w c rl 1 = c * (w + 2) from by simp [boundK]]
      go_enter Tryz.func114, Tryz.ntmps114
      go_wp2_with (go_at_call 57; refine (HRR.out _).mono ?_; rintro e wx ⟨rfl, hcx⟩; rw [HG.out]; have HBX := Lib.hid (Blk.keep (Blk.new W #[.int .i64 k, .int .i64 w, .int .i64 s, .int .i64 c, .int .u32 st, .slice ia il ic, .int .i64 wr, .slice ra rl rc] 46) hcx (by simp)); have e0 := HBX.out.cell (o := 0) (v := .int .i64 k) rfl; have e1 := HBX.out.cell (o := 1) (v := .int .i64 w) rfl; have e2 := HBX.out.cell (o := 2) (v := .int .i64 s) rfl; have e3 := HBX.out.cell (o := 3) (v := .int .i64 c) rfl; have e4 := HBX.out.cell (o := 4) (v := .int .u32 st) rfl; have e5 := HBX.out.cell (o := 5) (v := .slice ia il ic) rfl; have e6 := HBX.out.cell (o := 6) (v := .int .i64 wr) rfl; have e7 := HBX.out.cell (o := 7) (v := .slice ra rl rc) rfl; have HCX := Lib.hid hcx; clear hcx)
      go_ret
      exact ⟨by first | rfl | (rw [HMW.out]; rfl), ((Chg.refl _ _).alloc _).trans HCX.out⟩
    · rw [show boundK 3 w c rl 2 = w + 3 from by simp [boundK]]
      go_enter Tryz.func114, Tryz.ntmps114
      go_wp2_with (go_at_call 57; refine (HRR.out _).mono ?_; rintro e wx ⟨rfl, hcx⟩; rw [HG.out]; have HBX := Lib.hid (Blk.keep (Blk.new W #[.int .i64 k, .int .i64 w, .int .i64 s, .int .i64 c, .int .u32 st, .slice ia il ic, .int .i64 wr, .slice ra rl rc] 46) hcx (by simp)); have e0 := HBX.out.cell (o := 0) (v := .int .i64 k) rfl; have e1 := HBX.out.cell (o := 1) (v := .int .i64 w) rfl; have e2 := HBX.out.cell (o := 2) (v := .int .i64 s) rfl; have e3 := HBX.out.cell (o := 3) (v := .int .i64 c) rfl; have e4 := HBX.out.cell (o := 4) (v := .int .u32 st) rfl; have e5 := HBX.out.cell (o := 5) (v := .slice ia il ic) rfl; have e6 := HBX.out.cell (o := 6) (v := .int .i64 wr) rfl; have e7 := HBX.out.cell (o := 7) (v := .slice ra rl rc) rfl; have HCX := Lib.hid hcx; clear hcx)
      go_ret
      exact ⟨by first | rfl | (rw [HMW.out]; rfl), ((Chg.refl _ _).alloc _).trans HCX.out⟩
    · rw [show boundK 3 w c rl op = 0 from by simp [boundK, n1, n2]]
      have m1 : (op == 1) = false := by simpa using n1
      have k1 : (op != 1) = true := by simp [n1]
      have m2 : (op == 2) = false := by simpa using n2
      have k2 : (op != 2) = true := by simp [n2]
      go_enter Tryz.func114, Tryz.ntmps114
      go_wp2_with (go_at_call 57; refine (HRR.out _).mono ?_; rintro e wx ⟨rfl, hcx⟩; rw [HG.out]; have HBX := Lib.hid (Blk.keep (Blk.new W #[.int .i64 k, .int .i64 w, .int .i64 s, .int .i64 c, .int .u32 st, .slice ia il ic, .int .i64 wr, .slice ra rl rc] 46) hcx (by simp)); have e0 := HBX.out.cell (o := 0) (v := .int .i64 k) rfl; have e1 := HBX.out.cell (o := 1) (v := .int .i64 w) rfl; have e2 := HBX.out.cell (o := 2) (v := .int .i64 s) rfl; have e3 := HBX.out.cell (o := 3) (v := .int .i64 c) rfl; have e4 := HBX.out.cell (o := 4) (v := .int .u32 st) rfl; have e5 := HBX.out.cell (o := 5) (v := .slice ia il ic) rfl; have e6 := HBX.out.cell (o := 6) (v := .int .i64 wr) rfl; have e7 := HBX.out.cell (o := 7) (v := .slice ra rl rc) rfl; have HCX := Lib.hid hcx; clear hcx)
      go_ret
      exact ⟨rfl, ((Chg.refl _ _).alloc _).trans HCX.out⟩

set_option maxHeartbeats 4000000 in
theorem ringBound_any (k : Int) (w s c st : Int) (ia : Option Addr) (il ic : Nat) (wr : Int) (ra : Option Addr) (rl rc : Nat) (op : Int) (h : ObjW k w s c st il rl) (W : World) :
    Calls Tryz.prog 115 #[.agg #[.int .i64 k, .int .i64 w, .int .i64 s, .int .i64 c, .int .u32 st, .slice ia il ic, .int .i64 wr, .slice ra rl rc], .int .i64 op] W fun e W' => e = .returned (.int .i64 (if decide (k = 4) && rightB k w s c st il rl then boundK 4 w c rl op else 0)) ∧ Chg [] W W' := by
  have HRR := Lib.hid (fun u => ringRight_any k w s c st ia il ic wr ra rl rc h u)
  have hst := h.st32
  clear h
  cases hg : (decide (k = 4) && rightB k w s c st il rl)
  · rw [if_neg (by decide)]
    have HG := Lib.hid hg
    clear hg
    go_enter Tryz.func115, Tryz.ntmps115
    go_wp2_with (go_at_call 58; refine (HRR.out _).mono ?_; rintro e wx ⟨rfl, hcx⟩; rw [HG.out])
    go_ret
    exact ⟨rfl, ((Chg.refl _ _).alloc _).trans hcx⟩
  · rw [if_pos rfl]
    have HG := Lib.hid hg
    have hb := rightB_bd (by simp only [Bool.and_eq_true] at hg; exact hg.2)
    obtain ⟨b1, b2, b3, b4, b5, b6, b7, b8, _, _⟩ := hb
    have hm := mul_bd ⟨b5, b6⟩ ⟨b1, b2⟩
    have hmw : wrap64 (c * (w + 2)) = c * (w + 2) := by unfold wrap64; omega
    have HMW := Lib.hid hmw
    clear hmw
    clear hg hm
    have hop : op = 1 ∨ op = 2 ∨ (op ≠ 1 ∧ op ≠ 2) := by omega
    rcases hop with rfl | rfl | ⟨n1, n2⟩
    · rw [show boundK 4 w c rl 1 = c * (w + 2) from by simp [boundK]]
      go_enter Tryz.func115, Tryz.ntmps115
      go_wp2_with (go_at_call 58; refine (HRR.out _).mono ?_; rintro e wx ⟨rfl, hcx⟩; rw [HG.out]; have HBX := Lib.hid (Blk.keep (Blk.new W #[.int .i64 k, .int .i64 w, .int .i64 s, .int .i64 c, .int .u32 st, .slice ia il ic, .int .i64 wr, .slice ra rl rc] 46) hcx (by simp)); have e0 := HBX.out.cell (o := 0) (v := .int .i64 k) rfl; have e1 := HBX.out.cell (o := 1) (v := .int .i64 w) rfl; have e2 := HBX.out.cell (o := 2) (v := .int .i64 s) rfl; have e3 := HBX.out.cell (o := 3) (v := .int .i64 c) rfl; have e4 := HBX.out.cell (o := 4) (v := .int .u32 st) rfl; have e5 := HBX.out.cell (o := 5) (v := .slice ia il ic) rfl; have e6 := HBX.out.cell (o := 6) (v := .int .i64 wr) rfl; have e7 := HBX.out.cell (o := 7) (v := .slice ra rl rc) rfl; have HCX := Lib.hid hcx; clear hcx)
      go_ret
      exact ⟨by first | rfl | (rw [HMW.out]; rfl), ((Chg.refl _ _).alloc _).trans HCX.out⟩
    · rw [show boundK 4 w c rl 2 = w + 2 from by simp [boundK]]
      go_enter Tryz.func115, Tryz.ntmps115
      go_wp2_with (go_at_call 58; refine (HRR.out _).mono ?_; rintro e wx ⟨rfl, hcx⟩; rw [HG.out]; have HBX := Lib.hid (Blk.keep (Blk.new W #[.int .i64 k, .int .i64 w, .int .i64 s, .int .i64 c, .int .u32 st, .slice ia il ic, .int .i64 wr, .slice ra rl rc] 46) hcx (by simp)); have e0 := HBX.out.cell (o := 0) (v := .int .i64 k) rfl; have e1 := HBX.out.cell (o := 1) (v := .int .i64 w) rfl; have e2 := HBX.out.cell (o := 2) (v := .int .i64 s) rfl; have e3 := HBX.out.cell (o := 3) (v := .int .i64 c) rfl; have e4 := HBX.out.cell (o := 4) (v := .int .u32 st) rfl; have e5 := HBX.out.cell (o := 5) (v := .slice ia il ic) rfl; have e6 := HBX.out.cell (o := 6) (v := .int .i64 wr) rfl; have e7 := HBX.out.cell (o := 7) (v := .slice ra rl rc) rfl; have HCX := Lib.hid hcx; clear hcx)
      go_ret
      exact ⟨by first | rfl | (rw [HMW.out]; rfl), ((Chg.refl _ _).alloc _).trans HCX.out⟩
    · rw [show boundK 4 w c rl op = 0 from by simp [boundK, n1, n2]]
      have m1 : (op == 1) = false := by simpa using n1
      have k1 : (op != 1) = true := by simp [n1]
      have m2 : (op == 2) = false := by simpa using n2
      have k2 : (op != 2) = true := by simp [n2]
      go_enter Tryz.func115, Tryz.ntmps115
      go_wp2_with (go_at_call 58; refine (HRR.out _).mono ?_; rintro e wx ⟨rfl, hcx⟩; rw [HG.out]; have HBX := Lib.hid (Blk.keep (Blk.new W #[.int .i64 k, .int .i64 w, .int .i64 s, .int .i64 c, .int .u32 st, .slice ia il ic, .int .i64 wr, .slice ra rl rc] 46) hcx (by simp)); have e0 := HBX.out.cell (o := 0) (v := .int .i64 k) rfl; have e1 := HBX.out.cell (o := 1) (v := .int .i64 w) rfl; have e2 := HBX.out.cell (o := 2) (v := .int .i64 s) rfl; have e3 := HBX.out.cell (o := 3) (v := .int .i64 c) rfl; have e4 := HBX.out.cell (o := 4) (v := .int .u32 st) rfl; have e5 := HBX.out.cell (o := 5) (v := .slice ia il ic) rfl; have e6 := HBX.out.cell (o := 6) (v := .int .i64 wr) rfl; have e7 := HBX.out.cell (o := 7) (v := .slice ra rl rc) rfl; have HCX := Lib.hid hcx; clear hcx)
      go_ret
      exact ⟨rfl, ((Chg.refl _ _).alloc _).trans HCX.out⟩

set_option maxHeartbeats 4000000 in
theorem cabBound_any (k : Int) (w s c st : Int) (ia : Option Addr) (il ic : Nat) (wr : Int) (ra : Option Addr) (rl rc : Nat) (op : Int) (h : ObjW k w s c st il rl) (W : World) :
    Calls Tryz.prog 116 #[.agg #[.int .i64 k, .int .i64 w, .int .i64 s, .int .i64 c, .int .u32 st, .slice ia il ic, .int .i64 wr, .slice ra rl rc], .int .i64 op] W fun e W' => e = .returned (.int .i64 (if decide (k = 5) && rightB k w s c st il rl then boundK 5 w c rl op else 0)) ∧ Chg [] W W' := by
  have HRR := Lib.hid (fun u => cabRight_any k w s c st ia il ic wr ra rl rc h u)
  have hst := h.st32
  clear h
  cases hg : (decide (k = 5) && rightB k w s c st il rl)
  · rw [if_neg (by decide)]
    have HG := Lib.hid hg
    clear hg
    go_enter Tryz.func116, Tryz.ntmps116
    go_wp2_with (go_at_call 59; refine (HRR.out _).mono ?_; rintro e wx ⟨rfl, hcx⟩; rw [HG.out])
    go_ret
    exact ⟨rfl, ((Chg.refl _ _).alloc _).trans hcx⟩
  · rw [if_pos rfl]
    have HG := Lib.hid hg
    have hb := rightB_bd (by simp only [Bool.and_eq_true] at hg; exact hg.2)
    obtain ⟨b1, b2, b3, b4, b5, b6, b7, b8, _, _⟩ := hb
    have hm := mul_bd ⟨b5, b6⟩ ⟨b1, b2⟩
    have hmw : wrap64 (c * (w + 2)) = c * (w + 2) := by unfold wrap64; omega
    have HMW := Lib.hid hmw
    clear hmw
    clear hg hm
    have hop : op = 1 ∨ op = 2 ∨ (op ≠ 1 ∧ op ≠ 2) := by omega
    rcases hop with rfl | rfl | ⟨n1, n2⟩
    · rw [show boundK 5 w c rl 1 = 3 * c + w + 1 from by simp [boundK]]
      go_enter Tryz.func116, Tryz.ntmps116
      go_wp2_with (go_at_call 59; refine (HRR.out _).mono ?_; rintro e wx ⟨rfl, hcx⟩; rw [HG.out]; have HBX := Lib.hid (Blk.keep (Blk.new W #[.int .i64 k, .int .i64 w, .int .i64 s, .int .i64 c, .int .u32 st, .slice ia il ic, .int .i64 wr, .slice ra rl rc] 46) hcx (by simp)); have e0 := HBX.out.cell (o := 0) (v := .int .i64 k) rfl; have e1 := HBX.out.cell (o := 1) (v := .int .i64 w) rfl; have e2 := HBX.out.cell (o := 2) (v := .int .i64 s) rfl; have e3 := HBX.out.cell (o := 3) (v := .int .i64 c) rfl; have e4 := HBX.out.cell (o := 4) (v := .int .u32 st) rfl; have e5 := HBX.out.cell (o := 5) (v := .slice ia il ic) rfl; have e6 := HBX.out.cell (o := 6) (v := .int .i64 wr) rfl; have e7 := HBX.out.cell (o := 7) (v := .slice ra rl rc) rfl; have HCX := Lib.hid hcx; clear hcx)
      go_ret
      exact ⟨by first | rfl | (rw [HMW.out]; rfl), ((Chg.refl _ _).alloc _).trans HCX.out⟩
    · rw [show boundK 5 w c rl 2 = w + rl + 2 from by simp [boundK]]
      go_enter Tryz.func116, Tryz.ntmps116
      go_wp2_with (go_at_call 59; refine (HRR.out _).mono ?_; rintro e wx ⟨rfl, hcx⟩; rw [HG.out]; have HBX := Lib.hid (Blk.keep (Blk.new W #[.int .i64 k, .int .i64 w, .int .i64 s, .int .i64 c, .int .u32 st, .slice ia il ic, .int .i64 wr, .slice ra rl rc] 46) hcx (by simp)); have e0 := HBX.out.cell (o := 0) (v := .int .i64 k) rfl; have e1 := HBX.out.cell (o := 1) (v := .int .i64 w) rfl; have e2 := HBX.out.cell (o := 2) (v := .int .i64 s) rfl; have e3 := HBX.out.cell (o := 3) (v := .int .i64 c) rfl; have e4 := HBX.out.cell (o := 4) (v := .int .u32 st) rfl; have e5 := HBX.out.cell (o := 5) (v := .slice ia il ic) rfl; have e6 := HBX.out.cell (o := 6) (v := .int .i64 wr) rfl; have e7 := HBX.out.cell (o := 7) (v := .slice ra rl rc) rfl; have HCX := Lib.hid hcx; clear hcx)
      go_ret
      exact ⟨by first | rfl | (rw [HMW.out]; rfl), ((Chg.refl _ _).alloc _).trans HCX.out⟩
    · rw [show boundK 5 w c rl op = 0 from by simp [boundK, n1, n2]]
      have m1 : (op == 1) = false := by simpa using n1
      have k1 : (op != 1) = true := by simp [n1]
      have m2 : (op == 2) = false := by simpa using n2
      have k2 : (op != 2) = true := by simp [n2]
      go_enter Tryz.func116, Tryz.ntmps116
      go_wp2_with (go_at_call 59; refine (HRR.out _).mono ?_; rintro e wx ⟨rfl, hcx⟩; rw [HG.out]; have HBX := Lib.hid (Blk.keep (Blk.new W #[.int .i64 k, .int .i64 w, .int .i64 s, .int .i64 c, .int .u32 st, .slice ia il ic, .int .i64 wr, .slice ra rl rc] 46) hcx (by simp)); have e0 := HBX.out.cell (o := 0) (v := .int .i64 k) rfl; have e1 := HBX.out.cell (o := 1) (v := .int .i64 w) rfl; have e2 := HBX.out.cell (o := 2) (v := .int .i64 s) rfl; have e3 := HBX.out.cell (o := 3) (v := .int .i64 c) rfl; have e4 := HBX.out.cell (o := 4) (v := .int .u32 st) rfl; have e5 := HBX.out.cell (o := 5) (v := .slice ia il ic) rfl; have e6 := HBX.out.cell (o := 6) (v := .int .i64 wr) rfl; have e7 := HBX.out.cell (o := 7) (v := .slice ra rl rc) rfl; have HCX := Lib.hid hcx; clear hcx)
      go_ret
      exact ⟨rfl, ((Chg.refl _ _).alloc _).trans HCX.out⟩

set_option maxHeartbeats 4000000 in
theorem fifoBound_any (k : Int) (w s c st : Int) (ia : Option Addr) (il ic : Nat) (wr : Int) (ra : Option Addr) (rl rc : Nat) (op : Int) (h : ObjW k w s c st il rl) (W : World) :
    Calls Tryz.prog 117 #[.agg #[.int .i64 k, .int .i64 w, .int .i64 s, .int .i64 c, .int .u32 st, .slice ia il ic, .int .i64 wr, .slice ra rl rc], .int .i64 op] W fun e W' => e = .returned (.int .i64 (if decide (k = 6) && rightB k w s c st il rl then boundK 6 w c rl op else 0)) ∧ Chg [] W W' := by
  have HRR := Lib.hid (fun u => fifoRight_any k w s c st ia il ic wr ra rl rc h u)
  have hst := h.st32
  clear h
  cases hg : (decide (k = 6) && rightB k w s c st il rl)
  · rw [if_neg (by decide)]
    have HG := Lib.hid hg
    clear hg
    go_enter Tryz.func117, Tryz.ntmps117
    go_wp2_with (go_at_call 60; refine (HRR.out _).mono ?_; rintro e wx ⟨rfl, hcx⟩; rw [HG.out])
    go_ret
    exact ⟨rfl, ((Chg.refl _ _).alloc _).trans hcx⟩
  · rw [if_pos rfl]
    have HG := Lib.hid hg
    have hb := rightB_bd (by simp only [Bool.and_eq_true] at hg; exact hg.2)
    obtain ⟨b1, b2, b3, b4, b5, b6, b7, b8, _, _⟩ := hb
    have hm := mul_bd ⟨b5, b6⟩ ⟨b1, b2⟩
    have hmw : wrap64 (c * (w + 2)) = c * (w + 2) := by unfold wrap64; omega
    have HMW := Lib.hid hmw
    clear hmw
    clear hg hm
    have hop : op = 3 ∨ op = 4 ∨ (op ≠ 3 ∧ op ≠ 4) := by omega
    rcases hop with rfl | rfl | ⟨n3, n4⟩
    · rw [show boundK 6 w c rl 3 = w + 3 from by simp [boundK]]
      go_enter Tryz.func117, Tryz.ntmps117
      go_wp2_with (go_at_call 60; refine (HRR.out _).mono ?_; rintro e wx ⟨rfl, hcx⟩; rw [HG.out]; have HBX := Lib.hid (Blk.keep (Blk.new W #[.int .i64 k, .int .i64 w, .int .i64 s, .int .i64 c, .int .u32 st, .slice ia il ic, .int .i64 wr, .slice ra rl rc] 46) hcx (by simp)); have e0 := HBX.out.cell (o := 0) (v := .int .i64 k) rfl; have e1 := HBX.out.cell (o := 1) (v := .int .i64 w) rfl; have e2 := HBX.out.cell (o := 2) (v := .int .i64 s) rfl; have e3 := HBX.out.cell (o := 3) (v := .int .i64 c) rfl; have e4 := HBX.out.cell (o := 4) (v := .int .u32 st) rfl; have e5 := HBX.out.cell (o := 5) (v := .slice ia il ic) rfl; have e6 := HBX.out.cell (o := 6) (v := .int .i64 wr) rfl; have e7 := HBX.out.cell (o := 7) (v := .slice ra rl rc) rfl; have HCX := Lib.hid hcx; clear hcx)
      go_ret
      exact ⟨by first | rfl | (rw [HMW.out]; rfl), ((Chg.refl _ _).alloc _).trans HCX.out⟩
    · rw [show boundK 6 w c rl 4 = w + 3 from by simp [boundK]]
      go_enter Tryz.func117, Tryz.ntmps117
      go_wp2_with (go_at_call 60; refine (HRR.out _).mono ?_; rintro e wx ⟨rfl, hcx⟩; rw [HG.out]; have HBX := Lib.hid (Blk.keep (Blk.new W #[.int .i64 k, .int .i64 w, .int .i64 s, .int .i64 c, .int .u32 st, .slice ia il ic, .int .i64 wr, .slice ra rl rc] 46) hcx (by simp)); have e0 := HBX.out.cell (o := 0) (v := .int .i64 k) rfl; have e1 := HBX.out.cell (o := 1) (v := .int .i64 w) rfl; have e2 := HBX.out.cell (o := 2) (v := .int .i64 s) rfl; have e3 := HBX.out.cell (o := 3) (v := .int .i64 c) rfl; have e4 := HBX.out.cell (o := 4) (v := .int .u32 st) rfl; have e5 := HBX.out.cell (o := 5) (v := .slice ia il ic) rfl; have e6 := HBX.out.cell (o := 6) (v := .int .i64 wr) rfl; have e7 := HBX.out.cell (o := 7) (v := .slice ra rl rc) rfl; have HCX := Lib.hid hcx; clear hcx)
      go_ret
      exact ⟨by first | rfl | (rw [HMW.out]; rfl), ((Chg.refl _ _).alloc _).trans HCX.out⟩
    · rw [show boundK 6 w c rl op = 0 from by simp [boundK, n3, n4]]
      have m3 : (op == 3) = false := by simpa using n3
      have k3 : (op != 3) = true := by simp [n3]
      have m4 : (op == 4) = false := by simpa using n4
      have k4 : (op != 4) = true := by simp [n4]
      go_enter Tryz.func117, Tryz.ntmps117
      go_wp2_with (go_at_call 60; refine (HRR.out _).mono ?_; rintro e wx ⟨rfl, hcx⟩; rw [HG.out]; have HBX := Lib.hid (Blk.keep (Blk.new W #[.int .i64 k, .int .i64 w, .int .i64 s, .int .i64 c, .int .u32 st, .slice ia il ic, .int .i64 wr, .slice ra rl rc] 46) hcx (by simp)); have e0 := HBX.out.cell (o := 0) (v := .int .i64 k) rfl; have e1 := HBX.out.cell (o := 1) (v := .int .i64 w) rfl; have e2 := HBX.out.cell (o := 2) (v := .int .i64 s) rfl; have e3 := HBX.out.cell (o := 3) (v := .int .i64 c) rfl; have e4 := HBX.out.cell (o := 4) (v := .int .u32 st) rfl; have e5 := HBX.out.cell (o := 5) (v := .slice ia il ic) rfl; have e6 := HBX.out.cell (o := 6) (v := .int .i64 wr) rfl; have e7 := HBX.out.cell (o := 7) (v := .slice ra rl rc) rfl; have HCX := Lib.hid hcx; clear hcx)
      go_ret
      exact ⟨rfl, ((Chg.refl _ _).alloc _).trans HCX.out⟩
end Go.Proofs.YtkedegbpkkgeaaaGreat.obj
/- Parts joined: Rop1, Rop2, Rop3, Rop4. -/
/- The reference's operation: its words in memory; to, end, fail. -/
namespace Go.Proofs.YtkedegbpkkgeaaaGreat.rop
open Go Go.RowKit Go.Proofs.YtkedegbpkkgeaaaGreat.kit Go.Proofs.YtkedegbpkkgeaaaGreat.obj
set_option linter.unusedVariables false
set_option linter.unusedSimpArgs false
set_option maxRecDepth 20000

/-- an operation as the reference has it -/
structure ROp where
  k : Int
  w : Int
  s : Int
  c : Int
  st : Int
  ia : Option Addr
  il : Nat
  ic : Nat
  wr : Int
  ra : Option Addr
  rl : Nat
  rc : Nat
  at_ : Int
  op : Int
  reader : Int
  row : Int
  i : Int
  tries : Int
  code : Int
  steps : Int
  a : Int
  b : Int
  u : Nat → Bool
  rcd : Value
  over : Bool
def ROp.cells (x : ROp) : Array Value := #[.int .i64 x.k, .int .i64 x.w, .int .i64 x.s, .int .i64 x.c, .int .u32 x.st, .slice x.ia x.il x.ic, .int .i64 x.wr, .slice x.ra x.rl x.rc, .int .i64 x.at_, .int .i64 x.op, .int .i64 x.reader, .int .i64 x.row, .int .i64 x.i, .int .i64 x.tries, .int .i64 x.code, .int .i64 x.steps, .int .u32 x.a, .int .u32 x.b, .bool (x.u 0), .bool (x.u 1), .bool (x.u 2), .bool (x.u 3), .bool (x.u 4), .bool (x.u 5), .bool (x.u 6), .bool (x.u 7), .bool (x.u 8), .bool (x.u 9), .bool (x.u 10), .bool (x.u 11), .bool (x.u 12), .bool (x.u 13), .bool (x.u 14), .bool (x.u 15), .bool (x.u 16), .bool (x.u 17), .bool (x.u 18), .bool (x.u 19), x.rcd, .bool x.over]
theorem code_gen {C : Code} {P : Program} {Q : Exit → Act → World → Prop} {a : Act} {W : World} {R : World → Prop} (hp : R W) (h : ∀ W', R W' → C.wp P Q a W') : C.wp P Q a W := h W hp
def ROp.ended (x : ROp) (cd : Int) : ROp := { x with over := true, code := cd, rcd := if cd ≠ 0 ∨ x.op = writesI x.k then .slice none 0 0 else x.rcd }
end Go.Proofs.YtkedegbpkkgeaaaGreat.rop

/- The reference's operation: fail, the words ahead of the records. -/
namespace Go.Proofs.YtkedegbpkkgeaaaGreat.rop
open Go Go.RowKit Go.Proofs.YtkedegbpkkgeaaaGreat.kit Go.Proofs.YtkedegbpkkgeaaaGreat.obj
set_option linter.unusedVariables false
set_option linter.unusedSimpArgs false
set_option maxRecDepth 20000

def headI (k : Int) (rl : Nat) : Int := if k = 1 then 4 else if k = 2 ∨ k = 5 then 1 + rl else if k = 6 then 2 else 1
set_option maxHeartbeats 4000000 in
theorem Head_any (k w s c st : Int) (ia : Option Addr) (il ic : Nat) (wr : Int) (ra : Option Addr) (rl rc : Nat) (hrl : rl ≤ 100) (W : World) :
    Calls Tryz.prog 100 #[.agg #[.int .i64 k, .int .i64 w, .int .i64 s, .int .i64 c, .int .u32 st, .slice ia il ic, .int .i64 wr, .slice ra rl rc]] W fun e W' => e = .returned (.int .i64 (headI k rl)) ∧ Chg [] W W' := by
  by_cases h1 : k = 1
  · rw [show headI k rl = 4 from by simp [headI, h1]]
    have b1 : (k == 1) = true := by simpa using h1
    clear h1
    go_enter Tryz.func100, Tryz.ntmps100
    go_wp2
    go_ret
    exact ⟨rfl, (Chg.refl _ _).alloc _⟩
  have b1 : (k == 1) = false := by simpa using h1
  by_cases h2 : k = 2
  · rw [show headI k rl = 1 + rl from by simp [headI, h1, h2]]
    have b2 : (k == 2) = true := by simpa using h2
    clear h1 h2
    go_enter Tryz.func100, Tryz.ntmps100
    go_wp2
    go_ret
    exact ⟨by rfl, (Chg.refl _ _).alloc _⟩
  have b2 : (k == 2) = false := by simpa using h2
  by_cases h5 : k = 5
  · rw [show headI k rl = 1 + rl from by simp [headI, h1, h2, h5]]
    have b5 : (k == 5) = true := by simpa using h5
    clear h1 h2 h5
    go_enter Tryz.func100, Tryz.ntmps100
    go_wp2
    go_ret
    exact ⟨by rfl, (Chg.refl _ _).alloc _⟩
  have b5 : (k == 5) = false := by simpa using h5
  by_cases h6 : k = 6
  · rw [show headI k rl = 2 from by simp [headI, h1, h2, h5, h6]]
    have b6 : (k == 6) = true := by simpa using h6
    clear h1 h2 h5 h6
    go_enter Tryz.func100, Tryz.ntmps100
    go_wp2
    go_ret
    exact ⟨rfl, (Chg.refl _ _).alloc _⟩
  have b6 : (k == 6) = false := by simpa using h6
  rw [show headI k rl = 1 from by simp [headI, h1, h2, h5, h6]]
  go_enter Tryz.func100, Tryz.ntmps100
  go_wp2
  go_ret
  exact ⟨rfl, (Chg.refl _ _).alloc _⟩
end Go.Proofs.YtkedegbpkkgeaaaGreat.rop

/- The reference's operation: a word of the record is written. -/
namespace Go.Proofs.YtkedegbpkkgeaaaGreat.rop
open Go Go.RowKit Go.Proofs.YtkedegbpkkgeaaaGreat.kit Go.Proofs.YtkedegbpkkgeaaaGreat.obj
set_option linter.unusedVariables false
set_option linter.unusedSimpArgs false
set_option maxRecDepth 20000

def LB (W : World) (g : Nat) (ws : List Int) : Prop := Blk W g (ws.map (Value.int .u32)).toArray 43
theorem then_gen {K : Act → World → Prop} {Q : Exit → Act → World → Prop} {e : Exit} {a : Act} {W : World} {R : World → Prop} (hp : R W) (h : ∀ W', R W' → Exit.then K Q e a W') : Exit.then K Q e a W := h W hp
theorem LB.put {W : World} {g : Nat} {ws : List Int} (h : LB W g ws) (j : Nat) (v : Int) : LB (W.setCell ⟨g, j, none⟩ (.int .u32 v)) g (ws.set j v) := by
  have h1 := Blk.set h j (.int .u32 v)
  unfold LB
  rw [List.map_set]
  simpa using h1
end Go.Proofs.YtkedegbpkkgeaaaGreat.rop

/- The reference's operation: a word of the record is read. -/
namespace Go.Proofs.YtkedegbpkkgeaaaGreat.rop
open Go Go.RowKit Go.Proofs.YtkedegbpkkgeaaaGreat.kit Go.Proofs.YtkedegbpkkgeaaaGreat.obj
set_option linter.unusedVariables false
set_option linter.unusedSimpArgs false
set_option maxRecDepth 20000

/-- the record behind one word more, and the operation with it -/
def nextR (x : ROp) (iN : Nat) (row : Int) (v : Value) : ROp :=
  if (iN : Int) + 1 < x.w then { x with i := (iN : Int) + 1, rcd := v } else if row < 0 then { x with i := (iN : Int) + 1, rcd := v, over := true, code := 0 } else { x with row := row, i := 0, rcd := v }
end Go.Proofs.YtkedegbpkkgeaaaGreat.rop
/- The reference's objects: how many records, how many words. -/
namespace Go.Proofs.YtkedegbpkkgeaaaGreat.rop
open Go Go.RowKit Go.Proofs.YtkedegbpkkgeaaaGreat.kit Go.Proofs.YtkedegbpkkgeaaaGreat.obj
set_option linter.unusedVariables false
set_option linter.unusedSimpArgs false
set_option maxRecDepth 20000

def recordsI (k s : Int) (rl : Nat) : Int := if k = 1 then 4 else if k = 2 then rl + 2 else if k = 3 then 1 else s
set_option maxHeartbeats 4000000 in
theorem Records_any (k : Int) (w s c st : Int) (ia : Option Addr) (il ic : Nat) (wr : Int) (ra : Option Addr) (rl rc : Nat) (hrl : rl ≤ 100) (W : World) :
    Calls Tryz.prog 101 #[.agg #[.int .i64 k, .int .i64 w, .int .i64 s, .int .i64 c, .int .u32 st, .slice ia il ic, .int .i64 wr, .slice ra rl rc]] W fun e W' => e = .returned (.int .i64 (recordsI k s rl)) ∧ Chg [] W W' := by
  by_cases h1 : k = 1
  · rw [show recordsI k s rl = 4 from by simp [recordsI, h1]]
    have b1 : (k == 1) = true := by simpa using h1
    clear h1
    go_enter Tryz.func101, Tryz.ntmps101
    go_wp2
    go_ret
    exact ⟨by rfl, (Chg.refl _ _).alloc _⟩
  have b1 : (k == 1) = false := by simpa using h1
  by_cases h2 : k = 2
  · rw [show recordsI k s rl = rl + 2 from by simp [recordsI, h1, h2]]
    have b2 : (k == 2) = true := by simpa using h2
    clear h1 h2
    go_enter Tryz.func101, Tryz.ntmps101
    go_wp2
    go_ret
    exact ⟨by rfl, (Chg.refl _ _).alloc _⟩
  have b2 : (k == 2) = false := by simpa using h2
  by_cases h3 : k = 3
  · rw [show recordsI k s rl = 1 from by simp [recordsI, h1, h2, h3]]
    have b3 : (k == 3) = true := by simpa using h3
    clear h1 h2 h3
    go_enter Tryz.func101, Tryz.ntmps101
    go_wp2
    go_ret
    exact ⟨by rfl, (Chg.refl _ _).alloc _⟩
  have b3 : (k == 3) = false := by simpa using h3
  rw [show recordsI k s rl = s from by simp [recordsI, h1, h2, h3]]
  clear h1 h2 h3
  go_enter Tryz.func101, Tryz.ntmps101
  go_wp2
  go_ret
  exact ⟨by rfl, (Chg.refl _ _).alloc _⟩

def sizeI (k w s c st : Int) (il rl : Nat) : Int := if rightB k w s c st il rl then headI k rl + recordsI k s rl * w else 0
theorem records_bd {k w s c st : Int} {il rl : Nat} (h : rightB k w s c st il rl = true) : 0 ≤ recordsI k s rl ∧ recordsI k s rl ≤ 16 := by
  have hb := rightB_bd h
  unfold recordsI
  repeat' split
  all_goals omega
theorem mul16 {a b : Int} (ha : 0 ≤ a ∧ a ≤ 16) (hb : 1 ≤ b ∧ b ≤ 8) : 0 ≤ a * b ∧ a * b ≤ 128 := by
  have h1 : a * b ≤ 16 * b := Int.mul_le_mul_of_nonneg_right ha.2 (by omega)
  have h2 : 0 ≤ a * b := Int.mul_nonneg ha.1 (by omega)
  omega
theorem size_val {k w s c st : Int} {il rl : Nat} (hrl : rl ≤ 100) (h : rightB k w s c st il rl = true) : IntKind.i64.wrap (headI k rl + IntKind.i64.wrap (recordsI k s rl * w)) = headI k rl + recordsI k s rl * w := by
  have hb := rightB_bd h
  have hm := mul16 (records_bd h) ⟨hb.1, hb.2.1⟩
  have hh : 0 ≤ headI k rl ∧ headI k rl ≤ 200 := by
    unfold headI; repeat' split
    all_goals omega
  rw [IntKind.wrap_i64, IntKind.wrap_i64]; omega
set_option maxHeartbeats 4000000 in
theorem Size_any (k : Int) (w s c st : Int) (ia : Option Addr) (il ic : Nat) (wr : Int) (ra : Option Addr) (rl rc : Nat) (h : ObjW k w s c st il rl) (W : World) :
    Calls Tryz.prog 71 #[.agg #[.int .i64 k, .int .i64 w, .int .i64 s, .int .i64 c, .int .u32 st, .slice ia il ic, .int .i64 wr, .slice ra rl rc]] W fun e W' => e = .returned (.int .i64 (sizeI k w s c st il rl)) ∧ Chg [] W W' := by
  have HRR := Lib.hid (fun u => rRight_any k w s c st ia il ic wr ra rl rc h u)
  have HRL := Lib.hid h.rlen
  clear h
  have HBX : Hid (Blk (W.alloc (.cells #[.int .i64 k, .int .i64 w, .int .i64 s, .int .i64 c, .int .u32 st, .slice ia il ic, .int .i64 wr, .slice ra rl rc] 46)) W.heap.size #[.int .i64 k, .int .i64 w, .int .i64 s, .int .i64 c, .int .u32 st, .slice ia il ic, .int .i64 wr, .slice ra rl rc] 46) := Lib.hid (Blk.new W _ _)
  have HCC : Hid (Chg [] W (W.alloc (.cells #[.int .i64 k, .int .i64 w, .int .i64 s, .int .i64 c, .int .u32 st, .slice ia il ic, .int .i64 wr, .slice ra rl rc] 46))) := Lib.hid ((Chg.refl _ _).alloc _)
  cases hg : rightB k w s c st il rl
  · rw [show sizeI k w s c st il rl = 0 from by unfold sizeI; rw [hg]; rfl]
    have HG := Lib.hid hg
    clear hg
    go_enter Tryz.func71, Tryz.ntmps71
    go_wp2_with (go_at_call 69; refine (HRR.out _).mono ?_; rintro e wx ⟨rfl, hcx⟩; rw [HG.out]; have HBX := Lib.hid (Blk.keep HBX.out hcx (by simp)); have e0 := HBX.out.cell (o := 0) (v := .int .i64 k) rfl; have e1 := HBX.out.cell (o := 1) (v := .int .i64 w) rfl; have e2 := HBX.out.cell (o := 2) (v := .int .i64 s) rfl; have e3 := HBX.out.cell (o := 3) (v := .int .i64 c) rfl; have e4 := HBX.out.cell (o := 4) (v := .int .u32 st) rfl; have e5 := HBX.out.cell (o := 5) (v := .slice ia il ic) rfl; have e6 := HBX.out.cell (o := 6) (v := .int .i64 wr) rfl; have e7 := HBX.out.cell (o := 7) (v := .slice ra rl rc) rfl; have HCC := Lib.hid (HCC.out.trans hcx); clear hcx)
    go_ret
    exact ⟨rfl, HCC.out⟩
  have HV := Lib.hid (size_val HRL.out hg)
  rw [show sizeI k w s c st il rl = headI k rl + recordsI k s rl * w from by unfold sizeI; rw [hg]; rfl]
  have HG := Lib.hid hg
  clear hg
  go_enter Tryz.func71, Tryz.ntmps71
  go_wp2_with (go_at_call 69; refine (HRR.out _).mono ?_; rintro e W0 ⟨rfl, hcx⟩; rw [HG.out]; have HBX := Lib.hid (Blk.keep HBX.out hcx (by simp)); have e0 := HBX.out.cell (o := 0) (v := .int .i64 k) rfl; have e1 := HBX.out.cell (o := 1) (v := .int .i64 w) rfl; have e2 := HBX.out.cell (o := 2) (v := .int .i64 s) rfl; have e3 := HBX.out.cell (o := 3) (v := .int .i64 c) rfl; have e4 := HBX.out.cell (o := 4) (v := .int .u32 st) rfl; have e5 := HBX.out.cell (o := 5) (v := .slice ia il ic) rfl; have e6 := HBX.out.cell (o := 6) (v := .int .i64 wr) rfl; have e7 := HBX.out.cell (o := 7) (v := .slice ra rl rc) rfl; have HCC := Lib.hid (HCC.out.trans hcx); clear hcx)
  have hB0 : Blk W0 W.heap.size #[.int .i64 k, .int .i64 w, .int .i64 s, .int .i64 c, .int .u32 st, .slice ia il ic, .int .i64 wr, .slice ra rl rc] 46 := HBX.out
  have e0 : W0.cell? ⟨W.heap.size, 0, none⟩ = some (.int .i64 k) := hB0.cell rfl
  have e1 : W0.cell? ⟨W.heap.size, 1, none⟩ = some (.int .i64 w) := hB0.cell rfl
  have e2 : W0.cell? ⟨W.heap.size, 2, none⟩ = some (.int .i64 s) := hB0.cell rfl
  have e3 : W0.cell? ⟨W.heap.size, 3, none⟩ = some (.int .i64 c) := hB0.cell rfl
  have e4 : W0.cell? ⟨W.heap.size, 4, none⟩ = some (.int .u32 st) := hB0.cell rfl
  have e5 : W0.cell? ⟨W.heap.size, 5, none⟩ = some (.slice ia il ic) := hB0.cell rfl
  have e6 : W0.cell? ⟨W.heap.size, 6, none⟩ = some (.int .i64 wr) := hB0.cell rfl
  have e7 : W0.cell? ⟨W.heap.size, 7, none⟩ = some (.slice ra rl rc) := hB0.cell rfl
  have KEEP := Lib.hid (fun (V : World) (h : Chg [] W0 V) => (⟨h.keep e0 (by simp), h.keep e1 (by simp), h.keep e2 (by simp), h.keep e3 (by simp), h.keep e4 (by simp), h.keep e5 (by simp), h.keep e6 (by simp), h.keep e7 (by simp), Lib.hid h⟩ : (fun V : World => V.cell? ⟨W.heap.size, 0, none⟩ = some (.int .i64 k) ∧ V.cell? ⟨W.heap.size, 1, none⟩ = some (.int .i64 w) ∧ V.cell? ⟨W.heap.size, 2, none⟩ = some (.int .i64 s) ∧ V.cell? ⟨W.heap.size, 3, none⟩ = some (.int .i64 c) ∧ V.cell? ⟨W.heap.size, 4, none⟩ = some (.int .u32 st) ∧ V.cell? ⟨W.heap.size, 5, none⟩ = some (.slice ia il ic) ∧ V.cell? ⟨W.heap.size, 6, none⟩ = some (.int .i64 wr) ∧ V.cell? ⟨W.heap.size, 7, none⟩ = some (.slice ra rl rc) ∧ Hid (Chg [] W0 V)) V))
  clear e0 e1 e2 e3 e4 e5 e6 e7 hB0
  have hHeld : (fun V : World => V.cell? ⟨W.heap.size, 0, none⟩ = some (.int .i64 k) ∧ V.cell? ⟨W.heap.size, 1, none⟩ = some (.int .i64 w) ∧ V.cell? ⟨W.heap.size, 2, none⟩ = some (.int .i64 s) ∧ V.cell? ⟨W.heap.size, 3, none⟩ = some (.int .i64 c) ∧ V.cell? ⟨W.heap.size, 4, none⟩ = some (.int .u32 st) ∧ V.cell? ⟨W.heap.size, 5, none⟩ = some (.slice ia il ic) ∧ V.cell? ⟨W.heap.size, 6, none⟩ = some (.int .i64 wr) ∧ V.cell? ⟨W.heap.size, 7, none⟩ = some (.slice ra rl rc) ∧ Hid (Chg [] W0 V)) (World.drew W0) := KEEP.out _ (Chg.refl _ _).drew
  refine wp_region_plan (fun V : World => V.cell? ⟨W.heap.size, 0, none⟩ = some (.int .i64 k) ∧ V.cell? ⟨W.heap.size, 1, none⟩ = some (.int .i64 w) ∧ V.cell? ⟨W.heap.size, 2, none⟩ = some (.int .i64 s) ∧ V.cell? ⟨W.heap.size, 3, none⟩ = some (.int .i64 c) ∧ V.cell? ⟨W.heap.size, 4, none⟩ = some (.int .u32 st) ∧ V.cell? ⟨W.heap.size, 5, none⟩ = some (.slice ia il ic) ∧ V.cell? ⟨W.heap.size, 6, none⟩ = some (.int .i64 wr) ∧ V.cell? ⟨W.heap.size, 7, none⟩ = some (.slice ra rl rc) ∧ Hid (Chg [] W0 V)) [(0, true, some 6), (2, true, some 8), (4, true, some 10), (5, true, some 11), (1, false, some 7), (3, false, some 9), (6, true, some 12), (7, true, some 13), (8, true, some 2)] (by kernel_rfl) (by kernel_rfl) (by kernel_rfl) (by kernel_rfl) (fun d c a v w h => by cases d <;> exact h) hHeld ?_
  repeat (first
    | (refine planWp_read (v := ?_) rfl rfl ?_ ?_ ?_; rotate_left; (focus rfl); (focus (intro u hSw; (try dsimp only at hSw); go_simp; (try with_reducible rfl))); (try simp only [Act.put, List.setIfInBounds_toArray, List.set_cons_zero, List.set_cons_succ]))
    | (refine planWp_skip rfl rfl ?_ ?_; (focus rfl); (try simp only [Act.put, List.setIfInBounds_toArray, List.set_cons_zero, List.set_cons_succ]))
    | (refine planWp_leave rfl rfl ?_ hHeld ?_; (focus rfl); (try simp only [Act.put, List.setIfInBounds_toArray, List.set_cons_zero, List.set_cons_succ]))
    | (refine planWp_do rfl rfl ?_ (fun K hK => ?_); (focus rfl); go_simp; (try go_wp2_with (first | (go_at_call 100; refine (Head_any _ _ _ _ _ _ _ _ _ _ _ _ HRL.out _).mono ?_; rintro e wx ⟨rfl, hcx⟩; have HCX := Lib.hid hcx; clear hcx) | (go_at_call 101; refine (Records_any _ _ _ _ _ _ _ _ _ _ _ _ HRL.out _).mono ?_; rintro e wx ⟨rfl, hcx⟩; have HCX := Lib.hid hcx; clear hcx))); refine hK.out _ _ ?_ (fun hHeld2 => ?_); (focus (have hcn := Chg.trans hHeld.2.2.2.2.2.2.2.2.out HCX.out; exact KEEP.out _ hcn)); clear hK K hHeld; have hHeld := hHeld2; clear hHeld2; (try simp only [Act.put, List.setIfInBounds_toArray, List.set_cons_zero, List.set_cons_succ])))
  refine planWp_nil ?_
  have HCC := Lib.hid (HCC.out.trans hHeld.2.2.2.2.2.2.2.2.out)
  clear hHeld KEEP
  go_wp2_with fail
  go_ret
  exact ⟨by (refine ret_int ?_; exact HV.out), HCC.out⟩
end Go.Proofs.YtkedegbpkkgeaaaGreat.rop
/- Parts joined: Rop5, Rop6. -/
/- The reference's operation: the kind of four slots: the rows that are no words of a record. -/
namespace Go.Proofs.YtkedegbpkkgeaaaGreat.rop
open Go Go.RowKit Go.Proofs.YtkedegbpkkgeaaaGreat.kit Go.Proofs.YtkedegbpkkgeaaaGreat.obj
set_option linter.unusedVariables false
set_option linter.unusedSimpArgs false
set_option maxRecDepth 20000

theorem LB.word {W : World} {g : Nat} {ws : List Int} (h : LB W g ws) (j : Nat) (hj : j < ws.length) : W.cell? ⟨g, j, none⟩ = some (.int .u32 (ws.getD j 0)) := Blk.cell h (by simp [List.getD, hj])

end Go.Proofs.YtkedegbpkkgeaaaGreat.rop

/- The reference's operation: the kind of four slots: the rows that are words of a record, and the row that tells the slot. -/
namespace Go.Proofs.YtkedegbpkkgeaaaGreat.rop
open Go Go.RowKit Go.Proofs.YtkedegbpkkgeaaaGreat.kit Go.Proofs.YtkedegbpkkgeaaaGreat.obj
set_option linter.unusedVariables false
set_option linter.unusedSimpArgs false
set_option maxRecDepth 20000

end Go.Proofs.YtkedegbpkkgeaaaGreat.rop
/- Objects: how many steps an operation has: the reference's. -/
namespace Go.Proofs.YtkedegbpkkgeaaaGreat.obj
open Go Go.RowKit Go.Proofs.YtkedegbpkkgeaaaGreat.kit
set_option linter.unusedVariables false
set_option linter.unusedSimpArgs false
set_option maxRecDepth 20000

end Go.Proofs.YtkedegbpkkgeaaaGreat.obj
