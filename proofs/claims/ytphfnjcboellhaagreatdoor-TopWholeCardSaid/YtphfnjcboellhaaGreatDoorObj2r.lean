import Derived.Test.YtphfnjcboellhaaGreatDoorObjA
namespace Go.Proofs.YtphfnjcboellhaaGreatDoor.obj
open Go Go.RowKit kit
set_option maxRecDepth 20000
set_option maxHeartbeats 8000000 in
theorem ringRight_any (k : Int) (w s c st : Int) (ia : Option Addr) (il ic : Nat) (wr : Int) (ra : Option Addr) (rl rc : Nat) (h : ObjW k w s c st il rl) (W : World) :
 Calls Tryz.prog 83 #[.agg #[.int .i64 k, .int .i64 w, .int .i64 s, .int .i64 c, .int .u32 st, .slice ia il ic, .int .i64 wr, .slice ra rl rc]] W fun e W' => e = .returned (.bool (decide (k = 4) && rightB k w s c st il rl)) /\ Chg [] W W' := by
 have HO := hid h
 have hst := h.st32
 clear h
 generalize hr : (decide (k = 4) && rightB k w s c st il rl) = r
 cases hwords : wordsOk k 4 w il w rl
 · have HW := hid hwords
   have hf : r = false := by
    rw [<- hr]
    simp only [wordsOk, decide_eq_false_iff_not] at hwords
    rw [Bool.eq_false_iff]
    intro hx
    simp [rightB] at hx
    omega
   subst hf
   clear hwords hr
   go_enter Tryz.func83, Tryz.ntmps83
   go_wp2_with fail
   generalize hW0 : (W.alloc (.cells #[.int .i64 k, .int .i64 w, .int .i64 s, .int .i64 c, .int .u32 st, .slice ia il ic, .int .i64 wr, .slice ra rl rc] 26)) = W0
   have hB0 : Blk W0 W.heap.size #[.int .i64 k, .int .i64 w, .int .i64 s, .int .i64 c, .int .u32 st, .slice ia il ic, .int .i64 wr, .slice ra rl rc] 26 := by rw [<- hW0]; exact Blk.new W _ _
   have HC0 : Hid (Chg [] W W0) := hid (by rw [<- hW0]; exact (Chg.refl _ _).alloc _)
   clear hW0
   have e0 : W0.cell? ⟨W.heap.size, 0, none⟩ = some (.int .i64 k) := hB0.cell rfl
   have e1 : W0.cell? ⟨W.heap.size, 1, none⟩ = some (.int .i64 w) := hB0.cell rfl
   have e2 : W0.cell? ⟨W.heap.size, 2, none⟩ = some (.int .i64 s) := hB0.cell rfl
   have e3 : W0.cell? ⟨W.heap.size, 3, none⟩ = some (.int .i64 c) := hB0.cell rfl
   have e4 : W0.cell? ⟨W.heap.size, 4, none⟩ = some (.int .u32 st) := hB0.cell rfl
   have e5 : W0.cell? ⟨W.heap.size, 5, none⟩ = some (.slice ia il ic) := hB0.cell rfl
   have e6 : W0.cell? ⟨W.heap.size, 6, none⟩ = some (.int .i64 wr) := hB0.cell rfl
   have e7 : W0.cell? ⟨W.heap.size, 7, none⟩ = some (.slice ra rl rc) := hB0.cell rfl
   have KEEP := hid (fun (V : World) (h : Chg [] W0 V) => (⟨h.keep e0 (by simp), h.keep e1 (by simp), h.keep e2 (by simp), h.keep e3 (by simp), h.keep e4 (by simp), h.keep e5 (by simp), h.keep e6 (by simp), h.keep e7 (by simp), hid h⟩ : (fun V : World => V.cell? ⟨W.heap.size, 0, none⟩ = some (.int .i64 k) /\ V.cell? ⟨W.heap.size, 1, none⟩ = some (.int .i64 w) /\ V.cell? ⟨W.heap.size, 2, none⟩ = some (.int .i64 s) /\ V.cell? ⟨W.heap.size, 3, none⟩ = some (.int .i64 c) /\ V.cell? ⟨W.heap.size, 4, none⟩ = some (.int .u32 st) /\ V.cell? ⟨W.heap.size, 5, none⟩ = some (.slice ia il ic) /\ V.cell? ⟨W.heap.size, 6, none⟩ = some (.int .i64 wr) /\ V.cell? ⟨W.heap.size, 7, none⟩ = some (.slice ra rl rc) /\ Hid (Chg [] W0 V)) V))
   clear e0 e1 e2 e3 e4 e5 e6 e7 hB0
   have hHeld : (fun V : World => V.cell? ⟨W.heap.size, 0, none⟩ = some (.int .i64 k) /\ V.cell? ⟨W.heap.size, 1, none⟩ = some (.int .i64 w) /\ V.cell? ⟨W.heap.size, 2, none⟩ = some (.int .i64 s) /\ V.cell? ⟨W.heap.size, 3, none⟩ = some (.int .i64 c) /\ V.cell? ⟨W.heap.size, 4, none⟩ = some (.int .u32 st) /\ V.cell? ⟨W.heap.size, 5, none⟩ = some (.slice ia il ic) /\ V.cell? ⟨W.heap.size, 6, none⟩ = some (.int .i64 wr) /\ V.cell? ⟨W.heap.size, 7, none⟩ = some (.slice ra rl rc) /\ Hid (Chg [] W0 V)) (World.drew W0) := KEEP.out _ (Chg.refl _ _).drew
   refine wp_region_plan (fun V : World => V.cell? ⟨W.heap.size, 0, none⟩ = some (.int .i64 k) /\ V.cell? ⟨W.heap.size, 1, none⟩ = some (.int .i64 w) /\ V.cell? ⟨W.heap.size, 2, none⟩ = some (.int .i64 s) /\ V.cell? ⟨W.heap.size, 3, none⟩ = some (.int .i64 c) /\ V.cell? ⟨W.heap.size, 4, none⟩ = some (.int .u32 st) /\ V.cell? ⟨W.heap.size, 5, none⟩ = some (.slice ia il ic) /\ V.cell? ⟨W.heap.size, 6, none⟩ = some (.int .i64 wr) /\ V.cell? ⟨W.heap.size, 7, none⟩ = some (.slice ra rl rc) /\ Hid (Chg [] W0 V)) [(0, true, some 3), (1, true, some 4), (2, true, some 5), (3, false, some 6), (4, true, some 7), (5, true, some 8), (6, true, some 9), (7, true, some 10), (8, true, some 11), (9, true, some 12), (10, true, some 13), (11, true, some 14), (12, true, some 15), (13, true, some 16), (14, true, some 17), (15, true, some 18), (16, false, some 19), (17, true, some 20), (18, true, some 21), (19, true, some 22), (20, true, some 23), (21, true, some 24), (22, false, some 25), (23, true, some 26), (24, true, some 27), (25, true, some 2)] (by kernel_rfl) (by kernel_rfl) (by kernel_rfl) (by kernel_rfl) (fun d c a v w h => by cases d <;> exact h) hHeld ?_
   repeat (first
    | (refine planWp_read (v := ?_) rfl rfl ?_ ?_ ?_; rotate_left; (focus rfl); (focus (intro u hSw; (try dsimp only at hSw); go_simp; (try with_reducible rfl))); (try simp only [Act.put, sA, sB, sC]))
    | (refine planWp_skip rfl rfl ?_ ?_; (focus rfl); (try simp only [Act.put, sA, sB, sC]))
    | (refine planWp_leave rfl rfl ?_ hHeld ?_; (focus rfl); (try simp only [Act.put, sA, sB, sC]))
    | (refine planWp_do rfl rfl ?_ (fun K hK => ?_); (focus rfl); go_simp; (try go_wp2_with (first | (go_at_call 119; refine (mWords_any k 4 w w s c st ia il ic wr ra rl rc HO.out _).mono ?_; rintro e wx ⟨rfl, hcx⟩; rw [HW.out]; have HCX := hid hcx; clear hcx) | (go_at_call 120; refine (mCaps_any _ _ _ _ _ _ _ _ _ _ _ _ _).mono ?_; rintro e wx ⟨rfl, hcx⟩; rw [HQ.out]; have HCX := hid hcx; clear hcx) | (go_at_call 121; refine (ringMod_any _ _ _ _ _ _ _ _ _ _ _ _ HS.out _).mono ?_; rintro e wx ⟨rfl, hcx⟩; have HCX := hid hcx; clear hcx))); refine hK.out _ _ ?_ (fun hHeld2 => ?_); (focus (have hcn := Chg.trans hHeld.2.2.2.2.2.2.2.2.out HCX.out; exact KEEP.out _ hcn)); clear hK K hHeld; have hHeld := hHeld2; clear hHeld2; (try simp only [Act.put, sA, sB, sC])))
   refine planWp_nil ?_
   have HCC := hid (HC0.out.trans hHeld.2.2.2.2.2.2.2.2.out)
   clear hHeld KEEP
   go_wp2_with fail
   go_ret
   exact ⟨by rfl, HCC.out⟩
 have HW := hid hwords
 simp only [wordsOk, decide_eq_true_eq] at hwords
 by_cases p0 : 2 <= s
 rotate_left
 · have hf : r = false := by
    rw [<- hr]
    rw [Bool.eq_false_iff]
    intro hx
    simp [rightB] at hx
    omega
   subst hf
   have q0 : decide (2 <= s) = false := by simp; omega
   clear hwords hr p0
   go_enter Tryz.func83, Tryz.ntmps83
   go_wp2_with fail
   generalize hW0 : (W.alloc (.cells #[.int .i64 k, .int .i64 w, .int .i64 s, .int .i64 c, .int .u32 st, .slice ia il ic, .int .i64 wr, .slice ra rl rc] 26)) = W0
   have hB0 : Blk W0 W.heap.size #[.int .i64 k, .int .i64 w, .int .i64 s, .int .i64 c, .int .u32 st, .slice ia il ic, .int .i64 wr, .slice ra rl rc] 26 := by rw [<- hW0]; exact Blk.new W _ _
   have HC0 : Hid (Chg [] W W0) := hid (by rw [<- hW0]; exact (Chg.refl _ _).alloc _)
   clear hW0
   have e0 : W0.cell? ⟨W.heap.size, 0, none⟩ = some (.int .i64 k) := hB0.cell rfl
   have e1 : W0.cell? ⟨W.heap.size, 1, none⟩ = some (.int .i64 w) := hB0.cell rfl
   have e2 : W0.cell? ⟨W.heap.size, 2, none⟩ = some (.int .i64 s) := hB0.cell rfl
   have e3 : W0.cell? ⟨W.heap.size, 3, none⟩ = some (.int .i64 c) := hB0.cell rfl
   have e4 : W0.cell? ⟨W.heap.size, 4, none⟩ = some (.int .u32 st) := hB0.cell rfl
   have e5 : W0.cell? ⟨W.heap.size, 5, none⟩ = some (.slice ia il ic) := hB0.cell rfl
   have e6 : W0.cell? ⟨W.heap.size, 6, none⟩ = some (.int .i64 wr) := hB0.cell rfl
   have e7 : W0.cell? ⟨W.heap.size, 7, none⟩ = some (.slice ra rl rc) := hB0.cell rfl
   have KEEP := hid (fun (V : World) (h : Chg [] W0 V) => (⟨h.keep e0 (by simp), h.keep e1 (by simp), h.keep e2 (by simp), h.keep e3 (by simp), h.keep e4 (by simp), h.keep e5 (by simp), h.keep e6 (by simp), h.keep e7 (by simp), hid h⟩ : (fun V : World => V.cell? ⟨W.heap.size, 0, none⟩ = some (.int .i64 k) /\ V.cell? ⟨W.heap.size, 1, none⟩ = some (.int .i64 w) /\ V.cell? ⟨W.heap.size, 2, none⟩ = some (.int .i64 s) /\ V.cell? ⟨W.heap.size, 3, none⟩ = some (.int .i64 c) /\ V.cell? ⟨W.heap.size, 4, none⟩ = some (.int .u32 st) /\ V.cell? ⟨W.heap.size, 5, none⟩ = some (.slice ia il ic) /\ V.cell? ⟨W.heap.size, 6, none⟩ = some (.int .i64 wr) /\ V.cell? ⟨W.heap.size, 7, none⟩ = some (.slice ra rl rc) /\ Hid (Chg [] W0 V)) V))
   clear e0 e1 e2 e3 e4 e5 e6 e7 hB0
   have hHeld : (fun V : World => V.cell? ⟨W.heap.size, 0, none⟩ = some (.int .i64 k) /\ V.cell? ⟨W.heap.size, 1, none⟩ = some (.int .i64 w) /\ V.cell? ⟨W.heap.size, 2, none⟩ = some (.int .i64 s) /\ V.cell? ⟨W.heap.size, 3, none⟩ = some (.int .i64 c) /\ V.cell? ⟨W.heap.size, 4, none⟩ = some (.int .u32 st) /\ V.cell? ⟨W.heap.size, 5, none⟩ = some (.slice ia il ic) /\ V.cell? ⟨W.heap.size, 6, none⟩ = some (.int .i64 wr) /\ V.cell? ⟨W.heap.size, 7, none⟩ = some (.slice ra rl rc) /\ Hid (Chg [] W0 V)) (World.drew W0) := KEEP.out _ (Chg.refl _ _).drew
   refine wp_region_plan (fun V : World => V.cell? ⟨W.heap.size, 0, none⟩ = some (.int .i64 k) /\ V.cell? ⟨W.heap.size, 1, none⟩ = some (.int .i64 w) /\ V.cell? ⟨W.heap.size, 2, none⟩ = some (.int .i64 s) /\ V.cell? ⟨W.heap.size, 3, none⟩ = some (.int .i64 c) /\ V.cell? ⟨W.heap.size, 4, none⟩ = some (.int .u32 st) /\ V.cell? ⟨W.heap.size, 5, none⟩ = some (.slice ia il ic) /\ V.cell? ⟨W.heap.size, 6, none⟩ = some (.int .i64 wr) /\ V.cell? ⟨W.heap.size, 7, none⟩ = some (.slice ra rl rc) /\ Hid (Chg [] W0 V)) [(0, true, some 3), (1, true, some 4), (2, true, some 5), (3, false, some 6), (4, true, some 7), (5, true, some 8), (6, true, some 9), (7, true, some 10), (8, true, some 11), (9, true, some 12), (10, true, some 13), (11, true, some 14), (12, true, some 15), (13, true, some 16), (14, true, some 17), (15, true, some 18), (16, false, some 19), (17, true, some 20), (18, true, some 21), (19, true, some 22), (20, true, some 23), (21, true, some 24), (22, false, some 25), (23, true, some 26), (24, true, some 27), (25, true, some 2)] (by kernel_rfl) (by kernel_rfl) (by kernel_rfl) (by kernel_rfl) (fun d c a v w h => by cases d <;> exact h) hHeld ?_
   repeat (first
    | (refine planWp_read (v := ?_) rfl rfl ?_ ?_ ?_; rotate_left; (focus rfl); (focus (intro u hSw; (try dsimp only at hSw); go_simp; (try with_reducible rfl))); (try simp only [Act.put, sA, sB, sC]))
    | (refine planWp_skip rfl rfl ?_ ?_; (focus rfl); (try simp only [Act.put, sA, sB, sC]))
    | (refine planWp_leave rfl rfl ?_ hHeld ?_; (focus rfl); (try simp only [Act.put, sA, sB, sC]))
    | (refine planWp_do rfl rfl ?_ (fun K hK => ?_); (focus rfl); go_simp; (try go_wp2_with (first | (go_at_call 119; refine (mWords_any k 4 w w s c st ia il ic wr ra rl rc HO.out _).mono ?_; rintro e wx ⟨rfl, hcx⟩; rw [HW.out]; have HCX := hid hcx; clear hcx) | (go_at_call 120; refine (mCaps_any _ _ _ _ _ _ _ _ _ _ _ _ _).mono ?_; rintro e wx ⟨rfl, hcx⟩; rw [HQ.out]; have HCX := hid hcx; clear hcx) | (go_at_call 121; refine (ringMod_any _ _ _ _ _ _ _ _ _ _ _ _ HS.out _).mono ?_; rintro e wx ⟨rfl, hcx⟩; have HCX := hid hcx; clear hcx))); refine hK.out _ _ ?_ (fun hHeld2 => ?_); (focus (have hcn := Chg.trans hHeld.2.2.2.2.2.2.2.2.out HCX.out; exact KEEP.out _ hcn)); clear hK K hHeld; have hHeld := hHeld2; clear hHeld2; (try simp only [Act.put, sA, sB, sC])))
   refine planWp_nil ?_
   have HCC := hid (HC0.out.trans hHeld.2.2.2.2.2.2.2.2.out)
   clear hHeld KEEP
   go_wp2_with fail
   go_ret
   exact ⟨by rfl, HCC.out⟩
 have q0 : decide (2 <= s) = true := by simp; omega
 by_cases p1 : s <= 16
 rotate_left
 · have hf : r = false := by
    rw [<- hr]
    rw [Bool.eq_false_iff]
    intro hx
    simp [rightB] at hx
    omega
   subst hf
   have q1 : decide (s <= 16) = false := by simp; omega
   clear hwords hr p0 p1
   go_enter Tryz.func83, Tryz.ntmps83
   go_wp2_with fail
   generalize hW0 : (W.alloc (.cells #[.int .i64 k, .int .i64 w, .int .i64 s, .int .i64 c, .int .u32 st, .slice ia il ic, .int .i64 wr, .slice ra rl rc] 26)) = W0
   have hB0 : Blk W0 W.heap.size #[.int .i64 k, .int .i64 w, .int .i64 s, .int .i64 c, .int .u32 st, .slice ia il ic, .int .i64 wr, .slice ra rl rc] 26 := by rw [<- hW0]; exact Blk.new W _ _
   have HC0 : Hid (Chg [] W W0) := hid (by rw [<- hW0]; exact (Chg.refl _ _).alloc _)
   clear hW0
   have e0 : W0.cell? ⟨W.heap.size, 0, none⟩ = some (.int .i64 k) := hB0.cell rfl
   have e1 : W0.cell? ⟨W.heap.size, 1, none⟩ = some (.int .i64 w) := hB0.cell rfl
   have e2 : W0.cell? ⟨W.heap.size, 2, none⟩ = some (.int .i64 s) := hB0.cell rfl
   have e3 : W0.cell? ⟨W.heap.size, 3, none⟩ = some (.int .i64 c) := hB0.cell rfl
   have e4 : W0.cell? ⟨W.heap.size, 4, none⟩ = some (.int .u32 st) := hB0.cell rfl
   have e5 : W0.cell? ⟨W.heap.size, 5, none⟩ = some (.slice ia il ic) := hB0.cell rfl
   have e6 : W0.cell? ⟨W.heap.size, 6, none⟩ = some (.int .i64 wr) := hB0.cell rfl
   have e7 : W0.cell? ⟨W.heap.size, 7, none⟩ = some (.slice ra rl rc) := hB0.cell rfl
   have KEEP := hid (fun (V : World) (h : Chg [] W0 V) => (⟨h.keep e0 (by simp), h.keep e1 (by simp), h.keep e2 (by simp), h.keep e3 (by simp), h.keep e4 (by simp), h.keep e5 (by simp), h.keep e6 (by simp), h.keep e7 (by simp), hid h⟩ : (fun V : World => V.cell? ⟨W.heap.size, 0, none⟩ = some (.int .i64 k) /\ V.cell? ⟨W.heap.size, 1, none⟩ = some (.int .i64 w) /\ V.cell? ⟨W.heap.size, 2, none⟩ = some (.int .i64 s) /\ V.cell? ⟨W.heap.size, 3, none⟩ = some (.int .i64 c) /\ V.cell? ⟨W.heap.size, 4, none⟩ = some (.int .u32 st) /\ V.cell? ⟨W.heap.size, 5, none⟩ = some (.slice ia il ic) /\ V.cell? ⟨W.heap.size, 6, none⟩ = some (.int .i64 wr) /\ V.cell? ⟨W.heap.size, 7, none⟩ = some (.slice ra rl rc) /\ Hid (Chg [] W0 V)) V))
   clear e0 e1 e2 e3 e4 e5 e6 e7 hB0
   have hHeld : (fun V : World => V.cell? ⟨W.heap.size, 0, none⟩ = some (.int .i64 k) /\ V.cell? ⟨W.heap.size, 1, none⟩ = some (.int .i64 w) /\ V.cell? ⟨W.heap.size, 2, none⟩ = some (.int .i64 s) /\ V.cell? ⟨W.heap.size, 3, none⟩ = some (.int .i64 c) /\ V.cell? ⟨W.heap.size, 4, none⟩ = some (.int .u32 st) /\ V.cell? ⟨W.heap.size, 5, none⟩ = some (.slice ia il ic) /\ V.cell? ⟨W.heap.size, 6, none⟩ = some (.int .i64 wr) /\ V.cell? ⟨W.heap.size, 7, none⟩ = some (.slice ra rl rc) /\ Hid (Chg [] W0 V)) (World.drew W0) := KEEP.out _ (Chg.refl _ _).drew
   refine wp_region_plan (fun V : World => V.cell? ⟨W.heap.size, 0, none⟩ = some (.int .i64 k) /\ V.cell? ⟨W.heap.size, 1, none⟩ = some (.int .i64 w) /\ V.cell? ⟨W.heap.size, 2, none⟩ = some (.int .i64 s) /\ V.cell? ⟨W.heap.size, 3, none⟩ = some (.int .i64 c) /\ V.cell? ⟨W.heap.size, 4, none⟩ = some (.int .u32 st) /\ V.cell? ⟨W.heap.size, 5, none⟩ = some (.slice ia il ic) /\ V.cell? ⟨W.heap.size, 6, none⟩ = some (.int .i64 wr) /\ V.cell? ⟨W.heap.size, 7, none⟩ = some (.slice ra rl rc) /\ Hid (Chg [] W0 V)) [(0, true, some 3), (1, true, some 4), (2, true, some 5), (3, false, some 6), (4, true, some 7), (5, true, some 8), (6, true, some 9), (7, true, some 10), (8, true, some 11), (9, true, some 12), (10, true, some 13), (11, true, some 14), (12, true, some 15), (13, true, some 16), (14, true, some 17), (15, true, some 18), (16, false, some 19), (17, true, some 20), (18, true, some 21), (19, true, some 22), (20, true, some 23), (21, true, some 24), (22, false, some 25), (23, true, some 26), (24, true, some 27), (25, true, some 2)] (by kernel_rfl) (by kernel_rfl) (by kernel_rfl) (by kernel_rfl) (fun d c a v w h => by cases d <;> exact h) hHeld ?_
   repeat (first
    | (refine planWp_read (v := ?_) rfl rfl ?_ ?_ ?_; rotate_left; (focus rfl); (focus (intro u hSw; (try dsimp only at hSw); go_simp; (try with_reducible rfl))); (try simp only [Act.put, sA, sB, sC]))
    | (refine planWp_skip rfl rfl ?_ ?_; (focus rfl); (try simp only [Act.put, sA, sB, sC]))
    | (refine planWp_leave rfl rfl ?_ hHeld ?_; (focus rfl); (try simp only [Act.put, sA, sB, sC]))
    | (refine planWp_do rfl rfl ?_ (fun K hK => ?_); (focus rfl); go_simp; (try go_wp2_with (first | (go_at_call 119; refine (mWords_any k 4 w w s c st ia il ic wr ra rl rc HO.out _).mono ?_; rintro e wx ⟨rfl, hcx⟩; rw [HW.out]; have HCX := hid hcx; clear hcx) | (go_at_call 120; refine (mCaps_any _ _ _ _ _ _ _ _ _ _ _ _ _).mono ?_; rintro e wx ⟨rfl, hcx⟩; rw [HQ.out]; have HCX := hid hcx; clear hcx) | (go_at_call 121; refine (ringMod_any _ _ _ _ _ _ _ _ _ _ _ _ HS.out _).mono ?_; rintro e wx ⟨rfl, hcx⟩; have HCX := hid hcx; clear hcx))); refine hK.out _ _ ?_ (fun hHeld2 => ?_); (focus (have hcn := Chg.trans hHeld.2.2.2.2.2.2.2.2.out HCX.out; exact KEEP.out _ hcn)); clear hK K hHeld; have hHeld := hHeld2; clear hHeld2; (try simp only [Act.put, sA, sB, sC])))
   refine planWp_nil ?_
   have HCC := hid (HC0.out.trans hHeld.2.2.2.2.2.2.2.2.out)
   clear hHeld KEEP
   go_wp2_with fail
   go_ret
   exact ⟨by rfl, HCC.out⟩
 have q1 : decide (s <= 16) = true := by simp; omega
 by_cases p2 : 1 <= c /\ c <= 16
 rotate_left
 · have hf : r = false := by
    rw [<- hr]
    rw [Bool.eq_false_iff]
    intro hx
    simp [rightB] at hx
    omega
   subst hf
   have HQ := hid (show capsOk c = false by simp only [capsOk, decide_eq_false_iff_not]; exact p2)
   have HS : Hid (0 <= s /\ s <= 16) := hid (by omega)
   clear hwords hr p0 p1 p2
   go_enter Tryz.func83, Tryz.ntmps83
   go_wp2_with fail
   generalize hW0 : (W.alloc (.cells #[.int .i64 k, .int .i64 w, .int .i64 s, .int .i64 c, .int .u32 st, .slice ia il ic, .int .i64 wr, .slice ra rl rc] 26)) = W0
   have hB0 : Blk W0 W.heap.size #[.int .i64 k, .int .i64 w, .int .i64 s, .int .i64 c, .int .u32 st, .slice ia il ic, .int .i64 wr, .slice ra rl rc] 26 := by rw [<- hW0]; exact Blk.new W _ _
   have HC0 : Hid (Chg [] W W0) := hid (by rw [<- hW0]; exact (Chg.refl _ _).alloc _)
   clear hW0
   have e0 : W0.cell? ⟨W.heap.size, 0, none⟩ = some (.int .i64 k) := hB0.cell rfl
   have e1 : W0.cell? ⟨W.heap.size, 1, none⟩ = some (.int .i64 w) := hB0.cell rfl
   have e2 : W0.cell? ⟨W.heap.size, 2, none⟩ = some (.int .i64 s) := hB0.cell rfl
   have e3 : W0.cell? ⟨W.heap.size, 3, none⟩ = some (.int .i64 c) := hB0.cell rfl
   have e4 : W0.cell? ⟨W.heap.size, 4, none⟩ = some (.int .u32 st) := hB0.cell rfl
   have e5 : W0.cell? ⟨W.heap.size, 5, none⟩ = some (.slice ia il ic) := hB0.cell rfl
   have e6 : W0.cell? ⟨W.heap.size, 6, none⟩ = some (.int .i64 wr) := hB0.cell rfl
   have e7 : W0.cell? ⟨W.heap.size, 7, none⟩ = some (.slice ra rl rc) := hB0.cell rfl
   have KEEP := hid (fun (V : World) (h : Chg [] W0 V) => (⟨h.keep e0 (by simp), h.keep e1 (by simp), h.keep e2 (by simp), h.keep e3 (by simp), h.keep e4 (by simp), h.keep e5 (by simp), h.keep e6 (by simp), h.keep e7 (by simp), hid h⟩ : (fun V : World => V.cell? ⟨W.heap.size, 0, none⟩ = some (.int .i64 k) /\ V.cell? ⟨W.heap.size, 1, none⟩ = some (.int .i64 w) /\ V.cell? ⟨W.heap.size, 2, none⟩ = some (.int .i64 s) /\ V.cell? ⟨W.heap.size, 3, none⟩ = some (.int .i64 c) /\ V.cell? ⟨W.heap.size, 4, none⟩ = some (.int .u32 st) /\ V.cell? ⟨W.heap.size, 5, none⟩ = some (.slice ia il ic) /\ V.cell? ⟨W.heap.size, 6, none⟩ = some (.int .i64 wr) /\ V.cell? ⟨W.heap.size, 7, none⟩ = some (.slice ra rl rc) /\ Hid (Chg [] W0 V)) V))
   clear e0 e1 e2 e3 e4 e5 e6 e7 hB0
   have hHeld : (fun V : World => V.cell? ⟨W.heap.size, 0, none⟩ = some (.int .i64 k) /\ V.cell? ⟨W.heap.size, 1, none⟩ = some (.int .i64 w) /\ V.cell? ⟨W.heap.size, 2, none⟩ = some (.int .i64 s) /\ V.cell? ⟨W.heap.size, 3, none⟩ = some (.int .i64 c) /\ V.cell? ⟨W.heap.size, 4, none⟩ = some (.int .u32 st) /\ V.cell? ⟨W.heap.size, 5, none⟩ = some (.slice ia il ic) /\ V.cell? ⟨W.heap.size, 6, none⟩ = some (.int .i64 wr) /\ V.cell? ⟨W.heap.size, 7, none⟩ = some (.slice ra rl rc) /\ Hid (Chg [] W0 V)) (World.drew W0) := KEEP.out _ (Chg.refl _ _).drew
   refine wp_region_plan (fun V : World => V.cell? ⟨W.heap.size, 0, none⟩ = some (.int .i64 k) /\ V.cell? ⟨W.heap.size, 1, none⟩ = some (.int .i64 w) /\ V.cell? ⟨W.heap.size, 2, none⟩ = some (.int .i64 s) /\ V.cell? ⟨W.heap.size, 3, none⟩ = some (.int .i64 c) /\ V.cell? ⟨W.heap.size, 4, none⟩ = some (.int .u32 st) /\ V.cell? ⟨W.heap.size, 5, none⟩ = some (.slice ia il ic) /\ V.cell? ⟨W.heap.size, 6, none⟩ = some (.int .i64 wr) /\ V.cell? ⟨W.heap.size, 7, none⟩ = some (.slice ra rl rc) /\ Hid (Chg [] W0 V)) [(0, true, some 3), (1, true, some 4), (2, true, some 5), (3, false, some 6), (4, true, some 7), (5, true, some 8), (6, true, some 9), (7, true, some 10), (8, true, some 11), (9, true, some 12), (10, true, some 13), (11, true, some 14), (12, true, some 15), (13, true, some 16), (14, true, some 17), (15, true, some 18), (16, false, some 19), (17, true, some 20), (18, true, some 21), (19, true, some 22), (20, true, some 23), (21, true, some 24), (22, false, some 25), (23, true, some 26), (24, true, some 27), (25, true, some 2)] (by kernel_rfl) (by kernel_rfl) (by kernel_rfl) (by kernel_rfl) (fun d c a v w h => by cases d <;> exact h) hHeld ?_
   repeat (first
    | (refine planWp_read (v := ?_) rfl rfl ?_ ?_ ?_; rotate_left; (focus rfl); (focus (intro u hSw; (try dsimp only at hSw); go_simp; (try with_reducible rfl))); (try simp only [Act.put, sA, sB, sC]))
    | (refine planWp_skip rfl rfl ?_ ?_; (focus rfl); (try simp only [Act.put, sA, sB, sC]))
    | (refine planWp_leave rfl rfl ?_ hHeld ?_; (focus rfl); (try simp only [Act.put, sA, sB, sC]))
    | (refine planWp_do rfl rfl ?_ (fun K hK => ?_); (focus rfl); go_simp; (try go_wp2_with (first | (go_at_call 119; refine (mWords_any k 4 w w s c st ia il ic wr ra rl rc HO.out _).mono ?_; rintro e wx ⟨rfl, hcx⟩; rw [HW.out]; have HCX := hid hcx; clear hcx) | (go_at_call 120; refine (mCaps_any _ _ _ _ _ _ _ _ _ _ _ _ _).mono ?_; rintro e wx ⟨rfl, hcx⟩; rw [HQ.out]; have HCX := hid hcx; clear hcx) | (go_at_call 121; refine (ringMod_any _ _ _ _ _ _ _ _ _ _ _ _ HS.out _).mono ?_; rintro e wx ⟨rfl, hcx⟩; have HCX := hid hcx; clear hcx))); refine hK.out _ _ ?_ (fun hHeld2 => ?_); (focus (have hcn := Chg.trans hHeld.2.2.2.2.2.2.2.2.out HCX.out; exact KEEP.out _ hcn)); clear hK K hHeld; have hHeld := hHeld2; clear hHeld2; (try simp only [Act.put, sA, sB, sC])))
   refine planWp_nil ?_
   have HCC := hid (HC0.out.trans hHeld.2.2.2.2.2.2.2.2.out)
   clear hHeld KEEP
   go_wp2_with fail
   go_ret
   exact ⟨by rfl, HCC.out⟩
 have HQ := hid (show capsOk c = true by simp only [capsOk, decide_eq_true_eq]; exact p2)
 by_cases p3 : st < s * 1048576
 rotate_left
 · have hf : r = false := by
    rw [<- hr]
    rw [Bool.eq_false_iff]
    intro hx
    simp [rightB] at hx
    omega
   subst hf
   have q3 : decide (st < s * 1048576) = false := by simp; omega
   have HS : Hid (0 <= s /\ s <= 16) := hid (by omega)
   clear hwords hr p0 p1 p2 p3
   go_enter Tryz.func83, Tryz.ntmps83
   go_wp2_with fail
   generalize hW0 : (W.alloc (.cells #[.int .i64 k, .int .i64 w, .int .i64 s, .int .i64 c, .int .u32 st, .slice ia il ic, .int .i64 wr, .slice ra rl rc] 26)) = W0
   have hB0 : Blk W0 W.heap.size #[.int .i64 k, .int .i64 w, .int .i64 s, .int .i64 c, .int .u32 st, .slice ia il ic, .int .i64 wr, .slice ra rl rc] 26 := by rw [<- hW0]; exact Blk.new W _ _
   have HC0 : Hid (Chg [] W W0) := hid (by rw [<- hW0]; exact (Chg.refl _ _).alloc _)
   clear hW0
   have e0 : W0.cell? ⟨W.heap.size, 0, none⟩ = some (.int .i64 k) := hB0.cell rfl
   have e1 : W0.cell? ⟨W.heap.size, 1, none⟩ = some (.int .i64 w) := hB0.cell rfl
   have e2 : W0.cell? ⟨W.heap.size, 2, none⟩ = some (.int .i64 s) := hB0.cell rfl
   have e3 : W0.cell? ⟨W.heap.size, 3, none⟩ = some (.int .i64 c) := hB0.cell rfl
   have e4 : W0.cell? ⟨W.heap.size, 4, none⟩ = some (.int .u32 st) := hB0.cell rfl
   have e5 : W0.cell? ⟨W.heap.size, 5, none⟩ = some (.slice ia il ic) := hB0.cell rfl
   have e6 : W0.cell? ⟨W.heap.size, 6, none⟩ = some (.int .i64 wr) := hB0.cell rfl
   have e7 : W0.cell? ⟨W.heap.size, 7, none⟩ = some (.slice ra rl rc) := hB0.cell rfl
   have KEEP := hid (fun (V : World) (h : Chg [] W0 V) => (⟨h.keep e0 (by simp), h.keep e1 (by simp), h.keep e2 (by simp), h.keep e3 (by simp), h.keep e4 (by simp), h.keep e5 (by simp), h.keep e6 (by simp), h.keep e7 (by simp), hid h⟩ : (fun V : World => V.cell? ⟨W.heap.size, 0, none⟩ = some (.int .i64 k) /\ V.cell? ⟨W.heap.size, 1, none⟩ = some (.int .i64 w) /\ V.cell? ⟨W.heap.size, 2, none⟩ = some (.int .i64 s) /\ V.cell? ⟨W.heap.size, 3, none⟩ = some (.int .i64 c) /\ V.cell? ⟨W.heap.size, 4, none⟩ = some (.int .u32 st) /\ V.cell? ⟨W.heap.size, 5, none⟩ = some (.slice ia il ic) /\ V.cell? ⟨W.heap.size, 6, none⟩ = some (.int .i64 wr) /\ V.cell? ⟨W.heap.size, 7, none⟩ = some (.slice ra rl rc) /\ Hid (Chg [] W0 V)) V))
   clear e0 e1 e2 e3 e4 e5 e6 e7 hB0
   have hHeld : (fun V : World => V.cell? ⟨W.heap.size, 0, none⟩ = some (.int .i64 k) /\ V.cell? ⟨W.heap.size, 1, none⟩ = some (.int .i64 w) /\ V.cell? ⟨W.heap.size, 2, none⟩ = some (.int .i64 s) /\ V.cell? ⟨W.heap.size, 3, none⟩ = some (.int .i64 c) /\ V.cell? ⟨W.heap.size, 4, none⟩ = some (.int .u32 st) /\ V.cell? ⟨W.heap.size, 5, none⟩ = some (.slice ia il ic) /\ V.cell? ⟨W.heap.size, 6, none⟩ = some (.int .i64 wr) /\ V.cell? ⟨W.heap.size, 7, none⟩ = some (.slice ra rl rc) /\ Hid (Chg [] W0 V)) (World.drew W0) := KEEP.out _ (Chg.refl _ _).drew
   refine wp_region_plan (fun V : World => V.cell? ⟨W.heap.size, 0, none⟩ = some (.int .i64 k) /\ V.cell? ⟨W.heap.size, 1, none⟩ = some (.int .i64 w) /\ V.cell? ⟨W.heap.size, 2, none⟩ = some (.int .i64 s) /\ V.cell? ⟨W.heap.size, 3, none⟩ = some (.int .i64 c) /\ V.cell? ⟨W.heap.size, 4, none⟩ = some (.int .u32 st) /\ V.cell? ⟨W.heap.size, 5, none⟩ = some (.slice ia il ic) /\ V.cell? ⟨W.heap.size, 6, none⟩ = some (.int .i64 wr) /\ V.cell? ⟨W.heap.size, 7, none⟩ = some (.slice ra rl rc) /\ Hid (Chg [] W0 V)) [(0, true, some 3), (1, true, some 4), (2, true, some 5), (3, false, some 6), (4, true, some 7), (5, true, some 8), (6, true, some 9), (7, true, some 10), (8, true, some 11), (9, true, some 12), (10, true, some 13), (11, true, some 14), (12, true, some 15), (13, true, some 16), (14, true, some 17), (15, true, some 18), (16, false, some 19), (17, true, some 20), (18, true, some 21), (19, true, some 22), (20, true, some 23), (21, true, some 24), (22, false, some 25), (23, true, some 26), (24, true, some 27), (25, true, some 2)] (by kernel_rfl) (by kernel_rfl) (by kernel_rfl) (by kernel_rfl) (fun d c a v w h => by cases d <;> exact h) hHeld ?_
   repeat (first
    | (refine planWp_read (v := ?_) rfl rfl ?_ ?_ ?_; rotate_left; (focus rfl); (focus (intro u hSw; (try dsimp only at hSw); go_simp; (try with_reducible rfl))); (try simp only [Act.put, sA, sB, sC]))
    | (refine planWp_skip rfl rfl ?_ ?_; (focus rfl); (try simp only [Act.put, sA, sB, sC]))
    | (refine planWp_leave rfl rfl ?_ hHeld ?_; (focus rfl); (try simp only [Act.put, sA, sB, sC]))
    | (refine planWp_do rfl rfl ?_ (fun K hK => ?_); (focus rfl); go_simp; (try go_wp2_with (first | (go_at_call 119; refine (mWords_any k 4 w w s c st ia il ic wr ra rl rc HO.out _).mono ?_; rintro e wx ⟨rfl, hcx⟩; rw [HW.out]; have HCX := hid hcx; clear hcx) | (go_at_call 120; refine (mCaps_any _ _ _ _ _ _ _ _ _ _ _ _ _).mono ?_; rintro e wx ⟨rfl, hcx⟩; rw [HQ.out]; have HCX := hid hcx; clear hcx) | (go_at_call 121; refine (ringMod_any _ _ _ _ _ _ _ _ _ _ _ _ HS.out _).mono ?_; rintro e wx ⟨rfl, hcx⟩; have HCX := hid hcx; clear hcx))); refine hK.out _ _ ?_ (fun hHeld2 => ?_); (focus (have hcn := Chg.trans hHeld.2.2.2.2.2.2.2.2.out HCX.out; exact KEEP.out _ hcn)); clear hK K hHeld; have hHeld := hHeld2; clear hHeld2; (try simp only [Act.put, sA, sB, sC])))
   refine planWp_nil ?_
   have HCC := hid (HC0.out.trans hHeld.2.2.2.2.2.2.2.2.out)
   clear hHeld KEEP
   go_wp2_with fail
   go_ret
   exact ⟨by rfl, HCC.out⟩
 have q3 : decide (st < s * 1048576) = true := by simp; omega
 have hf : r = true := by
  rw [<- hr, Bool.and_eq_true]
  refine ⟨by simp; omega, ?_⟩
  simp only [rightB, decide_eq_true_eq]
  omega
 subst hf
 have HS : Hid (0 <= s /\ s <= 16) := hid (by omega)
 clear hwords hr p0 p1 p2 p3
 go_enter Tryz.func83, Tryz.ntmps83
 go_wp2_with fail
 generalize hW0 : (W.alloc (.cells #[.int .i64 k, .int .i64 w, .int .i64 s, .int .i64 c, .int .u32 st, .slice ia il ic, .int .i64 wr, .slice ra rl rc] 26)) = W0
 have hB0 : Blk W0 W.heap.size #[.int .i64 k, .int .i64 w, .int .i64 s, .int .i64 c, .int .u32 st, .slice ia il ic, .int .i64 wr, .slice ra rl rc] 26 := by rw [<- hW0]; exact Blk.new W _ _
 have HC0 : Hid (Chg [] W W0) := hid (by rw [<- hW0]; exact (Chg.refl _ _).alloc _)
 clear hW0
 have e0 : W0.cell? ⟨W.heap.size, 0, none⟩ = some (.int .i64 k) := hB0.cell rfl
 have e1 : W0.cell? ⟨W.heap.size, 1, none⟩ = some (.int .i64 w) := hB0.cell rfl
 have e2 : W0.cell? ⟨W.heap.size, 2, none⟩ = some (.int .i64 s) := hB0.cell rfl
 have e3 : W0.cell? ⟨W.heap.size, 3, none⟩ = some (.int .i64 c) := hB0.cell rfl
 have e4 : W0.cell? ⟨W.heap.size, 4, none⟩ = some (.int .u32 st) := hB0.cell rfl
 have e5 : W0.cell? ⟨W.heap.size, 5, none⟩ = some (.slice ia il ic) := hB0.cell rfl
 have e6 : W0.cell? ⟨W.heap.size, 6, none⟩ = some (.int .i64 wr) := hB0.cell rfl
 have e7 : W0.cell? ⟨W.heap.size, 7, none⟩ = some (.slice ra rl rc) := hB0.cell rfl
 have KEEP := hid (fun (V : World) (h : Chg [] W0 V) => (⟨h.keep e0 (by simp), h.keep e1 (by simp), h.keep e2 (by simp), h.keep e3 (by simp), h.keep e4 (by simp), h.keep e5 (by simp), h.keep e6 (by simp), h.keep e7 (by simp), hid h⟩ : (fun V : World => V.cell? ⟨W.heap.size, 0, none⟩ = some (.int .i64 k) /\ V.cell? ⟨W.heap.size, 1, none⟩ = some (.int .i64 w) /\ V.cell? ⟨W.heap.size, 2, none⟩ = some (.int .i64 s) /\ V.cell? ⟨W.heap.size, 3, none⟩ = some (.int .i64 c) /\ V.cell? ⟨W.heap.size, 4, none⟩ = some (.int .u32 st) /\ V.cell? ⟨W.heap.size, 5, none⟩ = some (.slice ia il ic) /\ V.cell? ⟨W.heap.size, 6, none⟩ = some (.int .i64 wr) /\ V.cell? ⟨W.heap.size, 7, none⟩ = some (.slice ra rl rc) /\ Hid (Chg [] W0 V)) V))
 clear e0 e1 e2 e3 e4 e5 e6 e7 hB0
 have hHeld : (fun V : World => V.cell? ⟨W.heap.size, 0, none⟩ = some (.int .i64 k) /\ V.cell? ⟨W.heap.size, 1, none⟩ = some (.int .i64 w) /\ V.cell? ⟨W.heap.size, 2, none⟩ = some (.int .i64 s) /\ V.cell? ⟨W.heap.size, 3, none⟩ = some (.int .i64 c) /\ V.cell? ⟨W.heap.size, 4, none⟩ = some (.int .u32 st) /\ V.cell? ⟨W.heap.size, 5, none⟩ = some (.slice ia il ic) /\ V.cell? ⟨W.heap.size, 6, none⟩ = some (.int .i64 wr) /\ V.cell? ⟨W.heap.size, 7, none⟩ = some (.slice ra rl rc) /\ Hid (Chg [] W0 V)) (World.drew W0) := KEEP.out _ (Chg.refl _ _).drew
 refine wp_region_plan (fun V : World => V.cell? ⟨W.heap.size, 0, none⟩ = some (.int .i64 k) /\ V.cell? ⟨W.heap.size, 1, none⟩ = some (.int .i64 w) /\ V.cell? ⟨W.heap.size, 2, none⟩ = some (.int .i64 s) /\ V.cell? ⟨W.heap.size, 3, none⟩ = some (.int .i64 c) /\ V.cell? ⟨W.heap.size, 4, none⟩ = some (.int .u32 st) /\ V.cell? ⟨W.heap.size, 5, none⟩ = some (.slice ia il ic) /\ V.cell? ⟨W.heap.size, 6, none⟩ = some (.int .i64 wr) /\ V.cell? ⟨W.heap.size, 7, none⟩ = some (.slice ra rl rc) /\ Hid (Chg [] W0 V)) [(0, true, some 3), (1, true, some 4), (2, true, some 5), (3, false, some 6), (4, true, some 7), (5, true, some 8), (6, true, some 9), (7, true, some 10), (8, true, some 11), (9, true, some 12), (10, true, some 13), (11, true, some 14), (12, true, some 15), (13, true, some 16), (14, true, some 17), (15, true, some 18), (16, false, some 19), (17, true, some 20), (18, true, some 21), (19, true, some 22), (20, true, some 23), (21, true, some 24), (22, false, some 25), (23, true, some 26), (24, true, some 27), (25, true, some 2)] (by kernel_rfl) (by kernel_rfl) (by kernel_rfl) (by kernel_rfl) (fun d c a v w h => by cases d <;> exact h) hHeld ?_
 repeat (first
  | (refine planWp_read (v := ?_) rfl rfl ?_ ?_ ?_; rotate_left; (focus rfl); (focus (intro u hSw; (try dsimp only at hSw); go_simp; (try with_reducible rfl))); (try simp only [Act.put, sA, sB, sC]))
  | (refine planWp_skip rfl rfl ?_ ?_; (focus rfl); (try simp only [Act.put, sA, sB, sC]))
  | (refine planWp_leave rfl rfl ?_ hHeld ?_; (focus rfl); (try simp only [Act.put, sA, sB, sC]))
  | (refine planWp_do rfl rfl ?_ (fun K hK => ?_); (focus rfl); go_simp; (try go_wp2_with (first | (go_at_call 119; refine (mWords_any k 4 w w s c st ia il ic wr ra rl rc HO.out _).mono ?_; rintro e wx ⟨rfl, hcx⟩; rw [HW.out]; have HCX := hid hcx; clear hcx) | (go_at_call 120; refine (mCaps_any _ _ _ _ _ _ _ _ _ _ _ _ _).mono ?_; rintro e wx ⟨rfl, hcx⟩; rw [HQ.out]; have HCX := hid hcx; clear hcx) | (go_at_call 121; refine (ringMod_any _ _ _ _ _ _ _ _ _ _ _ _ HS.out _).mono ?_; rintro e wx ⟨rfl, hcx⟩; have HCX := hid hcx; clear hcx))); refine hK.out _ _ ?_ (fun hHeld2 => ?_); (focus (have hcn := Chg.trans hHeld.2.2.2.2.2.2.2.2.out HCX.out; exact KEEP.out _ hcn)); clear hK K hHeld; have hHeld := hHeld2; clear hHeld2; (try simp only [Act.put, sA, sB, sC])))
 refine planWp_nil ?_
 have HCC := hid (HC0.out.trans hHeld.2.2.2.2.2.2.2.2.out)
 clear hHeld KEEP
 go_wp2_with fail
 go_ret
 exact ⟨by rfl, HCC.out⟩
end Go.Proofs.YtphfnjcboellhaaGreatDoor.obj
