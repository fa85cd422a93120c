/- How many steps an operation of any object has, if none, or some, of its attempts fail: bound. -/
import Derived.Test.YtjplamoofkcojaaBnd
namespace Go.Proofs.Ytjplamoofkcojaa.obj
open Go Go.RowKit Go.Proofs.Ytjplamoofkcojaa.kit
set_option linter.unusedVariables false
set_option maxRecDepth 20000

def cleanI (k w s c st il rl op : Int) : Int := if rightB k w s c st il rl && retB k op then (if k = 5 then w + 4 else w + 2) else boundI k w s c st il rl op
/-- an operation that has attempts, taken apart -/
theorem tries_parts {k w s c st il rl op : Int} (h : (rightB k w s c st il rl && retB k op) = true) : (1 ≤ c ∧ c ≤ 16) ∧ (1 ≤ w ∧ w ≤ 8) ∧
    boundI k w s c st il rl op = (c - 1) * failI k w s c st il rl op + cleanI k w s c st il rl op ∧ (3 ≤ failI k w s c st il rl op ∧ failI k w s c st il rl op ≤ 10) ∧ (3 ≤ cleanI k w s c st il rl op ∧ cleanI k w s c st il rl op ≤ 12) := by
  have hr : rightB k w s c st il rl = true := by simp only [Bool.and_eq_true] at h; exact h.1
  have ht : retB k op = true := by simp only [Bool.and_eq_true] at h; exact h.2
  have hb := rightB_bd hr
  have hc : 1 ≤ c := (bound_pos k w s c st il rl op hr ht).2.2
  have hF : failI k w s c st il rl op = (if k = 5 then 3 else w + 2) := by unfold failI; rw [h]; rfl
  have hC : cleanI k w s c st il rl op = (if k = 5 then w + 4 else w + 2) := by unfold cleanI; rw [h]; rfl
  have hB : boundI k w s c st il rl op = boundK k w c rl op := by unfold boundI; rw [hr]; rfl
  refine ⟨⟨hc, by omega⟩, ⟨hb.1, hb.2.1⟩, ?_, ?_, ?_⟩
  · rw [hF, hC, hB]
    simp only [retB, decide_eq_true_eq] at ht
    obtain ⟨rfl, rfl | rfl | rfl⟩ := ht
    · simp only [boundK]; simp; rw [Int.sub_mul]; omega
    · simp only [boundK]; simp; rw [Int.sub_mul]; omega
    · simp only [boundK]; simp; omega
  · rw [hF]; split <;> omega
  · rw [hC]; split <;> omega
theorem bound_bd (k w s c st il rl op : Int) : 0 ≤ boundI k w s c st il rl op ∧ boundI k w s c st il rl op ≤ 200 := by
  unfold boundI
  split
  · rename_i hr
    have hb := rightB_bd hr
    have hm := mul_bd (c := c) (w := w) ⟨hb.2.2.2.2.1, hb.2.2.2.2.2.1⟩ ⟨hb.1, hb.2.1⟩
    unfold boundK
    repeat' split
    all_goals omega
  · omega
theorem fail_none {k w s c st il rl op : Int} (h : (rightB k w s c st il rl && retB k op) = false) : failI k w s c st il rl op = 0 ∧ cleanI k w s c st il rl op = boundI k w s c st il rl op := by
  constructor
  · unfold failI; rw [h]; rfl
  · unfold cleanI; rw [h]; rfl
theorem mul15 {a b : Int} (ha : 0 ≤ a ∧ a ≤ 15) (hb : 3 ≤ b ∧ b ≤ 10) : 0 ≤ a * b ∧ a * b ≤ 150 := by
  have h1 : a * b ≤ 15 * b := Int.mul_le_mul_of_nonneg_right ha.2 (by omega)
  have h2 : 0 ≤ a * b := Int.mul_nonneg ha.1 (by omega)
  omega
theorem wrap_near {z : Int} (h : -1000 ≤ z ∧ z ≤ 1000) : IntKind.i64.wrap z = z := by rw [IntKind.wrap_i64]; omega
theorem clean_val (k w s c st il rl op : Int) (hx : 0 ≤ IntKind.i64.wrap (c - 1)) :
    IntKind.i64.wrap (boundI k w s c st il rl op - IntKind.i64.wrap (IntKind.i64.wrap (c - 1) * failI k w s c st il rl op)) = cleanI k w s c st il rl op := by
  have hbd := bound_bd k w s c st il rl op
  cases h : (rightB k w s c st il rl && retB k op)
  · obtain ⟨h1, h2⟩ := fail_none h
    rw [h1, h2, Int.mul_zero, wrap_near (z := 0) (by omega), Int.sub_zero, wrap_near (by omega)]
  · obtain ⟨hc, hw, hB, hF, hC⟩ := tries_parts h
    have hm := mul15 (a := c - 1) (by omega) hF
    rw [wrap_near (z := c - 1) (by omega), wrap_near (z := (c - 1) * _) (by omega), hB]
    rw [wrap_near (by omega)]
    omega
theorem clean_val0 (k w s c st il rl op : Int) (hx : ¬ 0 ≤ IntKind.i64.wrap (c - 1)) :
    IntKind.i64.wrap (boundI k w s c st il rl op - IntKind.i64.wrap 0) = cleanI k w s c st il rl op := by
  have hbd := bound_bd k w s c st il rl op
  cases h : (rightB k w s c st il rl && retB k op)
  · obtain ⟨h1, h2⟩ := fail_none h
    rw [h2, wrap_near (z := 0) (by omega), Int.sub_zero, wrap_near (by omega)]
  · obtain ⟨hc, _⟩ := tries_parts h
    rw [wrap_near (z := c - 1) (by omega)] at hx
    omega
set_option maxHeartbeats 4000000 in
theorem bClean_any (k : Int) (w s c st : Int) (ia : Option Addr) (il ic : Nat) (wr : Int) (ra : Option Addr) (rl rc : Nat) (op : Int) (h : ObjW k w s c st il rl) (W : World) :
    Calls Try.prog 11 #[.agg #[.int .i64 k, .int .i64 w, .int .i64 s, .int .i64 c, .int .u32 st, .slice ia il ic, .int .i64 wr, .slice ra rl rc], .int .i64 op] W fun e W' => e = .returned (.int .i64 (cleanI k w s c st il rl op)) ∧ Chg [] W W' := by
  have HX := Lib.hid (fun u => objBound_any k w s c st ia il ic wr ra rl rc op h u)
  have HF := Lib.hid (fun u => bFail_any k w s c st ia il ic wr ra rl rc op h u)
  clear h
  by_cases hx : 0 ≤ IntKind.i64.wrap (c - 1)
  · have HV := Lib.hid (clean_val k w s c st il rl op hx)
    have hx2 : ¬ IntKind.i64.wrap (c - 1) < 0 := by omega
    go_enter Try.func11, Try.ntmps11
    go_wp2_with fail
    generalize hW0 : (W.alloc (.cells #[.int .i64 k, .int .i64 w, .int .i64 s, .int .i64 c, .int .u32 st, .slice ia il ic, .int .i64 wr, .slice ra rl rc] 26)) = W0
    have hB0 : Blk W0 W.heap.size #[.int .i64 k, .int .i64 w, .int .i64 s, .int .i64 c, .int .u32 st, .slice ia il ic, .int .i64 wr, .slice ra rl rc] 26 := by rw [← hW0]; exact Blk.new W _ _
    have HC0 : Hid (Chg [] W W0) := Lib.hid (by rw [← hW0]; exact (Chg.refl _ _).alloc _)
    clear hW0
    have e0 : W0.cell? ⟨W.heap.size, 0, none⟩ = some (.int .i64 k) := hB0.cell rfl
    have e1 : W0.cell? ⟨W.heap.size, 1, none⟩ = some (.int .i64 w) := hB0.cell rfl
    have e2 : W0.cell? ⟨W.heap.size, 2, none⟩ = some (.int .i64 s) := hB0.cell rfl
    have e3 : W0.cell? ⟨W.heap.size, 3, none⟩ = some (.int .i64 c) := hB0.cell rfl
    have e4 : W0.cell? ⟨W.heap.size, 4, none⟩ = some (.int .u32 st) := hB0.cell rfl
    have e5 : W0.cell? ⟨W.heap.size, 5, none⟩ = some (.slice ia il ic) := hB0.cell rfl
    have e6 : W0.cell? ⟨W.heap.size, 6, none⟩ = some (.int .i64 wr) := hB0.cell rfl
    have e7 : W0.cell? ⟨W.heap.size, 7, none⟩ = some (.slice ra rl rc) := hB0.cell rfl
    have KEEP := Lib.hid (fun (V : World) (h : Chg [] W0 V) => (⟨h.keep e0 (by simp), h.keep e1 (by simp), h.keep e2 (by simp), h.keep e3 (by simp), h.keep e4 (by simp), h.keep e5 (by simp), h.keep e6 (by simp), h.keep e7 (by simp), Lib.hid h⟩ : (fun V : World => V.cell? ⟨W.heap.size, 0, none⟩ = some (.int .i64 k) ∧ V.cell? ⟨W.heap.size, 1, none⟩ = some (.int .i64 w) ∧ V.cell? ⟨W.heap.size, 2, none⟩ = some (.int .i64 s) ∧ V.cell? ⟨W.heap.size, 3, none⟩ = some (.int .i64 c) ∧ V.cell? ⟨W.heap.size, 4, none⟩ = some (.int .u32 st) ∧ V.cell? ⟨W.heap.size, 5, none⟩ = some (.slice ia il ic) ∧ V.cell? ⟨W.heap.size, 6, none⟩ = some (.int .i64 wr) ∧ V.cell? ⟨W.heap.size, 7, none⟩ = some (.slice ra rl rc) ∧ Hid (Chg [] W0 V)) V))
    clear e0 e1 e2 e3 e4 e5 e6 e7 hB0
    have hHeld : (fun V : World => V.cell? ⟨W.heap.size, 0, none⟩ = some (.int .i64 k) ∧ V.cell? ⟨W.heap.size, 1, none⟩ = some (.int .i64 w) ∧ V.cell? ⟨W.heap.size, 2, none⟩ = some (.int .i64 s) ∧ V.cell? ⟨W.heap.size, 3, none⟩ = some (.int .i64 c) ∧ V.cell? ⟨W.heap.size, 4, none⟩ = some (.int .u32 st) ∧ V.cell? ⟨W.heap.size, 5, none⟩ = some (.slice ia il ic) ∧ V.cell? ⟨W.heap.size, 6, none⟩ = some (.int .i64 wr) ∧ V.cell? ⟨W.heap.size, 7, none⟩ = some (.slice ra rl rc) ∧ Hid (Chg [] W0 V)) (World.drew W0) := KEEP.out _ (Chg.refl _ _).drew
    refine wp_region_plan (fun V : World => V.cell? ⟨W.heap.size, 0, none⟩ = some (.int .i64 k) ∧ V.cell? ⟨W.heap.size, 1, none⟩ = some (.int .i64 w) ∧ V.cell? ⟨W.heap.size, 2, none⟩ = some (.int .i64 s) ∧ V.cell? ⟨W.heap.size, 3, none⟩ = some (.int .i64 c) ∧ V.cell? ⟨W.heap.size, 4, none⟩ = some (.int .u32 st) ∧ V.cell? ⟨W.heap.size, 5, none⟩ = some (.slice ia il ic) ∧ V.cell? ⟨W.heap.size, 6, none⟩ = some (.int .i64 wr) ∧ V.cell? ⟨W.heap.size, 7, none⟩ = some (.slice ra rl rc) ∧ Hid (Chg [] W0 V)) [(0, true, some 5), (1, true, some 6), (3, true, some 8), (4, true, some 9), (5, true, some 10), (6, true, some 11), (7, true, some 12), (8, true, some 13), (2, false, some 7), (9, false, some 14), (10, true, some 15), (11, true, some 16), (12, true, some 4)] (by kernel_rfl) (by kernel_rfl) (by kernel_rfl) (by kernel_rfl) (fun d c a v w h => by cases d <;> exact h) hHeld ?_
    repeat (first
      | (refine planWp_read (v := ?_) rfl rfl ?_ ?_ ?_; rotate_left; (focus rfl); (focus (intro u hSw; (try dsimp only at hSw); go_simp; (try with_reducible rfl))); (try simp only [Act.put, List.setIfInBounds_toArray, List.set_cons_zero, List.set_cons_succ]))
      | (refine planWp_skip rfl rfl ?_ ?_; (focus rfl); (try simp only [Act.put, List.setIfInBounds_toArray, List.set_cons_zero, List.set_cons_succ]))
      | (refine planWp_leave rfl rfl ?_ hHeld ?_; (focus rfl); (try simp only [Act.put, List.setIfInBounds_toArray, List.set_cons_zero, List.set_cons_succ]))
      | (refine planWp_do rfl rfl ?_ (fun K hK => ?_); (focus rfl); go_simp; (try go_wp2_with (first | (go_at_call 32; refine (HX.out _).mono ?_; rintro e wx ⟨rfl, hcx⟩; have HCX := Lib.hid hcx; clear hcx) | (go_at_call 13; refine (HF.out _).mono ?_; rintro e wx ⟨rfl, hcx⟩; have HCX := Lib.hid hcx; clear hcx))); refine hK.out _ _ ?_ (fun hHeld2 => ?_); (focus (have hcn := Chg.trans hHeld.2.2.2.2.2.2.2.2.out HCX.out; exact KEEP.out _ hcn)); clear hK K hHeld; have hHeld := hHeld2; clear hHeld2; (try simp only [Act.put, List.setIfInBounds_toArray, List.set_cons_zero, List.set_cons_succ])))
    refine planWp_nil ?_
    have HCC := Lib.hid (HC0.out.trans hHeld.2.2.2.2.2.2.2.2.out)
    clear hHeld KEEP
    go_wp2_with fail
    go_ret
    exact ⟨by (refine ret_int ?_; exact HV.out), HCC.out⟩
  · have HV := Lib.hid (clean_val0 k w s c st il rl op hx)
    have hx2 : IntKind.i64.wrap (c - 1) < 0 := by omega
    clear hx
    go_enter Try.func11, Try.ntmps11
    go_wp2_with fail
    generalize hW0 : (W.alloc (.cells #[.int .i64 k, .int .i64 w, .int .i64 s, .int .i64 c, .int .u32 st, .slice ia il ic, .int .i64 wr, .slice ra rl rc] 26)) = W0
    have hB0 : Blk W0 W.heap.size #[.int .i64 k, .int .i64 w, .int .i64 s, .int .i64 c, .int .u32 st, .slice ia il ic, .int .i64 wr, .slice ra rl rc] 26 := by rw [← hW0]; exact Blk.new W _ _
    have HC0 : Hid (Chg [] W W0) := Lib.hid (by rw [← hW0]; exact (Chg.refl _ _).alloc _)
    clear hW0
    have e0 : W0.cell? ⟨W.heap.size, 0, none⟩ = some (.int .i64 k) := hB0.cell rfl
    have e1 : W0.cell? ⟨W.heap.size, 1, none⟩ = some (.int .i64 w) := hB0.cell rfl
    have e2 : W0.cell? ⟨W.heap.size, 2, none⟩ = some (.int .i64 s) := hB0.cell rfl
    have e3 : W0.cell? ⟨W.heap.size, 3, none⟩ = some (.int .i64 c) := hB0.cell rfl
    have e4 : W0.cell? ⟨W.heap.size, 4, none⟩ = some (.int .u32 st) := hB0.cell rfl
    have e5 : W0.cell? ⟨W.heap.size, 5, none⟩ = some (.slice ia il ic) := hB0.cell rfl
    have e6 : W0.cell? ⟨W.heap.size, 6, none⟩ = some (.int .i64 wr) := hB0.cell rfl
    have e7 : W0.cell? ⟨W.heap.size, 7, none⟩ = some (.slice ra rl rc) := hB0.cell rfl
    have KEEP := Lib.hid (fun (V : World) (h : Chg [] W0 V) => (⟨h.keep e0 (by simp), h.keep e1 (by simp), h.keep e2 (by simp), h.keep e3 (by simp), h.keep e4 (by simp), h.keep e5 (by simp), h.keep e6 (by simp), h.keep e7 (by simp), Lib.hid h⟩ : (fun V : World => V.cell? ⟨W.heap.size, 0, none⟩ = some (.int .i64 k) ∧ V.cell? ⟨W.heap.size, 1, none⟩ = some (.int .i64 w) ∧ V.cell? ⟨W.heap.size, 2, none⟩ = some (.int .i64 s) ∧ V.cell? ⟨W.heap.size, 3, none⟩ = some (.int .i64 c) ∧ V.cell? ⟨W.heap.size, 4, none⟩ = some (.int .u32 st) ∧ V.cell? ⟨W.heap.size, 5, none⟩ = some (.slice ia il ic) ∧ V.cell? ⟨W.heap.size, 6, none⟩ = some (.int .i64 wr) ∧ V.cell? ⟨W.heap.size, 7, none⟩ = some (.slice ra rl rc) ∧ Hid (Chg [] W0 V)) V))
    clear e0 e1 e2 e3 e4 e5 e6 e7 hB0
    have hHeld : (fun V : World => V.cell? ⟨W.heap.size, 0, none⟩ = some (.int .i64 k) ∧ V.cell? ⟨W.heap.size, 1, none⟩ = some (.int .i64 w) ∧ V.cell? ⟨W.heap.size, 2, none⟩ = some (.int .i64 s) ∧ V.cell? ⟨W.heap.size, 3, none⟩ = some (.int .i64 c) ∧ V.cell? ⟨W.heap.size, 4, none⟩ = some (.int .u32 st) ∧ V.cell? ⟨W.heap.size, 5, none⟩ = some (.slice ia il ic) ∧ V.cell? ⟨W.heap.size, 6, none⟩ = some (.int .i64 wr) ∧ V.cell? ⟨W.heap.size, 7, none⟩ = some (.slice ra rl rc) ∧ Hid (Chg [] W0 V)) (World.drew W0) := KEEP.out _ (Chg.refl _ _).drew
    refine wp_region_plan (fun V : World => V.cell? ⟨W.heap.size, 0, none⟩ = some (.int .i64 k) ∧ V.cell? ⟨W.heap.size, 1, none⟩ = some (.int .i64 w) ∧ V.cell? ⟨W.heap.size, 2, none⟩ = some (.int .i64 s) ∧ V.cell? ⟨W.heap.size, 3, none⟩ = some (.int .i64 c) ∧ V.cell? ⟨W.heap.size, 4, none⟩ = some (.int .u32 st) ∧ V.cell? ⟨W.heap.size, 5, none⟩ = some (.slice ia il ic) ∧ V.cell? ⟨W.heap.size, 6, none⟩ = some (.int .i64 wr) ∧ V.cell? ⟨W.heap.size, 7, none⟩ = some (.slice ra rl rc) ∧ Hid (Chg [] W0 V)) [(0, true, some 5), (1, true, some 6), (3, true, some 8), (4, true, some 9), (5, true, some 10), (6, true, some 11), (7, true, some 12), (8, true, some 13), (2, false, some 7), (9, false, some 14), (10, true, some 15), (11, true, some 16), (12, true, some 4)] (by kernel_rfl) (by kernel_rfl) (by kernel_rfl) (by kernel_rfl) (fun d c a v w h => by cases d <;> exact h) hHeld ?_
    repeat (first
      | (refine planWp_read (v := ?_) rfl rfl ?_ ?_ ?_; rotate_left; (focus rfl); (focus (intro u hSw; (try dsimp only at hSw); go_simp; (try with_reducible rfl))); (try simp only [Act.put, List.setIfInBounds_toArray, List.set_cons_zero, List.set_cons_succ]))
      | (refine planWp_skip rfl rfl ?_ ?_; (focus rfl); (try simp only [Act.put, List.setIfInBounds_toArray, List.set_cons_zero, List.set_cons_succ]))
      | (refine planWp_leave rfl rfl ?_ hHeld ?_; (focus rfl); (try simp only [Act.put, List.setIfInBounds_toArray, List.set_cons_zero, List.set_cons_succ]))
      | (refine planWp_do rfl rfl ?_ (fun K hK => ?_); (focus rfl); go_simp; (try go_wp2_with (first | (go_at_call 32; refine (HX.out _).mono ?_; rintro e wx ⟨rfl, hcx⟩; have HCX := Lib.hid hcx; clear hcx) | (go_at_call 13; refine (HF.out _).mono ?_; rintro e wx ⟨rfl, hcx⟩; have HCX := Lib.hid hcx; clear hcx))); refine hK.out _ _ ?_ (fun hHeld2 => ?_); (focus (have hcn := Chg.trans hHeld.2.2.2.2.2.2.2.2.out HCX.out; exact KEEP.out _ hcn)); clear hK K hHeld; have hHeld := hHeld2; clear hHeld2; (try simp only [Act.put, List.setIfInBounds_toArray, List.set_cons_zero, List.set_cons_succ])))
    refine planWp_nil ?_
    have HCC := Lib.hid (HC0.out.trans hHeld.2.2.2.2.2.2.2.2.out)
    clear hHeld KEEP
    go_wp2_with fail
    go_ret
    exact ⟨by (refine ret_int ?_; exact HV.out), HCC.out⟩

/-- so many of its attempts failed -/
def afterI (k w s c st il rl op fails : Int) : Int := cleanI k w s c st il rl op + max 0 (min fails (max (c - 1) 0)) * failI k w s c st il rl op
theorem Clamp_c (n lo hi : Int) (W : World) : Calls Try.prog 31 #[.int .i64 n, .int .i64 lo, .int .i64 hi] W fun e W' => e = .returned (.int .i64 (max lo (min n hi))) ∧ Chg [] W W' :=
  (Clamp_any n lo hi W).mono (by rintro e W' ⟨rfl, rfl⟩; exact ⟨rfl, Chg.refl _ _⟩)
theorem after_val (k w s c st il rl op fails x : Int) (hx : (0 ≤ IntKind.i64.wrap (c - 1) ∧ x = IntKind.i64.wrap (c - 1)) ∨ (¬ 0 ≤ IntKind.i64.wrap (c - 1) ∧ x = 0)) :
    IntKind.i64.wrap (cleanI k w s c st il rl op + IntKind.i64.wrap (max 0 (min fails x) * failI k w s c st il rl op)) = afterI k w s c st il rl op fails := by
  have hbd := bound_bd k w s c st il rl op
  unfold afterI
  cases h : (rightB k w s c st il rl && retB k op)
  · obtain ⟨h1, h2⟩ := fail_none h
    rw [h1, h2, Int.mul_zero, Int.mul_zero, wrap_near (z := 0) (by omega), Int.add_zero, wrap_near (by omega)]
  · obtain ⟨hc, hw, hB, hF, hC⟩ := tries_parts h
    rw [wrap_near (z := c - 1) (by omega)] at hx
    obtain rfl : x = c - 1 := by omega
    have he : max (c - 1) 0 = c - 1 := by omega
    rw [he]
    have hm := mul15 (a := max 0 (min fails (c - 1))) (by omega) hF
    rw [wrap_near (z := max 0 (min fails (c - 1)) * _) (by omega), wrap_near (by omega)]
set_option maxHeartbeats 4000000 in
theorem bAfter_any (k : Int) (w s c st : Int) (ia : Option Addr) (il ic : Nat) (wr : Int) (ra : Option Addr) (rl rc : Nat) (op fails : Int) (h : ObjW k w s c st il rl) (W : World) :
    Calls Try.prog 10 #[.agg #[.int .i64 k, .int .i64 w, .int .i64 s, .int .i64 c, .int .u32 st, .slice ia il ic, .int .i64 wr, .slice ra rl rc], .int .i64 op, .int .i64 fails] W fun e W' => e = .returned (.int .i64 (afterI k w s c st il rl op fails)) ∧ Chg [] W W' := by
  have HX := Lib.hid (fun u => bClean_any k w s c st ia il ic wr ra rl rc op h u)
  have HF := Lib.hid (fun u => bFail_any k w s c st ia il ic wr ra rl rc op h u)
  clear h
  by_cases hx : 0 ≤ IntKind.i64.wrap (c - 1)
  · have HV := Lib.hid (after_val k w s c st il rl op fails _ (.inl ⟨hx, rfl⟩))
    have hx2 : ¬ IntKind.i64.wrap (c - 1) < 0 := by omega
    go_enter Try.func10, Try.ntmps10
    go_wp2_with fail
    generalize hW0 : (W.alloc (.cells #[.int .i64 k, .int .i64 w, .int .i64 s, .int .i64 c, .int .u32 st, .slice ia il ic, .int .i64 wr, .slice ra rl rc] 26)) = W0
    have hB0 : Blk W0 W.heap.size #[.int .i64 k, .int .i64 w, .int .i64 s, .int .i64 c, .int .u32 st, .slice ia il ic, .int .i64 wr, .slice ra rl rc] 26 := by rw [← hW0]; exact Blk.new W _ _
    have HC0 : Hid (Chg [] W W0) := Lib.hid (by rw [← hW0]; exact (Chg.refl _ _).alloc _)
    clear hW0
    have e0 : W0.cell? ⟨W.heap.size, 0, none⟩ = some (.int .i64 k) := hB0.cell rfl
    have e1 : W0.cell? ⟨W.heap.size, 1, none⟩ = some (.int .i64 w) := hB0.cell rfl
    have e2 : W0.cell? ⟨W.heap.size, 2, none⟩ = some (.int .i64 s) := hB0.cell rfl
    have e3 : W0.cell? ⟨W.heap.size, 3, none⟩ = some (.int .i64 c) := hB0.cell rfl
    have e4 : W0.cell? ⟨W.heap.size, 4, none⟩ = some (.int .u32 st) := hB0.cell rfl
    have e5 : W0.cell? ⟨W.heap.size, 5, none⟩ = some (.slice ia il ic) := hB0.cell rfl
    have e6 : W0.cell? ⟨W.heap.size, 6, none⟩ = some (.int .i64 wr) := hB0.cell rfl
    have e7 : W0.cell? ⟨W.heap.size, 7, none⟩ = some (.slice ra rl rc) := hB0.cell rfl
    have KEEP := Lib.hid (fun (V : World) (h : Chg [] W0 V) => (⟨h.keep e0 (by simp), h.keep e1 (by simp), h.keep e2 (by simp), h.keep e3 (by simp), h.keep e4 (by simp), h.keep e5 (by simp), h.keep e6 (by simp), h.keep e7 (by simp), Lib.hid h⟩ : (fun V : World => V.cell? ⟨W.heap.size, 0, none⟩ = some (.int .i64 k) ∧ V.cell? ⟨W.heap.size, 1, none⟩ = some (.int .i64 w) ∧ V.cell? ⟨W.heap.size, 2, none⟩ = some (.int .i64 s) ∧ V.cell? ⟨W.heap.size, 3, none⟩ = some (.int .i64 c) ∧ V.cell? ⟨W.heap.size, 4, none⟩ = some (.int .u32 st) ∧ V.cell? ⟨W.heap.size, 5, none⟩ = some (.slice ia il ic) ∧ V.cell? ⟨W.heap.size, 6, none⟩ = some (.int .i64 wr) ∧ V.cell? ⟨W.heap.size, 7, none⟩ = some (.slice ra rl rc) ∧ Hid (Chg [] W0 V)) V))
    clear e0 e1 e2 e3 e4 e5 e6 e7 hB0
    have hHeld : (fun V : World => V.cell? ⟨W.heap.size, 0, none⟩ = some (.int .i64 k) ∧ V.cell? ⟨W.heap.size, 1, none⟩ = some (.int .i64 w) ∧ V.cell? ⟨W.heap.size, 2, none⟩ = some (.int .i64 s) ∧ V.cell? ⟨W.heap.size, 3, none⟩ = some (.int .i64 c) ∧ V.cell? ⟨W.heap.size, 4, none⟩ = some (.int .u32 st) ∧ V.cell? ⟨W.heap.size, 5, none⟩ = some (.slice ia il ic) ∧ V.cell? ⟨W.heap.size, 6, none⟩ = some (.int .i64 wr) ∧ V.cell? ⟨W.heap.size, 7, none⟩ = some (.slice ra rl rc) ∧ Hid (Chg [] W0 V)) (World.drew W0) := KEEP.out _ (Chg.refl _ _).drew
    refine wp_region_plan (fun V : World => V.cell? ⟨W.heap.size, 0, none⟩ = some (.int .i64 k) ∧ V.cell? ⟨W.heap.size, 1, none⟩ = some (.int .i64 w) ∧ V.cell? ⟨W.heap.size, 2, none⟩ = some (.int .i64 s) ∧ V.cell? ⟨W.heap.size, 3, none⟩ = some (.int .i64 c) ∧ V.cell? ⟨W.heap.size, 4, none⟩ = some (.int .u32 st) ∧ V.cell? ⟨W.heap.size, 5, none⟩ = some (.slice ia il ic) ∧ V.cell? ⟨W.heap.size, 6, none⟩ = some (.int .i64 wr) ∧ V.cell? ⟨W.heap.size, 7, none⟩ = some (.slice ra rl rc) ∧ Hid (Chg [] W0 V)) [(0, true, some 7), (1, true, some 8), (3, true, some 10), (4, true, some 11), (5, true, some 12), (6, true, some 13), (7, true, some 14), (9, true, some 16), (10, true, some 17), (2, false, some 9), (8, false, some 15), (11, false, some 18), (12, true, some 19), (13, true, some 20), (14, true, some 6)] (by kernel_rfl) (by kernel_rfl) (by kernel_rfl) (by kernel_rfl) (fun d c a v w h => by cases d <;> exact h) hHeld ?_
    repeat (first
      | (refine planWp_read (v := ?_) rfl rfl ?_ ?_ ?_; rotate_left; (focus rfl); (focus (intro u hSw; (try dsimp only at hSw); go_simp; (try with_reducible rfl))); (try simp only [Act.put, List.setIfInBounds_toArray, List.set_cons_zero, List.set_cons_succ]))
      | (refine planWp_skip rfl rfl ?_ ?_; (focus rfl); (try simp only [Act.put, List.setIfInBounds_toArray, List.set_cons_zero, List.set_cons_succ]))
      | (refine planWp_leave rfl rfl ?_ hHeld ?_; (focus rfl); (try simp only [Act.put, List.setIfInBounds_toArray, List.set_cons_zero, List.set_cons_succ]))
      | (refine planWp_do rfl rfl ?_ (fun K hK => ?_); (focus rfl); go_simp; (try go_wp2_with (first | (go_at_call 11; refine (HX.out _).mono ?_; rintro e wx ⟨rfl, hcx⟩; have HCX := Lib.hid hcx; clear hcx) | (go_at_call 13; refine (HF.out _).mono ?_; rintro e wx ⟨rfl, hcx⟩; have HCX := Lib.hid hcx; clear hcx) | (go_at_call 31; refine (Clamp_c _ _ _ _).mono ?_; rintro e wx ⟨rfl, hcx⟩; have HCX := Lib.hid hcx; clear hcx))); refine hK.out _ _ ?_ (fun hHeld2 => ?_); (focus (have hcn := Chg.trans hHeld.2.2.2.2.2.2.2.2.out HCX.out; exact KEEP.out _ hcn)); clear hK K hHeld; have hHeld := hHeld2; clear hHeld2; (try simp only [Act.put, List.setIfInBounds_toArray, List.set_cons_zero, List.set_cons_succ])))
    refine planWp_nil ?_
    have HCC := Lib.hid (HC0.out.trans hHeld.2.2.2.2.2.2.2.2.out)
    clear hHeld KEEP
    go_wp2_with fail
    go_ret
    exact ⟨by (refine ret_int ?_; exact HV.out), HCC.out⟩
  · have HV := Lib.hid (after_val k w s c st il rl op fails _ (.inr ⟨hx, rfl⟩))
    have hx2 : IntKind.i64.wrap (c - 1) < 0 := by omega
    clear hx
    go_enter Try.func10, Try.ntmps10
    go_wp2_with fail
    generalize hW0 : (W.alloc (.cells #[.int .i64 k, .int .i64 w, .int .i64 s, .int .i64 c, .int .u32 st, .slice ia il ic, .int .i64 wr, .slice ra rl rc] 26)) = W0
    have hB0 : Blk W0 W.heap.size #[.int .i64 k, .int .i64 w, .int .i64 s, .int .i64 c, .int .u32 st, .slice ia il ic, .int .i64 wr, .slice ra rl rc] 26 := by rw [← hW0]; exact Blk.new W _ _
    have HC0 : Hid (Chg [] W W0) := Lib.hid (by rw [← hW0]; exact (Chg.refl _ _).alloc _)
    clear hW0
    have e0 : W0.cell? ⟨W.heap.size, 0, none⟩ = some (.int .i64 k) := hB0.cell rfl
    have e1 : W0.cell? ⟨W.heap.size, 1, none⟩ = some (.int .i64 w) := hB0.cell rfl
    have e2 : W0.cell? ⟨W.heap.size, 2, none⟩ = some (.int .i64 s) := hB0.cell rfl
    have e3 : W0.cell? ⟨W.heap.size, 3, none⟩ = some (.int .i64 c) := hB0.cell rfl
    have e4 : W0.cell? ⟨W.heap.size, 4, none⟩ = some (.int .u32 st) := hB0.cell rfl
    have e5 : W0.cell? ⟨W.heap.size, 5, none⟩ = some (.slice ia il ic) := hB0.cell rfl
    have e6 : W0.cell? ⟨W.heap.size, 6, none⟩ = some (.int .i64 wr) := hB0.cell rfl
    have e7 : W0.cell? ⟨W.heap.size, 7, none⟩ = some (.slice ra rl rc) := hB0.cell rfl
    have KEEP := Lib.hid (fun (V : World) (h : Chg [] W0 V) => (⟨h.keep e0 (by simp), h.keep e1 (by simp), h.keep e2 (by simp), h.keep e3 (by simp), h.keep e4 (by simp), h.keep e5 (by simp), h.keep e6 (by simp), h.keep e7 (by simp), Lib.hid h⟩ : (fun V : World => V.cell? ⟨W.heap.size, 0, none⟩ = some (.int .i64 k) ∧ V.cell? ⟨W.heap.size, 1, none⟩ = some (.int .i64 w) ∧ V.cell? ⟨W.heap.size, 2, none⟩ = some (.int .i64 s) ∧ V.cell? ⟨W.heap.size, 3, none⟩ = some (.int .i64 c) ∧ V.cell? ⟨W.heap.size, 4, none⟩ = some (.int .u32 st) ∧ V.cell? ⟨W.heap.size, 5, none⟩ = some (.slice ia il ic) ∧ V.cell? ⟨W.heap.size, 6, none⟩ = some (.int .i64 wr) ∧ V.cell? ⟨W.heap.size, 7, none⟩ = some (.slice ra rl rc) ∧ Hid (Chg [] W0 V)) V))
    clear e0 e1 e2 e3 e4 e5 e6 e7 hB0
    have hHeld : (fun V : World => V.cell? ⟨W.heap.size, 0, none⟩ = some (.int .i64 k) ∧ V.cell? ⟨W.heap.size, 1, none⟩ = some (.int .i64 w) ∧ V.cell? ⟨W.heap.size, 2, none⟩ = some (.int .i64 s) ∧ V.cell? ⟨W.heap.size, 3, none⟩ = some (.int .i64 c) ∧ V.cell? ⟨W.heap.size, 4, none⟩ = some (.int .u32 st) ∧ V.cell? ⟨W.heap.size, 5, none⟩ = some (.slice ia il ic) ∧ V.cell? ⟨W.heap.size, 6, none⟩ = some (.int .i64 wr) ∧ V.cell? ⟨W.heap.size, 7, none⟩ = some (.slice ra rl rc) ∧ Hid (Chg [] W0 V)) (World.drew W0) := KEEP.out _ (Chg.refl _ _).drew
    refine wp_region_plan (fun V : World => V.cell? ⟨W.heap.size, 0, none⟩ = some (.int .i64 k) ∧ V.cell? ⟨W.heap.size, 1, none⟩ = some (.int .i64 w) ∧ V.cell? ⟨W.heap.size, 2, none⟩ = some (.int .i64 s) ∧ V.cell? ⟨W.heap.size, 3, none⟩ = some (.int .i64 c) ∧ V.cell? ⟨W.heap.size, 4, none⟩ = some (.int .u32 st) ∧ V.cell? ⟨W.heap.size, 5, none⟩ = some (.slice ia il ic) ∧ V.cell? ⟨W.heap.size, 6, none⟩ = some (.int .i64 wr) ∧ V.cell? ⟨W.heap.size, 7, none⟩ = some (.slice ra rl rc) ∧ Hid (Chg [] W0 V)) [(0, true, some 7), (1, true, some 8), (3, true, some 10), (4, true, some 11), (5, true, some 12), (6, true, some 13), (7, true, some 14), (9, true, some 16), (10, true, some 17), (2, false, some 9), (8, false, some 15), (11, false, some 18), (12, true, some 19), (13, true, some 20), (14, true, some 6)] (by kernel_rfl) (by kernel_rfl) (by kernel_rfl) (by kernel_rfl) (fun d c a v w h => by cases d <;> exact h) hHeld ?_
    repeat (first
      | (refine planWp_read (v := ?_) rfl rfl ?_ ?_ ?_; rotate_left; (focus rfl); (focus (intro u hSw; (try dsimp only at hSw); go_simp; (try with_reducible rfl))); (try simp only [Act.put, List.setIfInBounds_toArray, List.set_cons_zero, List.set_cons_succ]))
      | (refine planWp_skip rfl rfl ?_ ?_; (focus rfl); (try simp only [Act.put, List.setIfInBounds_toArray, List.set_cons_zero, List.set_cons_succ]))
      | (refine planWp_leave rfl rfl ?_ hHeld ?_; (focus rfl); (try simp only [Act.put, List.setIfInBounds_toArray, List.set_cons_zero, List.set_cons_succ]))
      | (refine planWp_do rfl rfl ?_ (fun K hK => ?_); (focus rfl); go_simp; (try go_wp2_with (first | (go_at_call 11; refine (HX.out _).mono ?_; rintro e wx ⟨rfl, hcx⟩; have HCX := Lib.hid hcx; clear hcx) | (go_at_call 13; refine (HF.out _).mono ?_; rintro e wx ⟨rfl, hcx⟩; have HCX := Lib.hid hcx; clear hcx) | (go_at_call 31; refine (Clamp_c _ _ _ _).mono ?_; rintro e wx ⟨rfl, hcx⟩; have HCX := Lib.hid hcx; clear hcx))); refine hK.out _ _ ?_ (fun hHeld2 => ?_); (focus (have hcn := Chg.trans hHeld.2.2.2.2.2.2.2.2.out HCX.out; exact KEEP.out _ hcn)); clear hK K hHeld; have hHeld := hHeld2; clear hHeld2; (try simp only [Act.put, List.setIfInBounds_toArray, List.set_cons_zero, List.set_cons_succ])))
    refine planWp_nil ?_
    have HCC := Lib.hid (HC0.out.trans hHeld.2.2.2.2.2.2.2.2.out)
    clear hHeld KEEP
    go_wp2_with fail
    go_ret
    exact ⟨by (refine ret_int ?_; exact HV.out), HCC.out⟩
end Go.Proofs.Ytjplamoofkcojaa.obj
