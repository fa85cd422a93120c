import Derived.Test.YtkedegbpkkgeaaaGreatTop3
import Derived.Test.YtkedegbpkkgeaaaGreatPlans
import Derived.Test.YtkedegbpkkgeaaaGreatProg
import Derived.Test.YtkedegbpkkgeaaaGreatOpen
/- Package isa: Target, Calls, Uses, Sets. -/
namespace Go.Proofs.YtkedegbpkkgeaaaGreat.isa
open Go Go.RowKit Go.Proofs.YtkedegbpkkgeaaaGreat.kit Go.Proofs.YtkedegbpkkgeaaaGreat.codec
set_option linter.unusedVariables false
set_option linter.unusedSimpArgs false
set_option maxRecDepth 20000

theorem right_in {op a b c n : Int} (h : rightI ⟨op, a, b, c, n⟩ = true) : ∃ k : Nat, k < 22 ∧ op = k := by
  unfold rightI at h
  split at h
  · rename_i hk
    have h1 : 0 ≤ op ∧ op < 22 := hk
    exact ⟨op.toNat, by omega, by omega⟩
  · cases h
theorem field_at (k : Nat) (u : World) (i : Nat) (v : Value) (hv : (shapeAt k).cells[i]? = some v) (hi : i < 7) : (Instr.field 139 (.agg #[.string (wordB k), .int .i64 (shapeAt k).a, .int .i64 (shapeAt k).b, .int .i64 (shapeAt k).c, .int .i64 (shapeAt k).n, .string (usesB k), .string (setsB k)]) i).run Tryz.prog u = .ok v u := by
  have : i = 0 ∨ i = 1 ∨ i = 2 ∨ i = 3 ∨ i = 4 ∨ i = 5 ∨ i = 6 := by omega
  rcases this with rfl | rfl | rfl | rfl | rfl | rfl | rfl <;> simp [Shape.cells] at hv <;> subst hv <;> simp [Instr.field, go_sem, asAgg] <;> try rfl
def leadsI (op : Int) : Bool := decide (14 ≤ op ∧ op ≤ 16)
theorem leads_shape : (List.range 22).all (fun k => decide ((shapeAt k).n = 4) == leadsI k) = true := by kernel_rfl
theorem leads_at (k : Nat) (hk : k < 22) : decide ((shapeAt k).n = 4) = leadsI k := by
  have := List.all_eq_true.1 leads_shape k (List.mem_range.2 hk)
  exact eq_of_beq this
set_option maxHeartbeats 2000000 in
theorem Target_any (op a b c n : Int) (hn : (Lit.int .u32 n).wf = true) (w : World) :
    Calls Tryz.prog 139 #[.agg #[.int .i64 op, .int .i64 a, .int .i64 b, .int .i64 c, .int .u32 n]] w fun e w' => e = .returned (.tuple #[.int .i64 (if rightI ⟨op, a, b, c, n⟩ && leadsI op then n else 0), .bool (rightI ⟨op, a, b, c, n⟩ && leadsI op)]) ∧ Chg [] w w' := by
  generalize hg : rightI ⟨op, a, b, c, n⟩ = g
  have HG := Lib.hid hg
  cases g
  · rw [Bool.false_and, if_neg (by decide)]
    clear hg
    go_enter Tryz.func139, Tryz.ntmps139
    go_wp2_with fail
    generalize hW0 : (w.alloc (.cells #[.int .i64 op, .int .i64 a, .int .i64 b, .int .i64 c, .int .u32 n] 53)) = W0
    have hB0 : Blk W0 w.heap.size #[.int .i64 op, .int .i64 a, .int .i64 b, .int .i64 c, .int .u32 n] 53 := by rw [← hW0]; exact Blk.new w _ _
    have HC0 : Hid (Chg [] w W0) := Lib.hid (by rw [← hW0]; exact (Chg.refl _ _).alloc _)
    clear hW0
    have e0 : W0.cell? ⟨w.heap.size, 0, none⟩ = some (.int .i64 op) := hB0.cell rfl
    have e1 : W0.cell? ⟨w.heap.size, 1, none⟩ = some (.int .i64 a) := hB0.cell rfl
    have e2 : W0.cell? ⟨w.heap.size, 2, none⟩ = some (.int .i64 b) := hB0.cell rfl
    have e3 : W0.cell? ⟨w.heap.size, 3, none⟩ = some (.int .i64 c) := hB0.cell rfl
    have e4 : W0.cell? ⟨w.heap.size, 4, none⟩ = some (.int .u32 n) := hB0.cell rfl
    have KEEP := Lib.hid (fun (W : World) (h : Chg [] W0 W) => (⟨h.keep e0 (by simp), h.keep e1 (by simp), h.keep e2 (by simp), h.keep e3 (by simp), h.keep e4 (by simp), Lib.hid h⟩ : (fun W : World => W.cell? ⟨w.heap.size, 0, none⟩ = some (.int .i64 op) ∧ W.cell? ⟨w.heap.size, 1, none⟩ = some (.int .i64 a) ∧ W.cell? ⟨w.heap.size, 2, none⟩ = some (.int .i64 b) ∧ W.cell? ⟨w.heap.size, 3, none⟩ = some (.int .i64 c) ∧ W.cell? ⟨w.heap.size, 4, none⟩ = some (.int .u32 n) ∧ Hid (Chg [] W0 W)) W))
    clear e0 e1 e2 e3 e4 hB0
    have hHeld : (fun W : World => W.cell? ⟨w.heap.size, 0, none⟩ = some (.int .i64 op) ∧ W.cell? ⟨w.heap.size, 1, none⟩ = some (.int .i64 a) ∧ W.cell? ⟨w.heap.size, 2, none⟩ = some (.int .i64 b) ∧ W.cell? ⟨w.heap.size, 3, none⟩ = some (.int .i64 c) ∧ W.cell? ⟨w.heap.size, 4, none⟩ = some (.int .u32 n) ∧ Hid (Chg [] W0 W)) (World.drew W0) := KEEP.out _ (Chg.refl _ _).drew
    refine wp_region_plan (fun W : World => W.cell? ⟨w.heap.size, 0, none⟩ = some (.int .i64 op) ∧ W.cell? ⟨w.heap.size, 1, none⟩ = some (.int .i64 a) ∧ W.cell? ⟨w.heap.size, 2, none⟩ = some (.int .i64 b) ∧ W.cell? ⟨w.heap.size, 3, none⟩ = some (.int .i64 c) ∧ W.cell? ⟨w.heap.size, 4, none⟩ = some (.int .u32 n) ∧ Hid (Chg [] W0 W)) [(0, true, some 4), (1, false, some 5), (2, true, some 6), (3, true, some 7), (5, true, some 9), (6, true, some 10), (4, false, some 8), (7, true, some 11), (8, true, some 12), (9, true, some 13), (10, true, some 14)] (by kernel_rfl) (by kernel_rfl) (by kernel_rfl) (by kernel_rfl) (fun d c a v w h => by cases d <;> exact h) hHeld ?_
    repeat (first
      | (refine planWp_read (v := ?_) rfl rfl ?_ ?_ ?_; rotate_left; (focus rfl); (focus (intro u hSw; (try dsimp only at hSw); go_simp; (try with_reducible rfl))); (try simp only [Act.put, List.setIfInBounds_toArray, List.set_cons_zero, List.set_cons_succ]))
      | (refine planWp_skip rfl rfl ?_ ?_; (focus rfl); (try simp only [Act.put, List.setIfInBounds_toArray, List.set_cons_zero, List.set_cons_succ]))
      | (refine planWp_leave rfl rfl ?_ hHeld ?_; (focus rfl); (try simp only [Act.put, List.setIfInBounds_toArray, List.set_cons_zero, List.set_cons_succ]))
      | (refine planWp_do rfl rfl ?_ (fun K hK => ?_); (focus rfl); go_simp; (try go_wp2_with (first | (go_at_call 124; refine (Right_any op a b c n hn _).mono ?_; rintro e w1 ⟨rfl, hc1⟩; rw [HG.out]; have HCX := Lib.hid hc1; clear hc1) | (go_at_call 149; refine (shapes_any _).mono ?_; rintro e w2 ⟨rfl, hc2⟩; have HCX := Lib.hid hc2; clear hc2))); refine hK.out _ _ ?_ (fun hHeld2 => ?_); (focus (have hcn := Chg.trans hHeld.2.2.2.2.2.out HCX.out; exact KEEP.out _ hcn)); clear hK K hHeld; have hHeld := hHeld2; clear hHeld2; (try simp only [Act.put, List.setIfInBounds_toArray, List.set_cons_zero, List.set_cons_succ])))
    refine planWp_nil ?_
    have CC := HC0.out.trans hHeld.2.2.2.2.2.out
    have HCC := Lib.hid CC
    clear CC
    clear hHeld KEEP
    go_wp2_with fail
    go_ret2
    exact ⟨rfl, HCC.out⟩
  · obtain ⟨k, hk, rfl⟩ := right_in hg
    rw [Bool.true_and, ← leads_at k hk]
    clear hg
    have hp := pick_run k hk
    have hf := fun u => field_at k u 4 _ rfl (by decide)
    have HWR := Lib.hid (wrap64_u32 hn)
    by_cases hl : (shapeAt k).n = 4
    · rw [decide_eq_true hl, if_pos rfl]
      have hlb : ((shapeAt k).n == 4) = true := by simp [hl]
      clear hl
      go_enter Tryz.func139, Tryz.ntmps139
      go_wp2_with fail
      generalize hW0 : (w.alloc (.cells #[.int .i64 k, .int .i64 a, .int .i64 b, .int .i64 c, .int .u32 n] 53)) = W0
      have hB0 : Blk W0 w.heap.size #[.int .i64 k, .int .i64 a, .int .i64 b, .int .i64 c, .int .u32 n] 53 := by rw [← hW0]; exact Blk.new w _ _
      have HC0 : Hid (Chg [] w W0) := Lib.hid (by rw [← hW0]; exact (Chg.refl _ _).alloc _)
      clear hW0
      have e0 : W0.cell? ⟨w.heap.size, 0, none⟩ = some (.int .i64 k) := hB0.cell rfl
      have e1 : W0.cell? ⟨w.heap.size, 1, none⟩ = some (.int .i64 a) := hB0.cell rfl
      have e2 : W0.cell? ⟨w.heap.size, 2, none⟩ = some (.int .i64 b) := hB0.cell rfl
      have e3 : W0.cell? ⟨w.heap.size, 3, none⟩ = some (.int .i64 c) := hB0.cell rfl
      have e4 : W0.cell? ⟨w.heap.size, 4, none⟩ = some (.int .u32 n) := hB0.cell rfl
      have KEEP := Lib.hid (fun (W : World) (h : Chg [] W0 W) => (⟨h.keep e0 (by simp), h.keep e1 (by simp), h.keep e2 (by simp), h.keep e3 (by simp), h.keep e4 (by simp), Lib.hid h⟩ : (fun W : World => W.cell? ⟨w.heap.size, 0, none⟩ = some (.int .i64 k) ∧ W.cell? ⟨w.heap.size, 1, none⟩ = some (.int .i64 a) ∧ W.cell? ⟨w.heap.size, 2, none⟩ = some (.int .i64 b) ∧ W.cell? ⟨w.heap.size, 3, none⟩ = some (.int .i64 c) ∧ W.cell? ⟨w.heap.size, 4, none⟩ = some (.int .u32 n) ∧ Hid (Chg [] W0 W)) W))
      clear e0 e1 e2 e3 e4 hB0
      have hHeld : (fun W : World => W.cell? ⟨w.heap.size, 0, none⟩ = some (.int .i64 k) ∧ W.cell? ⟨w.heap.size, 1, none⟩ = some (.int .i64 a) ∧ W.cell? ⟨w.heap.size, 2, none⟩ = some (.int .i64 b) ∧ W.cell? ⟨w.heap.size, 3, none⟩ = some (.int .i64 c) ∧ W.cell? ⟨w.heap.size, 4, none⟩ = some (.int .u32 n) ∧ Hid (Chg [] W0 W)) (World.drew W0) := KEEP.out _ (Chg.refl _ _).drew
      refine wp_region_plan (fun W : World => W.cell? ⟨w.heap.size, 0, none⟩ = some (.int .i64 k) ∧ W.cell? ⟨w.heap.size, 1, none⟩ = some (.int .i64 a) ∧ W.cell? ⟨w.heap.size, 2, none⟩ = some (.int .i64 b) ∧ W.cell? ⟨w.heap.size, 3, none⟩ = some (.int .i64 c) ∧ W.cell? ⟨w.heap.size, 4, none⟩ = some (.int .u32 n) ∧ Hid (Chg [] W0 W)) [(0, true, some 4), (1, false, some 5), (2, true, some 6), (3, true, some 7), (5, true, some 9), (6, true, some 10), (4, false, some 8), (7, true, some 11), (8, true, some 12), (9, true, some 13), (10, true, some 14)] (by kernel_rfl) (by kernel_rfl) (by kernel_rfl) (by kernel_rfl) (fun d c a v w h => by cases d <;> exact h) hHeld ?_
      repeat (first
        | (refine planWp_read (v := ?_) rfl rfl ?_ ?_ ?_; rotate_left; (focus rfl); (focus (intro u hSw; (try dsimp only at hSw); go_simp; (try with_reducible rfl))); (try simp only [Act.put, List.setIfInBounds_toArray, List.set_cons_zero, List.set_cons_succ]))
        | (refine planWp_skip rfl rfl ?_ ?_; (focus rfl); (try simp only [Act.put, List.setIfInBounds_toArray, List.set_cons_zero, List.set_cons_succ]))
        | (refine planWp_leave rfl rfl ?_ hHeld ?_; (focus rfl); (try simp only [Act.put, List.setIfInBounds_toArray, List.set_cons_zero, List.set_cons_succ]))
        | (refine planWp_do rfl rfl ?_ (fun K hK => ?_); (focus rfl); go_simp; (try go_wp2_with (first | (go_at_call 124; refine (Right_any k a b c n hn _).mono ?_; rintro e w1 ⟨rfl, hc1⟩; rw [HG.out]; have HCX := Lib.hid hc1; clear hc1) | (go_at_call 149; refine (shapes_any _).mono ?_; rintro e w2 ⟨rfl, hc2⟩; have HCX := Lib.hid hc2; clear hc2))); refine hK.out _ _ ?_ (fun hHeld2 => ?_); (focus (have hcn := Chg.trans hHeld.2.2.2.2.2.out HCX.out; exact KEEP.out _ hcn)); clear hK K hHeld; have hHeld := hHeld2; clear hHeld2; (try simp only [Act.put, List.setIfInBounds_toArray, List.set_cons_zero, List.set_cons_succ])))
      refine planWp_nil ?_
      have CC := HC0.out.trans hHeld.2.2.2.2.2.out
      have HCC := Lib.hid CC
      clear CC
      have e4 := hHeld.2.2.2.2.1
      clear hHeld KEEP
      go_wp2_with fail
      go_ret2
      exact ⟨by rw [HWR.out]; rfl, HCC.out⟩
    · rw [decide_eq_false hl, if_neg (by decide)]
      have hlb : ((shapeAt k).n == 4) = false := by simp [hl]
      clear hl
      go_enter Tryz.func139, Tryz.ntmps139
      go_wp2_with fail
      generalize hW0 : (w.alloc (.cells #[.int .i64 k, .int .i64 a, .int .i64 b, .int .i64 c, .int .u32 n] 53)) = W0
      have hB0 : Blk W0 w.heap.size #[.int .i64 k, .int .i64 a, .int .i64 b, .int .i64 c, .int .u32 n] 53 := by rw [← hW0]; exact Blk.new w _ _
      have HC0 : Hid (Chg [] w W0) := Lib.hid (by rw [← hW0]; exact (Chg.refl _ _).alloc _)
      clear hW0
      have e0 : W0.cell? ⟨w.heap.size, 0, none⟩ = some (.int .i64 k) := hB0.cell rfl
      have e1 : W0.cell? ⟨w.heap.size, 1, none⟩ = some (.int .i64 a) := hB0.cell rfl
      have e2 : W0.cell? ⟨w.heap.size, 2, none⟩ = some (.int .i64 b) := hB0.cell rfl
      have e3 : W0.cell? ⟨w.heap.size, 3, none⟩ = some (.int .i64 c) := hB0.cell rfl
      have e4 : W0.cell? ⟨w.heap.size, 4, none⟩ = some (.int .u32 n) := hB0.cell rfl
      have KEEP := Lib.hid (fun (W : World) (h : Chg [] W0 W) => (⟨h.keep e0 (by simp), h.keep e1 (by simp), h.keep e2 (by simp), h.keep e3 (by simp), h.keep e4 (by simp), Lib.hid h⟩ : (fun W : World => W.cell? ⟨w.heap.size, 0, none⟩ = some (.int .i64 k) ∧ W.cell? ⟨w.heap.size, 1, none⟩ = some (.int .i64 a) ∧ W.cell? ⟨w.heap.size, 2, none⟩ = some (.int .i64 b) ∧ W.cell? ⟨w.heap.size, 3, none⟩ = some (.int .i64 c) ∧ W.cell? ⟨w.heap.size, 4, none⟩ = some (.int .u32 n) ∧ Hid (Chg [] W0 W)) W))
      clear e0 e1 e2 e3 e4 hB0
      have hHeld : (fun W : World => W.cell? ⟨w.heap.size, 0, none⟩ = some (.int .i64 k) ∧ W.cell? ⟨w.heap.size, 1, none⟩ = some (.int .i64 a) ∧ W.cell? ⟨w.heap.size, 2, none⟩ = some (.int .i64 b) ∧ W.cell? ⟨w.heap.size, 3, none⟩ = some (.int .i64 c) ∧ W.cell? ⟨w.heap.size, 4, none⟩ = some (.int .u32 n) ∧ Hid (Chg [] W0 W)) (World.drew W0) := KEEP.out _ (Chg.refl _ _).drew
      refine wp_region_plan (fun W : World => W.cell? ⟨w.heap.size, 0, none⟩ = some (.int .i64 k) ∧ W.cell? ⟨w.heap.size, 1, none⟩ = some (.int .i64 a) ∧ W.cell? ⟨w.heap.size, 2, none⟩ = some (.int .i64 b) ∧ W.cell? ⟨w.heap.size, 3, none⟩ = some (.int .i64 c) ∧ W.cell? ⟨w.heap.size, 4, none⟩ = some (.int .u32 n) ∧ Hid (Chg [] W0 W)) [(0, true, some 4), (1, false, some 5), (2, true, some 6), (3, true, some 7), (5, true, some 9), (6, true, some 10), (4, false, some 8), (7, true, some 11), (8, true, some 12), (9, true, some 13), (10, true, some 14)] (by kernel_rfl) (by kernel_rfl) (by kernel_rfl) (by kernel_rfl) (fun d c a v w h => by cases d <;> exact h) hHeld ?_
      repeat (first
        | (refine planWp_read (v := ?_) rfl rfl ?_ ?_ ?_; rotate_left; (focus rfl); (focus (intro u hSw; (try dsimp only at hSw); go_simp; (try with_reducible rfl))); (try simp only [Act.put, List.setIfInBounds_toArray, List.set_cons_zero, List.set_cons_succ]))
        | (refine planWp_skip rfl rfl ?_ ?_; (focus rfl); (try simp only [Act.put, List.setIfInBounds_toArray, List.set_cons_zero, List.set_cons_succ]))
        | (refine planWp_leave rfl rfl ?_ hHeld ?_; (focus rfl); (try simp only [Act.put, List.setIfInBounds_toArray, List.set_cons_zero, List.set_cons_succ]))
        | (refine planWp_do rfl rfl ?_ (fun K hK => ?_); (focus rfl); go_simp; (try go_wp2_with (first | (go_at_call 124; refine (Right_any k a b c n hn _).mono ?_; rintro e w1 ⟨rfl, hc1⟩; rw [HG.out]; have HCX := Lib.hid hc1; clear hc1) | (go_at_call 149; refine (shapes_any _).mono ?_; rintro e w2 ⟨rfl, hc2⟩; have HCX := Lib.hid hc2; clear hc2))); refine hK.out _ _ ?_ (fun hHeld2 => ?_); (focus (have hcn := Chg.trans hHeld.2.2.2.2.2.out HCX.out; exact KEEP.out _ hcn)); clear hK K hHeld; have hHeld := hHeld2; clear hHeld2; (try simp only [Act.put, List.setIfInBounds_toArray, List.set_cons_zero, List.set_cons_succ])))
      refine planWp_nil ?_
      have CC := HC0.out.trans hHeld.2.2.2.2.2.out
      have HCC := Lib.hid CC
      clear CC
      clear hHeld KEEP
      go_wp2_with fail
      go_ret2
      exact ⟨rfl, HCC.out⟩

def callI (op : Int) : Int := if 17 ≤ op ∧ op ≤ 20 then op - 16 else 0
set_option maxHeartbeats 2000000 in
theorem Calls_any (op a b c n : Int) (hn : (Lit.int .u32 n).wf = true) (w : World) :
    Calls Tryz.prog 102 #[.agg #[.int .i64 op, .int .i64 a, .int .i64 b, .int .i64 c, .int .u32 n]] w fun e w' => e = .returned (.tuple #[.int .i64 (if rightI ⟨op, a, b, c, n⟩ && decide (0 < callI op) then b else 0), .int .i64 (if rightI ⟨op, a, b, c, n⟩ then callI op else 0), .bool (rightI ⟨op, a, b, c, n⟩ && decide (0 < callI op))]) ∧ Chg [] w w' := by
  generalize hg : rightI ⟨op, a, b, c, n⟩ = g
  have HG := Lib.hid hg
  clear hg
  cases g
  · rw [Bool.false_and, if_neg (by decide), if_neg (by decide)]
    go_enter Tryz.func102, Tryz.ntmps102
    go_wp2_with (go_at_call 124; refine (Right_any op a b c n hn _).mono ?_; rintro e w1 ⟨rfl, hc1⟩; rw [HG.out])
    go_ret3
    exact ⟨rfl, ((Chg.refl _ _).alloc _).trans hc1⟩
  · rw [Bool.true_and, if_pos rfl]
    have hcases : op = 17 ∨ op = 18 ∨ op = 19 ∨ op = 20 ∨ (op ≠ 17 ∧ op ≠ 18 ∧ op ≠ 19 ∧ op ≠ 20) := by omega
    rcases hcases with rfl | rfl | rfl | rfl | ⟨n1, n2, n3, n4⟩
    case inr.inr.inr.inr =>
      have hz : callI op = 0 := by unfold callI; exact if_neg (by omega)
      rw [hz, if_neg (by decide)]
      clear hz
      have b1 : (op == 17) = false := by simpa using n1
      have b2 : (op == 18) = false := by simpa using n2
      have b3 : (op == 19) = false := by simpa using n3
      have b4 : (op == 20) = false := by simpa using n4
      clear n1 n2 n3 n4
      go_enter Tryz.func102, Tryz.ntmps102
      go_wp2_with (go_at_call 124; refine (Right_any op a b c n hn _).mono ?_; rintro e w1 ⟨rfl, hc1⟩; rw [HG.out]; have hbx := (Blk.new w #[.int .i64 op, .int .i64 a, .int .i64 b, .int .i64 c, .int .u32 n] 53).keep hc1 (by simp); have e0 := hbx.cell (o := 0) (v := .int .i64 op) rfl; have e2 := hbx.cell (o := 2) (v := .int .i64 b) rfl)
      go_ret3
      exact ⟨rfl, ((Chg.refl _ _).alloc _).trans hc1⟩
    case inl =>
      rw [show callI 17 = 1 from rfl, if_pos (by decide)]
      go_enter Tryz.func102, Tryz.ntmps102
      go_wp2_with (go_at_call 124; refine (Right_any 17 a b c n hn _).mono ?_; rintro e w1 ⟨rfl, hc1⟩; rw [HG.out]; have hbx := (Blk.new w #[.int .i64 17, .int .i64 a, .int .i64 b, .int .i64 c, .int .u32 n] 53).keep hc1 (by simp); have e0 := hbx.cell (o := 0) (v := .int .i64 17) rfl; have e2 := hbx.cell (o := 2) (v := .int .i64 b) rfl)
      go_ret3
      exact ⟨rfl, ((Chg.refl _ _).alloc _).trans hc1⟩
    case inr.inl =>
      rw [show callI 18 = 2 from rfl, if_pos (by decide)]
      go_enter Tryz.func102, Tryz.ntmps102
      go_wp2_with (go_at_call 124; refine (Right_any 18 a b c n hn _).mono ?_; rintro e w1 ⟨rfl, hc1⟩; rw [HG.out]; have hbx := (Blk.new w #[.int .i64 18, .int .i64 a, .int .i64 b, .int .i64 c, .int .u32 n] 53).keep hc1 (by simp); have e0 := hbx.cell (o := 0) (v := .int .i64 18) rfl; have e2 := hbx.cell (o := 2) (v := .int .i64 b) rfl)
      go_ret3
      exact ⟨rfl, ((Chg.refl _ _).alloc _).trans hc1⟩
    case inr.inr.inl =>
      rw [show callI 19 = 3 from rfl, if_pos (by decide)]
      go_enter Tryz.func102, Tryz.ntmps102
      go_wp2_with (go_at_call 124; refine (Right_any 19 a b c n hn _).mono ?_; rintro e w1 ⟨rfl, hc1⟩; rw [HG.out]; have hbx := (Blk.new w #[.int .i64 19, .int .i64 a, .int .i64 b, .int .i64 c, .int .u32 n] 53).keep hc1 (by simp); have e0 := hbx.cell (o := 0) (v := .int .i64 19) rfl; have e2 := hbx.cell (o := 2) (v := .int .i64 b) rfl)
      go_ret3
      exact ⟨rfl, ((Chg.refl _ _).alloc _).trans hc1⟩
    case inr.inr.inr.inl =>
      rw [show callI 20 = 4 from rfl, if_pos (by decide)]
      go_enter Tryz.func102, Tryz.ntmps102
      go_wp2_with (go_at_call 124; refine (Right_any 20 a b c n hn _).mono ?_; rintro e w1 ⟨rfl, hc1⟩; rw [HG.out]; have hbx := (Blk.new w #[.int .i64 20, .int .i64 a, .int .i64 b, .int .i64 c, .int .u32 n] 53).keep hc1 (by simp); have e0 := hbx.cell (o := 0) (v := .int .i64 20) rfl; have e2 := hbx.cell (o := 2) (v := .int .i64 b) rfl)
      go_ret3
      exact ⟨rfl, ((Chg.refl _ _).alloc _).trans hc1⟩

def letterOk (k : Nat) (ch : UInt8) : Bool := (ch.toNat == 97 && decide ((shapeAt k).a = 1)) || (ch.toNat == 98 && decide ((shapeAt k).b = 1)) || (ch.toNat == 99 && decide ((shapeAt k).c = 1))
end Go.Proofs.YtkedegbpkkgeaaaGreat.isa
/- Parts joined: ObjD, Obj2, Small, ObjO. -/
/- Objects: words. -/
namespace Go.Proofs.YtkedegbpkkgeaaaGreat.obj
open Go Go.RowKit Go.Proofs.YtkedegbpkkgeaaaGreat.kit
set_option linter.unusedVariables false
set_option linter.unusedSimpArgs false
set_option maxRecDepth 20000

/-- an object's numbers are in their bounds -/
structure ObjW (k w s c st : Int) (il rl : Nat) : Prop where
  k64 : -9223372036854775808 ≤ k ∧ k ≤ 9223372036854775807
  w64 : -9223372036854775808 ≤ w ∧ w ≤ 9223372036854775807
  s64 : -9223372036854775808 ≤ s ∧ s ≤ 9223372036854775807
  c64 : -9223372036854775808 ≤ c ∧ c ≤ 9223372036854775807
  st32 : 0 ≤ st ∧ st ≤ 4294967295
  ilen : il ≤ 100
  rlen : rl ≤ 100

def rightB (k w s c st il rl : Int) : Bool := decide ((1 ≤ w ∧ w ≤ 8 ∧ 1 ≤ rl ∧ rl ≤ 4 ∧ (k = 6 ∨ il = w)) ∧
  ((k = 1 ∧ s = 0 ∧ c = 0 ∧ st = 0 ∧ rl = 1) ∨ (k = 2 ∧ s = 0 ∧ c = 0 ∧ st = 0) ∨ (k = 3 ∧ s = 0 ∧ 1 ≤ c ∧ c ≤ 16 ∧ st % 2 = 0) ∨
   (k = 4 ∧ 2 ≤ s ∧ s ≤ 16 ∧ 1 ≤ c ∧ c ≤ 16 ∧ st < s * 1048576) ∨ (k = 5 ∧ rl + 2 ≤ s ∧ s ≤ 16 ∧ 1 ≤ c ∧ c ≤ 16 ∧ st = 0) ∨
   (k = 6 ∧ 1 ≤ s ∧ s ≤ 16 ∧ c = 0 ∧ st < 2 * s ∧ rl = 1 ∧ il = 0)))

theorem rightB_out (k w s c st il rl : Int) (hk : k < 1 ∨ 6 < k) : rightB k w s c st il rl = false := by
  unfold rightB; rw [decide_eq_false_iff_not]; omega
/-- how many steps an operation of a right object has -/
def boundK (k w c rl op : Int) : Int :=
  if k = 1 then (if op = 2 then w + 4 else if op = 1 then w + 3 else 0)
  else if k = 2 then (if op = 2 then w + 2 * rl + 2 else if op = 1 then w + 4 else 0)
  else if k = 3 then (if op = 2 then w + 3 else if op = 1 then c * (w + 2) else 0)
  else if k = 4 then (if op = 2 then w + 2 else if op = 1 then c * (w + 2) else 0)
  else if k = 5 then (if op = 2 then w + rl + 2 else if op = 1 then 3 * c + w + 1 else 0)
  else (if op = 3 ∨ op = 4 then w + 3 else 0)
def boundI (k w s c st il rl op : Int) : Int := if rightB k w s c st il rl then boundK k w c rl op else 0
theorem rightB_bd {k w s c st il rl : Int} (h : rightB k w s c st il rl = true) : 1 ≤ w ∧ w ≤ 8 ∧ 1 ≤ rl ∧ rl ≤ 4 ∧ 0 ≤ c ∧ c ≤ 16 ∧ 0 ≤ s ∧ s ≤ 16 ∧ 1 ≤ k ∧ k ≤ 6 := by
  simp only [rightB, decide_eq_true_eq] at h
  omega
theorem mul_bd {c w : Int} (hc : 0 ≤ c ∧ c ≤ 16) (hw : 1 ≤ w ∧ w ≤ 8) : 0 ≤ c * (w + 2) ∧ c * (w + 2) ≤ 160 := by
  have h1 : c * (w + 2) ≤ 16 * (w + 2) := Int.mul_le_mul_of_nonneg_right hc.2 (by omega)
  have h2 : 0 ≤ c * (w + 2) := Int.mul_nonneg hc.1 (by omega)
  omega

end Go.Proofs.YtkedegbpkkgeaaaGreat.obj

/- Objects: words, attempts, and whether one is right as one of its kind: the program's. -/
namespace Go.Proofs.YtkedegbpkkgeaaaGreat.obj
open Go Go.RowKit Go.Proofs.YtkedegbpkkgeaaaGreat.kit
set_option linter.unusedVariables false
set_option linter.unusedSimpArgs false
set_option maxRecDepth 20000

def writesI (k : Int) : Int := if k = 6 then 3 else 2
def readsI (k : Int) : Int := if k = 6 then 4 else 1
theorem rWrites_any (k : Int) (W : World) : Calls Tryz.prog 32 #[.int .i64 k] W fun e W' => e = .returned (.int .i64 (writesI k)) ∧ W = W' := by
  by_cases h : k = 6
  · subst h
    go_enter Tryz.func32, Tryz.ntmps32
    go_wp2
    go_ret
    exact ⟨rfl, rfl⟩
  · rw [show writesI k = 2 from if_neg h]
    go_enter Tryz.func32, Tryz.ntmps32
    go_wp2
    go_ret
    exact ⟨rfl, rfl⟩
theorem rReads_any (k : Int) (W : World) : Calls Tryz.prog 33 #[.int .i64 k] W fun e W' => e = .returned (.int .i64 (readsI k)) ∧ W = W' := by
  by_cases h : k = 6
  · subst h
    go_enter Tryz.func33, Tryz.ntmps33
    go_wp2
    go_ret
    exact ⟨rfl, rfl⟩
  · rw [show readsI k = 1 from if_neg h]
    go_enter Tryz.func33, Tryz.ntmps33
    go_wp2
    go_ret
    exact ⟨rfl, rfl⟩

def wordsOk (k kd w il init rl : Int) : Bool := decide (k = kd ∧ 1 ≤ w ∧ w ≤ 8 ∧ il = init ∧ 1 ≤ rl ∧ rl ≤ 4)
set_option maxHeartbeats 2000000 in
theorem mWords_any (k kd init : Int) (w s c st : Int) (ia : Option Addr) (il ic : Nat) (wr : Int) (ra : Option Addr) (rl rc : Nat) (h : ObjW k w s c st il rl) (W : World) :
    Calls Tryz.prog 86 #[.agg #[.int .i64 k, .int .i64 w, .int .i64 s, .int .i64 c, .int .u32 st, .slice ia il ic, .int .i64 wr, .slice ra rl rc], .int .i64 kd, .int .i64 init] W fun e W' => e = .returned (.bool (wordsOk k kd w il init rl)) ∧ Chg [] W W' := by
  obtain ⟨h1, h2, h3, h4, h5, h6, h7⟩ := h
  generalize hr : wordsOk k kd w il init rl = r
  have HR := Lib.hid hr
  clear hr
  go_enter Tryz.func86, Tryz.ntmps86
  go_wp2
  all_goals (go_ret; refine ⟨?_, (Chg.refl _ _).alloc _⟩; rw [← HR.out]; refine ret_bool ?_; rw [Bool.eq_iff_iff]; (first | (simp [wordsOk]; done) | (simp [wordsOk]; omega) | (simp_all [wordsOk]; done) | (simp_all [wordsOk]; omega) | (trace_state; fail)))
def capsOk (c : Int) : Bool := decide (1 ≤ c ∧ c ≤ 16)
theorem mCaps_any (k : Int) (w s c st : Int) (ia : Option Addr) (il ic : Nat) (wr : Int) (ra : Option Addr) (rl rc : Nat) (W : World) :
    Calls Tryz.prog 87 #[.agg #[.int .i64 k, .int .i64 w, .int .i64 s, .int .i64 c, .int .u32 st, .slice ia il ic, .int .i64 wr, .slice ra rl rc]] W fun e W' => e = .returned (.bool (capsOk c)) ∧ Chg [] W W' := by
  generalize hr : capsOk c = r
  have HR := Lib.hid hr
  clear hr
  go_enter Tryz.func87, Tryz.ntmps87
  go_wp2
  all_goals (go_ret; refine ⟨?_, (Chg.refl _ _).alloc _⟩; rw [← HR.out]; refine ret_bool ?_; rw [Bool.eq_iff_iff]; (first | (simp [capsOk]; done) | (simp [capsOk]; omega) | (simp_all [capsOk]; done) | (simp_all [capsOk]; omega) | (trace_state; fail)))

set_option maxHeartbeats 4000000 in
theorem fourRight_any (k : Int) (w s c st : Int) (ia : Option Addr) (il ic : Nat) (wr : Int) (ra : Option Addr) (rl rc : Nat) (h : ObjW k w s c st il rl) (W : World) :
    Calls Tryz.prog 55 #[.agg #[.int .i64 k, .int .i64 w, .int .i64 s, .int .i64 c, .int .u32 st, .slice ia il ic, .int .i64 wr, .slice ra rl rc]] W fun e W' => e = .returned (.bool (decide (k = 1) && rightB k w s c st il rl)) ∧ Chg [] W W' := by
  have HO := Lib.hid h
  obtain ⟨h1, h2, h3, h4, h5, h6, h7⟩ := h
  generalize hr : (decide (k = 1) && rightB k w s c st il rl) = r
  have HR := Lib.hid hr
  clear hr
  cases hwords : wordsOk k 1 w il w rl
  · have HW := Lib.hid hwords
    have hf : r = false := by
      rw [← HR.out]
      simp only [wordsOk, decide_eq_false_iff_not] at hwords
      rw [Bool.eq_false_iff]
      intro hx
      simp [rightB] at hx
      omega
    subst hf
    clear hwords
    go_enter Tryz.func55, Tryz.ntmps55
    go_wp2_with (go_at_call 86; refine (mWords_any k 1 w w s c st ia il ic wr ra rl rc HO.out _).mono ?_; rintro e wx ⟨rfl, hcx⟩; rw [HW.out])
    go_ret
    exact ⟨rfl, ((Chg.refl _ _).alloc _).trans hcx⟩
  · have HW := Lib.hid hwords
    simp only [wordsOk, decide_eq_true_eq] at hwords
    have HB := Lib.hid hwords
    (go_enter Tryz.func55, Tryz.ntmps55)
    (have HBX : Hid (Blk (W.alloc (.cells #[.int .i64 k, .int .i64 w, .int .i64 s, .int .i64 c, .int .u32 st, .slice ia il ic, .int .i64 wr, .slice ra rl rc] 46)) W.heap.size #[.int .i64 k, .int .i64 w, .int .i64 s, .int .i64 c, .int .u32 st, .slice ia il ic, .int .i64 wr, .slice ra rl rc] 46) := Lib.hid (Blk.new W _ _))
    (have HCC : Hid (Chg [] W (W.alloc (.cells #[.int .i64 k, .int .i64 w, .int .i64 s, .int .i64 c, .int .u32 st, .slice ia il ic, .int .i64 wr, .slice ra rl rc] 46))) := Lib.hid ((Chg.refl _ _).alloc _))
    (clear hwords)
    skip
    all_goals (go_wp2_with (first | (go_at_call 86; refine (mWords_any k 1 w w s c st ia il ic wr ra rl rc HO.out _).mono ?_; rintro e wx ⟨rfl, hcx⟩; rw [HW.out]; have HBX := Lib.hid (Blk.keep HBX.out hcx (by simp)); have e0 := HBX.out.cell (o := 0) (v := .int .i64 k) rfl; have e1 := HBX.out.cell (o := 1) (v := .int .i64 w) rfl; have e2 := HBX.out.cell (o := 2) (v := .int .i64 s) rfl; have e3 := HBX.out.cell (o := 3) (v := .int .i64 c) rfl; have e4 := HBX.out.cell (o := 4) (v := .int .u32 st) rfl; have e5 := HBX.out.cell (o := 5) (v := .slice ia il ic) rfl; have e6 := HBX.out.cell (o := 6) (v := .int .i64 wr) rfl; have e7 := HBX.out.cell (o := 7) (v := .slice ra rl rc) rfl; have HCC := Lib.hid (HCC.out.trans hcx); clear hcx)))
    all_goals (go_ret; refine ⟨?_, HCC.out⟩; rw [← HR.out]; refine ret_bool ?_; have hB := HB.out; rw [Bool.eq_iff_iff]; (first | (simp [rightB]; omega) | (simp [rightB]; done) | (simp_all [rightB]; done) | (simp_all [rightB]; omega) | (trace_state; fail)))

set_option maxHeartbeats 4000000 in
theorem seqRight_any (k : Int) (w s c st : Int) (ia : Option Addr) (il ic : Nat) (wr : Int) (ra : Option Addr) (rl rc : Nat) (h : ObjW k w s c st il rl) (W : World) :
    Calls Tryz.prog 57 #[.agg #[.int .i64 k, .int .i64 w, .int .i64 s, .int .i64 c, .int .u32 st, .slice ia il ic, .int .i64 wr, .slice ra rl rc]] W fun e W' => e = .returned (.bool (decide (k = 3) && rightB k w s c st il rl)) ∧ Chg [] W W' := by
  have HO := Lib.hid h
  obtain ⟨h1, h2, h3, h4, h5, h6, h7⟩ := h
  generalize hr : (decide (k = 3) && rightB k w s c st il rl) = r
  have HR := Lib.hid hr
  clear hr
  cases hwords : wordsOk k 3 w il w rl
  · have HW := Lib.hid hwords
    have hf : r = false := by
      rw [← HR.out]
      simp only [wordsOk, decide_eq_false_iff_not] at hwords
      rw [Bool.eq_false_iff]
      intro hx
      simp [rightB] at hx
      omega
    subst hf
    clear hwords
    go_enter Tryz.func57, Tryz.ntmps57
    go_wp2_with (go_at_call 86; refine (mWords_any k 3 w w s c st ia il ic wr ra rl rc HO.out _).mono ?_; rintro e wx ⟨rfl, hcx⟩; rw [HW.out])
    go_ret
    exact ⟨rfl, ((Chg.refl _ _).alloc _).trans hcx⟩
  · have HW := Lib.hid hwords
    simp only [wordsOk, decide_eq_true_eq] at hwords
    have HB := Lib.hid hwords
    cases hcaps : capsOk c
    all_goals (have HQ := Lib.hid hcaps)
    all_goals (go_enter Tryz.func57, Tryz.ntmps57)
    all_goals (have HBX : Hid (Blk (W.alloc (.cells #[.int .i64 k, .int .i64 w, .int .i64 s, .int .i64 c, .int .u32 st, .slice ia il ic, .int .i64 wr, .slice ra rl rc] 46)) W.heap.size #[.int .i64 k, .int .i64 w, .int .i64 s, .int .i64 c, .int .u32 st, .slice ia il ic, .int .i64 wr, .slice ra rl rc] 46) := Lib.hid (Blk.new W _ _))
    all_goals (have HCC : Hid (Chg [] W (W.alloc (.cells #[.int .i64 k, .int .i64 w, .int .i64 s, .int .i64 c, .int .u32 st, .slice ia il ic, .int .i64 wr, .slice ra rl rc] 46))) := Lib.hid ((Chg.refl _ _).alloc _))
    all_goals (clear hwords)
    all_goals (clear hcaps)
    all_goals (go_wp2_with (first | (go_at_call 86; refine (mWords_any k 3 w w s c st ia il ic wr ra rl rc HO.out _).mono ?_; rintro e wx ⟨rfl, hcx⟩; rw [HW.out]; have HBX := Lib.hid (Blk.keep HBX.out hcx (by simp)); have e0 := HBX.out.cell (o := 0) (v := .int .i64 k) rfl; have e1 := HBX.out.cell (o := 1) (v := .int .i64 w) rfl; have e2 := HBX.out.cell (o := 2) (v := .int .i64 s) rfl; have e3 := HBX.out.cell (o := 3) (v := .int .i64 c) rfl; have e4 := HBX.out.cell (o := 4) (v := .int .u32 st) rfl; have e5 := HBX.out.cell (o := 5) (v := .slice ia il ic) rfl; have e6 := HBX.out.cell (o := 6) (v := .int .i64 wr) rfl; have e7 := HBX.out.cell (o := 7) (v := .slice ra rl rc) rfl; have HCC := Lib.hid (HCC.out.trans hcx); clear hcx) | (go_at_call 87; refine (mCaps_any _ _ _ _ _ _ _ _ _ _ _ _ _).mono ?_; rintro e wx ⟨rfl, hcx⟩; rw [HQ.out]; have HBX := Lib.hid (Blk.keep HBX.out hcx (by simp)); have e0 := HBX.out.cell (o := 0) (v := .int .i64 k) rfl; have e1 := HBX.out.cell (o := 1) (v := .int .i64 w) rfl; have e2 := HBX.out.cell (o := 2) (v := .int .i64 s) rfl; have e3 := HBX.out.cell (o := 3) (v := .int .i64 c) rfl; have e4 := HBX.out.cell (o := 4) (v := .int .u32 st) rfl; have e5 := HBX.out.cell (o := 5) (v := .slice ia il ic) rfl; have e6 := HBX.out.cell (o := 6) (v := .int .i64 wr) rfl; have e7 := HBX.out.cell (o := 7) (v := .slice ra rl rc) rfl; have HCC := Lib.hid (HCC.out.trans hcx); clear hcx)))
    all_goals (go_ret; refine ⟨?_, HCC.out⟩; rw [← HR.out]; refine ret_bool ?_; have hB := HB.out; have hQ := HQ.out; simp only [capsOk, decide_eq_true_eq, decide_eq_false_iff_not] at hQ; rw [Bool.eq_iff_iff]; (first | (simp [rightB]; omega) | (simp [rightB]; done) | (simp_all [rightB]; done) | (simp_all [rightB]; omega) | (trace_state; fail)))

set_option maxHeartbeats 2000000 in
theorem ringMod_any (k : Int) (w s c st : Int) (ia : Option Addr) (il ic : Nat) (wr : Int) (ra : Option Addr) (rl rc : Nat) (h : 0 ≤ s ∧ s ≤ 16) (W : World) :
    Calls Tryz.prog 88 #[.agg #[.int .i64 k, .int .i64 w, .int .i64 s, .int .i64 c, .int .u32 st, .slice ia il ic, .int .i64 wr, .slice ra rl rc]] W fun e W' => e = .returned (.int .u32 (s * 1048576)) ∧ Chg [] W W' := by
  go_enter Tryz.func88, Tryz.ntmps88
  go_wp2
  go_ret
  exact ⟨by rfl, (Chg.refl _ _).alloc _⟩
set_option maxHeartbeats 2000000 in
theorem fifoMod_any (k : Int) (w s c st : Int) (ia : Option Addr) (il ic : Nat) (wr : Int) (ra : Option Addr) (rl rc : Nat) (h : 0 ≤ s ∧ s ≤ 16) (W : World) :
    Calls Tryz.prog 89 #[.agg #[.int .i64 k, .int .i64 w, .int .i64 s, .int .i64 c, .int .u32 st, .slice ia il ic, .int .i64 wr, .slice ra rl rc]] W fun e W' => e = .returned (.int .u32 (2 * s)) ∧ Chg [] W W' := by
  go_enter Tryz.func89, Tryz.ntmps89
  go_wp2
  go_ret
  exact ⟨by rfl, (Chg.refl _ _).alloc _⟩

set_option maxHeartbeats 4000000 in
theorem chenRight_any (k : Int) (w s c st : Int) (ia : Option Addr) (il ic : Nat) (wr : Int) (ra : Option Addr) (rl rc : Nat) (h : ObjW k w s c st il rl) (W : World) :
    Calls Tryz.prog 56 #[.agg #[.int .i64 k, .int .i64 w, .int .i64 s, .int .i64 c, .int .u32 st, .slice ia il ic, .int .i64 wr, .slice ra rl rc]] W fun e W' => e = .returned (.bool (decide (k = 2) && rightB k w s c st il rl)) ∧ Chg [] W W' := by
  have HO := Lib.hid h
  obtain ⟨h1, h2, h3, h4, h5, h6, h7⟩ := h
  generalize hr : (decide (k = 2) && rightB k w s c st il rl) = r
  have HR := Lib.hid hr
  clear hr
  cases hwords : wordsOk k 2 w il w rl
  · have HW := Lib.hid hwords
    have hf : r = false := by
      rw [← HR.out]
      simp only [wordsOk, decide_eq_false_iff_not] at hwords
      rw [Bool.eq_false_iff]
      intro hx
      simp [rightB] at hx
      omega
    subst hf
    clear hwords
    go_enter Tryz.func56, Tryz.ntmps56
    go_wp2_with (go_at_call 86; refine (mWords_any k 2 w w s c st ia il ic wr ra rl rc HO.out _).mono ?_; rintro e wx ⟨rfl, hcx⟩; rw [HW.out])
    go_ret
    exact ⟨rfl, ((Chg.refl _ _).alloc _).trans hcx⟩
  · have HW := Lib.hid hwords
    simp only [wordsOk, decide_eq_true_eq] at hwords
    have HB := Lib.hid hwords
    (go_enter Tryz.func56, Tryz.ntmps56)
    (have HBX : Hid (Blk (W.alloc (.cells #[.int .i64 k, .int .i64 w, .int .i64 s, .int .i64 c, .int .u32 st, .slice ia il ic, .int .i64 wr, .slice ra rl rc] 46)) W.heap.size #[.int .i64 k, .int .i64 w, .int .i64 s, .int .i64 c, .int .u32 st, .slice ia il ic, .int .i64 wr, .slice ra rl rc] 46) := Lib.hid (Blk.new W _ _))
    (have HCC : Hid (Chg [] W (W.alloc (.cells #[.int .i64 k, .int .i64 w, .int .i64 s, .int .i64 c, .int .u32 st, .slice ia il ic, .int .i64 wr, .slice ra rl rc] 46))) := Lib.hid ((Chg.refl _ _).alloc _))
    (clear hwords)
    skip
    all_goals (go_wp2_with (first | (go_at_call 86; refine (mWords_any k 2 w w s c st ia il ic wr ra rl rc HO.out _).mono ?_; rintro e wx ⟨rfl, hcx⟩; rw [HW.out]; have HBX := Lib.hid (Blk.keep HBX.out hcx (by simp)); have e0 := HBX.out.cell (o := 0) (v := .int .i64 k) rfl; have e1 := HBX.out.cell (o := 1) (v := .int .i64 w) rfl; have e2 := HBX.out.cell (o := 2) (v := .int .i64 s) rfl; have e3 := HBX.out.cell (o := 3) (v := .int .i64 c) rfl; have e4 := HBX.out.cell (o := 4) (v := .int .u32 st) rfl; have e5 := HBX.out.cell (o := 5) (v := .slice ia il ic) rfl; have e6 := HBX.out.cell (o := 6) (v := .int .i64 wr) rfl; have e7 := HBX.out.cell (o := 7) (v := .slice ra rl rc) rfl; have HCC := Lib.hid (HCC.out.trans hcx); clear hcx)))
    all_goals (go_ret; refine ⟨?_, HCC.out⟩; rw [← HR.out]; refine ret_bool ?_; have hB := HB.out; rw [Bool.eq_iff_iff]; (first | (simp [rightB]; omega) | (simp [rightB]; done) | (simp_all [rightB]; done) | (simp_all [rightB]; omega) | (trace_state; fail)))

set_option maxHeartbeats 4000000 in
theorem cabRight_any (k : Int) (w s c st : Int) (ia : Option Addr) (il ic : Nat) (wr : Int) (ra : Option Addr) (rl rc : Nat) (h : ObjW k w s c st il rl) (W : World) :
    Calls Tryz.prog 59 #[.agg #[.int .i64 k, .int .i64 w, .int .i64 s, .int .i64 c, .int .u32 st, .slice ia il ic, .int .i64 wr, .slice ra rl rc]] W fun e W' => e = .returned (.bool (decide (k = 5) && rightB k w s c st il rl)) ∧ Chg [] W W' := by
  have HO := Lib.hid h
  obtain ⟨h1, h2, h3, h4, h5, h6, h7⟩ := h
  generalize hr : (decide (k = 5) && rightB k w s c st il rl) = r
  have HR := Lib.hid hr
  clear hr
  cases hwords : wordsOk k 5 w il w rl
  · have HW := Lib.hid hwords
    have hf : r = false := by
      rw [← HR.out]
      simp only [wordsOk, decide_eq_false_iff_not] at hwords
      rw [Bool.eq_false_iff]
      intro hx
      simp [rightB] at hx
      omega
    subst hf
    clear hwords
    go_enter Tryz.func59, Tryz.ntmps59
    go_wp2_with (go_at_call 86; refine (mWords_any k 5 w w s c st ia il ic wr ra rl rc HO.out _).mono ?_; rintro e wx ⟨rfl, hcx⟩; rw [HW.out])
    go_ret
    exact ⟨rfl, ((Chg.refl _ _).alloc _).trans hcx⟩
  · have HW := Lib.hid hwords
    simp only [wordsOk, decide_eq_true_eq] at hwords
    have HB := Lib.hid hwords
    cases hcaps : capsOk c
    all_goals (have HQ := Lib.hid hcaps)
    all_goals (go_enter Tryz.func59, Tryz.ntmps59)
    all_goals (have HBX : Hid (Blk (W.alloc (.cells #[.int .i64 k, .int .i64 w, .int .i64 s, .int .i64 c, .int .u32 st, .slice ia il ic, .int .i64 wr, .slice ra rl rc] 46)) W.heap.size #[.int .i64 k, .int .i64 w, .int .i64 s, .int .i64 c, .int .u32 st, .slice ia il ic, .int .i64 wr, .slice ra rl rc] 46) := Lib.hid (Blk.new W _ _))
    all_goals (have HCC : Hid (Chg [] W (W.alloc (.cells #[.int .i64 k, .int .i64 w, .int .i64 s, .int .i64 c, .int .u32 st, .slice ia il ic, .int .i64 wr, .slice ra rl rc] 46))) := Lib.hid ((Chg.refl _ _).alloc _))
    all_goals (clear hwords)
    all_goals (clear hcaps)
    all_goals (go_wp2_with (first | (go_at_call 86; refine (mWords_any k 5 w w s c st ia il ic wr ra rl rc HO.out _).mono ?_; rintro e wx ⟨rfl, hcx⟩; rw [HW.out]; have HBX := Lib.hid (Blk.keep HBX.out hcx (by simp)); have e0 := HBX.out.cell (o := 0) (v := .int .i64 k) rfl; have e1 := HBX.out.cell (o := 1) (v := .int .i64 w) rfl; have e2 := HBX.out.cell (o := 2) (v := .int .i64 s) rfl; have e3 := HBX.out.cell (o := 3) (v := .int .i64 c) rfl; have e4 := HBX.out.cell (o := 4) (v := .int .u32 st) rfl; have e5 := HBX.out.cell (o := 5) (v := .slice ia il ic) rfl; have e6 := HBX.out.cell (o := 6) (v := .int .i64 wr) rfl; have e7 := HBX.out.cell (o := 7) (v := .slice ra rl rc) rfl; have HCC := Lib.hid (HCC.out.trans hcx); clear hcx) | (go_at_call 87; refine (mCaps_any _ _ _ _ _ _ _ _ _ _ _ _ _).mono ?_; rintro e wx ⟨rfl, hcx⟩; rw [HQ.out]; have HBX := Lib.hid (Blk.keep HBX.out hcx (by simp)); have e0 := HBX.out.cell (o := 0) (v := .int .i64 k) rfl; have e1 := HBX.out.cell (o := 1) (v := .int .i64 w) rfl; have e2 := HBX.out.cell (o := 2) (v := .int .i64 s) rfl; have e3 := HBX.out.cell (o := 3) (v := .int .i64 c) rfl; have e4 := HBX.out.cell (o := 4) (v := .int .u32 st) rfl; have e5 := HBX.out.cell (o := 5) (v := .slice ia il ic) rfl; have e6 := HBX.out.cell (o := 6) (v := .int .i64 wr) rfl; have e7 := HBX.out.cell (o := 7) (v := .slice ra rl rc) rfl; have HCC := Lib.hid (HCC.out.trans hcx); clear hcx)))
    all_goals (go_ret; refine ⟨?_, HCC.out⟩; rw [← HR.out]; refine ret_bool ?_; have hB := HB.out; have hQ := HQ.out; simp only [capsOk, decide_eq_true_eq, decide_eq_false_iff_not] at hQ; rw [Bool.eq_iff_iff]; (first | (simp [rightB]; omega) | (simp [rightB]; done) | (simp_all [rightB]; done) | (simp_all [rightB]; omega) | (trace_state; fail)))
end Go.Proofs.YtkedegbpkkgeaaaGreat.obj

/- Whether an object's lists are short. -/
namespace Go.Proofs.YtkedegbpkkgeaaaGreat.obj
open Go Go.RowKit Go.Proofs.YtkedegbpkkgeaaaGreat.kit
set_option linter.unusedVariables false
set_option linter.unusedSimpArgs false
set_option maxRecDepth 20000
set_option maxHeartbeats 4000000 in
theorem small_any (k : Int) (w s c st : Int) (ia : Option Addr) (il ic : Nat) (wr : Int) (ra : Option Addr) (rl rc : Nat) (W : World) :
    Calls Tryz.prog 12 #[.agg #[.int .i64 k, .int .i64 w, .int .i64 s, .int .i64 c, .int .u32 st, .slice ia il ic, .int .i64 wr, .slice ra rl rc]] W fun e W' => e = .returned (.bool (decide (il ≤ 100 ∧ rl ≤ 100))) ∧ Chg [] W W' := by
  generalize hr : decide (il ≤ 100 ∧ rl ≤ 100) = r
  have HR := Lib.hid hr
  clear hr
  go_enter Tryz.func12, Tryz.ntmps12
  go_wp2
  all_goals (go_ret; refine ⟨?_, (Chg.refl _ _).alloc _⟩; rw [← HR.out]; refine ret_bool ?_; rw [Bool.eq_iff_iff]; (first | (simp; done) | (simp; omega) | (simp_all; done) | (simp_all; omega) | (trace_state; fail)))
end Go.Proofs.YtkedegbpkkgeaaaGreat.obj

/- An object as an argument. -/
namespace Go.Proofs.YtkedegbpkkgeaaaGreat.obj
open Go Go.RowKit Go.Proofs.YtkedegbpkkgeaaaGreat.kit
set_option linter.unusedVariables false
set_option linter.unusedSimpArgs false
set_option maxRecDepth 20000

theorem cellsO : Tryz.prog.cellsOf 46 = 8 := by kernel_rfl
theorem cellsInt : Tryz.prog.cellsOf 3 = 1 := by kernel_rfl
theorem cellsWs : Tryz.prog.cellsOf 44 = 1 := by kernel_rfl
theorem cellsIs : Tryz.prog.cellsOf 33 = 1 := by kernel_rfl
end Go.Proofs.YtkedegbpkkgeaaaGreat.obj
/- Objects: whether one is right as a ring, or as a queue: the program's. -/
namespace Go.Proofs.YtkedegbpkkgeaaaGreat.obj
open Go Go.RowKit Go.Proofs.YtkedegbpkkgeaaaGreat.kit
set_option linter.unusedVariables false
set_option linter.unusedSimpArgs false
set_option maxRecDepth 20000

set_option maxHeartbeats 8000000 in
theorem fifoRight_any (k : Int) (w s c st : Int) (ia : Option Addr) (il ic : Nat) (wr : Int) (ra : Option Addr) (rl rc : Nat) (h : ObjW k w s c st il rl) (W : World) :
    Calls Tryz.prog 60 #[.agg #[.int .i64 k, .int .i64 w, .int .i64 s, .int .i64 c, .int .u32 st, .slice ia il ic, .int .i64 wr, .slice ra rl rc]] W fun e W' => e = .returned (.bool (decide (k = 6) && rightB k w s c st il rl)) ∧ Chg [] W W' := by
  have HO := Lib.hid h
  have hst := h.st32
  clear h
  generalize hr : (decide (k = 6) && rightB k w s c st il rl) = r
  cases hwords : wordsOk k 6 w il 0 rl
  · have HW := Lib.hid hwords
    have hf : r = false := by
      rw [← hr]
      simp only [wordsOk, decide_eq_false_iff_not] at hwords
      rw [Bool.eq_false_iff]
      intro hx
      simp [rightB] at hx
      omega
    subst hf
    clear hwords hr
    go_enter Tryz.func60, Tryz.ntmps60
    go_wp2_with fail
    generalize hW0 : (W.alloc (.cells #[.int .i64 k, .int .i64 w, .int .i64 s, .int .i64 c, .int .u32 st, .slice ia il ic, .int .i64 wr, .slice ra rl rc] 46)) = W0
    have hB0 : Blk W0 W.heap.size #[.int .i64 k, .int .i64 w, .int .i64 s, .int .i64 c, .int .u32 st, .slice ia il ic, .int .i64 wr, .slice ra rl rc] 46 := by rw [← hW0]; exact Blk.new W _ _
    have HC0 : Hid (Chg [] W W0) := Lib.hid (by rw [← hW0]; exact (Chg.refl _ _).alloc _)
    clear hW0
    have e0 : W0.cell? ⟨W.heap.size, 0, none⟩ = some (.int .i64 k) := hB0.cell rfl
    have e1 : W0.cell? ⟨W.heap.size, 1, none⟩ = some (.int .i64 w) := hB0.cell rfl
    have e2 : W0.cell? ⟨W.heap.size, 2, none⟩ = some (.int .i64 s) := hB0.cell rfl
    have e3 : W0.cell? ⟨W.heap.size, 3, none⟩ = some (.int .i64 c) := hB0.cell rfl
    have e4 : W0.cell? ⟨W.heap.size, 4, none⟩ = some (.int .u32 st) := hB0.cell rfl
    have e5 : W0.cell? ⟨W.heap.size, 5, none⟩ = some (.slice ia il ic) := hB0.cell rfl
    have e6 : W0.cell? ⟨W.heap.size, 6, none⟩ = some (.int .i64 wr) := hB0.cell rfl
    have e7 : W0.cell? ⟨W.heap.size, 7, none⟩ = some (.slice ra rl rc) := hB0.cell rfl
    have KEEP := Lib.hid (fun (V : World) (h : Chg [] W0 V) => (⟨h.keep e0 (by simp), h.keep e1 (by simp), h.keep e2 (by simp), h.keep e3 (by simp), h.keep e4 (by simp), h.keep e5 (by simp), h.keep e6 (by simp), h.keep e7 (by simp), Lib.hid h⟩ : (fun V : World => V.cell? ⟨W.heap.size, 0, none⟩ = some (.int .i64 k) ∧ V.cell? ⟨W.heap.size, 1, none⟩ = some (.int .i64 w) ∧ V.cell? ⟨W.heap.size, 2, none⟩ = some (.int .i64 s) ∧ V.cell? ⟨W.heap.size, 3, none⟩ = some (.int .i64 c) ∧ V.cell? ⟨W.heap.size, 4, none⟩ = some (.int .u32 st) ∧ V.cell? ⟨W.heap.size, 5, none⟩ = some (.slice ia il ic) ∧ V.cell? ⟨W.heap.size, 6, none⟩ = some (.int .i64 wr) ∧ V.cell? ⟨W.heap.size, 7, none⟩ = some (.slice ra rl rc) ∧ Hid (Chg [] W0 V)) V))
    clear e0 e1 e2 e3 e4 e5 e6 e7 hB0
    have hHeld : (fun V : World => V.cell? ⟨W.heap.size, 0, none⟩ = some (.int .i64 k) ∧ V.cell? ⟨W.heap.size, 1, none⟩ = some (.int .i64 w) ∧ V.cell? ⟨W.heap.size, 2, none⟩ = some (.int .i64 s) ∧ V.cell? ⟨W.heap.size, 3, none⟩ = some (.int .i64 c) ∧ V.cell? ⟨W.heap.size, 4, none⟩ = some (.int .u32 st) ∧ V.cell? ⟨W.heap.size, 5, none⟩ = some (.slice ia il ic) ∧ V.cell? ⟨W.heap.size, 6, none⟩ = some (.int .i64 wr) ∧ V.cell? ⟨W.heap.size, 7, none⟩ = some (.slice ra rl rc) ∧ Hid (Chg [] W0 V)) (World.drew W0) := KEEP.out _ (Chg.refl _ _).drew
    refine wp_region_plan (fun V : World => V.cell? ⟨W.heap.size, 0, none⟩ = some (.int .i64 k) ∧ V.cell? ⟨W.heap.size, 1, none⟩ = some (.int .i64 w) ∧ V.cell? ⟨W.heap.size, 2, none⟩ = some (.int .i64 s) ∧ V.cell? ⟨W.heap.size, 3, none⟩ = some (.int .i64 c) ∧ V.cell? ⟨W.heap.size, 4, none⟩ = some (.int .u32 st) ∧ V.cell? ⟨W.heap.size, 5, none⟩ = some (.slice ia il ic) ∧ V.cell? ⟨W.heap.size, 6, none⟩ = some (.int .i64 wr) ∧ V.cell? ⟨W.heap.size, 7, none⟩ = some (.slice ra rl rc) ∧ Hid (Chg [] W0 V)) [(0, true, some 3), (1, false, some 4), (2, true, some 5), (3, true, some 6), (4, true, some 7), (5, true, some 8), (6, true, some 9), (7, true, some 10), (8, true, some 11), (9, true, some 12), (10, true, some 13), (11, true, some 14), (12, true, some 15), (13, true, some 16), (14, true, some 17), (15, true, some 18), (16, true, some 19), (17, true, some 20), (18, true, some 21), (19, true, some 22), (20, true, some 23), (21, false, some 24), (22, true, some 25), (23, true, some 26), (24, true, some 27), (25, true, some 28), (26, true, some 29), (27, true, some 30), (28, true, some 31), (29, true, some 32), (30, true, some 2)] (by kernel_rfl) (by kernel_rfl) (by kernel_rfl) (by kernel_rfl) (fun d c a v w h => by cases d <;> exact h) hHeld ?_
    repeat (first
      | (refine planWp_read (v := ?_) rfl rfl ?_ ?_ ?_; rotate_left; (focus rfl); (focus (intro u hSw; (try dsimp only at hSw); go_simp; (try with_reducible rfl))); (try simp only [Act.put, List.setIfInBounds_toArray, List.set_cons_zero, List.set_cons_succ]))
      | (refine planWp_skip rfl rfl ?_ ?_; (focus rfl); (try simp only [Act.put, List.setIfInBounds_toArray, List.set_cons_zero, List.set_cons_succ]))
      | (refine planWp_leave rfl rfl ?_ hHeld ?_; (focus rfl); (try simp only [Act.put, List.setIfInBounds_toArray, List.set_cons_zero, List.set_cons_succ]))
      | (refine planWp_do rfl rfl ?_ (fun K hK => ?_); (focus rfl); go_simp; (try go_wp2_with (first | (go_at_call 86; refine (mWords_any k 6 0 w s c st ia il ic wr ra rl rc HO.out _).mono ?_; rintro e wx ⟨rfl, hcx⟩; rw [HW.out]; have HCX := Lib.hid hcx; clear hcx) | (go_at_call 89; refine (fifoMod_any _ _ _ _ _ _ _ _ _ _ _ _ HS.out _).mono ?_; rintro e wx ⟨rfl, hcx⟩; have HCX := Lib.hid hcx; clear hcx))); refine hK.out _ _ ?_ (fun hHeld2 => ?_); (focus (have hcn := Chg.trans hHeld.2.2.2.2.2.2.2.2.out HCX.out; exact KEEP.out _ hcn)); clear hK K hHeld; have hHeld := hHeld2; clear hHeld2; (try simp only [Act.put, List.setIfInBounds_toArray, List.set_cons_zero, List.set_cons_succ])))
    refine planWp_nil ?_
    have HCC := Lib.hid (HC0.out.trans hHeld.2.2.2.2.2.2.2.2.out)
    clear hHeld KEEP
    go_wp2_with fail
    go_ret
    exact ⟨by rfl, HCC.out⟩
  have HW := Lib.hid hwords
  simp only [wordsOk, decide_eq_true_eq] at hwords
  by_cases p0 : 1 ≤ s
  rotate_left
  · have hf : r = false := by
      rw [← hr]
      rw [Bool.eq_false_iff]
      intro hx
      simp [rightB] at hx
      omega
    subst hf
    have q0 : decide (1 ≤ s) = false := by simp; omega
    clear hwords hr p0
    go_enter Tryz.func60, Tryz.ntmps60
    go_wp2_with fail
    generalize hW0 : (W.alloc (.cells #[.int .i64 k, .int .i64 w, .int .i64 s, .int .i64 c, .int .u32 st, .slice ia il ic, .int .i64 wr, .slice ra rl rc] 46)) = W0
    have hB0 : Blk W0 W.heap.size #[.int .i64 k, .int .i64 w, .int .i64 s, .int .i64 c, .int .u32 st, .slice ia il ic, .int .i64 wr, .slice ra rl rc] 46 := by rw [← hW0]; exact Blk.new W _ _
    have HC0 : Hid (Chg [] W W0) := Lib.hid (by rw [← hW0]; exact (Chg.refl _ _).alloc _)
    clear hW0
    have e0 : W0.cell? ⟨W.heap.size, 0, none⟩ = some (.int .i64 k) := hB0.cell rfl
    have e1 : W0.cell? ⟨W.heap.size, 1, none⟩ = some (.int .i64 w) := hB0.cell rfl
    have e2 : W0.cell? ⟨W.heap.size, 2, none⟩ = some (.int .i64 s) := hB0.cell rfl
    have e3 : W0.cell? ⟨W.heap.size, 3, none⟩ = some (.int .i64 c) := hB0.cell rfl
    have e4 : W0.cell? ⟨W.heap.size, 4, none⟩ = some (.int .u32 st) := hB0.cell rfl
    have e5 : W0.cell? ⟨W.heap.size, 5, none⟩ = some (.slice ia il ic) := hB0.cell rfl
    have e6 : W0.cell? ⟨W.heap.size, 6, none⟩ = some (.int .i64 wr) := hB0.cell rfl
    have e7 : W0.cell? ⟨W.heap.size, 7, none⟩ = some (.slice ra rl rc) := hB0.cell rfl
    have KEEP := Lib.hid (fun (V : World) (h : Chg [] W0 V) => (⟨h.keep e0 (by simp), h.keep e1 (by simp), h.keep e2 (by simp), h.keep e3 (by simp), h.keep e4 (by simp), h.keep e5 (by simp), h.keep e6 (by simp), h.keep e7 (by simp), Lib.hid h⟩ : (fun V : World => V.cell? ⟨W.heap.size, 0, none⟩ = some (.int .i64 k) ∧ V.cell? ⟨W.heap.size, 1, none⟩ = some (.int .i64 w) ∧ V.cell? ⟨W.heap.size, 2, none⟩ = some (.int .i64 s) ∧ V.cell? ⟨W.heap.size, 3, none⟩ = some (.int .i64 c) ∧ V.cell? ⟨W.heap.size, 4, none⟩ = some (.int .u32 st) ∧ V.cell? ⟨W.heap.size, 5, none⟩ = some (.slice ia il ic) ∧ V.cell? ⟨W.heap.size, 6, none⟩ = some (.int .i64 wr) ∧ V.cell? ⟨W.heap.size, 7, none⟩ = some (.slice ra rl rc) ∧ Hid (Chg [] W0 V)) V))
    clear e0 e1 e2 e3 e4 e5 e6 e7 hB0
    have hHeld : (fun V : World => V.cell? ⟨W.heap.size, 0, none⟩ = some (.int .i64 k) ∧ V.cell? ⟨W.heap.size, 1, none⟩ = some (.int .i64 w) ∧ V.cell? ⟨W.heap.size, 2, none⟩ = some (.int .i64 s) ∧ V.cell? ⟨W.heap.size, 3, none⟩ = some (.int .i64 c) ∧ V.cell? ⟨W.heap.size, 4, none⟩ = some (.int .u32 st) ∧ V.cell? ⟨W.heap.size, 5, none⟩ = some (.slice ia il ic) ∧ V.cell? ⟨W.heap.size, 6, none⟩ = some (.int .i64 wr) ∧ V.cell? ⟨W.heap.size, 7, none⟩ = some (.slice ra rl rc) ∧ Hid (Chg [] W0 V)) (World.drew W0) := KEEP.out _ (Chg.refl _ _).drew
    refine wp_region_plan (fun V : World => V.cell? ⟨W.heap.size, 0, none⟩ = some (.int .i64 k) ∧ V.cell? ⟨W.heap.size, 1, none⟩ = some (.int .i64 w) ∧ V.cell? ⟨W.heap.size, 2, none⟩ = some (.int .i64 s) ∧ V.cell? ⟨W.heap.size, 3, none⟩ = some (.int .i64 c) ∧ V.cell? ⟨W.heap.size, 4, none⟩ = some (.int .u32 st) ∧ V.cell? ⟨W.heap.size, 5, none⟩ = some (.slice ia il ic) ∧ V.cell? ⟨W.heap.size, 6, none⟩ = some (.int .i64 wr) ∧ V.cell? ⟨W.heap.size, 7, none⟩ = some (.slice ra rl rc) ∧ Hid (Chg [] W0 V)) [(0, true, some 3), (1, false, some 4), (2, true, some 5), (3, true, some 6), (4, true, some 7), (5, true, some 8), (6, true, some 9), (7, true, some 10), (8, true, some 11), (9, true, some 12), (10, true, some 13), (11, true, some 14), (12, true, some 15), (13, true, some 16), (14, true, some 17), (15, true, some 18), (16, true, some 19), (17, true, some 20), (18, true, some 21), (19, true, some 22), (20, true, some 23), (21, false, some 24), (22, true, some 25), (23, true, some 26), (24, true, some 27), (25, true, some 28), (26, true, some 29), (27, true, some 30), (28, true, some 31), (29, true, some 32), (30, true, some 2)] (by kernel_rfl) (by kernel_rfl) (by kernel_rfl) (by kernel_rfl) (fun d c a v w h => by cases d <;> exact h) hHeld ?_
    repeat (first
      | (refine planWp_read (v := ?_) rfl rfl ?_ ?_ ?_; rotate_left; (focus rfl); (focus (intro u hSw; (try dsimp only at hSw); go_simp; (try with_reducible rfl))); (try simp only [Act.put, List.setIfInBounds_toArray, List.set_cons_zero, List.set_cons_succ]))
      | (refine planWp_skip rfl rfl ?_ ?_; (focus rfl); (try simp only [Act.put, List.setIfInBounds_toArray, List.set_cons_zero, List.set_cons_succ]))
      | (refine planWp_leave rfl rfl ?_ hHeld ?_; (focus rfl); (try simp only [Act.put, List.setIfInBounds_toArray, List.set_cons_zero, List.set_cons_succ]))
      | (refine planWp_do rfl rfl ?_ (fun K hK => ?_); (focus rfl); go_simp; (try go_wp2_with (first | (go_at_call 86; refine (mWords_any k 6 0 w s c st ia il ic wr ra rl rc HO.out _).mono ?_; rintro e wx ⟨rfl, hcx⟩; rw [HW.out]; have HCX := Lib.hid hcx; clear hcx) | (go_at_call 89; refine (fifoMod_any _ _ _ _ _ _ _ _ _ _ _ _ HS.out _).mono ?_; rintro e wx ⟨rfl, hcx⟩; have HCX := Lib.hid hcx; clear hcx))); refine hK.out _ _ ?_ (fun hHeld2 => ?_); (focus (have hcn := Chg.trans hHeld.2.2.2.2.2.2.2.2.out HCX.out; exact KEEP.out _ hcn)); clear hK K hHeld; have hHeld := hHeld2; clear hHeld2; (try simp only [Act.put, List.setIfInBounds_toArray, List.set_cons_zero, List.set_cons_succ])))
    refine planWp_nil ?_
    have HCC := Lib.hid (HC0.out.trans hHeld.2.2.2.2.2.2.2.2.out)
    clear hHeld KEEP
    go_wp2_with fail
    go_ret
    exact ⟨by rfl, HCC.out⟩
  have q0 : decide (1 ≤ s) = true := by simp; omega
  by_cases p1 : s ≤ 16
  rotate_left
  · have hf : r = false := by
      rw [← hr]
      rw [Bool.eq_false_iff]
      intro hx
      simp [rightB] at hx
      omega
    subst hf
    have q1 : decide (s ≤ 16) = false := by simp; omega
    clear hwords hr p0 p1
    go_enter Tryz.func60, Tryz.ntmps60
    go_wp2_with fail
    generalize hW0 : (W.alloc (.cells #[.int .i64 k, .int .i64 w, .int .i64 s, .int .i64 c, .int .u32 st, .slice ia il ic, .int .i64 wr, .slice ra rl rc] 46)) = W0
    have hB0 : Blk W0 W.heap.size #[.int .i64 k, .int .i64 w, .int .i64 s, .int .i64 c, .int .u32 st, .slice ia il ic, .int .i64 wr, .slice ra rl rc] 46 := by rw [← hW0]; exact Blk.new W _ _
    have HC0 : Hid (Chg [] W W0) := Lib.hid (by rw [← hW0]; exact (Chg.refl _ _).alloc _)
    clear hW0
    have e0 : W0.cell? ⟨W.heap.size, 0, none⟩ = some (.int .i64 k) := hB0.cell rfl
    have e1 : W0.cell? ⟨W.heap.size, 1, none⟩ = some (.int .i64 w) := hB0.cell rfl
    have e2 : W0.cell? ⟨W.heap.size, 2, none⟩ = some (.int .i64 s) := hB0.cell rfl
    have e3 : W0.cell? ⟨W.heap.size, 3, none⟩ = some (.int .i64 c) := hB0.cell rfl
    have e4 : W0.cell? ⟨W.heap.size, 4, none⟩ = some (.int .u32 st) := hB0.cell rfl
    have e5 : W0.cell? ⟨W.heap.size, 5, none⟩ = some (.slice ia il ic) := hB0.cell rfl
    have e6 : W0.cell? ⟨W.heap.size, 6, none⟩ = some (.int .i64 wr) := hB0.cell rfl
    have e7 : W0.cell? ⟨W.heap.size, 7, none⟩ = some (.slice ra rl rc) := hB0.cell rfl
    have KEEP := Lib.hid (fun (V : World) (h : Chg [] W0 V) => (⟨h.keep e0 (by simp), h.keep e1 (by simp), h.keep e2 (by simp), h.keep e3 (by simp), h.keep e4 (by simp), h.keep e5 (by simp), h.keep e6 (by simp), h.keep e7 (by simp), Lib.hid h⟩ : (fun V : World => V.cell? ⟨W.heap.size, 0, none⟩ = some (.int .i64 k) ∧ V.cell? ⟨W.heap.size, 1, none⟩ = some (.int .i64 w) ∧ V.cell? ⟨W.heap.size, 2, none⟩ = some (.int .i64 s) ∧ V.cell? ⟨W.heap.size, 3, none⟩ = some (.int .i64 c) ∧ V.cell? ⟨W.heap.size, 4, none⟩ = some (.int .u32 st) ∧ V.cell? ⟨W.heap.size, 5, none⟩ = some (.slice ia il ic) ∧ V.cell? ⟨W.heap.size, 6, none⟩ = some (.int .i64 wr) ∧ V.cell? ⟨W.heap.size, 7, none⟩ = some (.slice ra rl rc) ∧ Hid (Chg [] W0 V)) V))
    clear e0 e1 e2 e3 e4 e5 e6 e7 hB0
    have hHeld : (fun V : World => V.cell? ⟨W.heap.size, 0, none⟩ = some (.int .i64 k) ∧ V.cell? ⟨W.heap.size, 1, none⟩ = some (.int .i64 w) ∧ V.cell? ⟨W.heap.size, 2, none⟩ = some (.int .i64 s) ∧ V.cell? ⟨W.heap.size, 3, none⟩ = some (.int .i64 c) ∧ V.cell? ⟨W.heap.size, 4, none⟩ = some (.int .u32 st) ∧ V.cell? ⟨W.heap.size, 5, none⟩ = some (.slice ia il ic) ∧ V.cell? ⟨W.heap.size, 6, none⟩ = some (.int .i64 wr) ∧ V.cell? ⟨W.heap.size, 7, none⟩ = some (.slice ra rl rc) ∧ Hid (Chg [] W0 V)) (World.drew W0) := KEEP.out _ (Chg.refl _ _).drew
    refine wp_region_plan (fun V : World => V.cell? ⟨W.heap.size, 0, none⟩ = some (.int .i64 k) ∧ V.cell? ⟨W.heap.size, 1, none⟩ = some (.int .i64 w) ∧ V.cell? ⟨W.heap.size, 2, none⟩ = some (.int .i64 s) ∧ V.cell? ⟨W.heap.size, 3, none⟩ = some (.int .i64 c) ∧ V.cell? ⟨W.heap.size, 4, none⟩ = some (.int .u32 st) ∧ V.cell? ⟨W.heap.size, 5, none⟩ = some (.slice ia il ic) ∧ V.cell? ⟨W.heap.size, 6, none⟩ = some (.int .i64 wr) ∧ V.cell? ⟨W.heap.size, 7, none⟩ = some (.slice ra rl rc) ∧ Hid (Chg [] W0 V)) [(0, true, some 3), (1, false, some 4), (2, true, some 5), (3, true, some 6), (4, true, some 7), (5, true, some 8), (6, true, some 9), (7, true, some 10), (8, true, some 11), (9, true, some 12), (10, true, some 13), (11, true, some 14), (12, true, some 15), (13, true, some 16), (14, true, some 17), (15, true, some 18), (16, true, some 19), (17, true, some 20), (18, true, some 21), (19, true, some 22), (20, true, some 23), (21, false, some 24), (22, true, some 25), (23, true, some 26), (24, true, some 27), (25, true, some 28), (26, true, some 29), (27, true, some 30), (28, true, some 31), (29, true, some 32), (30, true, some 2)] (by kernel_rfl) (by kernel_rfl) (by kernel_rfl) (by kernel_rfl) (fun d c a v w h => by cases d <;> exact h) hHeld ?_
    repeat (first
      | (refine planWp_read (v := ?_) rfl rfl ?_ ?_ ?_; rotate_left; (focus rfl); (focus (intro u hSw; (try dsimp only at hSw); go_simp; (try with_reducible rfl))); (try simp only [Act.put, List.setIfInBounds_toArray, List.set_cons_zero, List.set_cons_succ]))
      | (refine planWp_skip rfl rfl ?_ ?_; (focus rfl); (try simp only [Act.put, List.setIfInBounds_toArray, List.set_cons_zero, List.set_cons_succ]))
      | (refine planWp_leave rfl rfl ?_ hHeld ?_; (focus rfl); (try simp only [Act.put, List.setIfInBounds_toArray, List.set_cons_zero, List.set_cons_succ]))
      | (refine planWp_do rfl rfl ?_ (fun K hK => ?_); (focus rfl); go_simp; (try go_wp2_with (first | (go_at_call 86; refine (mWords_any k 6 0 w s c st ia il ic wr ra rl rc HO.out _).mono ?_; rintro e wx ⟨rfl, hcx⟩; rw [HW.out]; have HCX := Lib.hid hcx; clear hcx) | (go_at_call 89; refine (fifoMod_any _ _ _ _ _ _ _ _ _ _ _ _ HS.out _).mono ?_; rintro e wx ⟨rfl, hcx⟩; have HCX := Lib.hid hcx; clear hcx))); refine hK.out _ _ ?_ (fun hHeld2 => ?_); (focus (have hcn := Chg.trans hHeld.2.2.2.2.2.2.2.2.out HCX.out; exact KEEP.out _ hcn)); clear hK K hHeld; have hHeld := hHeld2; clear hHeld2; (try simp only [Act.put, List.setIfInBounds_toArray, List.set_cons_zero, List.set_cons_succ])))
    refine planWp_nil ?_
    have HCC := Lib.hid (HC0.out.trans hHeld.2.2.2.2.2.2.2.2.out)
    clear hHeld KEEP
    go_wp2_with fail
    go_ret
    exact ⟨by rfl, HCC.out⟩
  have q1 : decide (s ≤ 16) = true := by simp; omega
  by_cases p2 : c = 0
  rotate_left
  · have hf : r = false := by
      rw [← hr]
      rw [Bool.eq_false_iff]
      intro hx
      simp [rightB] at hx
      omega
    subst hf
    have q2 : (c == 0) = false := by simpa using p2
    have HS : Hid (0 ≤ s ∧ s ≤ 16) := Lib.hid (by omega)
    clear hwords hr p0 p1 p2
    go_enter Tryz.func60, Tryz.ntmps60
    go_wp2_with fail
    generalize hW0 : (W.alloc (.cells #[.int .i64 k, .int .i64 w, .int .i64 s, .int .i64 c, .int .u32 st, .slice ia il ic, .int .i64 wr, .slice ra rl rc] 46)) = W0
    have hB0 : Blk W0 W.heap.size #[.int .i64 k, .int .i64 w, .int .i64 s, .int .i64 c, .int .u32 st, .slice ia il ic, .int .i64 wr, .slice ra rl rc] 46 := by rw [← hW0]; exact Blk.new W _ _
    have HC0 : Hid (Chg [] W W0) := Lib.hid (by rw [← hW0]; exact (Chg.refl _ _).alloc _)
    clear hW0
    have e0 : W0.cell? ⟨W.heap.size, 0, none⟩ = some (.int .i64 k) := hB0.cell rfl
    have e1 : W0.cell? ⟨W.heap.size, 1, none⟩ = some (.int .i64 w) := hB0.cell rfl
    have e2 : W0.cell? ⟨W.heap.size, 2, none⟩ = some (.int .i64 s) := hB0.cell rfl
    have e3 : W0.cell? ⟨W.heap.size, 3, none⟩ = some (.int .i64 c) := hB0.cell rfl
    have e4 : W0.cell? ⟨W.heap.size, 4, none⟩ = some (.int .u32 st) := hB0.cell rfl
    have e5 : W0.cell? ⟨W.heap.size, 5, none⟩ = some (.slice ia il ic) := hB0.cell rfl
    have e6 : W0.cell? ⟨W.heap.size, 6, none⟩ = some (.int .i64 wr) := hB0.cell rfl
    have e7 : W0.cell? ⟨W.heap.size, 7, none⟩ = some (.slice ra rl rc) := hB0.cell rfl
    have KEEP := Lib.hid (fun (V : World) (h : Chg [] W0 V) => (⟨h.keep e0 (by simp), h.keep e1 (by simp), h.keep e2 (by simp), h.keep e3 (by simp), h.keep e4 (by simp), h.keep e5 (by simp), h.keep e6 (by simp), h.keep e7 (by simp), Lib.hid h⟩ : (fun V : World => V.cell? ⟨W.heap.size, 0, none⟩ = some (.int .i64 k) ∧ V.cell? ⟨W.heap.size, 1, none⟩ = some (.int .i64 w) ∧ V.cell? ⟨W.heap.size, 2, none⟩ = some (.int .i64 s) ∧ V.cell? ⟨W.heap.size, 3, none⟩ = some (.int .i64 c) ∧ V.cell? ⟨W.heap.size, 4, none⟩ = some (.int .u32 st) ∧ V.cell? ⟨W.heap.size, 5, none⟩ = some (.slice ia il ic) ∧ V.cell? ⟨W.heap.size, 6, none⟩ = some (.int .i64 wr) ∧ V.cell? ⟨W.heap.size, 7, none⟩ = some (.slice ra rl rc) ∧ Hid (Chg [] W0 V)) V))
    clear e0 e1 e2 e3 e4 e5 e6 e7 hB0
    have hHeld : (fun V : World => V.cell? ⟨W.heap.size, 0, none⟩ = some (.int .i64 k) ∧ V.cell? ⟨W.heap.size, 1, none⟩ = some (.int .i64 w) ∧ V.cell? ⟨W.heap.size, 2, none⟩ = some (.int .i64 s) ∧ V.cell? ⟨W.heap.size, 3, none⟩ = some (.int .i64 c) ∧ V.cell? ⟨W.heap.size, 4, none⟩ = some (.int .u32 st) ∧ V.cell? ⟨W.heap.size, 5, none⟩ = some (.slice ia il ic) ∧ V.cell? ⟨W.heap.size, 6, none⟩ = some (.int .i64 wr) ∧ V.cell? ⟨W.heap.size, 7, none⟩ = some (.slice ra rl rc) ∧ Hid (Chg [] W0 V)) (World.drew W0) := KEEP.out _ (Chg.refl _ _).drew
    refine wp_region_plan (fun V : World => V.cell? ⟨W.heap.size, 0, none⟩ = some (.int .i64 k) ∧ V.cell? ⟨W.heap.size, 1, none⟩ = some (.int .i64 w) ∧ V.cell? ⟨W.heap.size, 2, none⟩ = some (.int .i64 s) ∧ V.cell? ⟨W.heap.size, 3, none⟩ = some (.int .i64 c) ∧ V.cell? ⟨W.heap.size, 4, none⟩ = some (.int .u32 st) ∧ V.cell? ⟨W.heap.size, 5, none⟩ = some (.slice ia il ic) ∧ V.cell? ⟨W.heap.size, 6, none⟩ = some (.int .i64 wr) ∧ V.cell? ⟨W.heap.size, 7, none⟩ = some (.slice ra rl rc) ∧ Hid (Chg [] W0 V)) [(0, true, some 3), (1, false, some 4), (2, true, some 5), (3, true, some 6), (4, true, some 7), (5, true, some 8), (6, true, some 9), (7, true, some 10), (8, true, some 11), (9, true, some 12), (10, true, some 13), (11, true, some 14), (12, true, some 15), (13, true, some 16), (14, true, some 17), (15, true, some 18), (16, true, some 19), (17, true, some 20), (18, true, some 21), (19, true, some 22), (20, true, some 23), (21, false, some 24), (22, true, some 25), (23, true, some 26), (24, true, some 27), (25, true, some 28), (26, true, some 29), (27, true, some 30), (28, true, some 31), (29, true, some 32), (30, true, some 2)] (by kernel_rfl) (by kernel_rfl) (by kernel_rfl) (by kernel_rfl) (fun d c a v w h => by cases d <;> exact h) hHeld ?_
    repeat (first
      | (refine planWp_read (v := ?_) rfl rfl ?_ ?_ ?_; rotate_left; (focus rfl); (focus (intro u hSw; (try dsimp only at hSw); go_simp; (try with_reducible rfl))); (try simp only [Act.put, List.setIfInBounds_toArray, List.set_cons_zero, List.set_cons_succ]))
      | (refine planWp_skip rfl rfl ?_ ?_; (focus rfl); (try simp only [Act.put, List.setIfInBounds_toArray, List.set_cons_zero, List.set_cons_succ]))
      | (refine planWp_leave rfl rfl ?_ hHeld ?_; (focus rfl); (try simp only [Act.put, List.setIfInBounds_toArray, List.set_cons_zero, List.set_cons_succ]))
      | (refine planWp_do rfl rfl ?_ (fun K hK => ?_); (focus rfl); go_simp; (try go_wp2_with (first | (go_at_call 86; refine (mWords_any k 6 0 w s c st ia il ic wr ra rl rc HO.out _).mono ?_; rintro e wx ⟨rfl, hcx⟩; rw [HW.out]; have HCX := Lib.hid hcx; clear hcx) | (go_at_call 89; refine (fifoMod_any _ _ _ _ _ _ _ _ _ _ _ _ HS.out _).mono ?_; rintro e wx ⟨rfl, hcx⟩; have HCX := Lib.hid hcx; clear hcx))); refine hK.out _ _ ?_ (fun hHeld2 => ?_); (focus (have hcn := Chg.trans hHeld.2.2.2.2.2.2.2.2.out HCX.out; exact KEEP.out _ hcn)); clear hK K hHeld; have hHeld := hHeld2; clear hHeld2; (try simp only [Act.put, List.setIfInBounds_toArray, List.set_cons_zero, List.set_cons_succ])))
    refine planWp_nil ?_
    have HCC := Lib.hid (HC0.out.trans hHeld.2.2.2.2.2.2.2.2.out)
    clear hHeld KEEP
    go_wp2_with fail
    go_ret
    exact ⟨by rfl, HCC.out⟩
  have q2 : (c == 0) = true := by simpa using p2
  by_cases p3 : st < 2 * s
  rotate_left
  · have hf : r = false := by
      rw [← hr]
      rw [Bool.eq_false_iff]
      intro hx
      simp [rightB] at hx
      omega
    subst hf
    have q3 : decide (st < 2 * s) = false := by simp; omega
    have HS : Hid (0 ≤ s ∧ s ≤ 16) := Lib.hid (by omega)
    clear hwords hr p0 p1 p2 p3
    go_enter Tryz.func60, Tryz.ntmps60
    go_wp2_with fail
    generalize hW0 : (W.alloc (.cells #[.int .i64 k, .int .i64 w, .int .i64 s, .int .i64 c, .int .u32 st, .slice ia il ic, .int .i64 wr, .slice ra rl rc] 46)) = W0
    have hB0 : Blk W0 W.heap.size #[.int .i64 k, .int .i64 w, .int .i64 s, .int .i64 c, .int .u32 st, .slice ia il ic, .int .i64 wr, .slice ra rl rc] 46 := by rw [← hW0]; exact Blk.new W _ _
    have HC0 : Hid (Chg [] W W0) := Lib.hid (by rw [← hW0]; exact (Chg.refl _ _).alloc _)
    clear hW0
    have e0 : W0.cell? ⟨W.heap.size, 0, none⟩ = some (.int .i64 k) := hB0.cell rfl
    have e1 : W0.cell? ⟨W.heap.size, 1, none⟩ = some (.int .i64 w) := hB0.cell rfl
    have e2 : W0.cell? ⟨W.heap.size, 2, none⟩ = some (.int .i64 s) := hB0.cell rfl
    have e3 : W0.cell? ⟨W.heap.size, 3, none⟩ = some (.int .i64 c) := hB0.cell rfl
    have e4 : W0.cell? ⟨W.heap.size, 4, none⟩ = some (.int .u32 st) := hB0.cell rfl
    have e5 : W0.cell? ⟨W.heap.size, 5, none⟩ = some (.slice ia il ic) := hB0.cell rfl
    have e6 : W0.cell? ⟨W.heap.size, 6, none⟩ = some (.int .i64 wr) := hB0.cell rfl
    have e7 : W0.cell? ⟨W.heap.size, 7, none⟩ = some (.slice ra rl rc) := hB0.cell rfl
    have KEEP := Lib.hid (fun (V : World) (h : Chg [] W0 V) => (⟨h.keep e0 (by simp), h.keep e1 (by simp), h.keep e2 (by simp), h.keep e3 (by simp), h.keep e4 (by simp), h.keep e5 (by simp), h.keep e6 (by simp), h.keep e7 (by simp), Lib.hid h⟩ : (fun V : World => V.cell? ⟨W.heap.size, 0, none⟩ = some (.int .i64 k) ∧ V.cell? ⟨W.heap.size, 1, none⟩ = some (.int .i64 w) ∧ V.cell? ⟨W.heap.size, 2, none⟩ = some (.int .i64 s) ∧ V.cell? ⟨W.heap.size, 3, none⟩ = some (.int .i64 c) ∧ V.cell? ⟨W.heap.size, 4, none⟩ = some (.int .u32 st) ∧ V.cell? ⟨W.heap.size, 5, none⟩ = some (.slice ia il ic) ∧ V.cell? ⟨W.heap.size, 6, none⟩ = some (.int .i64 wr) ∧ V.cell? ⟨W.heap.size, 7, none⟩ = some (.slice ra rl rc) ∧ Hid (Chg [] W0 V)) V))
    clear e0 e1 e2 e3 e4 e5 e6 e7 hB0
    have hHeld : (fun V : World => V.cell? ⟨W.heap.size, 0, none⟩ = some (.int .i64 k) ∧ V.cell? ⟨W.heap.size, 1, none⟩ = some (.int .i64 w) ∧ V.cell? ⟨W.heap.size, 2, none⟩ = some (.int .i64 s) ∧ V.cell? ⟨W.heap.size, 3, none⟩ = some (.int .i64 c) ∧ V.cell? ⟨W.heap.size, 4, none⟩ = some (.int .u32 st) ∧ V.cell? ⟨W.heap.size, 5, none⟩ = some (.slice ia il ic) ∧ V.cell? ⟨W.heap.size, 6, none⟩ = some (.int .i64 wr) ∧ V.cell? ⟨W.heap.size, 7, none⟩ = some (.slice ra rl rc) ∧ Hid (Chg [] W0 V)) (World.drew W0) := KEEP.out _ (Chg.refl _ _).drew
    refine wp_region_plan (fun V : World => V.cell? ⟨W.heap.size, 0, none⟩ = some (.int .i64 k) ∧ V.cell? ⟨W.heap.size, 1, none⟩ = some (.int .i64 w) ∧ V.cell? ⟨W.heap.size, 2, none⟩ = some (.int .i64 s) ∧ V.cell? ⟨W.heap.size, 3, none⟩ = some (.int .i64 c) ∧ V.cell? ⟨W.heap.size, 4, none⟩ = some (.int .u32 st) ∧ V.cell? ⟨W.heap.size, 5, none⟩ = some (.slice ia il ic) ∧ V.cell? ⟨W.heap.size, 6, none⟩ = some (.int .i64 wr) ∧ V.cell? ⟨W.heap.size, 7, none⟩ = some (.slice ra rl rc) ∧ Hid (Chg [] W0 V)) [(0, true, some 3), (1, false, some 4), (2, true, some 5), (3, true, some 6), (4, true, some 7), (5, true, some 8), (6, true, some 9), (7, true, some 10), (8, true, some 11), (9, true, some 12), (10, true, some 13), (11, true, some 14), (12, true, some 15), (13, true, some 16), (14, true, some 17), (15, true, some 18), (16, true, some 19), (17, true, some 20), (18, true, some 21), (19, true, some 22), (20, true, some 23), (21, false, some 24), (22, true, some 25), (23, true, some 26), (24, true, some 27), (25, true, some 28), (26, true, some 29), (27, true, some 30), (28, true, some 31), (29, true, some 32), (30, true, some 2)] (by kernel_rfl) (by kernel_rfl) (by kernel_rfl) (by kernel_rfl) (fun d c a v w h => by cases d <;> exact h) hHeld ?_
    repeat (first
      | (refine planWp_read (v := ?_) rfl rfl ?_ ?_ ?_; rotate_left; (focus rfl); (focus (intro u hSw; (try dsimp only at hSw); go_simp; (try with_reducible rfl))); (try simp only [Act.put, List.setIfInBounds_toArray, List.set_cons_zero, List.set_cons_succ]))
      | (refine planWp_skip rfl rfl ?_ ?_; (focus rfl); (try simp only [Act.put, List.setIfInBounds_toArray, List.set_cons_zero, List.set_cons_succ]))
      | (refine planWp_leave rfl rfl ?_ hHeld ?_; (focus rfl); (try simp only [Act.put, List.setIfInBounds_toArray, List.set_cons_zero, List.set_cons_succ]))
      | (refine planWp_do rfl rfl ?_ (fun K hK => ?_); (focus rfl); go_simp; (try go_wp2_with (first | (go_at_call 86; refine (mWords_any k 6 0 w s c st ia il ic wr ra rl rc HO.out _).mono ?_; rintro e wx ⟨rfl, hcx⟩; rw [HW.out]; have HCX := Lib.hid hcx; clear hcx) | (go_at_call 89; refine (fifoMod_any _ _ _ _ _ _ _ _ _ _ _ _ HS.out _).mono ?_; rintro e wx ⟨rfl, hcx⟩; have HCX := Lib.hid hcx; clear hcx))); refine hK.out _ _ ?_ (fun hHeld2 => ?_); (focus (have hcn := Chg.trans hHeld.2.2.2.2.2.2.2.2.out HCX.out; exact KEEP.out _ hcn)); clear hK K hHeld; have hHeld := hHeld2; clear hHeld2; (try simp only [Act.put, List.setIfInBounds_toArray, List.set_cons_zero, List.set_cons_succ])))
    refine planWp_nil ?_
    have HCC := Lib.hid (HC0.out.trans hHeld.2.2.2.2.2.2.2.2.out)
    clear hHeld KEEP
    go_wp2_with fail
    go_ret
    exact ⟨by rfl, HCC.out⟩
  have q3 : decide (st < 2 * s) = true := by simp; omega
  by_cases p4 : (rl : Int) = 1
  rotate_left
  · have hf : r = false := by
      rw [← hr]
      rw [Bool.eq_false_iff]
      intro hx
      simp [rightB] at hx
      omega
    subst hf
    have q4 : ((rl : Int) == 1) = false := by simpa using p4
    have HS : Hid (0 ≤ s ∧ s ≤ 16) := Lib.hid (by omega)
    clear hwords hr p0 p1 p2 p3 p4
    go_enter Tryz.func60, Tryz.ntmps60
    go_wp2_with fail
    generalize hW0 : (W.alloc (.cells #[.int .i64 k, .int .i64 w, .int .i64 s, .int .i64 c, .int .u32 st, .slice ia il ic, .int .i64 wr, .slice ra rl rc] 46)) = W0
    have hB0 : Blk W0 W.heap.size #[.int .i64 k, .int .i64 w, .int .i64 s, .int .i64 c, .int .u32 st, .slice ia il ic, .int .i64 wr, .slice ra rl rc] 46 := by rw [← hW0]; exact Blk.new W _ _
    have HC0 : Hid (Chg [] W W0) := Lib.hid (by rw [← hW0]; exact (Chg.refl _ _).alloc _)
    clear hW0
    have e0 : W0.cell? ⟨W.heap.size, 0, none⟩ = some (.int .i64 k) := hB0.cell rfl
    have e1 : W0.cell? ⟨W.heap.size, 1, none⟩ = some (.int .i64 w) := hB0.cell rfl
    have e2 : W0.cell? ⟨W.heap.size, 2, none⟩ = some (.int .i64 s) := hB0.cell rfl
    have e3 : W0.cell? ⟨W.heap.size, 3, none⟩ = some (.int .i64 c) := hB0.cell rfl
    have e4 : W0.cell? ⟨W.heap.size, 4, none⟩ = some (.int .u32 st) := hB0.cell rfl
    have e5 : W0.cell? ⟨W.heap.size, 5, none⟩ = some (.slice ia il ic) := hB0.cell rfl
    have e6 : W0.cell? ⟨W.heap.size, 6, none⟩ = some (.int .i64 wr) := hB0.cell rfl
    have e7 : W0.cell? ⟨W.heap.size, 7, none⟩ = some (.slice ra rl rc) := hB0.cell rfl
    have KEEP := Lib.hid (fun (V : World) (h : Chg [] W0 V) => (⟨h.keep e0 (by simp), h.keep e1 (by simp), h.keep e2 (by simp), h.keep e3 (by simp), h.keep e4 (by simp), h.keep e5 (by simp), h.keep e6 (by simp), h.keep e7 (by simp), Lib.hid h⟩ : (fun V : World => V.cell? ⟨W.heap.size, 0, none⟩ = some (.int .i64 k) ∧ V.cell? ⟨W.heap.size, 1, none⟩ = some (.int .i64 w) ∧ V.cell? ⟨W.heap.size, 2, none⟩ = some (.int .i64 s) ∧ V.cell? ⟨W.heap.size, 3, none⟩ = some (.int .i64 c) ∧ V.cell? ⟨W.heap.size, 4, none⟩ = some (.int .u32 st) ∧ V.cell? ⟨W.heap.size, 5, none⟩ = some (.slice ia il ic) ∧ V.cell? ⟨W.heap.size, 6, none⟩ = some (.int .i64 wr) ∧ V.cell? ⟨W.heap.size, 7, none⟩ = some (.slice ra rl rc) ∧ Hid (Chg [] W0 V)) V))
    clear e0 e1 e2 e3 e4 e5 e6 e7 hB0
    have hHeld : (fun V : World => V.cell? ⟨W.heap.size, 0, none⟩ = some (.int .i64 k) ∧ V.cell? ⟨W.heap.size, 1, none⟩ = some (.int .i64 w) ∧ V.cell? ⟨W.heap.size, 2, none⟩ = some (.int .i64 s) ∧ V.cell? ⟨W.heap.size, 3, none⟩ = some (.int .i64 c) ∧ V.cell? ⟨W.heap.size, 4, none⟩ = some (.int .u32 st) ∧ V.cell? ⟨W.heap.size, 5, none⟩ = some (.slice ia il ic) ∧ V.cell? ⟨W.heap.size, 6, none⟩ = some (.int .i64 wr) ∧ V.cell? ⟨W.heap.size, 7, none⟩ = some (.slice ra rl rc) ∧ Hid (Chg [] W0 V)) (World.drew W0) := KEEP.out _ (Chg.refl _ _).drew
    refine wp_region_plan (fun V : World => V.cell? ⟨W.heap.size, 0, none⟩ = some (.int .i64 k) ∧ V.cell? ⟨W.heap.size, 1, none⟩ = some (.int .i64 w) ∧ V.cell? ⟨W.heap.size, 2, none⟩ = some (.int .i64 s) ∧ V.cell? ⟨W.heap.size, 3, none⟩ = some (.int .i64 c) ∧ V.cell? ⟨W.heap.size, 4, none⟩ = some (.int .u32 st) ∧ V.cell? ⟨W.heap.size, 5, none⟩ = some (.slice ia il ic) ∧ V.cell? ⟨W.heap.size, 6, none⟩ = some (.int .i64 wr) ∧ V.cell? ⟨W.heap.size, 7, none⟩ = some (.slice ra rl rc) ∧ Hid (Chg [] W0 V)) [(0, true, some 3), (1, false, some 4), (2, true, some 5), (3, true, some 6), (4, true, some 7), (5, true, some 8), (6, true, some 9), (7, true, some 10), (8, true, some 11), (9, true, some 12), (10, true, some 13), (11, true, some 14), (12, true, some 15), (13, true, some 16), (14, true, some 17), (15, true, some 18), (16, true, some 19), (17, true, some 20), (18, true, some 21), (19, true, some 22), (20, true, some 23), (21, false, some 24), (22, true, some 25), (23, true, some 26), (24, true, some 27), (25, true, some 28), (26, true, some 29), (27, true, some 30), (28, true, some 31), (29, true, some 32), (30, true, some 2)] (by kernel_rfl) (by kernel_rfl) (by kernel_rfl) (by kernel_rfl) (fun d c a v w h => by cases d <;> exact h) hHeld ?_
    repeat (first
      | (refine planWp_read (v := ?_) rfl rfl ?_ ?_ ?_; rotate_left; (focus rfl); (focus (intro u hSw; (try dsimp only at hSw); go_simp; (try with_reducible rfl))); (try simp only [Act.put, List.setIfInBounds_toArray, List.set_cons_zero, List.set_cons_succ]))
      | (refine planWp_skip rfl rfl ?_ ?_; (focus rfl); (try simp only [Act.put, List.setIfInBounds_toArray, List.set_cons_zero, List.set_cons_succ]))
      | (refine planWp_leave rfl rfl ?_ hHeld ?_; (focus rfl); (try simp only [Act.put, List.setIfInBounds_toArray, List.set_cons_zero, List.set_cons_succ]))
      | (refine planWp_do rfl rfl ?_ (fun K hK => ?_); (focus rfl); go_simp; (try go_wp2_with (first | (go_at_call 86; refine (mWords_any k 6 0 w s c st ia il ic wr ra rl rc HO.out _).mono ?_; rintro e wx ⟨rfl, hcx⟩; rw [HW.out]; have HCX := Lib.hid hcx; clear hcx) | (go_at_call 89; refine (fifoMod_any _ _ _ _ _ _ _ _ _ _ _ _ HS.out _).mono ?_; rintro e wx ⟨rfl, hcx⟩; have HCX := Lib.hid hcx; clear hcx))); refine hK.out _ _ ?_ (fun hHeld2 => ?_); (focus (have hcn := Chg.trans hHeld.2.2.2.2.2.2.2.2.out HCX.out; exact KEEP.out _ hcn)); clear hK K hHeld; have hHeld := hHeld2; clear hHeld2; (try simp only [Act.put, List.setIfInBounds_toArray, List.set_cons_zero, List.set_cons_succ])))
    refine planWp_nil ?_
    have HCC := Lib.hid (HC0.out.trans hHeld.2.2.2.2.2.2.2.2.out)
    clear hHeld KEEP
    go_wp2_with fail
    go_ret
    exact ⟨by rfl, HCC.out⟩
  have q4 : ((rl : Int) == 1) = true := by simpa using p4
  have hf : r = true := by
    rw [← hr, Bool.and_eq_true]
    refine ⟨by simp; omega, ?_⟩
    simp only [rightB, decide_eq_true_eq]
    omega
  subst hf
  have HS : Hid (0 ≤ s ∧ s ≤ 16) := Lib.hid (by omega)
  clear hwords hr p0 p1 p2 p3 p4
  go_enter Tryz.func60, Tryz.ntmps60
  go_wp2_with fail
  generalize hW0 : (W.alloc (.cells #[.int .i64 k, .int .i64 w, .int .i64 s, .int .i64 c, .int .u32 st, .slice ia il ic, .int .i64 wr, .slice ra rl rc] 46)) = W0
  have hB0 : Blk W0 W.heap.size #[.int .i64 k, .int .i64 w, .int .i64 s, .int .i64 c, .int .u32 st, .slice ia il ic, .int .i64 wr, .slice ra rl rc] 46 := by rw [← hW0]; exact Blk.new W _ _
  have HC0 : Hid (Chg [] W W0) := Lib.hid (by rw [← hW0]; exact (Chg.refl _ _).alloc _)
  clear hW0
  have e0 : W0.cell? ⟨W.heap.size, 0, none⟩ = some (.int .i64 k) := hB0.cell rfl
  have e1 : W0.cell? ⟨W.heap.size, 1, none⟩ = some (.int .i64 w) := hB0.cell rfl
  have e2 : W0.cell? ⟨W.heap.size, 2, none⟩ = some (.int .i64 s) := hB0.cell rfl
  have e3 : W0.cell? ⟨W.heap.size, 3, none⟩ = some (.int .i64 c) := hB0.cell rfl
  have e4 : W0.cell? ⟨W.heap.size, 4, none⟩ = some (.int .u32 st) := hB0.cell rfl
  have e5 : W0.cell? ⟨W.heap.size, 5, none⟩ = some (.slice ia il ic) := hB0.cell rfl
  have e6 : W0.cell? ⟨W.heap.size, 6, none⟩ = some (.int .i64 wr) := hB0.cell rfl
  have e7 : W0.cell? ⟨W.heap.size, 7, none⟩ = some (.slice ra rl rc) := hB0.cell rfl
  have KEEP := Lib.hid (fun (V : World) (h : Chg [] W0 V) => (⟨h.keep e0 (by simp), h.keep e1 (by simp), h.keep e2 (by simp), h.keep e3 (by simp), h.keep e4 (by simp), h.keep e5 (by simp), h.keep e6 (by simp), h.keep e7 (by simp), Lib.hid h⟩ : (fun V : World => V.cell? ⟨W.heap.size, 0, none⟩ = some (.int .i64 k) ∧ V.cell? ⟨W.heap.size, 1, none⟩ = some (.int .i64 w) ∧ V.cell? ⟨W.heap.size, 2, none⟩ = some (.int .i64 s) ∧ V.cell? ⟨W.heap.size, 3, none⟩ = some (.int .i64 c) ∧ V.cell? ⟨W.heap.size, 4, none⟩ = some (.int .u32 st) ∧ V.cell? ⟨W.heap.size, 5, none⟩ = some (.slice ia il ic) ∧ V.cell? ⟨W.heap.size, 6, none⟩ = some (.int .i64 wr) ∧ V.cell? ⟨W.heap.size, 7, none⟩ = some (.slice ra rl rc) ∧ Hid (Chg [] W0 V)) V))
  clear e0 e1 e2 e3 e4 e5 e6 e7 hB0
  have hHeld : (fun V : World => V.cell? ⟨W.heap.size, 0, none⟩ = some (.int .i64 k) ∧ V.cell? ⟨W.heap.size, 1, none⟩ = some (.int .i64 w) ∧ V.cell? ⟨W.heap.size, 2, none⟩ = some (.int .i64 s) ∧ V.cell? ⟨W.heap.size, 3, none⟩ = some (.int .i64 c) ∧ V.cell? ⟨W.heap.size, 4, none⟩ = some (.int .u32 st) ∧ V.cell? ⟨W.heap.size, 5, none⟩ = some (.slice ia il ic) ∧ V.cell? ⟨W.heap.size, 6, none⟩ = some (.int .i64 wr) ∧ V.cell? ⟨W.heap.size, 7, none⟩ = some (.slice ra rl rc) ∧ Hid (Chg [] W0 V)) (World.drew W0) := KEEP.out _ (Chg.refl _ _).drew
  refine wp_region_plan (fun V : World => V.cell? ⟨W.heap.size, 0, none⟩ = some (.int .i64 k) ∧ V.cell? ⟨W.heap.size, 1, none⟩ = some (.int .i64 w) ∧ V.cell? ⟨W.heap.size, 2, none⟩ = some (.int .i64 s) ∧ V.cell? ⟨W.heap.size, 3, none⟩ = some (.int .i64 c) ∧ V.cell? ⟨W.heap.size, 4, none⟩ = some (.int .u32 st) ∧ V.cell? ⟨W.heap.size, 5, none⟩ = some (.slice ia il ic) ∧ V.cell? ⟨W.heap.size, 6, none⟩ = some (.int .i64 wr) ∧ V.cell? ⟨W.heap.size, 7, none⟩ = some (.slice ra rl rc) ∧ Hid (Chg [] W0 V)) [(0, true, some 3), (1, false, some 4), (2, true, some 5), (3, true, some 6), (4, true, some 7), (5, true, some 8), (6, true, some 9), (7, true, some 10), (8, true, some 11), (9, true, some 12), (10, true, some 13), (11, true, some 14), (12, true, some 15), (13, true, some 16), (14, true, some 17), (15, true, some 18), (16, true, some 19), (17, true, some 20), (18, true, some 21), (19, true, some 22), (20, true, some 23), (21, false, some 24), (22, true, some 25), (23, true, some 26), (24, true, some 27), (25, true, some 28), (26, true, some 29), (27, true, some 30), (28, true, some 31), (29, true, some 32), (30, true, some 2)] (by kernel_rfl) (by kernel_rfl) (by kernel_rfl) (by kernel_rfl) (fun d c a v w h => by cases d <;> exact h) hHeld ?_
  repeat (first
    | (refine planWp_read (v := ?_) rfl rfl ?_ ?_ ?_; rotate_left; (focus rfl); (focus (intro u hSw; (try dsimp only at hSw); go_simp; (try with_reducible rfl))); (try simp only [Act.put, List.setIfInBounds_toArray, List.set_cons_zero, List.set_cons_succ]))
    | (refine planWp_skip rfl rfl ?_ ?_; (focus rfl); (try simp only [Act.put, List.setIfInBounds_toArray, List.set_cons_zero, List.set_cons_succ]))
    | (refine planWp_leave rfl rfl ?_ hHeld ?_; (focus rfl); (try simp only [Act.put, List.setIfInBounds_toArray, List.set_cons_zero, List.set_cons_succ]))
    | (refine planWp_do rfl rfl ?_ (fun K hK => ?_); (focus rfl); go_simp; (try go_wp2_with (first | (go_at_call 86; refine (mWords_any k 6 0 w s c st ia il ic wr ra rl rc HO.out _).mono ?_; rintro e wx ⟨rfl, hcx⟩; rw [HW.out]; have HCX := Lib.hid hcx; clear hcx) | (go_at_call 89; refine (fifoMod_any _ _ _ _ _ _ _ _ _ _ _ _ HS.out _).mono ?_; rintro e wx ⟨rfl, hcx⟩; have HCX := Lib.hid hcx; clear hcx))); refine hK.out _ _ ?_ (fun hHeld2 => ?_); (focus (have hcn := Chg.trans hHeld.2.2.2.2.2.2.2.2.out HCX.out; exact KEEP.out _ hcn)); clear hK K hHeld; have hHeld := hHeld2; clear hHeld2; (try simp only [Act.put, List.setIfInBounds_toArray, List.set_cons_zero, List.set_cons_succ])))
  refine planWp_nil ?_
  have HCC := Lib.hid (HC0.out.trans hHeld.2.2.2.2.2.2.2.2.out)
  clear hHeld KEEP
  go_wp2_with fail
  go_ret
  exact ⟨by rfl, HCC.out⟩
end Go.Proofs.YtkedegbpkkgeaaaGreat.obj
/- Objects: whether one is right: the reference. -/
namespace Go.Proofs.YtkedegbpkkgeaaaGreat.obj
open Go Go.RowKit Go.Proofs.YtkedegbpkkgeaaaGreat.kit
set_option linter.unusedVariables false
set_option linter.unusedSimpArgs false
set_option maxRecDepth 20000
set_option maxHeartbeats 4000000 in
theorem rRight_1 (w s c st : Int) (ia : Option Addr) (il ic : Nat) (wr : Int) (ra : Option Addr) (rl rc : Nat) (h : ObjW 1 w s c st il rl) (W : World) :
    Calls Tryz.prog 69 #[.agg #[.int .i64 1, .int .i64 w, .int .i64 s, .int .i64 c, .int .u32 st, .slice ia il ic, .int .i64 wr, .slice ra rl rc]] W fun e W' => e = .returned (.bool (rightB 1 w s c st il rl)) ∧ Chg [] W W' := by
  obtain ⟨h1, h2, h3, h4, h5, h6, h7⟩ := h
  have h8 : wrap64 st = st := by unfold wrap64; omega
  generalize hr : rightB 1 w s c st il rl = r
  have HR := Lib.hid hr
  clear hr
  go_enter Tryz.func69, Tryz.ntmps69
  go_wp2
  all_goals (go_ret; refine ⟨?_, (Chg.refl _ _).alloc _⟩; rw [← HR.out]; refine ret_bool ?_; rw [Bool.eq_iff_iff]; (first | (simp [rightB]; done) | (simp [rightB]; omega) | (simp_all [rightB]; done) | (simp_all [rightB]; omega) | (trace_state; fail)))
set_option maxHeartbeats 4000000 in
theorem rRight_2 (w s c st : Int) (ia : Option Addr) (il ic : Nat) (wr : Int) (ra : Option Addr) (rl rc : Nat) (h : ObjW 2 w s c st il rl) (W : World) :
    Calls Tryz.prog 69 #[.agg #[.int .i64 2, .int .i64 w, .int .i64 s, .int .i64 c, .int .u32 st, .slice ia il ic, .int .i64 wr, .slice ra rl rc]] W fun e W' => e = .returned (.bool (rightB 2 w s c st il rl)) ∧ Chg [] W W' := by
  obtain ⟨h1, h2, h3, h4, h5, h6, h7⟩ := h
  have h8 : wrap64 st = st := by unfold wrap64; omega
  generalize hr : rightB 2 w s c st il rl = r
  have HR := Lib.hid hr
  clear hr
  go_enter Tryz.func69, Tryz.ntmps69
  go_wp2
  all_goals (go_ret; refine ⟨?_, (Chg.refl _ _).alloc _⟩; rw [← HR.out]; refine ret_bool ?_; rw [Bool.eq_iff_iff]; (first | (simp [rightB]; done) | (simp [rightB]; omega) | (simp_all [rightB]; done) | (simp_all [rightB]; omega) | (trace_state; fail)))
set_option maxHeartbeats 4000000 in
theorem rRight_3 (w s c st : Int) (ia : Option Addr) (il ic : Nat) (wr : Int) (ra : Option Addr) (rl rc : Nat) (h : ObjW 3 w s c st il rl) (W : World) :
    Calls Tryz.prog 69 #[.agg #[.int .i64 3, .int .i64 w, .int .i64 s, .int .i64 c, .int .u32 st, .slice ia il ic, .int .i64 wr, .slice ra rl rc]] W fun e W' => e = .returned (.bool (rightB 3 w s c st il rl)) ∧ Chg [] W W' := by
  obtain ⟨h1, h2, h3, h4, h5, h6, h7⟩ := h
  have h8 : wrap64 st = st := by unfold wrap64; omega
  generalize hr : rightB 3 w s c st il rl = r
  have HR := Lib.hid hr
  clear hr
  go_enter Tryz.func69, Tryz.ntmps69
  go_wp2
  all_goals (go_ret; refine ⟨?_, (Chg.refl _ _).alloc _⟩; rw [← HR.out]; refine ret_bool ?_; rw [Bool.eq_iff_iff]; (first | (simp [rightB]; done) | (simp [rightB]; omega) | (simp_all [rightB]; done) | (simp_all [rightB]; omega) | (trace_state; fail)))
set_option maxHeartbeats 4000000 in
theorem rRight_4 (w s c st : Int) (ia : Option Addr) (il ic : Nat) (wr : Int) (ra : Option Addr) (rl rc : Nat) (h : ObjW 4 w s c st il rl) (W : World) :
    Calls Tryz.prog 69 #[.agg #[.int .i64 4, .int .i64 w, .int .i64 s, .int .i64 c, .int .u32 st, .slice ia il ic, .int .i64 wr, .slice ra rl rc]] W fun e W' => e = .returned (.bool (rightB 4 w s c st il rl)) ∧ Chg [] W W' := by
  obtain ⟨h1, h2, h3, h4, h5, h6, h7⟩ := h
  have h8 : wrap64 st = st := by unfold wrap64; omega
  generalize hr : rightB 4 w s c st il rl = r
  have HR := Lib.hid hr
  clear hr
  go_enter Tryz.func69, Tryz.ntmps69
  go_wp2
  all_goals (go_ret; refine ⟨?_, (Chg.refl _ _).alloc _⟩; rw [← HR.out]; refine ret_bool ?_; rw [Bool.eq_iff_iff]; (first | (simp [rightB]; done) | (simp [rightB]; omega) | (simp_all [rightB]; done) | (simp_all [rightB]; omega) | (trace_state; fail)))
set_option maxHeartbeats 4000000 in
theorem rRight_5 (w s c st : Int) (ia : Option Addr) (il ic : Nat) (wr : Int) (ra : Option Addr) (rl rc : Nat) (h : ObjW 5 w s c st il rl) (W : World) :
    Calls Tryz.prog 69 #[.agg #[.int .i64 5, .int .i64 w, .int .i64 s, .int .i64 c, .int .u32 st, .slice ia il ic, .int .i64 wr, .slice ra rl rc]] W fun e W' => e = .returned (.bool (rightB 5 w s c st il rl)) ∧ Chg [] W W' := by
  obtain ⟨h1, h2, h3, h4, h5, h6, h7⟩ := h
  have h8 : wrap64 st = st := by unfold wrap64; omega
  generalize hr : rightB 5 w s c st il rl = r
  have HR := Lib.hid hr
  clear hr
  go_enter Tryz.func69, Tryz.ntmps69
  go_wp2
  all_goals (go_ret; refine ⟨?_, (Chg.refl _ _).alloc _⟩; rw [← HR.out]; refine ret_bool ?_; rw [Bool.eq_iff_iff]; (first | (simp [rightB]; done) | (simp [rightB]; omega) | (simp_all [rightB]; done) | (simp_all [rightB]; omega) | (trace_state; fail)))
set_option maxHeartbeats 4000000 in
theorem rRight_6 (w s c st : Int) (ia : Option Addr) (il ic : Nat) (wr : Int) (ra : Option Addr) (rl rc : Nat) (h : ObjW 6 w s c st il rl) (W : World) :
    Calls Tryz.prog 69 #[.agg #[.int .i64 6, .int .i64 w, .int .i64 s, .int .i64 c, .int .u32 st, .slice ia il ic, .int .i64 wr, .slice ra rl rc]] W fun e W' => e = .returned (.bool (rightB 6 w s c st il rl)) ∧ Chg [] W W' := by
  obtain ⟨h1, h2, h3, h4, h5, h6, h7⟩ := h
  have h8 : wrap64 st = st := by unfold wrap64; omega
  generalize hr : rightB 6 w s c st il rl = r
  have HR := Lib.hid hr
  clear hr
  go_enter Tryz.func69, Tryz.ntmps69
  go_wp2
  all_goals (go_ret; refine ⟨?_, (Chg.refl _ _).alloc _⟩; rw [← HR.out]; refine ret_bool ?_; rw [Bool.eq_iff_iff]; (first | (simp [rightB]; done) | (simp [rightB]; omega) | (simp_all [rightB]; done) | (simp_all [rightB]; omega) | (trace_state; fail)))
set_option maxHeartbeats 4000000 in
theorem rRight_out (k : Int) (w s c st : Int) (ia : Option Addr) (il ic : Nat) (wr : Int) (ra : Option Addr) (rl rc : Nat) (hk : k < 1 ∨ 6 < k) (h : ObjW k w s c st il rl) (W : World) :
    Calls Tryz.prog 69 #[.agg #[.int .i64 k, .int .i64 w, .int .i64 s, .int .i64 c, .int .u32 st, .slice ia il ic, .int .i64 wr, .slice ra rl rc]] W fun e W' => e = .returned (.bool (rightB k w s c st il rl)) ∧ Chg [] W W' := by
  rw [rightB_out k w s c st il rl hk]
  obtain ⟨h1, h2, h3, h4, h5, h6, h7⟩ := h
  have n1 : (k == 1) = false := by simp; omega
  have m1 : ¬ k = 1 := by omega
  have n2 : (k == 2) = false := by simp; omega
  have m2 : ¬ k = 2 := by omega
  have n3 : (k == 3) = false := by simp; omega
  have m3 : ¬ k = 3 := by omega
  have n4 : (k == 4) = false := by simp; omega
  have m4 : ¬ k = 4 := by omega
  have n5 : (k == 5) = false := by simp; omega
  have m5 : ¬ k = 5 := by omega
  have n6 : (k == 6) = false := by simp; omega
  have m6 : ¬ k = 6 := by omega
  clear hk
  go_enter Tryz.func69, Tryz.ntmps69
  go_wp2
  all_goals (go_ret; exact ⟨rfl, (Chg.refl _ _).alloc _⟩)
theorem rRight_any (k : Int) (w s c st : Int) (ia : Option Addr) (il ic : Nat) (wr : Int) (ra : Option Addr) (rl rc : Nat) (h : ObjW k w s c st il rl) (W : World) :
    Calls Tryz.prog 69 #[.agg #[.int .i64 k, .int .i64 w, .int .i64 s, .int .i64 c, .int .u32 st, .slice ia il ic, .int .i64 wr, .slice ra rl rc]] W fun e W' => e = .returned (.bool (rightB k w s c st il rl)) ∧ Chg [] W W' := by
  have hk : k = 1 ∨ k = 2 ∨ k = 3 ∨ k = 4 ∨ k = 5 ∨ k = 6 ∨ (k < 1 ∨ 6 < k) := by omega
  rcases hk with rfl | rfl | rfl | rfl | rfl | rfl | hk
  · exact rRight_1 w s c st ia il ic wr ra rl rc h W
  · exact rRight_2 w s c st ia il ic wr ra rl rc h W
  · exact rRight_3 w s c st ia il ic wr ra rl rc h W
  · exact rRight_4 w s c st ia il ic wr ra rl rc h W
  · exact rRight_5 w s c st ia il ic wr ra rl rc h W
  · exact rRight_6 w s c st ia il ic wr ra rl rc h W
  · exact rRight_out k w s c st ia il ic wr ra rl rc hk h W
end Go.Proofs.YtkedegbpkkgeaaaGreat.obj
