/- Package isa: Target, Calls, Uses, Sets. -/
import Derived.Test.YtihgljfiggdcpaaIsaR
import Derived.Test.YtihgljfiggdcpaaPlan
namespace Go.Proofs.Ytihgljfiggdcpaa.isa
open Go Go.RowKit Go.Proofs.Ytihgljfiggdcpaa.kit Go.Proofs.Ytihgljfiggdcpaa.codec
set_option linter.unusedVariables false
set_option maxRecDepth 20000

theorem right_in {op a b c n : Int} (h : rightI ⟨op, a, b, c, n⟩ = true) : ∃ k : Nat, k < 22 ∧ op = k := by
  unfold rightI at h
  split at h
  · rename_i hk
    have h1 : 0 ≤ op ∧ op < 22 := hk
    exact ⟨op.toNat, by omega, by omega⟩
  · cases h
theorem field_at (k : Nat) (u : World) (i : Nat) (v : Value) (hv : (shapeAt k).cells[i]? = some v) (hi : i < 7) : (Instr.field 80 (.agg #[.string (wordB k), .int .i64 (shapeAt k).a, .int .i64 (shapeAt k).b, .int .i64 (shapeAt k).c, .int .i64 (shapeAt k).n, .string (usesB k), .string (setsB k)]) i).run Try.prog u = .ok v u := by
  have : i = 0 ∨ i = 1 ∨ i = 2 ∨ i = 3 ∨ i = 4 ∨ i = 5 ∨ i = 6 := by omega
  rcases this with rfl | rfl | rfl | rfl | rfl | rfl | rfl <;> simp [Shape.cells] at hv <;> subst hv <;> simp [Instr.field, go_sem, asAgg] <;> try rfl
def leadsI (op : Int) : Bool := decide (14 ≤ op ∧ op ≤ 16)
theorem leads_shape : (List.range 22).all (fun k => decide ((shapeAt k).n = 4) == leadsI k) = true := by kernel_rfl
theorem leads_at (k : Nat) (hk : k < 22) : decide ((shapeAt k).n = 4) = leadsI k := by
  have := List.all_eq_true.1 leads_shape k (List.mem_range.2 hk)
  exact eq_of_beq this
set_option maxHeartbeats 2000000 in
theorem Target_any (op a b c n : Int) (hn : (Lit.int .u32 n).wf = true) (w : World) :
    Calls Try.prog 31 #[.agg #[.int .i64 op, .int .i64 a, .int .i64 b, .int .i64 c, .int .u32 n]] w fun e w' => e = .returned (.tuple #[.int .i64 (if rightI ⟨op, a, b, c, n⟩ && leadsI op then n else 0), .bool (rightI ⟨op, a, b, c, n⟩ && leadsI op)]) ∧ Chg [] w w' := by
  generalize hg : rightI ⟨op, a, b, c, n⟩ = g
  have HG := Lib.hid hg
  cases g
  · rw [Bool.false_and, if_neg (by decide)]
    clear hg
    go_enter Try.func31, Try.ntmps31
    go_wp2_with fail
    generalize hW0 : (w.alloc (.cells #[.int .i64 op, .int .i64 a, .int .i64 b, .int .i64 c, .int .u32 n] 60)) = W0
    have hB0 : Blk W0 w.heap.size #[.int .i64 op, .int .i64 a, .int .i64 b, .int .i64 c, .int .u32 n] 60 := by rw [← hW0]; exact Blk.new w _ _
    have HC0 : Hid (Chg [] w W0) := Lib.hid (by rw [← hW0]; exact (Chg.refl _ _).alloc _)
    clear hW0
    have e0 : W0.cell? ⟨w.heap.size, 0, none⟩ = some (.int .i64 op) := hB0.cell rfl
    have e1 : W0.cell? ⟨w.heap.size, 1, none⟩ = some (.int .i64 a) := hB0.cell rfl
    have e2 : W0.cell? ⟨w.heap.size, 2, none⟩ = some (.int .i64 b) := hB0.cell rfl
    have e3 : W0.cell? ⟨w.heap.size, 3, none⟩ = some (.int .i64 c) := hB0.cell rfl
    have e4 : W0.cell? ⟨w.heap.size, 4, none⟩ = some (.int .u32 n) := hB0.cell rfl
    have KEEP := Lib.hid (fun (W : World) (h : Chg [] W0 W) => (⟨h.keep e0 (by simp), h.keep e1 (by simp), h.keep e2 (by simp), h.keep e3 (by simp), h.keep e4 (by simp), Lib.hid h⟩ : (fun W : World => W.cell? ⟨w.heap.size, 0, none⟩ = some (.int .i64 op) ∧ W.cell? ⟨w.heap.size, 1, none⟩ = some (.int .i64 a) ∧ W.cell? ⟨w.heap.size, 2, none⟩ = some (.int .i64 b) ∧ W.cell? ⟨w.heap.size, 3, none⟩ = some (.int .i64 c) ∧ W.cell? ⟨w.heap.size, 4, none⟩ = some (.int .u32 n) ∧ Hid (Chg [] W0 W)) W))
    clear e0 e1 e2 e3 e4 hB0
    have hHeld : (fun W : World => W.cell? ⟨w.heap.size, 0, none⟩ = some (.int .i64 op) ∧ W.cell? ⟨w.heap.size, 1, none⟩ = some (.int .i64 a) ∧ W.cell? ⟨w.heap.size, 2, none⟩ = some (.int .i64 b) ∧ W.cell? ⟨w.heap.size, 3, none⟩ = some (.int .i64 c) ∧ W.cell? ⟨w.heap.size, 4, none⟩ = some (.int .u32 n) ∧ Hid (Chg [] W0 W)) (World.drew W0) := KEEP.out _ (Chg.refl _ _).drew
    refine wp_region_plan (fun W : World => W.cell? ⟨w.heap.size, 0, none⟩ = some (.int .i64 op) ∧ W.cell? ⟨w.heap.size, 1, none⟩ = some (.int .i64 a) ∧ W.cell? ⟨w.heap.size, 2, none⟩ = some (.int .i64 b) ∧ W.cell? ⟨w.heap.size, 3, none⟩ = some (.int .i64 c) ∧ W.cell? ⟨w.heap.size, 4, none⟩ = some (.int .u32 n) ∧ Hid (Chg [] W0 W)) [(0, true, some 4), (1, false, some 5), (2, true, some 6), (3, true, some 7), (5, true, some 9), (6, true, some 10), (4, false, some 8), (7, true, some 11), (8, true, some 12), (9, true, some 13), (10, true, some 14)] (by kernel_rfl) (by kernel_rfl) (by kernel_rfl) (by kernel_rfl) (fun d c a v w h => by cases d <;> exact h) hHeld ?_
    repeat (first
      | (refine planWp_read (v := ?_) rfl rfl ?_ ?_ ?_; rotate_left; (focus rfl); (focus (intro u hSw; (try dsimp only at hSw); go_simp; (try with_reducible rfl))); (try simp only [Act.put, List.setIfInBounds_toArray, List.set_cons_zero, List.set_cons_succ]))
      | (refine planWp_skip rfl rfl ?_ ?_; (focus rfl); (try simp only [Act.put, List.setIfInBounds_toArray, List.set_cons_zero, List.set_cons_succ]))
      | (refine planWp_leave rfl rfl ?_ hHeld ?_; (focus rfl); (try simp only [Act.put, List.setIfInBounds_toArray, List.set_cons_zero, List.set_cons_succ]))
      | (refine planWp_do rfl rfl ?_ (fun K hK => ?_); (focus rfl); go_simp; (try go_wp2_with (first | (go_at_call 30; refine (Right_any op a b c n hn _).mono ?_; rintro e w1 ⟨rfl, hc1⟩; rw [HG.out]; have HCX := Lib.hid hc1; clear hc1) | (go_at_call 44; refine (shapes_any _).mono ?_; rintro e w2 ⟨rfl, hc2⟩; have HCX := Lib.hid hc2; clear hc2))); refine hK.out _ _ ?_ (fun hHeld2 => ?_); (focus (have hcn := Chg.trans hHeld.2.2.2.2.2.out HCX.out; exact KEEP.out _ hcn)); clear hK K hHeld; have hHeld := hHeld2; clear hHeld2; (try simp only [Act.put, List.setIfInBounds_toArray, List.set_cons_zero, List.set_cons_succ])))
    refine planWp_nil ?_
    have CC := HC0.out.trans hHeld.2.2.2.2.2.out
    have HCC := Lib.hid CC
    clear CC
    clear hHeld KEEP
    go_wp2_with fail
    go_ret2
    exact ⟨rfl, HCC.out⟩
  · obtain ⟨k, hk, rfl⟩ := right_in hg
    rw [Bool.true_and, ← leads_at k hk]
    clear hg
    have hp := pick_run k hk
    have hf := fun u => field_at k u 4 _ rfl (by decide)
    have HWR := Lib.hid (wrap64_u32 hn)
    by_cases hl : (shapeAt k).n = 4
    · rw [decide_eq_true hl, if_pos rfl]
      have hlb : ((shapeAt k).n == 4) = true := by simp [hl]
      clear hl
      go_enter Try.func31, Try.ntmps31
      go_wp2_with fail
      generalize hW0 : (w.alloc (.cells #[.int .i64 k, .int .i64 a, .int .i64 b, .int .i64 c, .int .u32 n] 60)) = W0
      have hB0 : Blk W0 w.heap.size #[.int .i64 k, .int .i64 a, .int .i64 b, .int .i64 c, .int .u32 n] 60 := by rw [← hW0]; exact Blk.new w _ _
      have HC0 : Hid (Chg [] w W0) := Lib.hid (by rw [← hW0]; exact (Chg.refl _ _).alloc _)
      clear hW0
      have e0 : W0.cell? ⟨w.heap.size, 0, none⟩ = some (.int .i64 k) := hB0.cell rfl
      have e1 : W0.cell? ⟨w.heap.size, 1, none⟩ = some (.int .i64 a) := hB0.cell rfl
      have e2 : W0.cell? ⟨w.heap.size, 2, none⟩ = some (.int .i64 b) := hB0.cell rfl
      have e3 : W0.cell? ⟨w.heap.size, 3, none⟩ = some (.int .i64 c) := hB0.cell rfl
      have e4 : W0.cell? ⟨w.heap.size, 4, none⟩ = some (.int .u32 n) := hB0.cell rfl
      have KEEP := Lib.hid (fun (W : World) (h : Chg [] W0 W) => (⟨h.keep e0 (by simp), h.keep e1 (by simp), h.keep e2 (by simp), h.keep e3 (by simp), h.keep e4 (by simp), Lib.hid h⟩ : (fun W : World => W.cell? ⟨w.heap.size, 0, none⟩ = some (.int .i64 k) ∧ W.cell? ⟨w.heap.size, 1, none⟩ = some (.int .i64 a) ∧ W.cell? ⟨w.heap.size, 2, none⟩ = some (.int .i64 b) ∧ W.cell? ⟨w.heap.size, 3, none⟩ = some (.int .i64 c) ∧ W.cell? ⟨w.heap.size, 4, none⟩ = some (.int .u32 n) ∧ Hid (Chg [] W0 W)) W))
      clear e0 e1 e2 e3 e4 hB0
      have hHeld : (fun W : World => W.cell? ⟨w.heap.size, 0, none⟩ = some (.int .i64 k) ∧ W.cell? ⟨w.heap.size, 1, none⟩ = some (.int .i64 a) ∧ W.cell? ⟨w.heap.size, 2, none⟩ = some (.int .i64 b) ∧ W.cell? ⟨w.heap.size, 3, none⟩ = some (.int .i64 c) ∧ W.cell? ⟨w.heap.size, 4, none⟩ = some (.int .u32 n) ∧ Hid (Chg [] W0 W)) (World.drew W0) := KEEP.out _ (Chg.refl _ _).drew
      refine wp_region_plan (fun W : World => W.cell? ⟨w.heap.size, 0, none⟩ = some (.int .i64 k) ∧ W.cell? ⟨w.heap.size, 1, none⟩ = some (.int .i64 a) ∧ W.cell? ⟨w.heap.size, 2, none⟩ = some (.int .i64 b) ∧ W.cell? ⟨w.heap.size, 3, none⟩ = some (.int .i64 c) ∧ W.cell? ⟨w.heap.size, 4, none⟩ = some (.int .u32 n) ∧ Hid (Chg [] W0 W)) [(0, true, some 4), (1, false, some 5), (2, true, some 6), (3, true, some 7), (5, true, some 9), (6, true, some 10), (4, false, some 8), (7, true, some 11), (8, true, some 12), (9, true, some 13), (10, true, some 14)] (by kernel_rfl) (by kernel_rfl) (by kernel_rfl) (by kernel_rfl) (fun d c a v w h => by cases d <;> exact h) hHeld ?_
      repeat (first
        | (refine planWp_read (v := ?_) rfl rfl ?_ ?_ ?_; rotate_left; (focus rfl); (focus (intro u hSw; (try dsimp only at hSw); go_simp; (try with_reducible rfl))); (try simp only [Act.put, List.setIfInBounds_toArray, List.set_cons_zero, List.set_cons_succ]))
        | (refine planWp_skip rfl rfl ?_ ?_; (focus rfl); (try simp only [Act.put, List.setIfInBounds_toArray, List.set_cons_zero, List.set_cons_succ]))
        | (refine planWp_leave rfl rfl ?_ hHeld ?_; (focus rfl); (try simp only [Act.put, List.setIfInBounds_toArray, List.set_cons_zero, List.set_cons_succ]))
        | (refine planWp_do rfl rfl ?_ (fun K hK => ?_); (focus rfl); go_simp; (try go_wp2_with (first | (go_at_call 30; refine (Right_any k a b c n hn _).mono ?_; rintro e w1 ⟨rfl, hc1⟩; rw [HG.out]; have HCX := Lib.hid hc1; clear hc1) | (go_at_call 44; refine (shapes_any _).mono ?_; rintro e w2 ⟨rfl, hc2⟩; have HCX := Lib.hid hc2; clear hc2))); refine hK.out _ _ ?_ (fun hHeld2 => ?_); (focus (have hcn := Chg.trans hHeld.2.2.2.2.2.out HCX.out; exact KEEP.out _ hcn)); clear hK K hHeld; have hHeld := hHeld2; clear hHeld2; (try simp only [Act.put, List.setIfInBounds_toArray, List.set_cons_zero, List.set_cons_succ])))
      refine planWp_nil ?_
      have CC := HC0.out.trans hHeld.2.2.2.2.2.out
      have HCC := Lib.hid CC
      clear CC
      have e4 := hHeld.2.2.2.2.1
      clear hHeld KEEP
      go_wp2_with fail
      go_ret2
      exact ⟨by rw [HWR.out]; rfl, HCC.out⟩
    · rw [decide_eq_false hl, if_neg (by decide)]
      have hlb : ((shapeAt k).n == 4) = false := by simp [hl]
      clear hl
      go_enter Try.func31, Try.ntmps31
      go_wp2_with fail
      generalize hW0 : (w.alloc (.cells #[.int .i64 k, .int .i64 a, .int .i64 b, .int .i64 c, .int .u32 n] 60)) = W0
      have hB0 : Blk W0 w.heap.size #[.int .i64 k, .int .i64 a, .int .i64 b, .int .i64 c, .int .u32 n] 60 := by rw [← hW0]; exact Blk.new w _ _
      have HC0 : Hid (Chg [] w W0) := Lib.hid (by rw [← hW0]; exact (Chg.refl _ _).alloc _)
      clear hW0
      have e0 : W0.cell? ⟨w.heap.size, 0, none⟩ = some (.int .i64 k) := hB0.cell rfl
      have e1 : W0.cell? ⟨w.heap.size, 1, none⟩ = some (.int .i64 a) := hB0.cell rfl
      have e2 : W0.cell? ⟨w.heap.size, 2, none⟩ = some (.int .i64 b) := hB0.cell rfl
      have e3 : W0.cell? ⟨w.heap.size, 3, none⟩ = some (.int .i64 c) := hB0.cell rfl
      have e4 : W0.cell? ⟨w.heap.size, 4, none⟩ = some (.int .u32 n) := hB0.cell rfl
      have KEEP := Lib.hid (fun (W : World) (h : Chg [] W0 W) => (⟨h.keep e0 (by simp), h.keep e1 (by simp), h.keep e2 (by simp), h.keep e3 (by simp), h.keep e4 (by simp), Lib.hid h⟩ : (fun W : World => W.cell? ⟨w.heap.size, 0, none⟩ = some (.int .i64 k) ∧ W.cell? ⟨w.heap.size, 1, none⟩ = some (.int .i64 a) ∧ W.cell? ⟨w.heap.size, 2, none⟩ = some (.int .i64 b) ∧ W.cell? ⟨w.heap.size, 3, none⟩ = some (.int .i64 c) ∧ W.cell? ⟨w.heap.size, 4, none⟩ = some (.int .u32 n) ∧ Hid (Chg [] W0 W)) W))
      clear e0 e1 e2 e3 e4 hB0
      have hHeld : (fun W : World => W.cell? ⟨w.heap.size, 0, none⟩ = some (.int .i64 k) ∧ W.cell? ⟨w.heap.size, 1, none⟩ = some (.int .i64 a) ∧ W.cell? ⟨w.heap.size, 2, none⟩ = some (.int .i64 b) ∧ W.cell? ⟨w.heap.size, 3, none⟩ = some (.int .i64 c) ∧ W.cell? ⟨w.heap.size, 4, none⟩ = some (.int .u32 n) ∧ Hid (Chg [] W0 W)) (World.drew W0) := KEEP.out _ (Chg.refl _ _).drew
      refine wp_region_plan (fun W : World => W.cell? ⟨w.heap.size, 0, none⟩ = some (.int .i64 k) ∧ W.cell? ⟨w.heap.size, 1, none⟩ = some (.int .i64 a) ∧ W.cell? ⟨w.heap.size, 2, none⟩ = some (.int .i64 b) ∧ W.cell? ⟨w.heap.size, 3, none⟩ = some (.int .i64 c) ∧ W.cell? ⟨w.heap.size, 4, none⟩ = some (.int .u32 n) ∧ Hid (Chg [] W0 W)) [(0, true, some 4), (1, false, some 5), (2, true, some 6), (3, true, some 7), (5, true, some 9), (6, true, some 10), (4, false, some 8), (7, true, some 11), (8, true, some 12), (9, true, some 13), (10, true, some 14)] (by kernel_rfl) (by kernel_rfl) (by kernel_rfl) (by kernel_rfl) (fun d c a v w h => by cases d <;> exact h) hHeld ?_
      repeat (first
        | (refine planWp_read (v := ?_) rfl rfl ?_ ?_ ?_; rotate_left; (focus rfl); (focus (intro u hSw; (try dsimp only at hSw); go_simp; (try with_reducible rfl))); (try simp only [Act.put, List.setIfInBounds_toArray, List.set_cons_zero, List.set_cons_succ]))
        | (refine planWp_skip rfl rfl ?_ ?_; (focus rfl); (try simp only [Act.put, List.setIfInBounds_toArray, List.set_cons_zero, List.set_cons_succ]))
        | (refine planWp_leave rfl rfl ?_ hHeld ?_; (focus rfl); (try simp only [Act.put, List.setIfInBounds_toArray, List.set_cons_zero, List.set_cons_succ]))
        | (refine planWp_do rfl rfl ?_ (fun K hK => ?_); (focus rfl); go_simp; (try go_wp2_with (first | (go_at_call 30; refine (Right_any k a b c n hn _).mono ?_; rintro e w1 ⟨rfl, hc1⟩; rw [HG.out]; have HCX := Lib.hid hc1; clear hc1) | (go_at_call 44; refine (shapes_any _).mono ?_; rintro e w2 ⟨rfl, hc2⟩; have HCX := Lib.hid hc2; clear hc2))); refine hK.out _ _ ?_ (fun hHeld2 => ?_); (focus (have hcn := Chg.trans hHeld.2.2.2.2.2.out HCX.out; exact KEEP.out _ hcn)); clear hK K hHeld; have hHeld := hHeld2; clear hHeld2; (try simp only [Act.put, List.setIfInBounds_toArray, List.set_cons_zero, List.set_cons_succ])))
      refine planWp_nil ?_
      have CC := HC0.out.trans hHeld.2.2.2.2.2.out
      have HCC := Lib.hid CC
      clear CC
      clear hHeld KEEP
      go_wp2_with fail
      go_ret2
      exact ⟨rfl, HCC.out⟩

def callI (op : Int) : Int := if 17 ≤ op ∧ op ≤ 20 then op - 16 else 0
set_option maxHeartbeats 2000000 in
theorem Calls_any (op a b c n : Int) (hn : (Lit.int .u32 n).wf = true) (w : World) :
    Calls Try.prog 32 #[.agg #[.int .i64 op, .int .i64 a, .int .i64 b, .int .i64 c, .int .u32 n]] w fun e w' => e = .returned (.tuple #[.int .i64 (if rightI ⟨op, a, b, c, n⟩ && decide (0 < callI op) then b else 0), .int .i64 (if rightI ⟨op, a, b, c, n⟩ then callI op else 0), .bool (rightI ⟨op, a, b, c, n⟩ && decide (0 < callI op))]) ∧ Chg [] w w' := by
  generalize hg : rightI ⟨op, a, b, c, n⟩ = g
  have HG := Lib.hid hg
  clear hg
  cases g
  · rw [Bool.false_and, if_neg (by decide), if_neg (by decide)]
    go_enter Try.func32, Try.ntmps32
    go_wp2_with (go_at_call 30; refine (Right_any op a b c n hn _).mono ?_; rintro e w1 ⟨rfl, hc1⟩; rw [HG.out])
    go_ret3
    exact ⟨rfl, ((Chg.refl _ _).alloc _).trans hc1⟩
  · rw [Bool.true_and, if_pos rfl]
    have hcases : op = 17 ∨ op = 18 ∨ op = 19 ∨ op = 20 ∨ (op ≠ 17 ∧ op ≠ 18 ∧ op ≠ 19 ∧ op ≠ 20) := by omega
    rcases hcases with rfl | rfl | rfl | rfl | ⟨n1, n2, n3, n4⟩
    case inr.inr.inr.inr =>
      have hz : callI op = 0 := by unfold callI; exact if_neg (by omega)
      rw [hz, if_neg (by decide)]
      clear hz
      have b1 : (op == 17) = false := by simpa using n1
      have b2 : (op == 18) = false := by simpa using n2
      have b3 : (op == 19) = false := by simpa using n3
      have b4 : (op == 20) = false := by simpa using n4
      clear n1 n2 n3 n4
      go_enter Try.func32, Try.ntmps32
      go_wp2_with (go_at_call 30; refine (Right_any op a b c n hn _).mono ?_; rintro e w1 ⟨rfl, hc1⟩; rw [HG.out]; have hbx := (Blk.new w #[.int .i64 op, .int .i64 a, .int .i64 b, .int .i64 c, .int .u32 n] 60).keep hc1 (by simp); have e0 := hbx.cell (o := 0) (v := .int .i64 op) rfl; have e2 := hbx.cell (o := 2) (v := .int .i64 b) rfl)
      go_ret3
      exact ⟨rfl, ((Chg.refl _ _).alloc _).trans hc1⟩
    case inl =>
      rw [show callI 17 = 1 from rfl, if_pos (by decide)]
      go_enter Try.func32, Try.ntmps32
      go_wp2_with (go_at_call 30; refine (Right_any 17 a b c n hn _).mono ?_; rintro e w1 ⟨rfl, hc1⟩; rw [HG.out]; have hbx := (Blk.new w #[.int .i64 17, .int .i64 a, .int .i64 b, .int .i64 c, .int .u32 n] 60).keep hc1 (by simp); have e0 := hbx.cell (o := 0) (v := .int .i64 17) rfl; have e2 := hbx.cell (o := 2) (v := .int .i64 b) rfl)
      go_ret3
      exact ⟨rfl, ((Chg.refl _ _).alloc _).trans hc1⟩
    case inr.inl =>
      rw [show callI 18 = 2 from rfl, if_pos (by decide)]
      go_enter Try.func32, Try.ntmps32
      go_wp2_with (go_at_call 30; refine (Right_any 18 a b c n hn _).mono ?_; rintro e w1 ⟨rfl, hc1⟩; rw [HG.out]; have hbx := (Blk.new w #[.int .i64 18, .int .i64 a, .int .i64 b, .int .i64 c, .int .u32 n] 60).keep hc1 (by simp); have e0 := hbx.cell (o := 0) (v := .int .i64 18) rfl; have e2 := hbx.cell (o := 2) (v := .int .i64 b) rfl)
      go_ret3
      exact ⟨rfl, ((Chg.refl _ _).alloc _).trans hc1⟩
    case inr.inr.inl =>
      rw [show callI 19 = 3 from rfl, if_pos (by decide)]
      go_enter Try.func32, Try.ntmps32
      go_wp2_with (go_at_call 30; refine (Right_any 19 a b c n hn _).mono ?_; rintro e w1 ⟨rfl, hc1⟩; rw [HG.out]; have hbx := (Blk.new w #[.int .i64 19, .int .i64 a, .int .i64 b, .int .i64 c, .int .u32 n] 60).keep hc1 (by simp); have e0 := hbx.cell (o := 0) (v := .int .i64 19) rfl; have e2 := hbx.cell (o := 2) (v := .int .i64 b) rfl)
      go_ret3
      exact ⟨rfl, ((Chg.refl _ _).alloc _).trans hc1⟩
    case inr.inr.inr.inl =>
      rw [show callI 20 = 4 from rfl, if_pos (by decide)]
      go_enter Try.func32, Try.ntmps32
      go_wp2_with (go_at_call 30; refine (Right_any 20 a b c n hn _).mono ?_; rintro e w1 ⟨rfl, hc1⟩; rw [HG.out]; have hbx := (Blk.new w #[.int .i64 20, .int .i64 a, .int .i64 b, .int .i64 c, .int .u32 n] 60).keep hc1 (by simp); have e0 := hbx.cell (o := 0) (v := .int .i64 20) rfl; have e2 := hbx.cell (o := 2) (v := .int .i64 b) rfl)
      go_ret3
      exact ⟨rfl, ((Chg.refl _ _).alloc _).trans hc1⟩

def letterOk (k : Nat) (ch : UInt8) : Bool := (ch.toNat == 97 && decide ((shapeAt k).a = 1)) || (ch.toNat == 98 && decide ((shapeAt k).b = 1)) || (ch.toNat == 99 && decide ((shapeAt k).c = 1))
theorem letters_table : (List.range 22).all (fun k => decide ((shapeAt k).uses.length ≤ 10) && decide ((shapeAt k).sets.length ≤ 10) && (shapeAt k).uses.all (letterOk k) && (shapeAt k).sets.all (letterOk k)) = true := by kernel_rfl
theorem letter_ascii {k : Nat} {ch : UInt8} (h : letterOk k ch = true) : ch.toNat < 128 := by
  simp [letterOk] at h; omega
theorem letters_uses (k : Nat) (hk : k < 22) : (usesB k).size ≤ 10 ∧ (∀ i (h : i < (usesB k).size), ((usesB k)[i]'h).toNat < 128) ∧ ((usesB k).data.toList.all (letterOk k) = true) := by
  have h := List.all_eq_true.1 letters_table k (List.mem_range.2 hk)
  simp only [Bool.and_eq_true, decide_eq_true_eq] at h
  refine ⟨h.1.1.1, fun i hi => letter_ascii (List.all_eq_true.1 h.1.2 _ ?_), h.1.2⟩
  exact List.getElem_mem (l := (shapeAt k).uses) hi
theorem letters_sets (k : Nat) (hk : k < 22) : (setsB k).size ≤ 10 ∧ (∀ i (h : i < (setsB k).size), ((setsB k)[i]'h).toNat < 128) ∧ ((setsB k).data.toList.all (letterOk k) = true) := by
  have h := List.all_eq_true.1 letters_table k (List.mem_range.2 hk)
  simp only [Bool.and_eq_true, decide_eq_true_eq] at h
  refine ⟨h.1.1.2, fun i hi => letter_ascii (List.all_eq_true.1 h.2 _ ?_), h.2⟩
  exact List.getElem_mem (l := (shapeAt k).sets) hi
theorem regs_ok (k : Nat) (hk : k < 22) (a b c n : Int) (hg : rightI ⟨k, a, b, c, n⟩ = true) (s : ByteArray) (hs : s.data.toList.all (letterOk k) = true) : ∀ x ∈ pickL s a b c, 0 ≤ x ∧ x < 8 := by
  rw [rightI_in k hk] at hg
  simp only [Bool.and_eq_true] at hg
  intro x hx
  obtain ⟨ch, hc, rfl⟩ := List.mem_map.1 hx
  have h := List.all_eq_true.1 hs ch hc
  have fit : ∀ y : Int, fitsI 1 y = true → 0 ≤ y ∧ y < 8 := fun y hy => by simp [fitsI] at hy; omega
  simp only [letterOk, Bool.or_eq_true, Bool.and_eq_true, beq_iff_eq, decide_eq_true_eq] at h
  unfold pickI
  rcases h with (⟨h1, h2⟩ | ⟨h1, h2⟩) | ⟨h1, h2⟩
  · rw [if_pos h1]; exact fit a (by have := hg.1; rw [h2] at this; exact this)
  · rw [if_neg (by omega), if_pos h1]; exact fit b (by have := hg.2.1; rw [h2] at this; exact this)
  · rw [if_neg (by omega), if_neg (by omega)]; exact fit c (by have := hg.2.2.1; rw [h2] at this; exact this)

set_option maxHeartbeats 2000000 in
theorem Uses_any (k : Nat) (hk : k < 22) (a b c n : Int) (hn : (Lit.int .u32 n).wf = true) (hg : rightI ⟨k, a, b, c, n⟩ = true) (w : World) :
    Calls Try.prog 34 #[.agg #[.int .i64 k, .int .i64 a, .int .i64 b, .int .i64 c, .int .u32 n]] w fun e w' => e = .returned (.int .u64 (setL (pickL (usesB k) a b c))) ∧ Chg [] w w' := by
  have HG := Lib.hid hg
  have hp := pick_run k hk
  have hf := fun u => field_at k u 5 _ rfl (by decide)
  have hset := fun u => set_any k a b c n (usesB k) (letters_uses k hk).1 (letters_uses k hk).2.1 (regs_ok k hk a b c n hg _ (letters_uses k hk).2.2) u
  have HSET := Lib.hid hset
  clear hset hg
  generalize pickL (usesB k) a b c = ll at *
  generalize setL ll = sv at *
  go_enter Try.func34, Try.ntmps34
  go_wp2_with (go_at_call 30; refine (Right_any k a b c n hn _).mono ?_; rintro e w1 ⟨rfl, hc1⟩; rw [HG.out]; have HC1 := Lib.hid hc1; clear hc1)
  generalize hWb : (w.alloc (.cells #[.int .i64 k, .int .i64 a, .int .i64 b, .int .i64 c, .int .u32 n] 60)) = Wb at *
  have hB0 : Blk w1 w.heap.size #[.int .i64 k, .int .i64 a, .int .i64 b, .int .i64 c, .int .u32 n] 60 := Blk.keep (by rw [← hWb]; exact Blk.new w _ _) HC1.out (by simp)
  have HC0 : Hid (Chg [] w w1) := Lib.hid (Chg.trans (by rw [← hWb]; exact (Chg.refl _ _).alloc _) HC1.out)
  clear hWb HC1
  generalize w1 = W0 at *
  have e0 : W0.cell? ⟨w.heap.size, 0, none⟩ = some (.int .i64 k) := hB0.cell rfl
  have e1 : W0.cell? ⟨w.heap.size, 1, none⟩ = some (.int .i64 a) := hB0.cell rfl
  have e2 : W0.cell? ⟨w.heap.size, 2, none⟩ = some (.int .i64 b) := hB0.cell rfl
  have e3 : W0.cell? ⟨w.heap.size, 3, none⟩ = some (.int .i64 c) := hB0.cell rfl
  have e4 : W0.cell? ⟨w.heap.size, 4, none⟩ = some (.int .u32 n) := hB0.cell rfl
  have KEEP := Lib.hid (fun (W : World) (h : Chg [] W0 W) => (⟨h.keep e0 (by simp), h.keep e1 (by simp), h.keep e2 (by simp), h.keep e3 (by simp), h.keep e4 (by simp), Lib.hid h⟩ : (fun W : World => W.cell? ⟨w.heap.size, 0, none⟩ = some (.int .i64 k) ∧ W.cell? ⟨w.heap.size, 1, none⟩ = some (.int .i64 a) ∧ W.cell? ⟨w.heap.size, 2, none⟩ = some (.int .i64 b) ∧ W.cell? ⟨w.heap.size, 3, none⟩ = some (.int .i64 c) ∧ W.cell? ⟨w.heap.size, 4, none⟩ = some (.int .u32 n) ∧ Hid (Chg [] W0 W)) W))
  clear e0 e1 e2 e3 e4 hB0
  have hHeld : (fun W : World => W.cell? ⟨w.heap.size, 0, none⟩ = some (.int .i64 k) ∧ W.cell? ⟨w.heap.size, 1, none⟩ = some (.int .i64 a) ∧ W.cell? ⟨w.heap.size, 2, none⟩ = some (.int .i64 b) ∧ W.cell? ⟨w.heap.size, 3, none⟩ = some (.int .i64 c) ∧ W.cell? ⟨w.heap.size, 4, none⟩ = some (.int .u32 n) ∧ Hid (Chg [] W0 W)) (World.drew W0) := KEEP.out _ (Chg.refl _ _).drew
  refine wp_region_plan (fun W : World => W.cell? ⟨w.heap.size, 0, none⟩ = some (.int .i64 k) ∧ W.cell? ⟨w.heap.size, 1, none⟩ = some (.int .i64 a) ∧ W.cell? ⟨w.heap.size, 2, none⟩ = some (.int .i64 b) ∧ W.cell? ⟨w.heap.size, 3, none⟩ = some (.int .i64 c) ∧ W.cell? ⟨w.heap.size, 4, none⟩ = some (.int .u32 n) ∧ Hid (Chg [] W0 W)) [(0, true, some 6), (2, true, some 8), (3, true, some 9), (1, false, some 7), (4, true, some 10), (5, true, some 11), (6, false, some 12), (7, true, some 2)] (by kernel_rfl) (by kernel_rfl) (by kernel_rfl) (by kernel_rfl) (fun d c a v w h => by cases d <;> exact h) hHeld ?_
  repeat (first
    | (refine planWp_read (v := ?_) rfl rfl ?_ ?_ ?_; rotate_left; (focus rfl); (focus (intro u hSw; (try dsimp only at hSw); go_simp; (try with_reducible rfl))); (try simp only [Act.put, List.setIfInBounds_toArray, List.set_cons_zero, List.set_cons_succ]))
    | (refine planWp_skip rfl rfl ?_ ?_; (focus rfl); (try simp only [Act.put, List.setIfInBounds_toArray, List.set_cons_zero, List.set_cons_succ]))
    | (refine planWp_leave rfl rfl ?_ hHeld ?_; (focus rfl); (try simp only [Act.put, List.setIfInBounds_toArray, List.set_cons_zero, List.set_cons_succ]))
    | (refine planWp_do rfl rfl ?_ (fun K hK => ?_); (focus rfl); go_simp; (try go_wp2_with (first | (go_at_call 44; refine (shapes_any _).mono ?_; rintro e w2 ⟨rfl, hc2⟩; have HCX := Lib.hid hc2; clear hc2) | (go_at_call 56; refine (HSET.out _).mono ?_; rintro e w3 ⟨rfl, hc3⟩; have HCX := Lib.hid hc3; clear hc3))); refine hK.out _ _ ?_ (fun hHeld2 => ?_); (focus (have hcn := Chg.trans hHeld.2.2.2.2.2.out HCX.out; exact KEEP.out _ hcn)); clear hK K hHeld; have hHeld := hHeld2; clear hHeld2; (try simp only [Act.put, List.setIfInBounds_toArray, List.set_cons_zero, List.set_cons_succ])))
  refine planWp_nil ?_
  have HCC := Lib.hid (HC0.out.trans hHeld.2.2.2.2.2.out)
  clear hHeld KEEP
  go_wp2_with fail
  go_ret
  exact ⟨rfl, HCC.out⟩

theorem Uses_no (op a b c n : Int) (hn : (Lit.int .u32 n).wf = true) (hg : rightI ⟨op, a, b, c, n⟩ = false) (w : World) :
    Calls Try.prog 34 #[.agg #[.int .i64 op, .int .i64 a, .int .i64 b, .int .i64 c, .int .u32 n]] w fun e w' => e = .returned (.int .u64 0) ∧ Chg [] w w' := by
  have HG := Lib.hid hg
  clear hg
  go_enter Try.func34, Try.ntmps34
  go_wp2_with (go_at_call 30; refine (Right_any op a b c n hn _).mono ?_; rintro e w1 ⟨rfl, hc1⟩; rw [HG.out])
  go_ret
  exact ⟨rfl, ((Chg.refl _ _).alloc _).trans hc1⟩

set_option maxHeartbeats 2000000 in
theorem Sets_any (k : Nat) (hk : k < 22) (a b c n : Int) (hn : (Lit.int .u32 n).wf = true) (hg : rightI ⟨k, a, b, c, n⟩ = true) (w : World) :
    Calls Try.prog 35 #[.agg #[.int .i64 k, .int .i64 a, .int .i64 b, .int .i64 c, .int .u32 n]] w fun e w' => e = .returned (.int .u64 (setL (pickL (setsB k) a b c))) ∧ Chg [] w w' := by
  have HG := Lib.hid hg
  have hp := pick_run k hk
  have hf := fun u => field_at k u 6 _ rfl (by decide)
  have hset := fun u => set_any k a b c n (setsB k) (letters_sets k hk).1 (letters_sets k hk).2.1 (regs_ok k hk a b c n hg _ (letters_sets k hk).2.2) u
  have HSET := Lib.hid hset
  clear hset hg
  generalize pickL (setsB k) a b c = ll at *
  generalize setL ll = sv at *
  go_enter Try.func35, Try.ntmps35
  go_wp2_with (go_at_call 30; refine (Right_any k a b c n hn _).mono ?_; rintro e w1 ⟨rfl, hc1⟩; rw [HG.out]; have HC1 := Lib.hid hc1; clear hc1)
  generalize hWb : (w.alloc (.cells #[.int .i64 k, .int .i64 a, .int .i64 b, .int .i64 c, .int .u32 n] 60)) = Wb at *
  have hB0 : Blk w1 w.heap.size #[.int .i64 k, .int .i64 a, .int .i64 b, .int .i64 c, .int .u32 n] 60 := Blk.keep (by rw [← hWb]; exact Blk.new w _ _) HC1.out (by simp)
  have HC0 : Hid (Chg [] w w1) := Lib.hid (Chg.trans (by rw [← hWb]; exact (Chg.refl _ _).alloc _) HC1.out)
  clear hWb HC1
  generalize w1 = W0 at *
  have e0 : W0.cell? ⟨w.heap.size, 0, none⟩ = some (.int .i64 k) := hB0.cell rfl
  have e1 : W0.cell? ⟨w.heap.size, 1, none⟩ = some (.int .i64 a) := hB0.cell rfl
  have e2 : W0.cell? ⟨w.heap.size, 2, none⟩ = some (.int .i64 b) := hB0.cell rfl
  have e3 : W0.cell? ⟨w.heap.size, 3, none⟩ = some (.int .i64 c) := hB0.cell rfl
  have e4 : W0.cell? ⟨w.heap.size, 4, none⟩ = some (.int .u32 n) := hB0.cell rfl
  have KEEP := Lib.hid (fun (W : World) (h : Chg [] W0 W) => (⟨h.keep e0 (by simp), h.keep e1 (by simp), h.keep e2 (by simp), h.keep e3 (by simp), h.keep e4 (by simp), Lib.hid h⟩ : (fun W : World => W.cell? ⟨w.heap.size, 0, none⟩ = some (.int .i64 k) ∧ W.cell? ⟨w.heap.size, 1, none⟩ = some (.int .i64 a) ∧ W.cell? ⟨w.heap.size, 2, none⟩ = some (.int .i64 b) ∧ W.cell? ⟨w.heap.size, 3, none⟩ = some (.int .i64 c) ∧ W.cell? ⟨w.heap.size, 4, none⟩ = some (.int .u32 n) ∧ Hid (Chg [] W0 W)) W))
  clear e0 e1 e2 e3 e4 hB0
  have hHeld : (fun W : World => W.cell? ⟨w.heap.size, 0, none⟩ = some (.int .i64 k) ∧ W.cell? ⟨w.heap.size, 1, none⟩ = some (.int .i64 a) ∧ W.cell? ⟨w.heap.size, 2, none⟩ = some (.int .i64 b) ∧ W.cell? ⟨w.heap.size, 3, none⟩ = some (.int .i64 c) ∧ W.cell? ⟨w.heap.size, 4, none⟩ = some (.int .u32 n) ∧ Hid (Chg [] W0 W)) (World.drew W0) := KEEP.out _ (Chg.refl _ _).drew
  refine wp_region_plan (fun W : World => W.cell? ⟨w.heap.size, 0, none⟩ = some (.int .i64 k) ∧ W.cell? ⟨w.heap.size, 1, none⟩ = some (.int .i64 a) ∧ W.cell? ⟨w.heap.size, 2, none⟩ = some (.int .i64 b) ∧ W.cell? ⟨w.heap.size, 3, none⟩ = some (.int .i64 c) ∧ W.cell? ⟨w.heap.size, 4, none⟩ = some (.int .u32 n) ∧ Hid (Chg [] W0 W)) [(0, true, some 6), (2, true, some 8), (3, true, some 9), (1, false, some 7), (4, true, some 10), (5, true, some 11), (6, false, some 12), (7, true, some 2)] (by kernel_rfl) (by kernel_rfl) (by kernel_rfl) (by kernel_rfl) (fun d c a v w h => by cases d <;> exact h) hHeld ?_
  repeat (first
    | (refine planWp_read (v := ?_) rfl rfl ?_ ?_ ?_; rotate_left; (focus rfl); (focus (intro u hSw; (try dsimp only at hSw); go_simp; (try with_reducible rfl))); (try simp only [Act.put, List.setIfInBounds_toArray, List.set_cons_zero, List.set_cons_succ]))
    | (refine planWp_skip rfl rfl ?_ ?_; (focus rfl); (try simp only [Act.put, List.setIfInBounds_toArray, List.set_cons_zero, List.set_cons_succ]))
    | (refine planWp_leave rfl rfl ?_ hHeld ?_; (focus rfl); (try simp only [Act.put, List.setIfInBounds_toArray, List.set_cons_zero, List.set_cons_succ]))
    | (refine planWp_do rfl rfl ?_ (fun K hK => ?_); (focus rfl); go_simp; (try go_wp2_with (first | (go_at_call 44; refine (shapes_any _).mono ?_; rintro e w2 ⟨rfl, hc2⟩; have HCX := Lib.hid hc2; clear hc2) | (go_at_call 56; refine (HSET.out _).mono ?_; rintro e w3 ⟨rfl, hc3⟩; have HCX := Lib.hid hc3; clear hc3))); refine hK.out _ _ ?_ (fun hHeld2 => ?_); (focus (have hcn := Chg.trans hHeld.2.2.2.2.2.out HCX.out; exact KEEP.out _ hcn)); clear hK K hHeld; have hHeld := hHeld2; clear hHeld2; (try simp only [Act.put, List.setIfInBounds_toArray, List.set_cons_zero, List.set_cons_succ])))
  refine planWp_nil ?_
  have HCC := Lib.hid (HC0.out.trans hHeld.2.2.2.2.2.out)
  clear hHeld KEEP
  go_wp2_with fail
  go_ret
  exact ⟨rfl, HCC.out⟩

theorem Sets_no (op a b c n : Int) (hn : (Lit.int .u32 n).wf = true) (hg : rightI ⟨op, a, b, c, n⟩ = false) (w : World) :
    Calls Try.prog 35 #[.agg #[.int .i64 op, .int .i64 a, .int .i64 b, .int .i64 c, .int .u32 n]] w fun e w' => e = .returned (.int .u64 0) ∧ Chg [] w w' := by
  have HG := Lib.hid hg
  clear hg
  go_enter Try.func35, Try.ntmps35
  go_wp2_with (go_at_call 30; refine (Right_any op a b c n hn _).mono ?_; rintro e w1 ⟨rfl, hc1⟩; rw [HG.out])
  go_ret
  exact ⟨rfl, ((Chg.refl _ _).alloc _).trans hc1⟩
end Go.Proofs.Ytihgljfiggdcpaa.isa
