/- The reference's operation: Step, where there is no step. -/
import Derived.Test.YtjplamoofkcojaaRop7
namespace Go.Proofs.Ytjplamoofkcojaa.rop
open Go Go.RowKit Go.Proofs.Ytjplamoofkcojaa.kit Go.Proofs.Ytjplamoofkcojaa.obj
set_option linter.unusedVariables false
set_option linter.unusedSimpArgs false
set_option maxRecDepth 20000

/-- no step is made -/
def stuck (x : ROp) (n : Nat) : Prop := x.over = true ∨ (n : Int) < x.at_ ∨ (n : Int) - x.at_ < sizeI x.k x.w x.s x.c x.st x.il x.rl
set_option maxHeartbeats 8000000 in
theorem Step_no (bx : Nat) (x : ROp) (la : Option Addr) (n cp : Nat) (hn : n ≤ 100000) (hat : 0 ≤ x.at_ ∧ x.at_ ≤ 9223372036854775807) (ho : ObjW x.k x.w x.s x.c x.st x.il x.rl) (W : World) (h : RAt W bx x) (hs : stuck x n) :
    Calls Try.prog 19 #[.pointer (some ⟨bx, 0, none⟩), .slice la n cp] W fun e W' => e = .returned (.bool false) ∧ Chg [] W W' := by
  have HSZ := Lib.hid (fun u => Size_any x.k x.w x.s x.c x.st x.ia x.il x.ic x.wr x.ra x.rl x.rc ho u)
  have hsb := sizeI_bd x.k x.w x.s x.c x.st x.il x.rl
  unfold stuck at hs
  generalize sizeI x.k x.w x.s x.c x.st x.il x.rl = sz at *
  have hcase : x.over = true ∨ (x.over = false ∧ (n : Int) < x.at_) ∨ (x.over = false ∧ ¬ (n : Int) < x.at_ ∧ (n : Int) - x.at_ < sz) := by
    cases hov : x.over
    · rw [hov] at hs
      simp at hs
      by_cases h2 : (n : Int) < x.at_
      · exact .inr (.inl ⟨rfl, h2⟩)
      · exact .inr (.inr ⟨rfl, h2, by omega⟩)
    · exact .inl rfl
  clear hs ho
  rcases hcase with hov | ⟨hov, h2⟩ | ⟨hov, h2, h3⟩
  · have HB0 : Hid (Blk W bx x.cells 45) := Lib.hid h
    clear h hsb
    go_enter Try.func19, Try.ntmps19
    go_wp2_with fail
    have e0 : W.cell? ⟨bx, 0, none⟩ = some (.int .i64 x.k) := HB0.out.cell rfl
    have e1 : W.cell? ⟨bx, 1, none⟩ = some (.int .i64 x.w) := HB0.out.cell rfl
    have e2 : W.cell? ⟨bx, 2, none⟩ = some (.int .i64 x.s) := HB0.out.cell rfl
    have e3 : W.cell? ⟨bx, 3, none⟩ = some (.int .i64 x.c) := HB0.out.cell rfl
    have e4 : W.cell? ⟨bx, 4, none⟩ = some (.int .u32 x.st) := HB0.out.cell rfl
    have e5 : W.cell? ⟨bx, 5, none⟩ = some (.slice x.ia x.il x.ic) := HB0.out.cell rfl
    have e6 : W.cell? ⟨bx, 6, none⟩ = some (.int .i64 x.wr) := HB0.out.cell rfl
    have e7 : W.cell? ⟨bx, 7, none⟩ = some (.slice x.ra x.rl x.rc) := HB0.out.cell rfl
    have e8 : W.cell? ⟨bx, 8, none⟩ = some (.int .i64 x.at_) := HB0.out.cell rfl
    have e39 : W.cell? ⟨bx, 39, none⟩ = some (.bool x.over) := HB0.out.cell rfl
    have KEEP := Lib.hid (fun (V : World) (h : Chg [] W V) => (⟨h.keep e0 (by simp), h.keep e1 (by simp), h.keep e2 (by simp), h.keep e3 (by simp), h.keep e4 (by simp), h.keep e5 (by simp), h.keep e6 (by simp), h.keep e7 (by simp), h.keep e8 (by simp), h.keep e39 (by simp), Lib.hid h⟩ : (fun V : World => V.cell? ⟨bx, 0, none⟩ = some (.int .i64 x.k) ∧ V.cell? ⟨bx, 1, none⟩ = some (.int .i64 x.w) ∧ V.cell? ⟨bx, 2, none⟩ = some (.int .i64 x.s) ∧ V.cell? ⟨bx, 3, none⟩ = some (.int .i64 x.c) ∧ V.cell? ⟨bx, 4, none⟩ = some (.int .u32 x.st) ∧ V.cell? ⟨bx, 5, none⟩ = some (.slice x.ia x.il x.ic) ∧ V.cell? ⟨bx, 6, none⟩ = some (.int .i64 x.wr) ∧ V.cell? ⟨bx, 7, none⟩ = some (.slice x.ra x.rl x.rc) ∧ V.cell? ⟨bx, 8, none⟩ = some (.int .i64 x.at_) ∧ V.cell? ⟨bx, 39, none⟩ = some (.bool x.over) ∧ Hid (Chg [] W V)) V))
    clear e0 e1 e2 e3 e4 e5 e6 e7 e8 e39
    have hHeld : (fun V : World => V.cell? ⟨bx, 0, none⟩ = some (.int .i64 x.k) ∧ V.cell? ⟨bx, 1, none⟩ = some (.int .i64 x.w) ∧ V.cell? ⟨bx, 2, none⟩ = some (.int .i64 x.s) ∧ V.cell? ⟨bx, 3, none⟩ = some (.int .i64 x.c) ∧ V.cell? ⟨bx, 4, none⟩ = some (.int .u32 x.st) ∧ V.cell? ⟨bx, 5, none⟩ = some (.slice x.ia x.il x.ic) ∧ V.cell? ⟨bx, 6, none⟩ = some (.int .i64 x.wr) ∧ V.cell? ⟨bx, 7, none⟩ = some (.slice x.ra x.rl x.rc) ∧ V.cell? ⟨bx, 8, none⟩ = some (.int .i64 x.at_) ∧ V.cell? ⟨bx, 39, none⟩ = some (.bool x.over) ∧ Hid (Chg [] W V)) (World.drew W) := KEEP.out _ (Chg.refl _ _).drew
    refine wp_region_plan (fun V : World => V.cell? ⟨bx, 0, none⟩ = some (.int .i64 x.k) ∧ V.cell? ⟨bx, 1, none⟩ = some (.int .i64 x.w) ∧ V.cell? ⟨bx, 2, none⟩ = some (.int .i64 x.s) ∧ V.cell? ⟨bx, 3, none⟩ = some (.int .i64 x.c) ∧ V.cell? ⟨bx, 4, none⟩ = some (.int .u32 x.st) ∧ V.cell? ⟨bx, 5, none⟩ = some (.slice x.ia x.il x.ic) ∧ V.cell? ⟨bx, 6, none⟩ = some (.int .i64 x.wr) ∧ V.cell? ⟨bx, 7, none⟩ = some (.slice x.ra x.rl x.rc) ∧ V.cell? ⟨bx, 8, none⟩ = some (.int .i64 x.at_) ∧ V.cell? ⟨bx, 39, none⟩ = some (.bool x.over) ∧ Hid (Chg [] W V)) [(0, true, some 6), (1, true, some 7), (2, true, some 8), (3, true, some 9), (4, true, some 10), (5, true, some 11), (6, true, some 12), (7, true, some 13), (8, true, some 14), (9, true, some 15), (10, true, some 16), (11, true, some 17), (12, true, some 18), (13, true, some 19), (14, true, some 20), (15, true, some 21), (16, true, some 22), (17, true, some 23), (19, true, some 25), (20, true, some 26), (21, true, some 27), (22, true, some 28), (23, true, some 29), (24, true, some 30), (25, true, some 31), (18, false, some 24), (26, true, some 32), (27, true, some 33)] (by kernel_rfl) (by kernel_rfl) (by kernel_rfl) (by kernel_rfl) (fun d c a v w h => by cases d <;> exact h) hHeld ?_
    repeat (first
      | (refine planWp_read (v := ?_) rfl rfl ?_ ?_ ?_; rotate_left; (focus rfl); (focus (intro u hSw; (try dsimp only at hSw); go_simp; (try with_reducible rfl))); (try simp only [Act.put, List.setIfInBounds_toArray, List.set_cons_zero, List.set_cons_succ]))
      | (refine planWp_skip rfl rfl ?_ ?_; (focus rfl); (try simp only [Act.put, List.setIfInBounds_toArray, List.set_cons_zero, List.set_cons_succ]))
      | (refine planWp_leave rfl rfl ?_ hHeld ?_; (focus rfl); (try simp only [Act.put, List.setIfInBounds_toArray, List.set_cons_zero, List.set_cons_succ]))
      | (refine planWp_do rfl rfl ?_ (fun K hK => ?_); (focus rfl); go_simp; (try go_wp2_with (go_at_call 38; refine (HSZ.out _).mono ?_; rintro e wx ⟨rfl, hcx⟩; have HCX := Lib.hid hcx; clear hcx)); refine hK.out _ _ ?_ (fun hHeld2 => ?_); (focus (have hcn := Chg.trans hHeld.2.2.2.2.2.2.2.2.2.2.out HCX.out; exact KEEP.out _ hcn)); clear hK K hHeld; have hHeld := hHeld2; clear hHeld2; (try simp only [Act.put, List.setIfInBounds_toArray, List.set_cons_zero, List.set_cons_succ])))
    refine planWp_nil ?_
    have HC := Lib.hid hHeld.2.2.2.2.2.2.2.2.2.2.out
    clear hHeld KEEP
    go_wp2_with fail
    go_ret
    exact ⟨rfl, HC.out⟩
  · have HB0 : Hid (Blk W bx x.cells 45) := Lib.hid h
    have hb2 : decide ((n : Int) < x.at_) = true := by simpa using h2
    clear h hsb h2
    go_enter Try.func19, Try.ntmps19
    go_wp2_with fail
    have e0 : W.cell? ⟨bx, 0, none⟩ = some (.int .i64 x.k) := HB0.out.cell rfl
    have e1 : W.cell? ⟨bx, 1, none⟩ = some (.int .i64 x.w) := HB0.out.cell rfl
    have e2 : W.cell? ⟨bx, 2, none⟩ = some (.int .i64 x.s) := HB0.out.cell rfl
    have e3 : W.cell? ⟨bx, 3, none⟩ = some (.int .i64 x.c) := HB0.out.cell rfl
    have e4 : W.cell? ⟨bx, 4, none⟩ = some (.int .u32 x.st) := HB0.out.cell rfl
    have e5 : W.cell? ⟨bx, 5, none⟩ = some (.slice x.ia x.il x.ic) := HB0.out.cell rfl
    have e6 : W.cell? ⟨bx, 6, none⟩ = some (.int .i64 x.wr) := HB0.out.cell rfl
    have e7 : W.cell? ⟨bx, 7, none⟩ = some (.slice x.ra x.rl x.rc) := HB0.out.cell rfl
    have e8 : W.cell? ⟨bx, 8, none⟩ = some (.int .i64 x.at_) := HB0.out.cell rfl
    have e39 : W.cell? ⟨bx, 39, none⟩ = some (.bool x.over) := HB0.out.cell rfl
    have KEEP := Lib.hid (fun (V : World) (h : Chg [] W V) => (⟨h.keep e0 (by simp), h.keep e1 (by simp), h.keep e2 (by simp), h.keep e3 (by simp), h.keep e4 (by simp), h.keep e5 (by simp), h.keep e6 (by simp), h.keep e7 (by simp), h.keep e8 (by simp), h.keep e39 (by simp), Lib.hid h⟩ : (fun V : World => V.cell? ⟨bx, 0, none⟩ = some (.int .i64 x.k) ∧ V.cell? ⟨bx, 1, none⟩ = some (.int .i64 x.w) ∧ V.cell? ⟨bx, 2, none⟩ = some (.int .i64 x.s) ∧ V.cell? ⟨bx, 3, none⟩ = some (.int .i64 x.c) ∧ V.cell? ⟨bx, 4, none⟩ = some (.int .u32 x.st) ∧ V.cell? ⟨bx, 5, none⟩ = some (.slice x.ia x.il x.ic) ∧ V.cell? ⟨bx, 6, none⟩ = some (.int .i64 x.wr) ∧ V.cell? ⟨bx, 7, none⟩ = some (.slice x.ra x.rl x.rc) ∧ V.cell? ⟨bx, 8, none⟩ = some (.int .i64 x.at_) ∧ V.cell? ⟨bx, 39, none⟩ = some (.bool x.over) ∧ Hid (Chg [] W V)) V))
    clear e0 e1 e2 e3 e4 e5 e6 e7 e8 e39
    have hHeld : (fun V : World => V.cell? ⟨bx, 0, none⟩ = some (.int .i64 x.k) ∧ V.cell? ⟨bx, 1, none⟩ = some (.int .i64 x.w) ∧ V.cell? ⟨bx, 2, none⟩ = some (.int .i64 x.s) ∧ V.cell? ⟨bx, 3, none⟩ = some (.int .i64 x.c) ∧ V.cell? ⟨bx, 4, none⟩ = some (.int .u32 x.st) ∧ V.cell? ⟨bx, 5, none⟩ = some (.slice x.ia x.il x.ic) ∧ V.cell? ⟨bx, 6, none⟩ = some (.int .i64 x.wr) ∧ V.cell? ⟨bx, 7, none⟩ = some (.slice x.ra x.rl x.rc) ∧ V.cell? ⟨bx, 8, none⟩ = some (.int .i64 x.at_) ∧ V.cell? ⟨bx, 39, none⟩ = some (.bool x.over) ∧ Hid (Chg [] W V)) (World.drew W) := KEEP.out _ (Chg.refl _ _).drew
    refine wp_region_plan (fun V : World => V.cell? ⟨bx, 0, none⟩ = some (.int .i64 x.k) ∧ V.cell? ⟨bx, 1, none⟩ = some (.int .i64 x.w) ∧ V.cell? ⟨bx, 2, none⟩ = some (.int .i64 x.s) ∧ V.cell? ⟨bx, 3, none⟩ = some (.int .i64 x.c) ∧ V.cell? ⟨bx, 4, none⟩ = some (.int .u32 x.st) ∧ V.cell? ⟨bx, 5, none⟩ = some (.slice x.ia x.il x.ic) ∧ V.cell? ⟨bx, 6, none⟩ = some (.int .i64 x.wr) ∧ V.cell? ⟨bx, 7, none⟩ = some (.slice x.ra x.rl x.rc) ∧ V.cell? ⟨bx, 8, none⟩ = some (.int .i64 x.at_) ∧ V.cell? ⟨bx, 39, none⟩ = some (.bool x.over) ∧ Hid (Chg [] W V)) [(0, true, some 6), (1, true, some 7), (2, true, some 8), (3, true, some 9), (4, true, some 10), (5, true, some 11), (6, true, some 12), (7, true, some 13), (8, true, some 14), (9, true, some 15), (10, true, some 16), (11, true, some 17), (12, true, some 18), (13, true, some 19), (14, true, some 20), (15, true, some 21), (16, true, some 22), (17, true, some 23), (19, true, some 25), (20, true, some 26), (21, true, some 27), (22, true, some 28), (23, true, some 29), (24, true, some 30), (25, true, some 31), (18, false, some 24), (26, true, some 32), (27, true, some 33)] (by kernel_rfl) (by kernel_rfl) (by kernel_rfl) (by kernel_rfl) (fun d c a v w h => by cases d <;> exact h) hHeld ?_
    repeat (first
      | (refine planWp_read (v := ?_) rfl rfl ?_ ?_ ?_; rotate_left; (focus rfl); (focus (intro u hSw; (try dsimp only at hSw); go_simp; (try with_reducible rfl))); (try simp only [Act.put, List.setIfInBounds_toArray, List.set_cons_zero, List.set_cons_succ]))
      | (refine planWp_skip rfl rfl ?_ ?_; (focus rfl); (try simp only [Act.put, List.setIfInBounds_toArray, List.set_cons_zero, List.set_cons_succ]))
      | (refine planWp_leave rfl rfl ?_ hHeld ?_; (focus rfl); (try simp only [Act.put, List.setIfInBounds_toArray, List.set_cons_zero, List.set_cons_succ]))
      | (refine planWp_do rfl rfl ?_ (fun K hK => ?_); (focus rfl); go_simp; (try go_wp2_with (go_at_call 38; refine (HSZ.out _).mono ?_; rintro e wx ⟨rfl, hcx⟩; have HCX := Lib.hid hcx; clear hcx)); refine hK.out _ _ ?_ (fun hHeld2 => ?_); (focus (have hcn := Chg.trans hHeld.2.2.2.2.2.2.2.2.2.2.out HCX.out; exact KEEP.out _ hcn)); clear hK K hHeld; have hHeld := hHeld2; clear hHeld2; (try simp only [Act.put, List.setIfInBounds_toArray, List.set_cons_zero, List.set_cons_succ])))
    refine planWp_nil ?_
    have HC := Lib.hid hHeld.2.2.2.2.2.2.2.2.2.2.out
    clear hHeld KEEP
    go_wp2_with fail
    go_ret
    exact ⟨rfl, HC.out⟩
  · have HB0 : Hid (Blk W bx x.cells 45) := Lib.hid h
    have hb2 : decide ((n : Int) < x.at_) = false := by simpa using h2
    have hw : IntKind.i64.wrap ((n : Int) - x.at_) = (n : Int) - x.at_ := by rw [IntKind.wrap_i64]; omega
    have hb3 : decide ((n : Int) - x.at_ < sz) = true := by simpa using h3
    clear h hsb h2 h3
    go_enter Try.func19, Try.ntmps19
    go_wp2_with fail
    have e0 : W.cell? ⟨bx, 0, none⟩ = some (.int .i64 x.k) := HB0.out.cell rfl
    have e1 : W.cell? ⟨bx, 1, none⟩ = some (.int .i64 x.w) := HB0.out.cell rfl
    have e2 : W.cell? ⟨bx, 2, none⟩ = some (.int .i64 x.s) := HB0.out.cell rfl
    have e3 : W.cell? ⟨bx, 3, none⟩ = some (.int .i64 x.c) := HB0.out.cell rfl
    have e4 : W.cell? ⟨bx, 4, none⟩ = some (.int .u32 x.st) := HB0.out.cell rfl
    have e5 : W.cell? ⟨bx, 5, none⟩ = some (.slice x.ia x.il x.ic) := HB0.out.cell rfl
    have e6 : W.cell? ⟨bx, 6, none⟩ = some (.int .i64 x.wr) := HB0.out.cell rfl
    have e7 : W.cell? ⟨bx, 7, none⟩ = some (.slice x.ra x.rl x.rc) := HB0.out.cell rfl
    have e8 : W.cell? ⟨bx, 8, none⟩ = some (.int .i64 x.at_) := HB0.out.cell rfl
    have e39 : W.cell? ⟨bx, 39, none⟩ = some (.bool x.over) := HB0.out.cell rfl
    have KEEP := Lib.hid (fun (V : World) (h : Chg [] W V) => (⟨h.keep e0 (by simp), h.keep e1 (by simp), h.keep e2 (by simp), h.keep e3 (by simp), h.keep e4 (by simp), h.keep e5 (by simp), h.keep e6 (by simp), h.keep e7 (by simp), h.keep e8 (by simp), h.keep e39 (by simp), Lib.hid h⟩ : (fun V : World => V.cell? ⟨bx, 0, none⟩ = some (.int .i64 x.k) ∧ V.cell? ⟨bx, 1, none⟩ = some (.int .i64 x.w) ∧ V.cell? ⟨bx, 2, none⟩ = some (.int .i64 x.s) ∧ V.cell? ⟨bx, 3, none⟩ = some (.int .i64 x.c) ∧ V.cell? ⟨bx, 4, none⟩ = some (.int .u32 x.st) ∧ V.cell? ⟨bx, 5, none⟩ = some (.slice x.ia x.il x.ic) ∧ V.cell? ⟨bx, 6, none⟩ = some (.int .i64 x.wr) ∧ V.cell? ⟨bx, 7, none⟩ = some (.slice x.ra x.rl x.rc) ∧ V.cell? ⟨bx, 8, none⟩ = some (.int .i64 x.at_) ∧ V.cell? ⟨bx, 39, none⟩ = some (.bool x.over) ∧ Hid (Chg [] W V)) V))
    clear e0 e1 e2 e3 e4 e5 e6 e7 e8 e39
    have hHeld : (fun V : World => V.cell? ⟨bx, 0, none⟩ = some (.int .i64 x.k) ∧ V.cell? ⟨bx, 1, none⟩ = some (.int .i64 x.w) ∧ V.cell? ⟨bx, 2, none⟩ = some (.int .i64 x.s) ∧ V.cell? ⟨bx, 3, none⟩ = some (.int .i64 x.c) ∧ V.cell? ⟨bx, 4, none⟩ = some (.int .u32 x.st) ∧ V.cell? ⟨bx, 5, none⟩ = some (.slice x.ia x.il x.ic) ∧ V.cell? ⟨bx, 6, none⟩ = some (.int .i64 x.wr) ∧ V.cell? ⟨bx, 7, none⟩ = some (.slice x.ra x.rl x.rc) ∧ V.cell? ⟨bx, 8, none⟩ = some (.int .i64 x.at_) ∧ V.cell? ⟨bx, 39, none⟩ = some (.bool x.over) ∧ Hid (Chg [] W V)) (World.drew W) := KEEP.out _ (Chg.refl _ _).drew
    refine wp_region_plan (fun V : World => V.cell? ⟨bx, 0, none⟩ = some (.int .i64 x.k) ∧ V.cell? ⟨bx, 1, none⟩ = some (.int .i64 x.w) ∧ V.cell? ⟨bx, 2, none⟩ = some (.int .i64 x.s) ∧ V.cell? ⟨bx, 3, none⟩ = some (.int .i64 x.c) ∧ V.cell? ⟨bx, 4, none⟩ = some (.int .u32 x.st) ∧ V.cell? ⟨bx, 5, none⟩ = some (.slice x.ia x.il x.ic) ∧ V.cell? ⟨bx, 6, none⟩ = some (.int .i64 x.wr) ∧ V.cell? ⟨bx, 7, none⟩ = some (.slice x.ra x.rl x.rc) ∧ V.cell? ⟨bx, 8, none⟩ = some (.int .i64 x.at_) ∧ V.cell? ⟨bx, 39, none⟩ = some (.bool x.over) ∧ Hid (Chg [] W V)) [(0, true, some 6), (1, true, some 7), (2, true, some 8), (3, true, some 9), (4, true, some 10), (5, true, some 11), (6, true, some 12), (7, true, some 13), (8, true, some 14), (9, true, some 15), (10, true, some 16), (11, true, some 17), (12, true, some 18), (13, true, some 19), (14, true, some 20), (15, true, some 21), (16, true, some 22), (17, true, some 23), (19, true, some 25), (20, true, some 26), (21, true, some 27), (22, true, some 28), (23, true, some 29), (24, true, some 30), (25, true, some 31), (18, false, some 24), (26, true, some 32), (27, true, some 33)] (by kernel_rfl) (by kernel_rfl) (by kernel_rfl) (by kernel_rfl) (fun d c a v w h => by cases d <;> exact h) hHeld ?_
    repeat (first
      | (refine planWp_read (v := ?_) rfl rfl ?_ ?_ ?_; rotate_left; (focus rfl); (focus (intro u hSw; (try dsimp only at hSw); go_simp; (try with_reducible rfl))); (try simp only [Act.put, List.setIfInBounds_toArray, List.set_cons_zero, List.set_cons_succ]))
      | (refine planWp_skip rfl rfl ?_ ?_; (focus rfl); (try simp only [Act.put, List.setIfInBounds_toArray, List.set_cons_zero, List.set_cons_succ]))
      | (refine planWp_leave rfl rfl ?_ hHeld ?_; (focus rfl); (try simp only [Act.put, List.setIfInBounds_toArray, List.set_cons_zero, List.set_cons_succ]))
      | (refine planWp_do rfl rfl ?_ (fun K hK => ?_); (focus rfl); go_simp; (try go_wp2_with (go_at_call 38; refine (HSZ.out _).mono ?_; rintro e wx ⟨rfl, hcx⟩; have HCX := Lib.hid hcx; clear hcx)); refine hK.out _ _ ?_ (fun hHeld2 => ?_); (focus (have hcn := Chg.trans hHeld.2.2.2.2.2.2.2.2.2.2.out HCX.out; exact KEEP.out _ hcn)); clear hK K hHeld; have hHeld := hHeld2; clear hHeld2; (try simp only [Act.put, List.setIfInBounds_toArray, List.set_cons_zero, List.set_cons_succ])))
    refine planWp_nil ?_
    have HC := Lib.hid hHeld.2.2.2.2.2.2.2.2.2.2.out
    clear hHeld KEEP
    go_wp2_with fail
    go_ret
    exact ⟨rfl, HC.out⟩
end Go.Proofs.Ytjplamoofkcojaa.rop
