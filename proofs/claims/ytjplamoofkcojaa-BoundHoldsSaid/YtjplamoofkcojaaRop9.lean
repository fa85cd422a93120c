/- The reference's operation: Step, by the row that the operation stands at. -/
import Derived.Test.YtjplamoofkcojaaRop8
import Derived.Test.YtjplamoofkcojaaRopA
namespace Go.Proofs.Ytjplamoofkcojaa.rop
open Go Go.RowKit Go.Proofs.Ytjplamoofkcojaa.kit Go.Proofs.Ytjplamoofkcojaa.obj
set_option linter.unusedVariables false
set_option linter.unusedSimpArgs false
set_option maxRecDepth 20000

set_option maxHeartbeats 8000000 in
theorem Step_1_Write (bx g atN n cp : Nat) (x : ROp) (hn : n ≤ 100000) (hnc : n ≤ cp) (han : atN < n) (hop : x.op = writesI 1) (hst : 0 ≤ x.steps ∧ x.steps ≤ 1000000) (ho : ObjW 1 x.w x.s x.c x.st x.il x.rl) (hsz : sizeI 1 x.w x.s x.c x.st x.il x.rl ≤ (n : Int) - atN)
    (W : World) (h : RAt W bx ({ x with k := 1, at_ := (atN : Int), over := false } : ROp)) (R : World → Prop)
    (hrow : ∀ V, RAt V bx ({ x with k := 1, at_ := (atN : Int), over := false, steps := x.steps + 1 } : ROp) → Chg [bx] W V → Calls Try.prog 39 #[.pointer (some ⟨bx, 0, none⟩), .slice (some ⟨g, atN, none⟩) (n - atN) (cp - atN)] V fun e W' => e = .returned (.tuple #[]) ∧ R W') :
    Calls Try.prog 19 #[.pointer (some ⟨bx, 0, none⟩), .slice (some ⟨g, 0, none⟩) n cp] W fun e W' => e = .returned (.bool true) ∧ R W' := by
  have HSZ := Lib.hid (fun u => Size_any 1 x.w x.s x.c x.st x.ia x.il x.ic x.wr x.ra x.rl x.rc ho u)
  have hsb := sizeI_bd 1 x.w x.s x.c x.st x.il x.rl
  generalize sizeI 1 x.w x.s x.c x.st x.il x.rl = sz at *
  have HB0 : Hid (Blk W bx ({ x with k := 1, at_ := (atN : Int), over := false } : ROp).cells 45) := Lib.hid h
  have hb2 : decide ((n : Int) < (atN : Int)) = false := by simp; omega
  have hw : IntKind.i64.wrap ((n : Int) - (atN : Int)) = (n : Int) - atN := by rw [IntKind.wrap_i64]; omega
  have hb3 : decide ((n : Int) - (atN : Int) < sz) = false := by simp; omega
  have hb2n : decide (n < atN) = false := by simp; omega
  have hcne : ¬ cp = atN := by omega
  have hle : atN ≤ n := by omega
  have hlec : atN ≤ cp := by omega
  have hopb : (x.op == writesI 1) = true := by simpa using hop
  have HROW := Lib.hid hrow
  clear h hrow hsz hsb hop ho
  go_enter Try.func19, Try.ntmps19
  go_wp2_with fail
  have e0 : W.cell? ⟨bx, 0, none⟩ = some (.int .i64 1) := HB0.out.cell rfl
  have e1 : W.cell? ⟨bx, 1, none⟩ = some (.int .i64 x.w) := HB0.out.cell rfl
  have e2 : W.cell? ⟨bx, 2, none⟩ = some (.int .i64 x.s) := HB0.out.cell rfl
  have e3 : W.cell? ⟨bx, 3, none⟩ = some (.int .i64 x.c) := HB0.out.cell rfl
  have e4 : W.cell? ⟨bx, 4, none⟩ = some (.int .u32 x.st) := HB0.out.cell rfl
  have e5 : W.cell? ⟨bx, 5, none⟩ = some (.slice x.ia x.il x.ic) := HB0.out.cell rfl
  have e6 : W.cell? ⟨bx, 6, none⟩ = some (.int .i64 x.wr) := HB0.out.cell rfl
  have e7 : W.cell? ⟨bx, 7, none⟩ = some (.slice x.ra x.rl x.rc) := HB0.out.cell rfl
  have e8 : W.cell? ⟨bx, 8, none⟩ = some (.int .i64 (atN : Int)) := HB0.out.cell rfl
  have e39 : W.cell? ⟨bx, 39, none⟩ = some (.bool false) := HB0.out.cell rfl
  have KEEP := Lib.hid (fun (V : World) (h : Chg [] W V) => (⟨h.keep e0 (by simp), h.keep e1 (by simp), h.keep e2 (by simp), h.keep e3 (by simp), h.keep e4 (by simp), h.keep e5 (by simp), h.keep e6 (by simp), h.keep e7 (by simp), h.keep e8 (by simp), h.keep e39 (by simp), Lib.hid h⟩ : (fun V : World => V.cell? ⟨bx, 0, none⟩ = some (.int .i64 1) ∧ V.cell? ⟨bx, 1, none⟩ = some (.int .i64 x.w) ∧ V.cell? ⟨bx, 2, none⟩ = some (.int .i64 x.s) ∧ V.cell? ⟨bx, 3, none⟩ = some (.int .i64 x.c) ∧ V.cell? ⟨bx, 4, none⟩ = some (.int .u32 x.st) ∧ V.cell? ⟨bx, 5, none⟩ = some (.slice x.ia x.il x.ic) ∧ V.cell? ⟨bx, 6, none⟩ = some (.int .i64 x.wr) ∧ V.cell? ⟨bx, 7, none⟩ = some (.slice x.ra x.rl x.rc) ∧ V.cell? ⟨bx, 8, none⟩ = some (.int .i64 (atN : Int)) ∧ V.cell? ⟨bx, 39, none⟩ = some (.bool false) ∧ Hid (Chg [] W V)) V))
  clear e0 e1 e2 e3 e4 e5 e6 e7 e8 e39
  have hHeld : (fun V : World => V.cell? ⟨bx, 0, none⟩ = some (.int .i64 1) ∧ V.cell? ⟨bx, 1, none⟩ = some (.int .i64 x.w) ∧ V.cell? ⟨bx, 2, none⟩ = some (.int .i64 x.s) ∧ V.cell? ⟨bx, 3, none⟩ = some (.int .i64 x.c) ∧ V.cell? ⟨bx, 4, none⟩ = some (.int .u32 x.st) ∧ V.cell? ⟨bx, 5, none⟩ = some (.slice x.ia x.il x.ic) ∧ V.cell? ⟨bx, 6, none⟩ = some (.int .i64 x.wr) ∧ V.cell? ⟨bx, 7, none⟩ = some (.slice x.ra x.rl x.rc) ∧ V.cell? ⟨bx, 8, none⟩ = some (.int .i64 (atN : Int)) ∧ V.cell? ⟨bx, 39, none⟩ = some (.bool false) ∧ Hid (Chg [] W V)) (World.drew W) := KEEP.out _ (Chg.refl _ _).drew
  refine wp_region_plan (fun V : World => V.cell? ⟨bx, 0, none⟩ = some (.int .i64 1) ∧ V.cell? ⟨bx, 1, none⟩ = some (.int .i64 x.w) ∧ V.cell? ⟨bx, 2, none⟩ = some (.int .i64 x.s) ∧ V.cell? ⟨bx, 3, none⟩ = some (.int .i64 x.c) ∧ V.cell? ⟨bx, 4, none⟩ = some (.int .u32 x.st) ∧ V.cell? ⟨bx, 5, none⟩ = some (.slice x.ia x.il x.ic) ∧ V.cell? ⟨bx, 6, none⟩ = some (.int .i64 x.wr) ∧ V.cell? ⟨bx, 7, none⟩ = some (.slice x.ra x.rl x.rc) ∧ V.cell? ⟨bx, 8, none⟩ = some (.int .i64 (atN : Int)) ∧ V.cell? ⟨bx, 39, none⟩ = some (.bool false) ∧ Hid (Chg [] W V)) [(0, true, some 6), (1, true, some 7), (2, true, some 8), (3, true, some 9), (4, true, some 10), (5, true, some 11), (6, true, some 12), (7, true, some 13), (8, true, some 14), (9, true, some 15), (10, true, some 16), (11, true, some 17), (12, true, some 18), (13, true, some 19), (14, true, some 20), (15, true, some 21), (16, true, some 22), (17, true, some 23), (19, true, some 25), (20, true, some 26), (21, true, some 27), (22, true, some 28), (23, true, some 29), (24, true, some 30), (25, true, some 31), (18, false, some 24), (26, true, some 32), (27, true, some 33)] (by kernel_rfl) (by kernel_rfl) (by kernel_rfl) (by kernel_rfl) (fun d c a v w h => by cases d <;> exact h) hHeld ?_
  repeat (first
    | (refine planWp_read (v := ?_) rfl rfl ?_ ?_ ?_; rotate_left; (focus rfl); (focus (intro u hSw; (try dsimp only at hSw); go_simp; (try with_reducible rfl))); (try simp only [Act.put, List.setIfInBounds_toArray, List.set_cons_zero, List.set_cons_succ]))
    | (refine planWp_skip rfl rfl ?_ ?_; (focus rfl); (try simp only [Act.put, List.setIfInBounds_toArray, List.set_cons_zero, List.set_cons_succ]))
    | (refine planWp_leave rfl rfl ?_ hHeld ?_; (focus rfl); (try simp only [Act.put, List.setIfInBounds_toArray, List.set_cons_zero, List.set_cons_succ]))
    | (refine planWp_do rfl rfl ?_ (fun K hK => ?_); (focus rfl); go_simp; (try go_wp2_with (go_at_call 38; refine (HSZ.out _).mono ?_; rintro e wx ⟨rfl, hcx⟩; have HCX := Lib.hid hcx; clear hcx)); refine hK.out _ _ ?_ (fun hHeld2 => ?_); (focus (have hcn := Chg.trans hHeld.2.2.2.2.2.2.2.2.2.2.out HCX.out; exact KEEP.out _ hcn)); clear hK K hHeld; have hHeld := hHeld2; clear hHeld2; (try simp only [Act.put, List.setIfInBounds_toArray, List.set_cons_zero, List.set_cons_succ])))
  refine planWp_nil ?_
  refine then_gen (R := fun V => Hid (Chg [] W V)) (Lib.hid hHeld.2.2.2.2.2.2.2.2.2.2.out) ?_
  clear hHeld KEEP
  rintro W2 HC2
  have HB2 := Lib.hid (Blk.keep HB0.out HC2.out (by simp))
  have e15 : W2.cell? ⟨bx, 15, none⟩ = some (.int .i64 x.steps) := HB2.out.cell rfl
  have f15 := HB2.out.free 15
  have e8 : W2.cell? ⟨bx, 8, none⟩ = some (.int .i64 (atN : Int)) := HB2.out.cell rfl
  go_wp2_with fail
  refine code_gen (R := fun V => Hid (Blk V bx ({ x with k := 1, at_ := (atN : Int), over := false, steps := x.steps + 1 } : ROp).cells 45) ∧ Hid (Chg [bx] W V)) ⟨Lib.hid (HB2.out.set 15 (.int .i64 (x.steps + 1))), Lib.hid ((HC2.out.mono (by simp)).setCell (.inl (by simp)) _)⟩ ?_
  clear e15 f15 e8
  rintro W3 ⟨HB3, HC3⟩
  have e0 : W3.cell? ⟨bx, 0, none⟩ = some (.int .i64 1) := HB3.out.cell rfl
  have e9 : W3.cell? ⟨bx, 9, none⟩ = some (.int .i64 x.op) := HB3.out.cell rfl
  have KEEP := Lib.hid (fun (V : World) (h : Chg [] W3 V) => (⟨h.keep e0 (by simp), h.keep e9 (by simp), Lib.hid h⟩ : (fun V : World => V.cell? ⟨bx, 0, none⟩ = some (.int .i64 1) ∧ V.cell? ⟨bx, 9, none⟩ = some (.int .i64 x.op) ∧ Hid (Chg [] W3 V)) V))
  clear e0 e9
  have hHeld : (fun V : World => V.cell? ⟨bx, 0, none⟩ = some (.int .i64 1) ∧ V.cell? ⟨bx, 9, none⟩ = some (.int .i64 x.op) ∧ Hid (Chg [] W3 V)) (World.drew W3) := KEEP.out _ (Chg.refl _ _).drew
  refine wp_region_plan (fun V : World => V.cell? ⟨bx, 0, none⟩ = some (.int .i64 1) ∧ V.cell? ⟨bx, 9, none⟩ = some (.int .i64 x.op) ∧ Hid (Chg [] W3 V)) [(0, true, some 47), (1, true, some 48), (2, true, some 49), (3, true, some 50), (4, true, some 51), (5, true, some 52), (6, true, some 53), (7, true, some 54), (8, true, some 55), (9, false, some 56), (10, true, some 57), (11, true, some 5)] (by kernel_rfl) (by kernel_rfl) (by kernel_rfl) (by kernel_rfl) (fun d c a v w h => by cases d <;> exact h) hHeld ?_
  repeat (first
    | (refine planWp_read (v := ?_) rfl rfl ?_ ?_ ?_; rotate_left; (focus rfl); (focus (intro u hSw; (try dsimp only at hSw); go_simp; (try with_reducible rfl))); (try simp only [Act.put, List.setIfInBounds_toArray, List.set_cons_zero, List.set_cons_succ]))
    | (refine planWp_skip rfl rfl ?_ ?_; (focus rfl); (try simp only [Act.put, List.setIfInBounds_toArray, List.set_cons_zero, List.set_cons_succ]))
    | (refine planWp_leave rfl rfl ?_ hHeld ?_; (focus rfl); (try simp only [Act.put, List.setIfInBounds_toArray, List.set_cons_zero, List.set_cons_succ]))
    | (refine planWp_do rfl rfl ?_ (fun K hK => ?_); (focus rfl); go_simp; (try go_wp2_with (go_at_call 36; refine (Writes_c _ _).mono ?_; rintro e wx ⟨rfl, hcx⟩; have HCX := Lib.hid hcx; clear hcx)); refine hK.out _ _ ?_ (fun hHeld2 => ?_); (focus (have hcn := Chg.trans hHeld.2.2.out HCX.out; exact KEEP.out _ hcn)); clear hK K hHeld; have hHeld := hHeld2; clear hHeld2; (try simp only [Act.put, List.setIfInBounds_toArray, List.set_cons_zero, List.set_cons_succ])))
  refine planWp_nil ?_
  refine then_gen (R := fun V => Hid (Chg [] W3 V)) (Lib.hid hHeld.2.2.out) ?_
  clear hHeld KEEP
  rintro W4 HC4
  have HB4 := Lib.hid (Blk.keep HB3.out HC4.out (by simp))
  have e0 : W4.cell? ⟨bx, 0, none⟩ = some (.int .i64 1) := HB4.out.cell rfl
  have HCX := Lib.hid (HC3.out.fresh HC4.out)
  go_wp2_with (go_at_call 39; refine (HROW.out _ HB4.out HCX.out).mono ?_; rintro e W9 ⟨rfl, hR⟩; have HRR := Lib.hid hR; clear hR)
  go_ret
  exact ⟨rfl, HRR.out⟩

set_option maxHeartbeats 8000000 in
theorem Step_1_Read (bx g atN n cp : Nat) (x : ROp) (hn : n ≤ 100000) (hnc : n ≤ cp) (han : atN < n) (hop : x.op ≠ writesI 1) (hst : 0 ≤ x.steps ∧ x.steps ≤ 1000000) (ho : ObjW 1 x.w x.s x.c x.st x.il x.rl) (hsz : sizeI 1 x.w x.s x.c x.st x.il x.rl ≤ (n : Int) - atN)
    (W : World) (h : RAt W bx ({ x with k := 1, at_ := (atN : Int), over := false } : ROp)) (R : World → Prop)
    (hrow : ∀ V, RAt V bx ({ x with k := 1, at_ := (atN : Int), over := false, steps := x.steps + 1 } : ROp) → Chg [bx] W V → Calls Try.prog 40 #[.pointer (some ⟨bx, 0, none⟩), .slice (some ⟨g, atN, none⟩) (n - atN) (cp - atN)] V fun e W' => e = .returned (.tuple #[]) ∧ R W') :
    Calls Try.prog 19 #[.pointer (some ⟨bx, 0, none⟩), .slice (some ⟨g, 0, none⟩) n cp] W fun e W' => e = .returned (.bool true) ∧ R W' := by
  have HSZ := Lib.hid (fun u => Size_any 1 x.w x.s x.c x.st x.ia x.il x.ic x.wr x.ra x.rl x.rc ho u)
  have hsb := sizeI_bd 1 x.w x.s x.c x.st x.il x.rl
  generalize sizeI 1 x.w x.s x.c x.st x.il x.rl = sz at *
  have HB0 : Hid (Blk W bx ({ x with k := 1, at_ := (atN : Int), over := false } : ROp).cells 45) := Lib.hid h
  have hb2 : decide ((n : Int) < (atN : Int)) = false := by simp; omega
  have hw : IntKind.i64.wrap ((n : Int) - (atN : Int)) = (n : Int) - atN := by rw [IntKind.wrap_i64]; omega
  have hb3 : decide ((n : Int) - (atN : Int) < sz) = false := by simp; omega
  have hb2n : decide (n < atN) = false := by simp; omega
  have hcne : ¬ cp = atN := by omega
  have hle : atN ≤ n := by omega
  have hlec : atN ≤ cp := by omega
  have hopb : (x.op == writesI 1) = false := by simpa using hop
  have HROW := Lib.hid hrow
  clear h hrow hsz hsb hop ho
  go_enter Try.func19, Try.ntmps19
  go_wp2_with fail
  have e0 : W.cell? ⟨bx, 0, none⟩ = some (.int .i64 1) := HB0.out.cell rfl
  have e1 : W.cell? ⟨bx, 1, none⟩ = some (.int .i64 x.w) := HB0.out.cell rfl
  have e2 : W.cell? ⟨bx, 2, none⟩ = some (.int .i64 x.s) := HB0.out.cell rfl
  have e3 : W.cell? ⟨bx, 3, none⟩ = some (.int .i64 x.c) := HB0.out.cell rfl
  have e4 : W.cell? ⟨bx, 4, none⟩ = some (.int .u32 x.st) := HB0.out.cell rfl
  have e5 : W.cell? ⟨bx, 5, none⟩ = some (.slice x.ia x.il x.ic) := HB0.out.cell rfl
  have e6 : W.cell? ⟨bx, 6, none⟩ = some (.int .i64 x.wr) := HB0.out.cell rfl
  have e7 : W.cell? ⟨bx, 7, none⟩ = some (.slice x.ra x.rl x.rc) := HB0.out.cell rfl
  have e8 : W.cell? ⟨bx, 8, none⟩ = some (.int .i64 (atN : Int)) := HB0.out.cell rfl
  have e39 : W.cell? ⟨bx, 39, none⟩ = some (.bool false) := HB0.out.cell rfl
  have KEEP := Lib.hid (fun (V : World) (h : Chg [] W V) => (⟨h.keep e0 (by simp), h.keep e1 (by simp), h.keep e2 (by simp), h.keep e3 (by simp), h.keep e4 (by simp), h.keep e5 (by simp), h.keep e6 (by simp), h.keep e7 (by simp), h.keep e8 (by simp), h.keep e39 (by simp), Lib.hid h⟩ : (fun V : World => V.cell? ⟨bx, 0, none⟩ = some (.int .i64 1) ∧ V.cell? ⟨bx, 1, none⟩ = some (.int .i64 x.w) ∧ V.cell? ⟨bx, 2, none⟩ = some (.int .i64 x.s) ∧ V.cell? ⟨bx, 3, none⟩ = some (.int .i64 x.c) ∧ V.cell? ⟨bx, 4, none⟩ = some (.int .u32 x.st) ∧ V.cell? ⟨bx, 5, none⟩ = some (.slice x.ia x.il x.ic) ∧ V.cell? ⟨bx, 6, none⟩ = some (.int .i64 x.wr) ∧ V.cell? ⟨bx, 7, none⟩ = some (.slice x.ra x.rl x.rc) ∧ V.cell? ⟨bx, 8, none⟩ = some (.int .i64 (atN : Int)) ∧ V.cell? ⟨bx, 39, none⟩ = some (.bool false) ∧ Hid (Chg [] W V)) V))
  clear e0 e1 e2 e3 e4 e5 e6 e7 e8 e39
  have hHeld : (fun V : World => V.cell? ⟨bx, 0, none⟩ = some (.int .i64 1) ∧ V.cell? ⟨bx, 1, none⟩ = some (.int .i64 x.w) ∧ V.cell? ⟨bx, 2, none⟩ = some (.int .i64 x.s) ∧ V.cell? ⟨bx, 3, none⟩ = some (.int .i64 x.c) ∧ V.cell? ⟨bx, 4, none⟩ = some (.int .u32 x.st) ∧ V.cell? ⟨bx, 5, none⟩ = some (.slice x.ia x.il x.ic) ∧ V.cell? ⟨bx, 6, none⟩ = some (.int .i64 x.wr) ∧ V.cell? ⟨bx, 7, none⟩ = some (.slice x.ra x.rl x.rc) ∧ V.cell? ⟨bx, 8, none⟩ = some (.int .i64 (atN : Int)) ∧ V.cell? ⟨bx, 39, none⟩ = some (.bool false) ∧ Hid (Chg [] W V)) (World.drew W) := KEEP.out _ (Chg.refl _ _).drew
  refine wp_region_plan (fun V : World => V.cell? ⟨bx, 0, none⟩ = some (.int .i64 1) ∧ V.cell? ⟨bx, 1, none⟩ = some (.int .i64 x.w) ∧ V.cell? ⟨bx, 2, none⟩ = some (.int .i64 x.s) ∧ V.cell? ⟨bx, 3, none⟩ = some (.int .i64 x.c) ∧ V.cell? ⟨bx, 4, none⟩ = some (.int .u32 x.st) ∧ V.cell? ⟨bx, 5, none⟩ = some (.slice x.ia x.il x.ic) ∧ V.cell? ⟨bx, 6, none⟩ = some (.int .i64 x.wr) ∧ V.cell? ⟨bx, 7, none⟩ = some (.slice x.ra x.rl x.rc) ∧ V.cell? ⟨bx, 8, none⟩ = some (.int .i64 (atN : Int)) ∧ V.cell? ⟨bx, 39, none⟩ = some (.bool false) ∧ Hid (Chg [] W V)) [(0, true, some 6), (1, true, some 7), (2, true, some 8), (3, true, some 9), (4, true, some 10), (5, true, some 11), (6, true, some 12), (7, true, some 13), (8, true, some 14), (9, true, some 15), (10, true, some 16), (11, true, some 17), (12, true, some 18), (13, true, some 19), (14, true, some 20), (15, true, some 21), (16, true, some 22), (17, true, some 23), (19, true, some 25), (20, true, some 26), (21, true, some 27), (22, true, some 28), (23, true, some 29), (24, true, some 30), (25, true, some 31), (18, false, some 24), (26, true, some 32), (27, true, some 33)] (by kernel_rfl) (by kernel_rfl) (by kernel_rfl) (by kernel_rfl) (fun d c a v w h => by cases d <;> exact h) hHeld ?_
  repeat (first
    | (refine planWp_read (v := ?_) rfl rfl ?_ ?_ ?_; rotate_left; (focus rfl); (focus (intro u hSw; (try dsimp only at hSw); go_simp; (try with_reducible rfl))); (try simp only [Act.put, List.setIfInBounds_toArray, List.set_cons_zero, List.set_cons_succ]))
    | (refine planWp_skip rfl rfl ?_ ?_; (focus rfl); (try simp only [Act.put, List.setIfInBounds_toArray, List.set_cons_zero, List.set_cons_succ]))
    | (refine planWp_leave rfl rfl ?_ hHeld ?_; (focus rfl); (try simp only [Act.put, List.setIfInBounds_toArray, List.set_cons_zero, List.set_cons_succ]))
    | (refine planWp_do rfl rfl ?_ (fun K hK => ?_); (focus rfl); go_simp; (try go_wp2_with (go_at_call 38; refine (HSZ.out _).mono ?_; rintro e wx ⟨rfl, hcx⟩; have HCX := Lib.hid hcx; clear hcx)); refine hK.out _ _ ?_ (fun hHeld2 => ?_); (focus (have hcn := Chg.trans hHeld.2.2.2.2.2.2.2.2.2.2.out HCX.out; exact KEEP.out _ hcn)); clear hK K hHeld; have hHeld := hHeld2; clear hHeld2; (try simp only [Act.put, List.setIfInBounds_toArray, List.set_cons_zero, List.set_cons_succ])))
  refine planWp_nil ?_
  refine then_gen (R := fun V => Hid (Chg [] W V)) (Lib.hid hHeld.2.2.2.2.2.2.2.2.2.2.out) ?_
  clear hHeld KEEP
  rintro W2 HC2
  have HB2 := Lib.hid (Blk.keep HB0.out HC2.out (by simp))
  have e15 : W2.cell? ⟨bx, 15, none⟩ = some (.int .i64 x.steps) := HB2.out.cell rfl
  have f15 := HB2.out.free 15
  have e8 : W2.cell? ⟨bx, 8, none⟩ = some (.int .i64 (atN : Int)) := HB2.out.cell rfl
  go_wp2_with fail
  refine code_gen (R := fun V => Hid (Blk V bx ({ x with k := 1, at_ := (atN : Int), over := false, steps := x.steps + 1 } : ROp).cells 45) ∧ Hid (Chg [bx] W V)) ⟨Lib.hid (HB2.out.set 15 (.int .i64 (x.steps + 1))), Lib.hid ((HC2.out.mono (by simp)).setCell (.inl (by simp)) _)⟩ ?_
  clear e15 f15 e8
  rintro W3 ⟨HB3, HC3⟩
  have e0 : W3.cell? ⟨bx, 0, none⟩ = some (.int .i64 1) := HB3.out.cell rfl
  have e9 : W3.cell? ⟨bx, 9, none⟩ = some (.int .i64 x.op) := HB3.out.cell rfl
  have KEEP := Lib.hid (fun (V : World) (h : Chg [] W3 V) => (⟨h.keep e0 (by simp), h.keep e9 (by simp), Lib.hid h⟩ : (fun V : World => V.cell? ⟨bx, 0, none⟩ = some (.int .i64 1) ∧ V.cell? ⟨bx, 9, none⟩ = some (.int .i64 x.op) ∧ Hid (Chg [] W3 V)) V))
  clear e0 e9
  have hHeld : (fun V : World => V.cell? ⟨bx, 0, none⟩ = some (.int .i64 1) ∧ V.cell? ⟨bx, 9, none⟩ = some (.int .i64 x.op) ∧ Hid (Chg [] W3 V)) (World.drew W3) := KEEP.out _ (Chg.refl _ _).drew
  refine wp_region_plan (fun V : World => V.cell? ⟨bx, 0, none⟩ = some (.int .i64 1) ∧ V.cell? ⟨bx, 9, none⟩ = some (.int .i64 x.op) ∧ Hid (Chg [] W3 V)) [(0, true, some 47), (1, true, some 48), (2, true, some 49), (3, true, some 50), (4, true, some 51), (5, true, some 52), (6, true, some 53), (7, true, some 54), (8, true, some 55), (9, false, some 56), (10, true, some 57), (11, true, some 5)] (by kernel_rfl) (by kernel_rfl) (by kernel_rfl) (by kernel_rfl) (fun d c a v w h => by cases d <;> exact h) hHeld ?_
  repeat (first
    | (refine planWp_read (v := ?_) rfl rfl ?_ ?_ ?_; rotate_left; (focus rfl); (focus (intro u hSw; (try dsimp only at hSw); go_simp; (try with_reducible rfl))); (try simp only [Act.put, List.setIfInBounds_toArray, List.set_cons_zero, List.set_cons_succ]))
    | (refine planWp_skip rfl rfl ?_ ?_; (focus rfl); (try simp only [Act.put, List.setIfInBounds_toArray, List.set_cons_zero, List.set_cons_succ]))
    | (refine planWp_leave rfl rfl ?_ hHeld ?_; (focus rfl); (try simp only [Act.put, List.setIfInBounds_toArray, List.set_cons_zero, List.set_cons_succ]))
    | (refine planWp_do rfl rfl ?_ (fun K hK => ?_); (focus rfl); go_simp; (try go_wp2_with (go_at_call 36; refine (Writes_c _ _).mono ?_; rintro e wx ⟨rfl, hcx⟩; have HCX := Lib.hid hcx; clear hcx)); refine hK.out _ _ ?_ (fun hHeld2 => ?_); (focus (have hcn := Chg.trans hHeld.2.2.out HCX.out; exact KEEP.out _ hcn)); clear hK K hHeld; have hHeld := hHeld2; clear hHeld2; (try simp only [Act.put, List.setIfInBounds_toArray, List.set_cons_zero, List.set_cons_succ])))
  refine planWp_nil ?_
  refine then_gen (R := fun V => Hid (Chg [] W3 V)) (Lib.hid hHeld.2.2.out) ?_
  clear hHeld KEEP
  rintro W4 HC4
  have HB4 := Lib.hid (Blk.keep HB3.out HC4.out (by simp))
  have e0 : W4.cell? ⟨bx, 0, none⟩ = some (.int .i64 1) := HB4.out.cell rfl
  have HCX := Lib.hid (HC3.out.fresh HC4.out)
  go_wp2_with (go_at_call 40; refine (HROW.out _ HB4.out HCX.out).mono ?_; rintro e W9 ⟨rfl, hR⟩; have HRR := Lib.hid hR; clear hR)
  go_ret
  exact ⟨rfl, HRR.out⟩

set_option maxHeartbeats 8000000 in
theorem Step_3_Write (bx g atN n cp : Nat) (x : ROp) (hn : n ≤ 100000) (hnc : n ≤ cp) (han : atN < n) (hop : x.op = writesI 3) (hst : 0 ≤ x.steps ∧ x.steps ≤ 1000000) (ho : ObjW 3 x.w x.s x.c x.st x.il x.rl) (hsz : sizeI 3 x.w x.s x.c x.st x.il x.rl ≤ (n : Int) - atN)
    (W : World) (h : RAt W bx ({ x with k := 3, at_ := (atN : Int), over := false } : ROp)) (R : World → Prop)
    (hrow : ∀ V, RAt V bx ({ x with k := 3, at_ := (atN : Int), over := false, steps := x.steps + 1 } : ROp) → Chg [bx] W V → Calls Try.prog 43 #[.pointer (some ⟨bx, 0, none⟩), .slice (some ⟨g, atN, none⟩) (n - atN) (cp - atN)] V fun e W' => e = .returned (.tuple #[]) ∧ R W') :
    Calls Try.prog 19 #[.pointer (some ⟨bx, 0, none⟩), .slice (some ⟨g, 0, none⟩) n cp] W fun e W' => e = .returned (.bool true) ∧ R W' := by
  have HSZ := Lib.hid (fun u => Size_any 3 x.w x.s x.c x.st x.ia x.il x.ic x.wr x.ra x.rl x.rc ho u)
  have hsb := sizeI_bd 3 x.w x.s x.c x.st x.il x.rl
  generalize sizeI 3 x.w x.s x.c x.st x.il x.rl = sz at *
  have HB0 : Hid (Blk W bx ({ x with k := 3, at_ := (atN : Int), over := false } : ROp).cells 45) := Lib.hid h
  have hb2 : decide ((n : Int) < (atN : Int)) = false := by simp; omega
  have hw : IntKind.i64.wrap ((n : Int) - (atN : Int)) = (n : Int) - atN := by rw [IntKind.wrap_i64]; omega
  have hb3 : decide ((n : Int) - (atN : Int) < sz) = false := by simp; omega
  have hb2n : decide (n < atN) = false := by simp; omega
  have hcne : ¬ cp = atN := by omega
  have hle : atN ≤ n := by omega
  have hlec : atN ≤ cp := by omega
  have hopb : (x.op == writesI 3) = true := by simpa using hop
  have HROW := Lib.hid hrow
  clear h hrow hsz hsb hop ho
  go_enter Try.func19, Try.ntmps19
  go_wp2_with fail
  have e0 : W.cell? ⟨bx, 0, none⟩ = some (.int .i64 3) := HB0.out.cell rfl
  have e1 : W.cell? ⟨bx, 1, none⟩ = some (.int .i64 x.w) := HB0.out.cell rfl
  have e2 : W.cell? ⟨bx, 2, none⟩ = some (.int .i64 x.s) := HB0.out.cell rfl
  have e3 : W.cell? ⟨bx, 3, none⟩ = some (.int .i64 x.c) := HB0.out.cell rfl
  have e4 : W.cell? ⟨bx, 4, none⟩ = some (.int .u32 x.st) := HB0.out.cell rfl
  have e5 : W.cell? ⟨bx, 5, none⟩ = some (.slice x.ia x.il x.ic) := HB0.out.cell rfl
  have e6 : W.cell? ⟨bx, 6, none⟩ = some (.int .i64 x.wr) := HB0.out.cell rfl
  have e7 : W.cell? ⟨bx, 7, none⟩ = some (.slice x.ra x.rl x.rc) := HB0.out.cell rfl
  have e8 : W.cell? ⟨bx, 8, none⟩ = some (.int .i64 (atN : Int)) := HB0.out.cell rfl
  have e39 : W.cell? ⟨bx, 39, none⟩ = some (.bool false) := HB0.out.cell rfl
  have KEEP := Lib.hid (fun (V : World) (h : Chg [] W V) => (⟨h.keep e0 (by simp), h.keep e1 (by simp), h.keep e2 (by simp), h.keep e3 (by simp), h.keep e4 (by simp), h.keep e5 (by simp), h.keep e6 (by simp), h.keep e7 (by simp), h.keep e8 (by simp), h.keep e39 (by simp), Lib.hid h⟩ : (fun V : World => V.cell? ⟨bx, 0, none⟩ = some (.int .i64 3) ∧ V.cell? ⟨bx, 1, none⟩ = some (.int .i64 x.w) ∧ V.cell? ⟨bx, 2, none⟩ = some (.int .i64 x.s) ∧ V.cell? ⟨bx, 3, none⟩ = some (.int .i64 x.c) ∧ V.cell? ⟨bx, 4, none⟩ = some (.int .u32 x.st) ∧ V.cell? ⟨bx, 5, none⟩ = some (.slice x.ia x.il x.ic) ∧ V.cell? ⟨bx, 6, none⟩ = some (.int .i64 x.wr) ∧ V.cell? ⟨bx, 7, none⟩ = some (.slice x.ra x.rl x.rc) ∧ V.cell? ⟨bx, 8, none⟩ = some (.int .i64 (atN : Int)) ∧ V.cell? ⟨bx, 39, none⟩ = some (.bool false) ∧ Hid (Chg [] W V)) V))
  clear e0 e1 e2 e3 e4 e5 e6 e7 e8 e39
  have hHeld : (fun V : World => V.cell? ⟨bx, 0, none⟩ = some (.int .i64 3) ∧ V.cell? ⟨bx, 1, none⟩ = some (.int .i64 x.w) ∧ V.cell? ⟨bx, 2, none⟩ = some (.int .i64 x.s) ∧ V.cell? ⟨bx, 3, none⟩ = some (.int .i64 x.c) ∧ V.cell? ⟨bx, 4, none⟩ = some (.int .u32 x.st) ∧ V.cell? ⟨bx, 5, none⟩ = some (.slice x.ia x.il x.ic) ∧ V.cell? ⟨bx, 6, none⟩ = some (.int .i64 x.wr) ∧ V.cell? ⟨bx, 7, none⟩ = some (.slice x.ra x.rl x.rc) ∧ V.cell? ⟨bx, 8, none⟩ = some (.int .i64 (atN : Int)) ∧ V.cell? ⟨bx, 39, none⟩ = some (.bool false) ∧ Hid (Chg [] W V)) (World.drew W) := KEEP.out _ (Chg.refl _ _).drew
  refine wp_region_plan (fun V : World => V.cell? ⟨bx, 0, none⟩ = some (.int .i64 3) ∧ V.cell? ⟨bx, 1, none⟩ = some (.int .i64 x.w) ∧ V.cell? ⟨bx, 2, none⟩ = some (.int .i64 x.s) ∧ V.cell? ⟨bx, 3, none⟩ = some (.int .i64 x.c) ∧ V.cell? ⟨bx, 4, none⟩ = some (.int .u32 x.st) ∧ V.cell? ⟨bx, 5, none⟩ = some (.slice x.ia x.il x.ic) ∧ V.cell? ⟨bx, 6, none⟩ = some (.int .i64 x.wr) ∧ V.cell? ⟨bx, 7, none⟩ = some (.slice x.ra x.rl x.rc) ∧ V.cell? ⟨bx, 8, none⟩ = some (.int .i64 (atN : Int)) ∧ V.cell? ⟨bx, 39, none⟩ = some (.bool false) ∧ Hid (Chg [] W V)) [(0, true, some 6), (1, true, some 7), (2, true, some 8), (3, true, some 9), (4, true, some 10), (5, true, some 11), (6, true, some 12), (7, true, some 13), (8, true, some 14), (9, true, some 15), (10, true, some 16), (11, true, some 17), (12, true, some 18), (13, true, some 19), (14, true, some 20), (15, true, some 21), (16, true, some 22), (17, true, some 23), (19, true, some 25), (20, true, some 26), (21, true, some 27), (22, true, some 28), (23, true, some 29), (24, true, some 30), (25, true, some 31), (18, false, some 24), (26, true, some 32), (27, true, some 33)] (by kernel_rfl) (by kernel_rfl) (by kernel_rfl) (by kernel_rfl) (fun d c a v w h => by cases d <;> exact h) hHeld ?_
  repeat (first
    | (refine planWp_read (v := ?_) rfl rfl ?_ ?_ ?_; rotate_left; (focus rfl); (focus (intro u hSw; (try dsimp only at hSw); go_simp; (try with_reducible rfl))); (try simp only [Act.put, List.setIfInBounds_toArray, List.set_cons_zero, List.set_cons_succ]))
    | (refine planWp_skip rfl rfl ?_ ?_; (focus rfl); (try simp only [Act.put, List.setIfInBounds_toArray, List.set_cons_zero, List.set_cons_succ]))
    | (refine planWp_leave rfl rfl ?_ hHeld ?_; (focus rfl); (try simp only [Act.put, List.setIfInBounds_toArray, List.set_cons_zero, List.set_cons_succ]))
    | (refine planWp_do rfl rfl ?_ (fun K hK => ?_); (focus rfl); go_simp; (try go_wp2_with (go_at_call 38; refine (HSZ.out _).mono ?_; rintro e wx ⟨rfl, hcx⟩; have HCX := Lib.hid hcx; clear hcx)); refine hK.out _ _ ?_ (fun hHeld2 => ?_); (focus (have hcn := Chg.trans hHeld.2.2.2.2.2.2.2.2.2.2.out HCX.out; exact KEEP.out _ hcn)); clear hK K hHeld; have hHeld := hHeld2; clear hHeld2; (try simp only [Act.put, List.setIfInBounds_toArray, List.set_cons_zero, List.set_cons_succ])))
  refine planWp_nil ?_
  refine then_gen (R := fun V => Hid (Chg [] W V)) (Lib.hid hHeld.2.2.2.2.2.2.2.2.2.2.out) ?_
  clear hHeld KEEP
  rintro W2 HC2
  have HB2 := Lib.hid (Blk.keep HB0.out HC2.out (by simp))
  have e15 : W2.cell? ⟨bx, 15, none⟩ = some (.int .i64 x.steps) := HB2.out.cell rfl
  have f15 := HB2.out.free 15
  have e8 : W2.cell? ⟨bx, 8, none⟩ = some (.int .i64 (atN : Int)) := HB2.out.cell rfl
  go_wp2_with fail
  refine code_gen (R := fun V => Hid (Blk V bx ({ x with k := 3, at_ := (atN : Int), over := false, steps := x.steps + 1 } : ROp).cells 45) ∧ Hid (Chg [bx] W V)) ⟨Lib.hid (HB2.out.set 15 (.int .i64 (x.steps + 1))), Lib.hid ((HC2.out.mono (by simp)).setCell (.inl (by simp)) _)⟩ ?_
  clear e15 f15 e8
  rintro W3 ⟨HB3, HC3⟩
  have e0 : W3.cell? ⟨bx, 0, none⟩ = some (.int .i64 3) := HB3.out.cell rfl
  have e9 : W3.cell? ⟨bx, 9, none⟩ = some (.int .i64 x.op) := HB3.out.cell rfl
  have KEEP := Lib.hid (fun (V : World) (h : Chg [] W3 V) => (⟨h.keep e0 (by simp), h.keep e9 (by simp), Lib.hid h⟩ : (fun V : World => V.cell? ⟨bx, 0, none⟩ = some (.int .i64 3) ∧ V.cell? ⟨bx, 9, none⟩ = some (.int .i64 x.op) ∧ Hid (Chg [] W3 V)) V))
  clear e0 e9
  have hHeld : (fun V : World => V.cell? ⟨bx, 0, none⟩ = some (.int .i64 3) ∧ V.cell? ⟨bx, 9, none⟩ = some (.int .i64 x.op) ∧ Hid (Chg [] W3 V)) (World.drew W3) := KEEP.out _ (Chg.refl _ _).drew
  refine wp_region_plan (fun V : World => V.cell? ⟨bx, 0, none⟩ = some (.int .i64 3) ∧ V.cell? ⟨bx, 9, none⟩ = some (.int .i64 x.op) ∧ Hid (Chg [] W3 V)) [(0, true, some 47), (1, true, some 48), (2, true, some 49), (3, true, some 50), (4, true, some 51), (5, true, some 52), (6, true, some 53), (7, true, some 54), (8, true, some 55), (9, false, some 56), (10, true, some 57), (11, true, some 5)] (by kernel_rfl) (by kernel_rfl) (by kernel_rfl) (by kernel_rfl) (fun d c a v w h => by cases d <;> exact h) hHeld ?_
  repeat (first
    | (refine planWp_read (v := ?_) rfl rfl ?_ ?_ ?_; rotate_left; (focus rfl); (focus (intro u hSw; (try dsimp only at hSw); go_simp; (try with_reducible rfl))); (try simp only [Act.put, List.setIfInBounds_toArray, List.set_cons_zero, List.set_cons_succ]))
    | (refine planWp_skip rfl rfl ?_ ?_; (focus rfl); (try simp only [Act.put, List.setIfInBounds_toArray, List.set_cons_zero, List.set_cons_succ]))
    | (refine planWp_leave rfl rfl ?_ hHeld ?_; (focus rfl); (try simp only [Act.put, List.setIfInBounds_toArray, List.set_cons_zero, List.set_cons_succ]))
    | (refine planWp_do rfl rfl ?_ (fun K hK => ?_); (focus rfl); go_simp; (try go_wp2_with (go_at_call 36; refine (Writes_c _ _).mono ?_; rintro e wx ⟨rfl, hcx⟩; have HCX := Lib.hid hcx; clear hcx)); refine hK.out _ _ ?_ (fun hHeld2 => ?_); (focus (have hcn := Chg.trans hHeld.2.2.out HCX.out; exact KEEP.out _ hcn)); clear hK K hHeld; have hHeld := hHeld2; clear hHeld2; (try simp only [Act.put, List.setIfInBounds_toArray, List.set_cons_zero, List.set_cons_succ])))
  refine planWp_nil ?_
  refine then_gen (R := fun V => Hid (Chg [] W3 V)) (Lib.hid hHeld.2.2.out) ?_
  clear hHeld KEEP
  rintro W4 HC4
  have HB4 := Lib.hid (Blk.keep HB3.out HC4.out (by simp))
  have e0 : W4.cell? ⟨bx, 0, none⟩ = some (.int .i64 3) := HB4.out.cell rfl
  have HCX := Lib.hid (HC3.out.fresh HC4.out)
  go_wp2_with (go_at_call 43; refine (HROW.out _ HB4.out HCX.out).mono ?_; rintro e W9 ⟨rfl, hR⟩; have HRR := Lib.hid hR; clear hR)
  go_ret
  exact ⟨rfl, HRR.out⟩

set_option maxHeartbeats 8000000 in
theorem Step_3_Read (bx g atN n cp : Nat) (x : ROp) (hn : n ≤ 100000) (hnc : n ≤ cp) (han : atN < n) (hop : x.op ≠ writesI 3) (hst : 0 ≤ x.steps ∧ x.steps ≤ 1000000) (ho : ObjW 3 x.w x.s x.c x.st x.il x.rl) (hsz : sizeI 3 x.w x.s x.c x.st x.il x.rl ≤ (n : Int) - atN)
    (W : World) (h : RAt W bx ({ x with k := 3, at_ := (atN : Int), over := false } : ROp)) (R : World → Prop)
    (hrow : ∀ V, RAt V bx ({ x with k := 3, at_ := (atN : Int), over := false, steps := x.steps + 1 } : ROp) → Chg [bx] W V → Calls Try.prog 44 #[.pointer (some ⟨bx, 0, none⟩), .slice (some ⟨g, atN, none⟩) (n - atN) (cp - atN)] V fun e W' => e = .returned (.tuple #[]) ∧ R W') :
    Calls Try.prog 19 #[.pointer (some ⟨bx, 0, none⟩), .slice (some ⟨g, 0, none⟩) n cp] W fun e W' => e = .returned (.bool true) ∧ R W' := by
  have HSZ := Lib.hid (fun u => Size_any 3 x.w x.s x.c x.st x.ia x.il x.ic x.wr x.ra x.rl x.rc ho u)
  have hsb := sizeI_bd 3 x.w x.s x.c x.st x.il x.rl
  generalize sizeI 3 x.w x.s x.c x.st x.il x.rl = sz at *
  have HB0 : Hid (Blk W bx ({ x with k := 3, at_ := (atN : Int), over := false } : ROp).cells 45) := Lib.hid h
  have hb2 : decide ((n : Int) < (atN : Int)) = false := by simp; omega
  have hw : IntKind.i64.wrap ((n : Int) - (atN : Int)) = (n : Int) - atN := by rw [IntKind.wrap_i64]; omega
  have hb3 : decide ((n : Int) - (atN : Int) < sz) = false := by simp; omega
  have hb2n : decide (n < atN) = false := by simp; omega
  have hcne : ¬ cp = atN := by omega
  have hle : atN ≤ n := by omega
  have hlec : atN ≤ cp := by omega
  have hopb : (x.op == writesI 3) = false := by simpa using hop
  have HROW := Lib.hid hrow
  clear h hrow hsz hsb hop ho
  go_enter Try.func19, Try.ntmps19
  go_wp2_with fail
  have e0 : W.cell? ⟨bx, 0, none⟩ = some (.int .i64 3) := HB0.out.cell rfl
  have e1 : W.cell? ⟨bx, 1, none⟩ = some (.int .i64 x.w) := HB0.out.cell rfl
  have e2 : W.cell? ⟨bx, 2, none⟩ = some (.int .i64 x.s) := HB0.out.cell rfl
  have e3 : W.cell? ⟨bx, 3, none⟩ = some (.int .i64 x.c) := HB0.out.cell rfl
  have e4 : W.cell? ⟨bx, 4, none⟩ = some (.int .u32 x.st) := HB0.out.cell rfl
  have e5 : W.cell? ⟨bx, 5, none⟩ = some (.slice x.ia x.il x.ic) := HB0.out.cell rfl
  have e6 : W.cell? ⟨bx, 6, none⟩ = some (.int .i64 x.wr) := HB0.out.cell rfl
  have e7 : W.cell? ⟨bx, 7, none⟩ = some (.slice x.ra x.rl x.rc) := HB0.out.cell rfl
  have e8 : W.cell? ⟨bx, 8, none⟩ = some (.int .i64 (atN : Int)) := HB0.out.cell rfl
  have e39 : W.cell? ⟨bx, 39, none⟩ = some (.bool false) := HB0.out.cell rfl
  have KEEP := Lib.hid (fun (V : World) (h : Chg [] W V) => (⟨h.keep e0 (by simp), h.keep e1 (by simp), h.keep e2 (by simp), h.keep e3 (by simp), h.keep e4 (by simp), h.keep e5 (by simp), h.keep e6 (by simp), h.keep e7 (by simp), h.keep e8 (by simp), h.keep e39 (by simp), Lib.hid h⟩ : (fun V : World => V.cell? ⟨bx, 0, none⟩ = some (.int .i64 3) ∧ V.cell? ⟨bx, 1, none⟩ = some (.int .i64 x.w) ∧ V.cell? ⟨bx, 2, none⟩ = some (.int .i64 x.s) ∧ V.cell? ⟨bx, 3, none⟩ = some (.int .i64 x.c) ∧ V.cell? ⟨bx, 4, none⟩ = some (.int .u32 x.st) ∧ V.cell? ⟨bx, 5, none⟩ = some (.slice x.ia x.il x.ic) ∧ V.cell? ⟨bx, 6, none⟩ = some (.int .i64 x.wr) ∧ V.cell? ⟨bx, 7, none⟩ = some (.slice x.ra x.rl x.rc) ∧ V.cell? ⟨bx, 8, none⟩ = some (.int .i64 (atN : Int)) ∧ V.cell? ⟨bx, 39, none⟩ = some (.bool false) ∧ Hid (Chg [] W V)) V))
  clear e0 e1 e2 e3 e4 e5 e6 e7 e8 e39
  have hHeld : (fun V : World => V.cell? ⟨bx, 0, none⟩ = some (.int .i64 3) ∧ V.cell? ⟨bx, 1, none⟩ = some (.int .i64 x.w) ∧ V.cell? ⟨bx, 2, none⟩ = some (.int .i64 x.s) ∧ V.cell? ⟨bx, 3, none⟩ = some (.int .i64 x.c) ∧ V.cell? ⟨bx, 4, none⟩ = some (.int .u32 x.st) ∧ V.cell? ⟨bx, 5, none⟩ = some (.slice x.ia x.il x.ic) ∧ V.cell? ⟨bx, 6, none⟩ = some (.int .i64 x.wr) ∧ V.cell? ⟨bx, 7, none⟩ = some (.slice x.ra x.rl x.rc) ∧ V.cell? ⟨bx, 8, none⟩ = some (.int .i64 (atN : Int)) ∧ V.cell? ⟨bx, 39, none⟩ = some (.bool false) ∧ Hid (Chg [] W V)) (World.drew W) := KEEP.out _ (Chg.refl _ _).drew
  refine wp_region_plan (fun V : World => V.cell? ⟨bx, 0, none⟩ = some (.int .i64 3) ∧ V.cell? ⟨bx, 1, none⟩ = some (.int .i64 x.w) ∧ V.cell? ⟨bx, 2, none⟩ = some (.int .i64 x.s) ∧ V.cell? ⟨bx, 3, none⟩ = some (.int .i64 x.c) ∧ V.cell? ⟨bx, 4, none⟩ = some (.int .u32 x.st) ∧ V.cell? ⟨bx, 5, none⟩ = some (.slice x.ia x.il x.ic) ∧ V.cell? ⟨bx, 6, none⟩ = some (.int .i64 x.wr) ∧ V.cell? ⟨bx, 7, none⟩ = some (.slice x.ra x.rl x.rc) ∧ V.cell? ⟨bx, 8, none⟩ = some (.int .i64 (atN : Int)) ∧ V.cell? ⟨bx, 39, none⟩ = some (.bool false) ∧ Hid (Chg [] W V)) [(0, true, some 6), (1, true, some 7), (2, true, some 8), (3, true, some 9), (4, true, some 10), (5, true, some 11), (6, true, some 12), (7, true, some 13), (8, true, some 14), (9, true, some 15), (10, true, some 16), (11, true, some 17), (12, true, some 18), (13, true, some 19), (14, true, some 20), (15, true, some 21), (16, true, some 22), (17, true, some 23), (19, true, some 25), (20, true, some 26), (21, true, some 27), (22, true, some 28), (23, true, some 29), (24, true, some 30), (25, true, some 31), (18, false, some 24), (26, true, some 32), (27, true, some 33)] (by kernel_rfl) (by kernel_rfl) (by kernel_rfl) (by kernel_rfl) (fun d c a v w h => by cases d <;> exact h) hHeld ?_
  repeat (first
    | (refine planWp_read (v := ?_) rfl rfl ?_ ?_ ?_; rotate_left; (focus rfl); (focus (intro u hSw; (try dsimp only at hSw); go_simp; (try with_reducible rfl))); (try simp only [Act.put, List.setIfInBounds_toArray, List.set_cons_zero, List.set_cons_succ]))
    | (refine planWp_skip rfl rfl ?_ ?_; (focus rfl); (try simp only [Act.put, List.setIfInBounds_toArray, List.set_cons_zero, List.set_cons_succ]))
    | (refine planWp_leave rfl rfl ?_ hHeld ?_; (focus rfl); (try simp only [Act.put, List.setIfInBounds_toArray, List.set_cons_zero, List.set_cons_succ]))
    | (refine planWp_do rfl rfl ?_ (fun K hK => ?_); (focus rfl); go_simp; (try go_wp2_with (go_at_call 38; refine (HSZ.out _).mono ?_; rintro e wx ⟨rfl, hcx⟩; have HCX := Lib.hid hcx; clear hcx)); refine hK.out _ _ ?_ (fun hHeld2 => ?_); (focus (have hcn := Chg.trans hHeld.2.2.2.2.2.2.2.2.2.2.out HCX.out; exact KEEP.out _ hcn)); clear hK K hHeld; have hHeld := hHeld2; clear hHeld2; (try simp only [Act.put, List.setIfInBounds_toArray, List.set_cons_zero, List.set_cons_succ])))
  refine planWp_nil ?_
  refine then_gen (R := fun V => Hid (Chg [] W V)) (Lib.hid hHeld.2.2.2.2.2.2.2.2.2.2.out) ?_
  clear hHeld KEEP
  rintro W2 HC2
  have HB2 := Lib.hid (Blk.keep HB0.out HC2.out (by simp))
  have e15 : W2.cell? ⟨bx, 15, none⟩ = some (.int .i64 x.steps) := HB2.out.cell rfl
  have f15 := HB2.out.free 15
  have e8 : W2.cell? ⟨bx, 8, none⟩ = some (.int .i64 (atN : Int)) := HB2.out.cell rfl
  go_wp2_with fail
  refine code_gen (R := fun V => Hid (Blk V bx ({ x with k := 3, at_ := (atN : Int), over := false, steps := x.steps + 1 } : ROp).cells 45) ∧ Hid (Chg [bx] W V)) ⟨Lib.hid (HB2.out.set 15 (.int .i64 (x.steps + 1))), Lib.hid ((HC2.out.mono (by simp)).setCell (.inl (by simp)) _)⟩ ?_
  clear e15 f15 e8
  rintro W3 ⟨HB3, HC3⟩
  have e0 : W3.cell? ⟨bx, 0, none⟩ = some (.int .i64 3) := HB3.out.cell rfl
  have e9 : W3.cell? ⟨bx, 9, none⟩ = some (.int .i64 x.op) := HB3.out.cell rfl
  have KEEP := Lib.hid (fun (V : World) (h : Chg [] W3 V) => (⟨h.keep e0 (by simp), h.keep e9 (by simp), Lib.hid h⟩ : (fun V : World => V.cell? ⟨bx, 0, none⟩ = some (.int .i64 3) ∧ V.cell? ⟨bx, 9, none⟩ = some (.int .i64 x.op) ∧ Hid (Chg [] W3 V)) V))
  clear e0 e9
  have hHeld : (fun V : World => V.cell? ⟨bx, 0, none⟩ = some (.int .i64 3) ∧ V.cell? ⟨bx, 9, none⟩ = some (.int .i64 x.op) ∧ Hid (Chg [] W3 V)) (World.drew W3) := KEEP.out _ (Chg.refl _ _).drew
  refine wp_region_plan (fun V : World => V.cell? ⟨bx, 0, none⟩ = some (.int .i64 3) ∧ V.cell? ⟨bx, 9, none⟩ = some (.int .i64 x.op) ∧ Hid (Chg [] W3 V)) [(0, true, some 47), (1, true, some 48), (2, true, some 49), (3, true, some 50), (4, true, some 51), (5, true, some 52), (6, true, some 53), (7, true, some 54), (8, true, some 55), (9, false, some 56), (10, true, some 57), (11, true, some 5)] (by kernel_rfl) (by kernel_rfl) (by kernel_rfl) (by kernel_rfl) (fun d c a v w h => by cases d <;> exact h) hHeld ?_
  repeat (first
    | (refine planWp_read (v := ?_) rfl rfl ?_ ?_ ?_; rotate_left; (focus rfl); (focus (intro u hSw; (try dsimp only at hSw); go_simp; (try with_reducible rfl))); (try simp only [Act.put, List.setIfInBounds_toArray, List.set_cons_zero, List.set_cons_succ]))
    | (refine planWp_skip rfl rfl ?_ ?_; (focus rfl); (try simp only [Act.put, List.setIfInBounds_toArray, List.set_cons_zero, List.set_cons_succ]))
    | (refine planWp_leave rfl rfl ?_ hHeld ?_; (focus rfl); (try simp only [Act.put, List.setIfInBounds_toArray, List.set_cons_zero, List.set_cons_succ]))
    | (refine planWp_do rfl rfl ?_ (fun K hK => ?_); (focus rfl); go_simp; (try go_wp2_with (go_at_call 36; refine (Writes_c _ _).mono ?_; rintro e wx ⟨rfl, hcx⟩; have HCX := Lib.hid hcx; clear hcx)); refine hK.out _ _ ?_ (fun hHeld2 => ?_); (focus (have hcn := Chg.trans hHeld.2.2.out HCX.out; exact KEEP.out _ hcn)); clear hK K hHeld; have hHeld := hHeld2; clear hHeld2; (try simp only [Act.put, List.setIfInBounds_toArray, List.set_cons_zero, List.set_cons_succ])))
  refine planWp_nil ?_
  refine then_gen (R := fun V => Hid (Chg [] W3 V)) (Lib.hid hHeld.2.2.out) ?_
  clear hHeld KEEP
  rintro W4 HC4
  have HB4 := Lib.hid (Blk.keep HB3.out HC4.out (by simp))
  have e0 : W4.cell? ⟨bx, 0, none⟩ = some (.int .i64 3) := HB4.out.cell rfl
  have HCX := Lib.hid (HC3.out.fresh HC4.out)
  go_wp2_with (go_at_call 44; refine (HROW.out _ HB4.out HCX.out).mono ?_; rintro e W9 ⟨rfl, hR⟩; have HRR := Lib.hid hR; clear hR)
  go_ret
  exact ⟨rfl, HRR.out⟩
end Go.Proofs.Ytjplamoofkcojaa.rop
