/- Parts joined: Rop1, Rop2, Rop3, Rop4. -/
import Derived.Test.YtjplamoofkcojaaObjA
import Derived.Test.YtjplamoofkcojaaPlans
/- The reference's operation: its words in memory; to, end, fail. -/
namespace Go.Proofs.Ytjplamoofkcojaa.rop
open Go Go.RowKit Go.Proofs.Ytjplamoofkcojaa.kit Go.Proofs.Ytjplamoofkcojaa.obj
set_option linter.unusedVariables false
set_option linter.unusedSimpArgs false
set_option maxRecDepth 20000

/-- an operation as the reference has it -/
structure ROp where
  k : Int
  w : Int
  s : Int
  c : Int
  st : Int
  ia : Option Addr
  il : Nat
  ic : Nat
  wr : Int
  ra : Option Addr
  rl : Nat
  rc : Nat
  at_ : Int
  op : Int
  reader : Int
  row : Int
  i : Int
  tries : Int
  code : Int
  steps : Int
  a : Int
  b : Int
  u : Nat → Bool
  rcd : Value
  over : Bool
def ROp.cells (x : ROp) : Array Value := #[.int .i64 x.k, .int .i64 x.w, .int .i64 x.s, .int .i64 x.c, .int .u32 x.st, .slice x.ia x.il x.ic, .int .i64 x.wr, .slice x.ra x.rl x.rc, .int .i64 x.at_, .int .i64 x.op, .int .i64 x.reader, .int .i64 x.row, .int .i64 x.i, .int .i64 x.tries, .int .i64 x.code, .int .i64 x.steps, .int .u32 x.a, .int .u32 x.b, .bool (x.u 0), .bool (x.u 1), .bool (x.u 2), .bool (x.u 3), .bool (x.u 4), .bool (x.u 5), .bool (x.u 6), .bool (x.u 7), .bool (x.u 8), .bool (x.u 9), .bool (x.u 10), .bool (x.u 11), .bool (x.u 12), .bool (x.u 13), .bool (x.u 14), .bool (x.u 15), .bool (x.u 16), .bool (x.u 17), .bool (x.u 18), .bool (x.u 19), x.rcd, .bool x.over]
def RAt (W : World) (bx : Nat) (x : ROp) : Prop := Blk W bx x.cells 45

set_option maxHeartbeats 2000000 in
theorem to_any (bx : Nat) (x : ROp) (r : Int) (W : World) (h : RAt W bx x) :
    Calls Try.prog 68 #[.pointer (some ⟨bx, 0, none⟩), .int .i64 r] W fun e W' => e = .returned (.tuple #[]) ∧ RAt W' bx { x with row := r, i := 0 } ∧ Chg [bx] W W' := by
  have HB : Hid (Blk W bx x.cells 45) := Lib.hid h
  have e11 := HB.out.cell (o := 11) (v := .int .i64 x.row) rfl
  have e12 := HB.out.cell (o := 12) (v := .int .i64 x.i) rfl
  have f11 := HB.out.free 11
  have f12 := HB.out.free 12
  clear h
  go_enter Try.func68, Try.ntmps68
  go_wp2
  go_end0
  exact ⟨rfl, (HB.out.set 11 (.int .i64 r)).set 12 (.int .i64 0), ((Chg.refl [bx] W).setCell (.inl (by simp)) _).setCell (.inl (by simp)) _⟩

theorem code_gen {C : Code} {P : Program} {Q : Exit → Act → World → Prop} {a : Act} {W : World} {R : World → Prop} (hp : R W) (h : ∀ W', R W' → C.wp P Q a W') : C.wp P Q a W := h W hp
theorem Writes_c (k : Int) (W : World) : Calls Try.prog 36 #[.int .i64 k] W fun e W' => e = .returned (.int .i64 (writesI k)) ∧ Chg [] W W' :=
  (rWrites_any k W).mono (by rintro e W' ⟨rfl, rfl⟩; exact ⟨rfl, Chg.refl _ _⟩)

def ROp.ended (x : ROp) (cd : Int) : ROp := { x with over := true, code := cd, rcd := if cd ≠ 0 ∨ x.op = writesI x.k then .slice none 0 0 else x.rcd }
set_option maxHeartbeats 4000000 in
theorem end_any (bx : Nat) (x : ROp) (cd : Int) (W : World) (h : RAt W bx x) :
    Calls Try.prog 70 #[.pointer (some ⟨bx, 0, none⟩), .int .i64 cd] W fun e W' => e = .returned (.tuple #[]) ∧ RAt W' bx (x.ended cd) ∧ Chg [bx] W W' := by
  have HB : Hid (Blk W bx x.cells 45) := Lib.hid h
  have e14 := HB.out.cell (o := 14) (v := .int .i64 x.code) rfl
  have f14 := HB.out.free 14
  have e39 := HB.out.cell (o := 39) (v := .bool x.over) rfl
  have f39 := HB.out.free 39
  clear h
  by_cases hcd : cd = 0
  · subst hcd
    by_cases hop : x.op = writesI x.k
    · rw [show x.ended 0 = { x with over := true, code := 0, rcd := .slice none 0 0 } from by simp [ROp.ended, hop]]
      have hob : (x.op == writesI x.k) = true := by simpa using hop
      clear hop
      go_enter Try.func70, Try.ntmps70
      go_wp2_with fail
      refine code_gen (R := fun V => Hid (Blk V bx ({ x with over := true, code := 0 } : ROp).cells 45) ∧ Hid (Chg [bx] W V)) ⟨Lib.hid ((HB.out.set 39 (.bool true)).set 14 (.int .i64 0)), Lib.hid (((Chg.refl [bx] W).setCell (.inl (by simp)) _).setCell (.inl (by simp)) _)⟩ ?_
      rintro W0 ⟨HB0, HC0⟩
      have e0 : W0.cell? ⟨bx, 0, none⟩ = some (.int .i64 x.k) := HB0.out.cell rfl
      have e9 : W0.cell? ⟨bx, 9, none⟩ = some (.int .i64 x.op) := HB0.out.cell rfl
      have KEEP := Lib.hid (fun (V : World) (h : Chg [] W0 V) => (⟨h.keep e0 (by simp), h.keep e9 (by simp), Lib.hid h⟩ : (fun V : World => V.cell? ⟨bx, 0, none⟩ = some (.int .i64 x.k) ∧ V.cell? ⟨bx, 9, none⟩ = some (.int .i64 x.op) ∧ Hid (Chg [] W0 V)) V))
      clear e0 e9
      have hHeld : (fun V : World => V.cell? ⟨bx, 0, none⟩ = some (.int .i64 x.k) ∧ V.cell? ⟨bx, 9, none⟩ = some (.int .i64 x.op) ∧ Hid (Chg [] W0 V)) (World.drew W0) := KEEP.out _ (Chg.refl _ _).drew
      refine wp_region_plan (fun V : World => V.cell? ⟨bx, 0, none⟩ = some (.int .i64 x.k) ∧ V.cell? ⟨bx, 9, none⟩ = some (.int .i64 x.op) ∧ Hid (Chg [] W0 V)) [(0, true, some 11), (1, true, some 12), (2, true, some 13), (3, true, some 14), (4, true, some 15), (5, true, some 16), (6, true, some 17), (7, true, some 18), (8, true, some 19), (9, true, some 20), (10, true, some 21), (11, true, some 22), (12, false, some 23), (13, true, some 24), (14, true, some 25)] (by kernel_rfl) (by kernel_rfl) (by kernel_rfl) (by kernel_rfl) (fun d c a v w h => by cases d <;> exact h) hHeld ?_
      repeat (first
        | (refine planWp_read (v := ?_) rfl rfl ?_ ?_ ?_; rotate_left; (focus rfl); (focus (intro u hSw; (try dsimp only at hSw); go_simp; (try with_reducible rfl))); (try simp only [Act.put, List.setIfInBounds_toArray, List.set_cons_zero, List.set_cons_succ]))
        | (refine planWp_skip rfl rfl ?_ ?_; (focus rfl); (try simp only [Act.put, List.setIfInBounds_toArray, List.set_cons_zero, List.set_cons_succ]))
        | (refine planWp_leave rfl rfl ?_ hHeld ?_; (focus rfl); (try simp only [Act.put, List.setIfInBounds_toArray, List.set_cons_zero, List.set_cons_succ]))
        | (refine planWp_do rfl rfl ?_ (fun K hK => ?_); (focus rfl); go_simp; (try go_wp2_with (go_at_call 36; refine (Writes_c _ _).mono ?_; rintro e wx ⟨rfl, hcx⟩; have HCX := Lib.hid hcx; clear hcx)); refine hK.out _ _ ?_ (fun hHeld2 => ?_); (focus (have hcn := Chg.trans hHeld.2.2.out HCX.out; exact KEEP.out _ hcn)); clear hK K hHeld; have hHeld := hHeld2; clear hHeld2; (try simp only [Act.put, List.setIfInBounds_toArray, List.set_cons_zero, List.set_cons_succ])))
      refine planWp_nil ?_
      have HB1 := Lib.hid (Blk.keep HB0.out hHeld.2.2.out (by simp))
      have HC1 := Lib.hid (HC0.out.fresh hHeld.2.2.out)
      clear hHeld KEEP
      have e38 := HB1.out.cell (o := 38) (v := x.rcd) rfl
      have f38 := HB1.out.free 38
      go_wp2_with fail
      go_end0
      exact ⟨rfl, HB1.out.set 38 (.slice none 0 0), HC1.out.setCell (.inl (by simp)) _⟩
    · rw [show x.ended 0 = { x with over := true, code := 0 } from by simp [ROp.ended, hop]]
      have hob : (x.op == writesI x.k) = false := by simpa using hop
      clear hop
      go_enter Try.func70, Try.ntmps70
      go_wp2_with fail
      refine code_gen (R := fun V => Hid (Blk V bx ({ x with over := true, code := 0 } : ROp).cells 45) ∧ Hid (Chg [bx] W V)) ⟨Lib.hid ((HB.out.set 39 (.bool true)).set 14 (.int .i64 0)), Lib.hid (((Chg.refl [bx] W).setCell (.inl (by simp)) _).setCell (.inl (by simp)) _)⟩ ?_
      rintro W0 ⟨HB0, HC0⟩
      have e0 : W0.cell? ⟨bx, 0, none⟩ = some (.int .i64 x.k) := HB0.out.cell rfl
      have e9 : W0.cell? ⟨bx, 9, none⟩ = some (.int .i64 x.op) := HB0.out.cell rfl
      have KEEP := Lib.hid (fun (V : World) (h : Chg [] W0 V) => (⟨h.keep e0 (by simp), h.keep e9 (by simp), Lib.hid h⟩ : (fun V : World => V.cell? ⟨bx, 0, none⟩ = some (.int .i64 x.k) ∧ V.cell? ⟨bx, 9, none⟩ = some (.int .i64 x.op) ∧ Hid (Chg [] W0 V)) V))
      clear e0 e9
      have hHeld : (fun V : World => V.cell? ⟨bx, 0, none⟩ = some (.int .i64 x.k) ∧ V.cell? ⟨bx, 9, none⟩ = some (.int .i64 x.op) ∧ Hid (Chg [] W0 V)) (World.drew W0) := KEEP.out _ (Chg.refl _ _).drew
      refine wp_region_plan (fun V : World => V.cell? ⟨bx, 0, none⟩ = some (.int .i64 x.k) ∧ V.cell? ⟨bx, 9, none⟩ = some (.int .i64 x.op) ∧ Hid (Chg [] W0 V)) [(0, true, some 11), (1, true, some 12), (2, true, some 13), (3, true, some 14), (4, true, some 15), (5, true, some 16), (6, true, some 17), (7, true, some 18), (8, true, some 19), (9, true, some 20), (10, true, some 21), (11, true, some 22), (12, false, some 23), (13, true, some 24), (14, true, some 25)] (by kernel_rfl) (by kernel_rfl) (by kernel_rfl) (by kernel_rfl) (fun d c a v w h => by cases d <;> exact h) hHeld ?_
      repeat (first
        | (refine planWp_read (v := ?_) rfl rfl ?_ ?_ ?_; rotate_left; (focus rfl); (focus (intro u hSw; (try dsimp only at hSw); go_simp; (try with_reducible rfl))); (try simp only [Act.put, List.setIfInBounds_toArray, List.set_cons_zero, List.set_cons_succ]))
        | (refine planWp_skip rfl rfl ?_ ?_; (focus rfl); (try simp only [Act.put, List.setIfInBounds_toArray, List.set_cons_zero, List.set_cons_succ]))
        | (refine planWp_leave rfl rfl ?_ hHeld ?_; (focus rfl); (try simp only [Act.put, List.setIfInBounds_toArray, List.set_cons_zero, List.set_cons_succ]))
        | (refine planWp_do rfl rfl ?_ (fun K hK => ?_); (focus rfl); go_simp; (try go_wp2_with (go_at_call 36; refine (Writes_c _ _).mono ?_; rintro e wx ⟨rfl, hcx⟩; have HCX := Lib.hid hcx; clear hcx)); refine hK.out _ _ ?_ (fun hHeld2 => ?_); (focus (have hcn := Chg.trans hHeld.2.2.out HCX.out; exact KEEP.out _ hcn)); clear hK K hHeld; have hHeld := hHeld2; clear hHeld2; (try simp only [Act.put, List.setIfInBounds_toArray, List.set_cons_zero, List.set_cons_succ])))
      refine planWp_nil ?_
      have HB1 := Lib.hid (Blk.keep HB0.out hHeld.2.2.out (by simp))
      have HC1 := Lib.hid (HC0.out.fresh hHeld.2.2.out)
      clear hHeld KEEP
      go_wp2_with fail
      go_end0
      exact ⟨rfl, HB1.out, HC1.out⟩
  · rw [show x.ended cd = { x with over := true, code := cd, rcd := .slice none 0 0 } from by simp [ROp.ended, hcd]]
    have hcb : (cd != 0) = true := by simp [hcd]
    have hcb2 : (cd == 0) = false := by simp [hcd]
    clear hcd
    go_enter Try.func70, Try.ntmps70
    go_wp2_with fail
    refine code_gen (R := fun V => Hid (Blk V bx ({ x with over := true, code := cd } : ROp).cells 45) ∧ Hid (Chg [bx] W V)) ⟨Lib.hid ((HB.out.set 39 (.bool true)).set 14 (.int .i64 cd)), Lib.hid (((Chg.refl [bx] W).setCell (.inl (by simp)) _).setCell (.inl (by simp)) _)⟩ ?_
    rintro W0 ⟨HB0, HC0⟩
    have e0 : W0.cell? ⟨bx, 0, none⟩ = some (.int .i64 x.k) := HB0.out.cell rfl
    have e9 : W0.cell? ⟨bx, 9, none⟩ = some (.int .i64 x.op) := HB0.out.cell rfl
    have KEEP := Lib.hid (fun (V : World) (h : Chg [] W0 V) => (⟨h.keep e0 (by simp), h.keep e9 (by simp), Lib.hid h⟩ : (fun V : World => V.cell? ⟨bx, 0, none⟩ = some (.int .i64 x.k) ∧ V.cell? ⟨bx, 9, none⟩ = some (.int .i64 x.op) ∧ Hid (Chg [] W0 V)) V))
    clear e0 e9
    have hHeld : (fun V : World => V.cell? ⟨bx, 0, none⟩ = some (.int .i64 x.k) ∧ V.cell? ⟨bx, 9, none⟩ = some (.int .i64 x.op) ∧ Hid (Chg [] W0 V)) (World.drew W0) := KEEP.out _ (Chg.refl _ _).drew
    refine wp_region_plan (fun V : World => V.cell? ⟨bx, 0, none⟩ = some (.int .i64 x.k) ∧ V.cell? ⟨bx, 9, none⟩ = some (.int .i64 x.op) ∧ Hid (Chg [] W0 V)) [(0, true, some 11), (1, true, some 12), (2, true, some 13), (3, true, some 14), (4, true, some 15), (5, true, some 16), (6, true, some 17), (7, true, some 18), (8, true, some 19), (9, true, some 20), (10, true, some 21), (11, true, some 22), (12, false, some 23), (13, true, some 24), (14, true, some 25)] (by kernel_rfl) (by kernel_rfl) (by kernel_rfl) (by kernel_rfl) (fun d c a v w h => by cases d <;> exact h) hHeld ?_
    repeat (first
      | (refine planWp_read (v := ?_) rfl rfl ?_ ?_ ?_; rotate_left; (focus rfl); (focus (intro u hSw; (try dsimp only at hSw); go_simp; (try with_reducible rfl))); (try simp only [Act.put, List.setIfInBounds_toArray, List.set_cons_zero, List.set_cons_succ]))
      | (refine planWp_skip rfl rfl ?_ ?_; (focus rfl); (try simp only [Act.put, List.setIfInBounds_toArray, List.set_cons_zero, List.set_cons_succ]))
      | (refine planWp_leave rfl rfl ?_ hHeld ?_; (focus rfl); (try simp only [Act.put, List.setIfInBounds_toArray, List.set_cons_zero, List.set_cons_succ]))
      | (refine planWp_do rfl rfl ?_ (fun K hK => ?_); (focus rfl); go_simp; (try go_wp2_with (go_at_call 36; refine (Writes_c _ _).mono ?_; rintro e wx ⟨rfl, hcx⟩; have HCX := Lib.hid hcx; clear hcx)); refine hK.out _ _ ?_ (fun hHeld2 => ?_); (focus (have hcn := Chg.trans hHeld.2.2.out HCX.out; exact KEEP.out _ hcn)); clear hK K hHeld; have hHeld := hHeld2; clear hHeld2; (try simp only [Act.put, List.setIfInBounds_toArray, List.set_cons_zero, List.set_cons_succ])))
    refine planWp_nil ?_
    have HB1 := Lib.hid (Blk.keep HB0.out hHeld.2.2.out (by simp))
    have HC1 := Lib.hid (HC0.out.fresh hHeld.2.2.out)
    clear hHeld KEEP
    have e38 := HB1.out.cell (o := 38) (v := x.rcd) rfl
    have f38 := HB1.out.free 38
    go_wp2_with fail
    go_end0
    exact ⟨rfl, HB1.out.set 38 (.slice none 0 0), HC1.out.setCell (.inl (by simp)) _⟩

end Go.Proofs.Ytjplamoofkcojaa.rop

/- The reference's operation: fail, the words ahead of the records. -/
namespace Go.Proofs.Ytjplamoofkcojaa.rop
open Go Go.RowKit Go.Proofs.Ytjplamoofkcojaa.kit Go.Proofs.Ytjplamoofkcojaa.obj
set_option linter.unusedVariables false
set_option linter.unusedSimpArgs false
set_option maxRecDepth 20000

theorem fail_core (bx : Nat) (x : ROp) (W : World) (h : RAt W bx x) (ht : 0 ≤ x.tries ∧ x.tries ≤ 1000000) :
    Calls Try.prog 73 #[.pointer (some ⟨bx, 0, none⟩)] W fun e W' => e = .returned (.bool (decide (x.c ≤ x.tries + 1))) ∧ RAt W' bx { x with tries := x.tries + 1, rcd := .slice none 0 0, row := 0, i := 0 } ∧ Chg [bx] W W' := by
  have HB : Hid (Blk W bx x.cells 45) := Lib.hid h
  have e13 := HB.out.cell (o := 13) (v := .int .i64 x.tries) rfl
  have f13 := HB.out.free 13
  have e38 : W.cell? ⟨bx, 38, none⟩ = some x.rcd := HB.out.cell rfl
  have f38 := HB.out.free 38
  clear h
  go_enter Try.func73, Try.ntmps73
  go_wp2_with (go_at_call 68; refine (to_any bx { x with tries := x.tries + 1, rcd := .slice none 0 0 } 0 _ ((HB.out.set 13 (.int .i64 (x.tries + 1))).set 38 (.slice none 0 0))).mono ?_; rintro e W0 ⟨rfl, hr, hcx⟩; have HB0 : Hid (Blk W0 bx ({ x with tries := x.tries + 1, rcd := .slice none 0 0, row := 0, i := 0 } : ROp).cells 45) := Lib.hid hr; have HC0 : Hid (Chg [bx] W W0) := Lib.hid ((((Chg.refl [bx] W).setCell (.inl (by simp)) _).setCell (.inl (by simp)) _).trans hcx); clear hr hcx)
  have e13 : W0.cell? ⟨bx, 13, none⟩ = some (.int .i64 (x.tries + 1)) := HB0.out.cell rfl
  have e3 : W0.cell? ⟨bx, 3, none⟩ = some (.int .i64 x.c) := HB0.out.cell rfl
  have KEEP := Lib.hid (fun (V : World) (h : Chg [] W0 V) => (⟨h.keep e13 (by simp), h.keep e3 (by simp), Lib.hid h⟩ : (fun V : World => V.cell? ⟨bx, 13, none⟩ = some (.int .i64 (x.tries + 1)) ∧ V.cell? ⟨bx, 3, none⟩ = some (.int .i64 x.c) ∧ Hid (Chg [] W0 V)) V))
  clear e13 e3
  have hHeld : (fun V : World => V.cell? ⟨bx, 13, none⟩ = some (.int .i64 (x.tries + 1)) ∧ V.cell? ⟨bx, 3, none⟩ = some (.int .i64 x.c) ∧ Hid (Chg [] W0 V)) (World.drew W0) := KEEP.out _ (Chg.refl _ _).drew
  refine wp_region_plan (fun V : World => V.cell? ⟨bx, 13, none⟩ = some (.int .i64 (x.tries + 1)) ∧ V.cell? ⟨bx, 3, none⟩ = some (.int .i64 x.c) ∧ Hid (Chg [] W0 V)) [(0, true, some 15), (1, true, some 16), (2, true, some 17), (3, true, some 18), (4, true, some 19), (5, true, some 20), (6, true, some 21), (7, true, some 22), (8, true, some 23), (9, true, some 24), (10, true, some 2)] (by kernel_rfl) (by kernel_rfl) (by kernel_rfl) (by kernel_rfl) (fun d c a v w h => by cases d <;> exact h) hHeld ?_
  repeat (first
    | (refine planWp_read (v := ?_) rfl rfl ?_ ?_ ?_; rotate_left; (focus rfl); (focus (intro u hSw; (try dsimp only at hSw); go_simp; (try with_reducible rfl))); (try simp only [Act.put, List.setIfInBounds_toArray, List.set_cons_zero, List.set_cons_succ]))
    | (refine planWp_skip rfl rfl ?_ ?_; (focus rfl); (try simp only [Act.put, List.setIfInBounds_toArray, List.set_cons_zero, List.set_cons_succ]))
    | (refine planWp_leave rfl rfl ?_ hHeld ?_; (focus rfl); (try simp only [Act.put, List.setIfInBounds_toArray, List.set_cons_zero, List.set_cons_succ]))
    | (refine planWp_do rfl rfl ?_ (fun K hK => ?_); (focus rfl); go_simp; (try go_wp2_with fail); refine hK.out _ _ ?_ (fun hHeld2 => ?_); (focus (have hcn := Chg.trans hHeld.2.2.out HCX.out; exact KEEP.out _ hcn)); clear hK K hHeld; have hHeld := hHeld2; clear hHeld2; (try simp only [Act.put, List.setIfInBounds_toArray, List.set_cons_zero, List.set_cons_succ])))
  refine planWp_nil ?_
  have HB1 := Lib.hid (Blk.keep HB0.out hHeld.2.2.out (by simp))
  have HC1 := Lib.hid (HC0.out.fresh hHeld.2.2.out)
  clear hHeld KEEP
  go_wp2_with fail
  go_ret
  exact ⟨rfl, HB1.out, HC1.out⟩

def headI (k : Int) (rl : Nat) : Int := if k = 1 then 4 else if k = 2 ∨ k = 5 then 1 + rl else if k = 6 then 2 else 1
set_option maxHeartbeats 4000000 in
theorem Head_any (k w s c st : Int) (ia : Option Addr) (il ic : Nat) (wr : Int) (ra : Option Addr) (rl rc : Nat) (hrl : rl ≤ 100) (W : World) :
    Calls Try.prog 66 #[.agg #[.int .i64 k, .int .i64 w, .int .i64 s, .int .i64 c, .int .u32 st, .slice ia il ic, .int .i64 wr, .slice ra rl rc]] W fun e W' => e = .returned (.int .i64 (headI k rl)) ∧ Chg [] W W' := by
  by_cases h1 : k = 1
  · rw [show headI k rl = 4 from by simp [headI, h1]]
    have b1 : (k == 1) = true := by simpa using h1
    clear h1
    go_enter Try.func66, Try.ntmps66
    go_wp2
    go_ret
    exact ⟨rfl, (Chg.refl _ _).alloc _⟩
  have b1 : (k == 1) = false := by simpa using h1
  by_cases h2 : k = 2
  · rw [show headI k rl = 1 + rl from by simp [headI, h1, h2]]
    have b2 : (k == 2) = true := by simpa using h2
    clear h1 h2
    go_enter Try.func66, Try.ntmps66
    go_wp2
    go_ret
    exact ⟨by rfl, (Chg.refl _ _).alloc _⟩
  have b2 : (k == 2) = false := by simpa using h2
  by_cases h5 : k = 5
  · rw [show headI k rl = 1 + rl from by simp [headI, h1, h2, h5]]
    have b5 : (k == 5) = true := by simpa using h5
    clear h1 h2 h5
    go_enter Try.func66, Try.ntmps66
    go_wp2
    go_ret
    exact ⟨by rfl, (Chg.refl _ _).alloc _⟩
  have b5 : (k == 5) = false := by simpa using h5
  by_cases h6 : k = 6
  · rw [show headI k rl = 2 from by simp [headI, h1, h2, h5, h6]]
    have b6 : (k == 6) = true := by simpa using h6
    clear h1 h2 h5 h6
    go_enter Try.func66, Try.ntmps66
    go_wp2
    go_ret
    exact ⟨rfl, (Chg.refl _ _).alloc _⟩
  have b6 : (k == 6) = false := by simpa using h6
  rw [show headI k rl = 1 from by simp [headI, h1, h2, h5, h6]]
  go_enter Try.func66, Try.ntmps66
  go_wp2
  go_ret
  exact ⟨rfl, (Chg.refl _ _).alloc _⟩
end Go.Proofs.Ytjplamoofkcojaa.rop

/- The reference's operation: a word of the record is written. -/
namespace Go.Proofs.Ytjplamoofkcojaa.rop
open Go Go.RowKit Go.Proofs.Ytjplamoofkcojaa.kit Go.Proofs.Ytjplamoofkcojaa.obj
set_option linter.unusedVariables false
set_option linter.unusedSimpArgs false
set_option maxRecDepth 20000

def LB (W : World) (g : Nat) (ws : List Int) : Prop := Blk W g (ws.map (Value.int .u32)).toArray 22
theorem then_gen {K : Act → World → Prop} {Q : Exit → Act → World → Prop} {e : Exit} {a : Act} {W : World} {R : World → Prop} (hp : R W) (h : ∀ W', R W' → Exit.then K Q e a W') : Exit.then K Q e a W := h W hp
theorem LB.put {W : World} {g : Nat} {ws : List Int} (h : LB W g ws) (j : Nat) (v : Int) : LB (W.setCell ⟨g, j, none⟩ (.int .u32 v)) g (ws.set j v) := by
  have h1 := Blk.set h j (.int .u32 v)
  unfold LB
  rw [List.map_set]
  simpa using h1
theorem wrap64_near {z : Int} (h : -1000000000000 ≤ z ∧ z ≤ 1000000000000) : IntKind.i64.wrap z = z := by rw [IntKind.wrap_i64]; omega
theorem at_val {hd sl w i at_ : Int} (hh : 0 ≤ hd ∧ hd ≤ 200) (hs : 0 ≤ sl ∧ sl ≤ 4294967295) (hw : 1 ≤ w ∧ w ≤ 8) (hi : 0 ≤ i ∧ i ≤ 100) (h : hd + sl * w + i = at_) :
    IntKind.i64.wrap (IntKind.i64.wrap (hd + IntKind.i64.wrap (IntKind.i64.wrap sl * w)) + i) = at_ := by
  have h1 : sl * w ≤ 4294967295 * w := Int.mul_le_mul_of_nonneg_right hs.2 (by omega)
  have h2 : 0 ≤ sl * w := Int.mul_nonneg hs.1 (by omega)
  rw [wrap64_near (z := sl) (by omega), wrap64_near (z := sl * w) (by omega), wrap64_near (z := hd + sl * w) (by omega), wrap64_near (by omega)]
  exact h
theorem head_bd (k : Int) (rl : Nat) (h : rl ≤ 100) : 0 ≤ headI k rl ∧ headI k rl ≤ 200 := by
  unfold headI; repeat' split
  all_goals omega
set_option maxHeartbeats 8000000 in
theorem word_write (bx g rg : Nat) (x : ROp) (sl row : Int) (o m cp iN rn rcap at_ : Nat) (ws : List Int) (rv : Int) (W : World) (h : RAt W bx ({ x with i := (iN : Int), rcd := .slice (some ⟨rg, 0, none⟩) rn rcap } : ROp)) (hl : LB W g ws) (hop : x.op = writesI x.k) (hrl : x.rl ≤ 100)
    (hw : 1 ≤ x.w ∧ x.w ≤ 8) (hi : iN ≤ 100) (hir : iN < rn) (hsl : 0 ≤ sl ∧ sl ≤ 4294967295) (hat : headI x.k x.rl + sl * x.w + iN = (at_ : Int)) (ham : at_ < m) (hmc : m ≤ cp) (hom : o + m ≤ ws.length)
    (hrv : W.cell? ⟨rg, iN, none⟩ = some (.int .u32 rv)) (hne1 : bx ≠ g) (hne2 : ¬ rg = bx) (hne3 : ¬ rg = g) :
    Calls Try.prog 69 #[.pointer (some ⟨bx, 0, none⟩), .slice (some ⟨g, o, none⟩) m cp, .int .u32 sl, .int .i64 row] W fun e W' => e = .returned (.tuple #[]) ∧
      RAt W' bx (if (iN : Int) + 1 < x.w then { ({ x with i := (iN : Int), rcd := .slice (some ⟨rg, 0, none⟩) rn rcap } : ROp) with i := (iN : Int) + 1 } else if row < 0 then ({ ({ x with i := (iN : Int), rcd := .slice (some ⟨rg, 0, none⟩) rn rcap } : ROp) with i := (iN : Int) + 1 } : ROp).ended 0 else { ({ x with i := (iN : Int), rcd := .slice (some ⟨rg, 0, none⟩) rn rcap } : ROp) with row := row, i := 0 }) ∧ LB W' g (ws.set (o + at_) rv) ∧ Chg [bx, g] W W' := by
  have HB0 : Hid (Blk W bx ({ x with i := (iN : Int), rcd := .slice (some ⟨rg, 0, none⟩) rn rcap } : ROp).cells 45) := Lib.hid h
  have HL := Lib.hid hl
  have HRL := Lib.hid hrl
  have HAT := Lib.hid (at_val (head_bd x.k x.rl hrl) hsl hw ⟨by omega, by omega⟩ hat)
  have hob : (x.op == writesI x.k) = true := by simpa using hop
  have HRV := Lib.hid hrv
  have HOM := Lib.hid hom
  have HSL := Lib.hid hsl
  generalize hpost : (if (iN : Int) + 1 < x.w then { ({ x with i := (iN : Int), rcd := .slice (some ⟨rg, 0, none⟩) rn rcap } : ROp) with i := (iN : Int) + 1 } else if row < 0 then ({ ({ x with i := (iN : Int), rcd := .slice (some ⟨rg, 0, none⟩) rn rcap } : ROp) with i := (iN : Int) + 1 } : ROp).ended 0 else { ({ x with i := (iN : Int), rcd := .slice (some ⟨rg, 0, none⟩) rn rcap } : ROp) with row := row, i := 0 }) = yy
  have HPOST := Lib.hid hpost
  clear h hl hat hop hrv hpost hrl hom hsl
  go_enter Try.func69, Try.ntmps69
  go_wp2_with fail
  generalize hWW : W = W0 at *
  have HC0 : Hid (Chg [] W W0) := Lib.hid (by rw [hWW]; exact Chg.refl _ _)
  clear hWW
  have e0 : W0.cell? ⟨bx, 0, none⟩ = some (.int .i64 x.k) := HB0.out.cell rfl
  have e1 : W0.cell? ⟨bx, 1, none⟩ = some (.int .i64 x.w) := HB0.out.cell rfl
  have e2 : W0.cell? ⟨bx, 2, none⟩ = some (.int .i64 x.s) := HB0.out.cell rfl
  have e3 : W0.cell? ⟨bx, 3, none⟩ = some (.int .i64 x.c) := HB0.out.cell rfl
  have e4 : W0.cell? ⟨bx, 4, none⟩ = some (.int .u32 x.st) := HB0.out.cell rfl
  have e5 : W0.cell? ⟨bx, 5, none⟩ = some (.slice x.ia x.il x.ic) := HB0.out.cell rfl
  have e6 : W0.cell? ⟨bx, 6, none⟩ = some (.int .i64 x.wr) := HB0.out.cell rfl
  have e7 : W0.cell? ⟨bx, 7, none⟩ = some (.slice x.ra x.rl x.rc) := HB0.out.cell rfl
  have e12 : W0.cell? ⟨bx, 12, none⟩ = some (.int .i64 (iN : Int)) := HB0.out.cell rfl
  have KEEP := Lib.hid (fun (V : World) (h : Chg [] W0 V) => (⟨h.keep e0 (by simp), h.keep e1 (by simp), h.keep e2 (by simp), h.keep e3 (by simp), h.keep e4 (by simp), h.keep e5 (by simp), h.keep e6 (by simp), h.keep e7 (by simp), h.keep e12 (by simp), Lib.hid h⟩ : (fun V : World => V.cell? ⟨bx, 0, none⟩ = some (.int .i64 x.k) ∧ V.cell? ⟨bx, 1, none⟩ = some (.int .i64 x.w) ∧ V.cell? ⟨bx, 2, none⟩ = some (.int .i64 x.s) ∧ V.cell? ⟨bx, 3, none⟩ = some (.int .i64 x.c) ∧ V.cell? ⟨bx, 4, none⟩ = some (.int .u32 x.st) ∧ V.cell? ⟨bx, 5, none⟩ = some (.slice x.ia x.il x.ic) ∧ V.cell? ⟨bx, 6, none⟩ = some (.int .i64 x.wr) ∧ V.cell? ⟨bx, 7, none⟩ = some (.slice x.ra x.rl x.rc) ∧ V.cell? ⟨bx, 12, none⟩ = some (.int .i64 (iN : Int)) ∧ Hid (Chg [] W0 V)) V))
  clear e0 e1 e2 e3 e4 e5 e6 e7 e12
  have hHeld : (fun V : World => V.cell? ⟨bx, 0, none⟩ = some (.int .i64 x.k) ∧ V.cell? ⟨bx, 1, none⟩ = some (.int .i64 x.w) ∧ V.cell? ⟨bx, 2, none⟩ = some (.int .i64 x.s) ∧ V.cell? ⟨bx, 3, none⟩ = some (.int .i64 x.c) ∧ V.cell? ⟨bx, 4, none⟩ = some (.int .u32 x.st) ∧ V.cell? ⟨bx, 5, none⟩ = some (.slice x.ia x.il x.ic) ∧ V.cell? ⟨bx, 6, none⟩ = some (.int .i64 x.wr) ∧ V.cell? ⟨bx, 7, none⟩ = some (.slice x.ra x.rl x.rc) ∧ V.cell? ⟨bx, 12, none⟩ = some (.int .i64 (iN : Int)) ∧ Hid (Chg [] W0 V)) (World.drew W0) := KEEP.out _ (Chg.refl _ _).drew
  refine wp_region_plan (fun V : World => V.cell? ⟨bx, 0, none⟩ = some (.int .i64 x.k) ∧ V.cell? ⟨bx, 1, none⟩ = some (.int .i64 x.w) ∧ V.cell? ⟨bx, 2, none⟩ = some (.int .i64 x.s) ∧ V.cell? ⟨bx, 3, none⟩ = some (.int .i64 x.c) ∧ V.cell? ⟨bx, 4, none⟩ = some (.int .u32 x.st) ∧ V.cell? ⟨bx, 5, none⟩ = some (.slice x.ia x.il x.ic) ∧ V.cell? ⟨bx, 6, none⟩ = some (.int .i64 x.wr) ∧ V.cell? ⟨bx, 7, none⟩ = some (.slice x.ra x.rl x.rc) ∧ V.cell? ⟨bx, 12, none⟩ = some (.int .i64 (iN : Int)) ∧ Hid (Chg [] W0 V)) [(0, true, some 9), (1, true, some 10), (2, true, some 11), (3, true, some 12), (5, true, some 14), (6, true, some 15), (7, true, some 16), (8, true, some 17), (9, true, some 18), (10, true, some 19), (11, true, some 20), (12, true, some 21), (14, true, some 23), (15, true, some 24), (16, true, some 25), (17, true, some 26), (4, false, some 13), (13, true, some 22), (18, true, some 27), (19, true, some 8)] (by kernel_rfl) (by kernel_rfl) (by kernel_rfl) (by kernel_rfl) (fun d c a v w h => by cases d <;> exact h) hHeld ?_
  repeat (first
    | (refine planWp_read (v := ?_) rfl rfl ?_ ?_ ?_; rotate_left; (focus rfl); (focus (intro u hSw; (try dsimp only at hSw); go_simp; (try with_reducible rfl))); (try simp only [Act.put, List.setIfInBounds_toArray, List.set_cons_zero, List.set_cons_succ]))
    | (refine planWp_skip rfl rfl ?_ ?_; (focus rfl); (try simp only [Act.put, List.setIfInBounds_toArray, List.set_cons_zero, List.set_cons_succ]))
    | (refine planWp_leave rfl rfl ?_ hHeld ?_; (focus rfl); (try simp only [Act.put, List.setIfInBounds_toArray, List.set_cons_zero, List.set_cons_succ]))
    | (refine planWp_do rfl rfl ?_ (fun K hK => ?_); (focus rfl); go_simp; (try go_wp2_with (go_at_call 66; refine (Head_any _ _ _ _ _ _ _ _ _ _ _ _ HRL.out _).mono ?_; rintro e wx ⟨rfl, hcx⟩; have HCX := Lib.hid hcx; clear hcx)); refine hK.out _ _ ?_ (fun hHeld2 => ?_); (focus (have hcn := Chg.trans hHeld.2.2.2.2.2.2.2.2.2.out HCX.out; exact KEEP.out _ hcn)); clear hK K hHeld; have hHeld := hHeld2; clear hHeld2; (try simp only [Act.put, List.setIfInBounds_toArray, List.set_cons_zero, List.set_cons_succ])))
  refine planWp_nil ?_
  rw [HAT.out]
  refine then_gen (R := fun V => Hid (Chg [] W0 V)) (Lib.hid hHeld.2.2.2.2.2.2.2.2.2.out) ?_
  clear hHeld KEEP
  rintro W1 HC1
  have HB1 := Lib.hid (Blk.keep HB0.out HC1.out (by simp))
  go_wp2_with fail
  have e0 : W1.cell? ⟨bx, 0, none⟩ = some (.int .i64 x.k) := HB1.out.cell rfl
  have e9 : W1.cell? ⟨bx, 9, none⟩ = some (.int .i64 x.op) := HB1.out.cell rfl
  have KEEP := Lib.hid (fun (V : World) (h : Chg [] W1 V) => (⟨h.keep e0 (by simp), h.keep e9 (by simp), Lib.hid h⟩ : (fun V : World => V.cell? ⟨bx, 0, none⟩ = some (.int .i64 x.k) ∧ V.cell? ⟨bx, 9, none⟩ = some (.int .i64 x.op) ∧ Hid (Chg [] W1 V)) V))
  clear e0 e9
  have hHeld : (fun V : World => V.cell? ⟨bx, 0, none⟩ = some (.int .i64 x.k) ∧ V.cell? ⟨bx, 9, none⟩ = some (.int .i64 x.op) ∧ Hid (Chg [] W1 V)) (World.drew W1) := KEEP.out _ (Chg.refl _ _).drew
  refine wp_region_plan (fun V : World => V.cell? ⟨bx, 0, none⟩ = some (.int .i64 x.k) ∧ V.cell? ⟨bx, 9, none⟩ = some (.int .i64 x.op) ∧ Hid (Chg [] W1 V)) [(0, true, some 28), (1, true, some 29), (2, true, some 30), (3, true, some 31), (4, true, some 32), (5, true, some 33), (6, true, some 34), (7, true, some 35), (8, true, some 36), (9, false, some 37), (10, true, some 38)] (by kernel_rfl) (by kernel_rfl) (by kernel_rfl) (by kernel_rfl) (fun d c a v w h => by cases d <;> exact h) hHeld ?_
  repeat (first
    | (refine planWp_read (v := ?_) rfl rfl ?_ ?_ ?_; rotate_left; (focus rfl); (focus (intro u hSw; (try dsimp only at hSw); go_simp; (try with_reducible rfl))); (try simp only [Act.put, List.setIfInBounds_toArray, List.set_cons_zero, List.set_cons_succ]))
    | (refine planWp_skip rfl rfl ?_ ?_; (focus rfl); (try simp only [Act.put, List.setIfInBounds_toArray, List.set_cons_zero, List.set_cons_succ]))
    | (refine planWp_leave rfl rfl ?_ hHeld ?_; (focus rfl); (try simp only [Act.put, List.setIfInBounds_toArray, List.set_cons_zero, List.set_cons_succ]))
    | (refine planWp_do rfl rfl ?_ (fun K hK => ?_); (focus rfl); go_simp; (try go_wp2_with (go_at_call 36; refine (Writes_c _ _).mono ?_; rintro e wx ⟨rfl, hcx⟩; have HCX := Lib.hid hcx; clear hcx)); refine hK.out _ _ ?_ (fun hHeld2 => ?_); (focus (have hcn := Chg.trans hHeld.2.2.out HCX.out; exact KEEP.out _ hcn)); clear hK K hHeld; have hHeld := hHeld2; clear hHeld2; (try simp only [Act.put, List.setIfInBounds_toArray, List.set_cons_zero, List.set_cons_succ])))
  refine planWp_nil ?_
  refine then_gen (R := fun V => Hid (Chg [] W1 V)) (Lib.hid hHeld.2.2.out) ?_
  clear hHeld KEEP
  rintro W2 HC2a
  have HC2 := Lib.hid (HC1.out.trans HC2a.out)
  have HB2 := Lib.hid (Blk.keep HB0.out HC2.out (by simp))
  have HL2 : Hid (LB W2 g ws) := Lib.hid (Blk.keep HL.out HC2.out (by simp))
  have HR2 := Lib.hid (HC2.out.keep HRV.out (by simp))
  clear HC2a HB1
  go_wp2_with fail
  refine wp_region_tail 13 (by kernel_rfl) (by kernel_rfl) ?_
  intro W3 hW3
  have HB3 : Hid (Blk W3 bx ({ x with i := (iN : Int), rcd := .slice (some ⟨rg, 0, none⟩) rn rcap } : ROp).cells 45) := Lib.hid (by rw [hW3.out]; exact HB2.out)
  have HL3 : Hid (LB W3 g ws) := Lib.hid (by rw [hW3.out]; exact HL2.out)
  have HC3 : Hid (Chg [] W0 W3) := Lib.hid (by rw [hW3.out]; exact HC2.out.drew)
  have g0 : W3.cell? ⟨rg, iN, none⟩ = some (.int .u32 rv) := by rw [hW3.out]; exact HR2.out
  have e12 : W3.cell? ⟨bx, 12, none⟩ = some (.int .i64 (iN : Int)) := HB3.out.cell rfl
  have f12 := HB3.out.free 12
  have e38 : W3.cell? ⟨bx, 38, none⟩ = some (.slice (some ⟨rg, 0, none⟩) rn rcap) := HB3.out.cell rfl
  have hlt : o + at_ < ws.length := by have := HOM.out; omega
  have g1 : W3.cell? ⟨g, o + at_, none⟩ = some (.int .u32 (ws.getD (o + at_) 0)) := HL3.out.cell (by simp [List.getD, hlt])
  have g2 := HL3.out.free (o + at_)
  have hne1b : ¬ g = bx := fun hh => hne1 hh.symm
  have hne1c : ¬ bx = g := hne1
  clear hlt
  simp only [List.take_succ_cons, List.take_zero, List.drop_succ_cons, List.drop_zero]
  repeat still_step
  refine wpStill_nil ?_
  go_wp2_with fail
  refine code_gen (R := fun V => Hid (Blk V bx ({ ({ x with i := (iN : Int), rcd := .slice (some ⟨rg, 0, none⟩) rn rcap } : ROp) with i := (iN : Int) + 1 } : ROp).cells 45) ∧ Hid (LB V g (ws.set (o + at_) rv)) ∧ Hid (Chg [bx, g] W0 V)) ⟨Lib.hid ((HB3.out.set_ne hne1 _ _ _).set 12 (.int .i64 ((iN : Int) + 1))), Lib.hid (Blk.set_ne (LB.put HL3.out (o + at_) rv) hne1b _ _ _), Lib.hid (((HC3.out.mono (by simp)).setCell (.inl (by simp)) _).setCell (.inl (by simp)) _)⟩ ?_
  clear e12 f12 e38 g0 g1 g2 HB3 HL3 HC3 hW3
  rintro W5 ⟨HB5, HL5, HC5⟩
  by_cases hwi : (iN : Int) + 1 < x.w
  · have hwb : decide ((iN : Int) + 1 < x.w) = true := by simpa using hwi
    have HPP := Lib.hid (HPOST.out.symm.trans (if_pos hwi))
    clear hwi
    have e12 : W5.cell? ⟨bx, 12, none⟩ = some (.int .i64 ((iN : Int) + 1)) := HB5.out.cell rfl
    have e1 : W5.cell? ⟨bx, 1, none⟩ = some (.int .i64 x.w) := HB5.out.cell rfl
    have KEEP := Lib.hid (fun (V : World) (h : Chg [] W5 V) => (⟨h.keep e12 (by simp), h.keep e1 (by simp), Lib.hid h⟩ : (fun V : World => V.cell? ⟨bx, 12, none⟩ = some (.int .i64 ((iN : Int) + 1)) ∧ V.cell? ⟨bx, 1, none⟩ = some (.int .i64 x.w) ∧ Hid (Chg [] W5 V)) V))
    clear e12 e1
    have hHeld : (fun V : World => V.cell? ⟨bx, 12, none⟩ = some (.int .i64 ((iN : Int) + 1)) ∧ V.cell? ⟨bx, 1, none⟩ = some (.int .i64 x.w) ∧ Hid (Chg [] W5 V)) (World.drew W5) := KEEP.out _ (Chg.refl _ _).drew
    refine wp_region_plan (fun V : World => V.cell? ⟨bx, 12, none⟩ = some (.int .i64 ((iN : Int) + 1)) ∧ V.cell? ⟨bx, 1, none⟩ = some (.int .i64 x.w) ∧ Hid (Chg [] W5 V)) [(0, true, some 72), (1, true, some 73), (2, true, some 74), (3, true, some 75), (4, true, some 76), (5, true, some 77), (6, true, some 78), (7, true, some 79), (8, true, some 80), (9, true, some 81)] (by kernel_rfl) (by kernel_rfl) (by kernel_rfl) (by kernel_rfl) (fun d c a v w h => by cases d <;> exact h) hHeld ?_
    repeat (first
      | (refine planWp_read (v := ?_) rfl rfl ?_ ?_ ?_; rotate_left; (focus rfl); (focus (intro u hSw; (try dsimp only at hSw); go_simp; (try with_reducible rfl))); (try simp only [Act.put, List.setIfInBounds_toArray, List.set_cons_zero, List.set_cons_succ]))
      | (refine planWp_skip rfl rfl ?_ ?_; (focus rfl); (try simp only [Act.put, List.setIfInBounds_toArray, List.set_cons_zero, List.set_cons_succ]))
      | (refine planWp_leave rfl rfl ?_ hHeld ?_; (focus rfl); (try simp only [Act.put, List.setIfInBounds_toArray, List.set_cons_zero, List.set_cons_succ]))
      | (refine planWp_do rfl rfl ?_ (fun K hK => ?_); (focus rfl); go_simp; (try go_wp2_with fail); refine hK.out _ _ ?_ (fun hHeld2 => ?_); (focus (have hcn := Chg.trans hHeld.2.2.out HCX.out; exact KEEP.out _ hcn)); clear hK K hHeld; have hHeld := hHeld2; clear hHeld2; (try simp only [Act.put, List.setIfInBounds_toArray, List.set_cons_zero, List.set_cons_succ])))
    refine planWp_nil ?_
    have HC6 := Lib.hid hHeld.2.2.out
    clear hHeld KEEP
    go_wp2_with fail
    refine bodyPost_ret (results_none rfl _ _ _) rfl ?_
    exact ⟨rfl, by rw [HPP.out]; exact HB5.out.keep HC6.out (by simp), Blk.keep HL5.out HC6.out (by simp), (HC0.out.mono (by simp)).trans (HC5.out.fresh HC6.out)⟩
  · have hwb : decide ((iN : Int) + 1 < x.w) = false := by simpa using hwi
    have HPP := Lib.hid (HPOST.out.symm.trans (if_neg hwi))
    clear hwi
    have e12 : W5.cell? ⟨bx, 12, none⟩ = some (.int .i64 ((iN : Int) + 1)) := HB5.out.cell rfl
    have e1 : W5.cell? ⟨bx, 1, none⟩ = some (.int .i64 x.w) := HB5.out.cell rfl
    have KEEP := Lib.hid (fun (V : World) (h : Chg [] W5 V) => (⟨h.keep e12 (by simp), h.keep e1 (by simp), Lib.hid h⟩ : (fun V : World => V.cell? ⟨bx, 12, none⟩ = some (.int .i64 ((iN : Int) + 1)) ∧ V.cell? ⟨bx, 1, none⟩ = some (.int .i64 x.w) ∧ Hid (Chg [] W5 V)) V))
    clear e12 e1
    have hHeld : (fun V : World => V.cell? ⟨bx, 12, none⟩ = some (.int .i64 ((iN : Int) + 1)) ∧ V.cell? ⟨bx, 1, none⟩ = some (.int .i64 x.w) ∧ Hid (Chg [] W5 V)) (World.drew W5) := KEEP.out _ (Chg.refl _ _).drew
    refine wp_region_plan (fun V : World => V.cell? ⟨bx, 12, none⟩ = some (.int .i64 ((iN : Int) + 1)) ∧ V.cell? ⟨bx, 1, none⟩ = some (.int .i64 x.w) ∧ Hid (Chg [] W5 V)) [(0, true, some 72), (1, true, some 73), (2, true, some 74), (3, true, some 75), (4, true, some 76), (5, true, some 77), (6, true, some 78), (7, true, some 79), (8, true, some 80), (9, true, some 81)] (by kernel_rfl) (by kernel_rfl) (by kernel_rfl) (by kernel_rfl) (fun d c a v w h => by cases d <;> exact h) hHeld ?_
    repeat (first
      | (refine planWp_read (v := ?_) rfl rfl ?_ ?_ ?_; rotate_left; (focus rfl); (focus (intro u hSw; (try dsimp only at hSw); go_simp; (try with_reducible rfl))); (try simp only [Act.put, List.setIfInBounds_toArray, List.set_cons_zero, List.set_cons_succ]))
      | (refine planWp_skip rfl rfl ?_ ?_; (focus rfl); (try simp only [Act.put, List.setIfInBounds_toArray, List.set_cons_zero, List.set_cons_succ]))
      | (refine planWp_leave rfl rfl ?_ hHeld ?_; (focus rfl); (try simp only [Act.put, List.setIfInBounds_toArray, List.set_cons_zero, List.set_cons_succ]))
      | (refine planWp_do rfl rfl ?_ (fun K hK => ?_); (focus rfl); go_simp; (try go_wp2_with fail); refine hK.out _ _ ?_ (fun hHeld2 => ?_); (focus (have hcn := Chg.trans hHeld.2.2.out HCX.out; exact KEEP.out _ hcn)); clear hK K hHeld; have hHeld := hHeld2; clear hHeld2; (try simp only [Act.put, List.setIfInBounds_toArray, List.set_cons_zero, List.set_cons_succ])))
    refine planWp_nil ?_
    have HC6 := Lib.hid hHeld.2.2.out
    have HB6 : Hid (Blk _ bx ({ ({ x with i := (iN : Int), rcd := .slice (some ⟨rg, 0, none⟩) rn rcap } : ROp) with i := (iN : Int) + 1 } : ROp).cells 45) := Lib.hid (HB5.out.keep HC6.out (by simp))
    have HL6 := Lib.hid (Blk.keep HL5.out HC6.out (by simp))
    clear hHeld KEEP
    by_cases hrow : row < 0
    · have hrb : decide (row < 0) = true := by simpa using hrow
      have HQQ := Lib.hid (HPP.out.trans (if_pos hrow))
      clear hrow
      go_wp2_with (go_at_call 70; refine (end_any bx _ 0 _ HB6.out).mono ?_; rintro e W7 ⟨rfl, hr7, hc7⟩; have HR7 := Lib.hid hr7; have HC7 := Lib.hid hc7; clear hr7 hc7)
      refine bodyPost_ret (results_none rfl _ _ _) rfl ?_
      exact ⟨rfl, by rw [HQQ.out]; exact HR7.out, Blk.keep HL6.out HC7.out (by simp; exact hne1b), (HC0.out.mono (by simp)).trans ((HC5.out.fresh HC6.out).trans (HC7.out.mono (by simp)))⟩
    · have hrb : decide (row < 0) = false := by simpa using hrow
      have HQQ := Lib.hid (HPP.out.trans (if_neg hrow))
      clear hrow
      go_wp2_with (go_at_call 68; refine (to_any bx _ row _ HB6.out).mono ?_; rintro e W7 ⟨rfl, hr7, hc7⟩; have HR7 := Lib.hid hr7; have HC7 := Lib.hid hc7; clear hr7 hc7)
      go_end0
      exact ⟨rfl, by rw [HQQ.out]; exact HR7.out, Blk.keep HL6.out HC7.out (by simp; exact hne1b), (HC0.out.mono (by simp)).trans ((HC5.out.fresh HC6.out).trans (HC7.out.mono (by simp)))⟩
end Go.Proofs.Ytjplamoofkcojaa.rop

/- The reference's operation: a word of the record is read. -/
namespace Go.Proofs.Ytjplamoofkcojaa.rop
open Go Go.RowKit Go.Proofs.Ytjplamoofkcojaa.kit Go.Proofs.Ytjplamoofkcojaa.obj
set_option linter.unusedVariables false
set_option linter.unusedSimpArgs false
set_option maxRecDepth 20000

theorem info32 : (Try.prog.info? 22).map (fun i => (i.zero, i.size, i.bytes)) = some (some (.int .u32 0), 1, 4) := by kernel_rfl
/-- the record behind one word more, and the operation with it -/
def nextR (x : ROp) (iN : Nat) (row : Int) (v : Value) : ROp :=
  if (iN : Int) + 1 < x.w then { x with i := (iN : Int) + 1, rcd := v } else if row < 0 then { x with i := (iN : Int) + 1, rcd := v, over := true, code := 0 } else { x with row := row, i := 0, rcd := v }
set_option maxHeartbeats 8000000 in
theorem word_read (B bx g : Nat) (x : ROp) (sl row : Int) (o m cp iN rn rcap at_ : Nat) (rp : Option Addr) (ws recs : List Int) (W : World) (h : RAt W bx ({ x with i := (iN : Int), rcd := .slice rp rn rcap } : ROp)) (hl : LB W g ws) (hop : x.op ≠ writesI x.k) (hrl : x.rl ≤ 100)
    (hw : 1 ≤ x.w ∧ x.w ≤ 8) (hi : iN ≤ 100) (hrn : recs.length = rn) (hrn2 : rn ≤ 1000) (hsl : 0 ≤ sl ∧ sl ≤ 4294967295) (hat : headI x.k x.rl + sl * x.w + iN = (at_ : Int)) (ham : at_ < m) (hmc : m ≤ cp) (hom : o + m ≤ ws.length)
    (hB : B ≤ W.heap.size) (hown : W.ownsRow B 22 1 (.slice rp rn rcap) rn (recs.map (Value.int .u32))) (hne1 : bx ≠ g) (hne2 : ∀ y, (Value.slice rp rn rcap).ownBlock = some y → y ≠ bx ∧ y ≠ g) :
    Calls Try.prog 69 #[.pointer (some ⟨bx, 0, none⟩), .slice (some ⟨g, o, none⟩) m cp, .int .u32 sl, .int .i64 row] W fun e W' => ∃ v, e = .returned (.tuple #[]) ∧
      RAt W' bx (nextR x iN row v) ∧ LB W' g ws ∧ W'.ownsRow B 22 1 v (rn + 1) ((recs ++ [ws.getD (o + at_) 0]).map (Value.int .u32)) ∧ (∀ y, v.ownBlock = some y → (Value.slice rp rn rcap).ownBlock = some y ∨ W.heap.size ≤ y) ∧ Chg (bx :: (Value.slice rp rn rcap).ownBlock.toList) W W' := by
  obtain ⟨i0, hi0, hz0, hz1, hz2⟩ := info_parts info32
  have HB0 : Hid (Blk W bx ({ x with i := (iN : Int), rcd := .slice rp rn rcap } : ROp).cells 45) := Lib.hid h
  have HL := Lib.hid hl
  have HRL := Lib.hid hrl
  have HAT := Lib.hid (at_val (head_bd x.k x.rl hrl) hsl hw ⟨by omega, by omega⟩ hat)
  have hob : (x.op == writesI x.k) = false := by simpa using hop
  have HOM := Lib.hid hom
  have HOW := Lib.hid hown
  have HBB := Lib.hid hB
  have HNE2 := Lib.hid hne2
  have HRN := Lib.hid (And.intro hrn hrn2)
  have hnil : ∀ v : Value, (({ x with i := (iN : Int) + 1, rcd := v } : ROp).ended 0) = { x with i := (iN : Int) + 1, rcd := v, over := true, code := 0 } := fun v => by simp [ROp.ended, hop]
  have HNIL := Lib.hid hnil
  clear h hl hat hop hown hrl hom hsl hB hne2 hrn hrn2 hnil
  go_enter Try.func69, Try.ntmps69
  go_wp2_with fail
  generalize hWW : W = W0 at *
  have HC0 : Hid (Chg [] W W0) := Lib.hid (by rw [hWW]; exact Chg.refl _ _)
  have HS0 : Hid (W.heap.size = W0.heap.size) := Lib.hid (by rw [hWW])
  clear hWW
  have e0 : W0.cell? ⟨bx, 0, none⟩ = some (.int .i64 x.k) := HB0.out.cell rfl
  have e1 : W0.cell? ⟨bx, 1, none⟩ = some (.int .i64 x.w) := HB0.out.cell rfl
  have e2 : W0.cell? ⟨bx, 2, none⟩ = some (.int .i64 x.s) := HB0.out.cell rfl
  have e3 : W0.cell? ⟨bx, 3, none⟩ = some (.int .i64 x.c) := HB0.out.cell rfl
  have e4 : W0.cell? ⟨bx, 4, none⟩ = some (.int .u32 x.st) := HB0.out.cell rfl
  have e5 : W0.cell? ⟨bx, 5, none⟩ = some (.slice x.ia x.il x.ic) := HB0.out.cell rfl
  have e6 : W0.cell? ⟨bx, 6, none⟩ = some (.int .i64 x.wr) := HB0.out.cell rfl
  have e7 : W0.cell? ⟨bx, 7, none⟩ = some (.slice x.ra x.rl x.rc) := HB0.out.cell rfl
  have e12 : W0.cell? ⟨bx, 12, none⟩ = some (.int .i64 (iN : Int)) := HB0.out.cell rfl
  have KEEP := Lib.hid (fun (V : World) (h : Chg [] W0 V) => (⟨h.keep e0 (by simp), h.keep e1 (by simp), h.keep e2 (by simp), h.keep e3 (by simp), h.keep e4 (by simp), h.keep e5 (by simp), h.keep e6 (by simp), h.keep e7 (by simp), h.keep e12 (by simp), Lib.hid h⟩ : (fun V : World => V.cell? ⟨bx, 0, none⟩ = some (.int .i64 x.k) ∧ V.cell? ⟨bx, 1, none⟩ = some (.int .i64 x.w) ∧ V.cell? ⟨bx, 2, none⟩ = some (.int .i64 x.s) ∧ V.cell? ⟨bx, 3, none⟩ = some (.int .i64 x.c) ∧ V.cell? ⟨bx, 4, none⟩ = some (.int .u32 x.st) ∧ V.cell? ⟨bx, 5, none⟩ = some (.slice x.ia x.il x.ic) ∧ V.cell? ⟨bx, 6, none⟩ = some (.int .i64 x.wr) ∧ V.cell? ⟨bx, 7, none⟩ = some (.slice x.ra x.rl x.rc) ∧ V.cell? ⟨bx, 12, none⟩ = some (.int .i64 (iN : Int)) ∧ Hid (Chg [] W0 V)) V))
  clear e0 e1 e2 e3 e4 e5 e6 e7 e12
  have hHeld : (fun V : World => V.cell? ⟨bx, 0, none⟩ = some (.int .i64 x.k) ∧ V.cell? ⟨bx, 1, none⟩ = some (.int .i64 x.w) ∧ V.cell? ⟨bx, 2, none⟩ = some (.int .i64 x.s) ∧ V.cell? ⟨bx, 3, none⟩ = some (.int .i64 x.c) ∧ V.cell? ⟨bx, 4, none⟩ = some (.int .u32 x.st) ∧ V.cell? ⟨bx, 5, none⟩ = some (.slice x.ia x.il x.ic) ∧ V.cell? ⟨bx, 6, none⟩ = some (.int .i64 x.wr) ∧ V.cell? ⟨bx, 7, none⟩ = some (.slice x.ra x.rl x.rc) ∧ V.cell? ⟨bx, 12, none⟩ = some (.int .i64 (iN : Int)) ∧ Hid (Chg [] W0 V)) (World.drew W0) := KEEP.out _ (Chg.refl _ _).drew
  refine wp_region_plan (fun V : World => V.cell? ⟨bx, 0, none⟩ = some (.int .i64 x.k) ∧ V.cell? ⟨bx, 1, none⟩ = some (.int .i64 x.w) ∧ V.cell? ⟨bx, 2, none⟩ = some (.int .i64 x.s) ∧ V.cell? ⟨bx, 3, none⟩ = some (.int .i64 x.c) ∧ V.cell? ⟨bx, 4, none⟩ = some (.int .u32 x.st) ∧ V.cell? ⟨bx, 5, none⟩ = some (.slice x.ia x.il x.ic) ∧ V.cell? ⟨bx, 6, none⟩ = some (.int .i64 x.wr) ∧ V.cell? ⟨bx, 7, none⟩ = some (.slice x.ra x.rl x.rc) ∧ V.cell? ⟨bx, 12, none⟩ = some (.int .i64 (iN : Int)) ∧ Hid (Chg [] W0 V)) [(0, true, some 9), (1, true, some 10), (2, true, some 11), (3, true, some 12), (5, true, some 14), (6, true, some 15), (7, true, some 16), (8, true, some 17), (9, true, some 18), (10, true, some 19), (11, true, some 20), (12, true, some 21), (14, true, some 23), (15, true, some 24), (16, true, some 25), (17, true, some 26), (4, false, some 13), (13, true, some 22), (18, true, some 27), (19, true, some 8)] (by kernel_rfl) (by kernel_rfl) (by kernel_rfl) (by kernel_rfl) (fun d c a v w h => by cases d <;> exact h) hHeld ?_
  repeat (first
    | (refine planWp_read (v := ?_) rfl rfl ?_ ?_ ?_; rotate_left; (focus rfl); (focus (intro u hSw; (try dsimp only at hSw); go_simp; (try with_reducible rfl))); (try simp only [Act.put, List.setIfInBounds_toArray, List.set_cons_zero, List.set_cons_succ]))
    | (refine planWp_skip rfl rfl ?_ ?_; (focus rfl); (try simp only [Act.put, List.setIfInBounds_toArray, List.set_cons_zero, List.set_cons_succ]))
    | (refine planWp_leave rfl rfl ?_ hHeld ?_; (focus rfl); (try simp only [Act.put, List.setIfInBounds_toArray, List.set_cons_zero, List.set_cons_succ]))
    | (refine planWp_do rfl rfl ?_ (fun K hK => ?_); (focus rfl); go_simp; (try go_wp2_with (go_at_call 66; refine (Head_any _ _ _ _ _ _ _ _ _ _ _ _ HRL.out _).mono ?_; rintro e wx ⟨rfl, hcx⟩; have HCX := Lib.hid hcx; clear hcx)); refine hK.out _ _ ?_ (fun hHeld2 => ?_); (focus (have hcn := Chg.trans hHeld.2.2.2.2.2.2.2.2.2.out HCX.out; exact KEEP.out _ hcn)); clear hK K hHeld; have hHeld := hHeld2; clear hHeld2; (try simp only [Act.put, List.setIfInBounds_toArray, List.set_cons_zero, List.set_cons_succ])))
  refine planWp_nil ?_
  rw [HAT.out]
  refine then_gen (R := fun V => Hid (Chg [] W0 V)) (Lib.hid hHeld.2.2.2.2.2.2.2.2.2.out) ?_
  clear hHeld KEEP
  rintro W1 HC1
  have HB1 := Lib.hid (Blk.keep HB0.out HC1.out (by simp))
  go_wp2_with fail
  have e0 : W1.cell? ⟨bx, 0, none⟩ = some (.int .i64 x.k) := HB1.out.cell rfl
  have e9 : W1.cell? ⟨bx, 9, none⟩ = some (.int .i64 x.op) := HB1.out.cell rfl
  have KEEP := Lib.hid (fun (V : World) (h : Chg [] W1 V) => (⟨h.keep e0 (by simp), h.keep e9 (by simp), Lib.hid h⟩ : (fun V : World => V.cell? ⟨bx, 0, none⟩ = some (.int .i64 x.k) ∧ V.cell? ⟨bx, 9, none⟩ = some (.int .i64 x.op) ∧ Hid (Chg [] W1 V)) V))
  clear e0 e9
  have hHeld : (fun V : World => V.cell? ⟨bx, 0, none⟩ = some (.int .i64 x.k) ∧ V.cell? ⟨bx, 9, none⟩ = some (.int .i64 x.op) ∧ Hid (Chg [] W1 V)) (World.drew W1) := KEEP.out _ (Chg.refl _ _).drew
  refine wp_region_plan (fun V : World => V.cell? ⟨bx, 0, none⟩ = some (.int .i64 x.k) ∧ V.cell? ⟨bx, 9, none⟩ = some (.int .i64 x.op) ∧ Hid (Chg [] W1 V)) [(0, true, some 28), (1, true, some 29), (2, true, some 30), (3, true, some 31), (4, true, some 32), (5, true, some 33), (6, true, some 34), (7, true, some 35), (8, true, some 36), (9, false, some 37), (10, true, some 38)] (by kernel_rfl) (by kernel_rfl) (by kernel_rfl) (by kernel_rfl) (fun d c a v w h => by cases d <;> exact h) hHeld ?_
  repeat (first
    | (refine planWp_read (v := ?_) rfl rfl ?_ ?_ ?_; rotate_left; (focus rfl); (focus (intro u hSw; (try dsimp only at hSw); go_simp; (try with_reducible rfl))); (try simp only [Act.put, List.setIfInBounds_toArray, List.set_cons_zero, List.set_cons_succ]))
    | (refine planWp_skip rfl rfl ?_ ?_; (focus rfl); (try simp only [Act.put, List.setIfInBounds_toArray, List.set_cons_zero, List.set_cons_succ]))
    | (refine planWp_leave rfl rfl ?_ hHeld ?_; (focus rfl); (try simp only [Act.put, List.setIfInBounds_toArray, List.set_cons_zero, List.set_cons_succ]))
    | (refine planWp_do rfl rfl ?_ (fun K hK => ?_); (focus rfl); go_simp; (try go_wp2_with (go_at_call 36; refine (Writes_c _ _).mono ?_; rintro e wx ⟨rfl, hcx⟩; have HCX := Lib.hid hcx; clear hcx)); refine hK.out _ _ ?_ (fun hHeld2 => ?_); (focus (have hcn := Chg.trans hHeld.2.2.out HCX.out; exact KEEP.out _ hcn)); clear hK K hHeld; have hHeld := hHeld2; clear hHeld2; (try simp only [Act.put, List.setIfInBounds_toArray, List.set_cons_zero, List.set_cons_succ])))
  refine planWp_nil ?_
  refine then_gen (R := fun V => Hid (Chg [] W1 V)) (Lib.hid hHeld.2.2.out) ?_
  clear hHeld KEEP
  rintro W2 HC2a
  have HC2 := Lib.hid (HC1.out.trans HC2a.out)
  have HB2 := Lib.hid (Blk.keep HB0.out HC2.out (by simp))
  have HL2 : Hid (LB W2 g ws) := Lib.hid (Blk.keep HL.out HC2.out (by simp))
  have HO2 := Lib.hid (own_chg HOW.out HC2.out (by simp))
  clear HC2a HB1
  go_wp2_with fail
  obtain ⟨wv, hwv⟩ : ∃ wv, ws.getD (o + at_) 0 = wv := ⟨_, rfl⟩
  have HWV := Lib.hid hwv
  clear hwv
  have hlt : o + at_ < ws.length := by have := HOM.out; omega
  have g1 : W2.cell? ⟨g, o + at_, none⟩ = some (.int .u32 wv) := HL2.out.cell (by rw [← HWV.out]; simp [List.getD, hlt])
  have e38 : W2.cell? ⟨bx, 38, none⟩ = some (.slice rp rn rcap) := HB2.out.cell rfl
  have hnb : bx ∉ (Value.slice rp rn rcap).ownBlock.toList := fun hm => (HNE2.out bx (by simpa using hm)).1 rfl
  have hng : g ∉ (Value.slice rp rn rcap).ownBlock.toList := fun hm => (HNE2.out g (by simpa using hm)).2 rfl
  have KEEP := Lib.hid (fun (V : World) (h : Chg (Value.slice rp rn rcap).ownBlock.toList W2 V) => (⟨h.keep e38 hnb, h.keep g1 hng, Lib.hid h⟩ : (fun V : World => V.cell? ⟨bx, 38, none⟩ = some (.slice rp rn rcap) ∧ V.cell? ⟨g, o + at_, none⟩ = some (.int .u32 wv) ∧ Hid (Chg (Value.slice rp rn rcap).ownBlock.toList W2 V)) V))
  have HNB := Lib.hid hnb
  have HNG := Lib.hid hng
  clear e38 g1 hnb hng hlt
  have hHeld : (fun V : World => V.cell? ⟨bx, 38, none⟩ = some (.slice rp rn rcap) ∧ V.cell? ⟨g, o + at_, none⟩ = some (.int .u32 wv) ∧ Hid (Chg (Value.slice rp rn rcap).ownBlock.toList W2 V)) W2.drew := KEEP.out _ (Chg.refl _ _).drew
  refine wp_region_planT (fun V : World => V.cell? ⟨bx, 38, none⟩ = some (.slice rp rn rcap) ∧ V.cell? ⟨g, o + at_, none⟩ = some (.int .u32 wv) ∧ Hid (Chg (Value.slice rp rn rcap).ownBlock.toList W2 V)) 13 [(0, true, some 52), (1, true, some 53), (2, true, some 54), (3, true, some 55), (4, true, some 56), (5, true, some 57), (6, true, some 58), (7, true, some 59), (8, true, some 60), (9, false, some 61), (10, false, some 62), (11, true, some 63), (12, true, some 64)] (by kernel_rfl) (by kernel_rfl) (by kernel_rfl) (by kernel_rfl) (by kernel_rfl) (fun d c a v w h => by cases d <;> exact h) hHeld ?_
  repeat (refine planT_read (v := ?_) rfl rfl ?_ ?_ ?_; rotate_left; (focus rfl); (focus (intro u hSw; (try dsimp only at hSw); go_simp; (try with_reducible rfl))); (try simp only [Act.put, List.setIfInBounds_toArray, List.set_cons_zero, List.set_cons_succ]))
  refine planT_do rfl rfl ?_ (fun K hK => ?_)
  · rfl
  go_simp
  refine hK.out _ _ (KEEP.out _ (((Chg.refl _ _).alloc _).drew)) (fun hHeld2 => ?_)
  clear hK K hHeld
  try simp only [Act.put, List.setIfInBounds_toArray, List.set_cons_zero, List.set_cons_succ]
  refine planT_do rfl rfl ?_ (fun K hK => ?_)
  · rfl
  have ho10 : ((W2.alloc (.cells #[.int .u32 wv] 22)).drew).ownsRow B 22 1 (.slice rp rn rcap) rn (recs.map (Value.int .u32)) := World.ownsRow.alloc HO2.out _
  have hb10 : ((W2.alloc (.cells #[.int .u32 wv] 22)).drew).cell? ⟨W2.heap.size, 0, none⟩ = some (.int .u32 wv) := (Blk.new W2 #[.int .u32 wv] 22).cell rfl
  refine wp_append_one _ (.tmp 56) (.tmp 61) 23 rfl B 22 i0 (.int .u32 0) 4 Try.underlying23 hi0 hz0 hz1 hz2 rfl (.slice rp rn rcap) rn _ rfl ho10 W2.heap.size (.int .u32 wv) rfl hb10 rfl (by have := HRN.out; unfold maxLen; omega) (by have := HRN.out; omega) (by have := HBB.out; have := HS0.out; have := HC2.out.size; simp; omega) ?_
  intro v3 w3 hown3 hg3 hb3
  obtain ⟨a3, c3, rfl, _⟩ := reads_slice (Reads.of_own hown3 (by decide))
  have HC3 : Hid (Chg (Value.slice rp rn rcap).ownBlock.toList W2 w3) := Lib.hid ((((Chg.refl _ W2).alloc _).drew).grown hg3 (fun y hy => .inl (by rw [hy]; simp)))
  have HO3 := Lib.hid hown3
  have HV3 : Hid (∀ y, (Value.slice a3 (rn + 1) c3).ownBlock = some y → (Value.slice rp rn rcap).ownBlock = some y ∨ W2.heap.size ≤ y) := Lib.hid (fun y hy => by rcases hb3 y hy with hh | hh; exact .inl hh; right; simp at hh; omega)
  clear hown3 hg3 hb3 ho10 hb10 hHeld2
  refine hK.out _ _ (KEEP.out _ HC3.out) (fun hHeld => ?_)
  clear hK K
  try simp only [Act.put, List.setIfInBounds_toArray, List.set_cons_zero, List.set_cons_succ]
  repeat (refine planT_read (v := ?_) rfl rfl ?_ ?_ ?_; rotate_left; (focus rfl); (focus (intro u hSw; (try dsimp only at hSw); go_simp; (try with_reducible rfl))); (try simp only [Act.put, List.setIfInBounds_toArray, List.set_cons_zero, List.set_cons_succ]))
  have HB3 := Lib.hid (Blk.keep HB2.out HC3.out HNB.out)
  have e38 : w3.cell? ⟨bx, 38, none⟩ = some (.slice rp rn rcap) := HB3.out.cell rfl
  have f38 := HB3.out.free 38
  refine planT_last rfl ?_ (fun K hK => ?_)
  · rfl
  go_simp
  refine hK.out _ _ ?_
  clear hK K e38 f38 hHeld KEEP
  have HL3 : Hid (LB w3 g ws) := Lib.hid (Blk.keep HL2.out HC3.out HNG.out)
  have hvb : ∀ y, (Value.slice a3 (rn + 1) c3).ownBlock = some y → y ≠ bx := fun y hy => by
    rcases HV3.out y hy with hh | hh
    · exact (HNE2.out y hh).1
    · have := HB2.out.lt; omega
  have hne1b : ¬ g = bx := fun hh => hne1 hh.symm
  refine then_gen (R := fun V => Hid (Blk V bx ({ x with i := (iN : Int), rcd := (Value.slice a3 (rn + 1) c3) } : ROp).cells 45) ∧ Hid (LB V g ws) ∧ Hid (V.ownsRow B 22 1 (Value.slice a3 (rn + 1) c3) (rn + 1) (recs.map (Value.int .u32) ++ [.int .u32 wv])) ∧ Hid (Chg (bx :: (Value.slice rp rn rcap).ownBlock.toList) W0 V))
    ⟨Lib.hid (HB3.out.set 38 (Value.slice a3 (rn + 1) c3)), Lib.hid (Blk.set_ne HL3.out hne1b _ _ _), Lib.hid (own_chg HO3.out ((Chg.refl [bx] w3).setCell (.inl (by simp)) _) (fun y hy => by simp; exact hvb y hy)), Lib.hid (((HC2.out.mono (by simp)).trans (HC3.out.mono (by simp; intro y hy; exact .inr hy))).setCell (.inl (by simp)) _)⟩ ?_
  rintro W4 ⟨HB4, HL4, HO4, HC4⟩
  have HVB := Lib.hid hvb
  clear hvb
  have e12 : W4.cell? ⟨bx, 12, none⟩ = some (.int .i64 (iN : Int)) := HB4.out.cell rfl
  have f12 := HB4.out.free 12
  go_wp2_with fail
  refine code_gen (R := fun V => Hid (Blk V bx ({ x with i := (iN : Int) + 1, rcd := (Value.slice a3 (rn + 1) c3) } : ROp).cells 45) ∧ Hid (LB V g ws) ∧ Hid (V.ownsRow B 22 1 (Value.slice a3 (rn + 1) c3) (rn + 1) (recs.map (Value.int .u32) ++ [.int .u32 wv])) ∧ Hid (Chg (bx :: (Value.slice rp rn rcap).ownBlock.toList) W0 V))
    ⟨Lib.hid (HB4.out.set 12 (.int .i64 ((iN : Int) + 1))), Lib.hid (Blk.set_ne HL4.out hne1b _ _ _), Lib.hid (own_chg HO4.out ((Chg.refl [bx] W4).setCell (.inl (by simp)) _) (fun y hy => by simp; exact HVB.out y hy)), Lib.hid (HC4.out.setCell (.inl (by simp)) _)⟩ ?_
  clear e12 f12
  rintro W5 ⟨HB5, HL5, HO5, HC5⟩
  have HLAST : Hid (∀ y, (Value.slice a3 (rn + 1) c3).ownBlock = some y → (Value.slice rp rn rcap).ownBlock = some y ∨ W.heap.size ≤ y) := Lib.hid (fun y hy => by
    rcases HV3.out y hy with hh | hh
    · exact .inl hh
    · right; have := HS0.out; have := HC2.out.size; omega)
  have HMAP : Hid (recs.map (Value.int .u32) ++ [.int .u32 wv] = (recs ++ [ws.getD (o + at_) 0]).map (Value.int .u32)) := Lib.hid (by rw [HWV.out]; simp)
  by_cases hwi : (iN : Int) + 1 < x.w
  · have hwb : decide ((iN : Int) + 1 < x.w) = true := by simpa using hwi
    have HPP : Hid (nextR x iN row (Value.slice a3 (rn + 1) c3) = { x with i := (iN : Int) + 1, rcd := (Value.slice a3 (rn + 1) c3) }) := Lib.hid (if_pos hwi)
    clear hwi
    have e12 : W5.cell? ⟨bx, 12, none⟩ = some (.int .i64 ((iN : Int) + 1)) := HB5.out.cell rfl
    have e1 : W5.cell? ⟨bx, 1, none⟩ = some (.int .i64 x.w) := HB5.out.cell rfl
    have KEEP := Lib.hid (fun (V : World) (h : Chg [] W5 V) => (⟨h.keep e12 (by simp), h.keep e1 (by simp), Lib.hid h⟩ : (fun V : World => V.cell? ⟨bx, 12, none⟩ = some (.int .i64 ((iN : Int) + 1)) ∧ V.cell? ⟨bx, 1, none⟩ = some (.int .i64 x.w) ∧ Hid (Chg [] W5 V)) V))
    clear e12 e1
    have hHeld : (fun V : World => V.cell? ⟨bx, 12, none⟩ = some (.int .i64 ((iN : Int) + 1)) ∧ V.cell? ⟨bx, 1, none⟩ = some (.int .i64 x.w) ∧ Hid (Chg [] W5 V)) (World.drew W5) := KEEP.out _ (Chg.refl _ _).drew
    refine wp_region_plan (fun V : World => V.cell? ⟨bx, 12, none⟩ = some (.int .i64 ((iN : Int) + 1)) ∧ V.cell? ⟨bx, 1, none⟩ = some (.int .i64 x.w) ∧ Hid (Chg [] W5 V)) [(0, true, some 72), (1, true, some 73), (2, true, some 74), (3, true, some 75), (4, true, some 76), (5, true, some 77), (6, true, some 78), (7, true, some 79), (8, true, some 80), (9, true, some 81)] (by kernel_rfl) (by kernel_rfl) (by kernel_rfl) (by kernel_rfl) (fun d c a v w h => by cases d <;> exact h) hHeld ?_
    repeat (first
      | (refine planWp_read (v := ?_) rfl rfl ?_ ?_ ?_; rotate_left; (focus rfl); (focus (intro u hSw; (try dsimp only at hSw); go_simp; (try with_reducible rfl))); (try simp only [Act.put, List.setIfInBounds_toArray, List.set_cons_zero, List.set_cons_succ]))
      | (refine planWp_skip rfl rfl ?_ ?_; (focus rfl); (try simp only [Act.put, List.setIfInBounds_toArray, List.set_cons_zero, List.set_cons_succ]))
      | (refine planWp_leave rfl rfl ?_ hHeld ?_; (focus rfl); (try simp only [Act.put, List.setIfInBounds_toArray, List.set_cons_zero, List.set_cons_succ]))
      | (refine planWp_do rfl rfl ?_ (fun K hK => ?_); (focus rfl); go_simp; (try go_wp2_with fail); refine hK.out _ _ ?_ (fun hHeld2 => ?_); (focus (have hcn := Chg.trans hHeld.2.2.out HCX.out; exact KEEP.out _ hcn)); clear hK K hHeld; have hHeld := hHeld2; clear hHeld2; (try simp only [Act.put, List.setIfInBounds_toArray, List.set_cons_zero, List.set_cons_succ])))
    refine planWp_nil ?_
    have HC6 := Lib.hid hHeld.2.2.out
    clear hHeld KEEP
    go_wp2_with fail
    refine bodyPost_ret (results_none rfl _ _ _) rfl ?_
    exact ⟨(Value.slice a3 (rn + 1) c3), rfl, by rw [HPP.out]; exact HB5.out.keep HC6.out (by simp), Blk.keep HL5.out HC6.out (by simp), by rw [← HMAP.out]; exact own_chg HO5.out HC6.out (by simp), HLAST.out, (HC0.out.mono (by simp)).trans (HC5.out.fresh HC6.out)⟩
  · have hwb : decide ((iN : Int) + 1 < x.w) = false := by simpa using hwi
    have HWI := Lib.hid hwi
    clear hwi
    have e12 : W5.cell? ⟨bx, 12, none⟩ = some (.int .i64 ((iN : Int) + 1)) := HB5.out.cell rfl
    have e1 : W5.cell? ⟨bx, 1, none⟩ = some (.int .i64 x.w) := HB5.out.cell rfl
    have KEEP := Lib.hid (fun (V : World) (h : Chg [] W5 V) => (⟨h.keep e12 (by simp), h.keep e1 (by simp), Lib.hid h⟩ : (fun V : World => V.cell? ⟨bx, 12, none⟩ = some (.int .i64 ((iN : Int) + 1)) ∧ V.cell? ⟨bx, 1, none⟩ = some (.int .i64 x.w) ∧ Hid (Chg [] W5 V)) V))
    clear e12 e1
    have hHeld : (fun V : World => V.cell? ⟨bx, 12, none⟩ = some (.int .i64 ((iN : Int) + 1)) ∧ V.cell? ⟨bx, 1, none⟩ = some (.int .i64 x.w) ∧ Hid (Chg [] W5 V)) (World.drew W5) := KEEP.out _ (Chg.refl _ _).drew
    refine wp_region_plan (fun V : World => V.cell? ⟨bx, 12, none⟩ = some (.int .i64 ((iN : Int) + 1)) ∧ V.cell? ⟨bx, 1, none⟩ = some (.int .i64 x.w) ∧ Hid (Chg [] W5 V)) [(0, true, some 72), (1, true, some 73), (2, true, some 74), (3, true, some 75), (4, true, some 76), (5, true, some 77), (6, true, some 78), (7, true, some 79), (8, true, some 80), (9, true, some 81)] (by kernel_rfl) (by kernel_rfl) (by kernel_rfl) (by kernel_rfl) (fun d c a v w h => by cases d <;> exact h) hHeld ?_
    repeat (first
      | (refine planWp_read (v := ?_) rfl rfl ?_ ?_ ?_; rotate_left; (focus rfl); (focus (intro u hSw; (try dsimp only at hSw); go_simp; (try with_reducible rfl))); (try simp only [Act.put, List.setIfInBounds_toArray, List.set_cons_zero, List.set_cons_succ]))
      | (refine planWp_skip rfl rfl ?_ ?_; (focus rfl); (try simp only [Act.put, List.setIfInBounds_toArray, List.set_cons_zero, List.set_cons_succ]))
      | (refine planWp_leave rfl rfl ?_ hHeld ?_; (focus rfl); (try simp only [Act.put, List.setIfInBounds_toArray, List.set_cons_zero, List.set_cons_succ]))
      | (refine planWp_do rfl rfl ?_ (fun K hK => ?_); (focus rfl); go_simp; (try go_wp2_with fail); refine hK.out _ _ ?_ (fun hHeld2 => ?_); (focus (have hcn := Chg.trans hHeld.2.2.out HCX.out; exact KEEP.out _ hcn)); clear hK K hHeld; have hHeld := hHeld2; clear hHeld2; (try simp only [Act.put, List.setIfInBounds_toArray, List.set_cons_zero, List.set_cons_succ])))
    refine planWp_nil ?_
    have HC6 := Lib.hid hHeld.2.2.out
    have HB6 : Hid (Blk _ bx ({ x with i := (iN : Int) + 1, rcd := (Value.slice a3 (rn + 1) c3) } : ROp).cells 45) := Lib.hid (HB5.out.keep HC6.out (by simp))
    have HL6 := Lib.hid (Blk.keep HL5.out HC6.out (by simp))
    have HO6 := Lib.hid (own_chg HO5.out HC6.out (by simp))
    clear hHeld KEEP
    by_cases hrow : row < 0
    · have hrb : decide (row < 0) = true := by simpa using hrow
      have HQQ : Hid (nextR x iN row (Value.slice a3 (rn + 1) c3) = { x with i := (iN : Int) + 1, rcd := (Value.slice a3 (rn + 1) c3), over := true, code := 0 }) := Lib.hid (by unfold nextR; rw [if_neg HWI.out, if_pos hrow])
      clear hrow
      go_wp2_with (go_at_call 70; refine (end_any bx _ 0 _ HB6.out).mono ?_; rintro e W7 ⟨rfl, hr7, hc7⟩; have HR7 := Lib.hid hr7; have HC7 := Lib.hid hc7; clear hr7 hc7)
      refine bodyPost_ret (results_none rfl _ _ _) rfl ?_
      exact ⟨(Value.slice a3 (rn + 1) c3), rfl, by rw [HQQ.out, ← HNIL.out (Value.slice a3 (rn + 1) c3)]; exact HR7.out, Blk.keep HL6.out HC7.out (by simp; exact hne1b), by rw [← HMAP.out]; exact own_chg HO6.out HC7.out (fun y hy => by simp; exact HVB.out y hy), HLAST.out, (HC0.out.mono (by simp)).trans ((HC5.out.fresh HC6.out).trans (HC7.out.mono (by simp)))⟩
    · have hrb : decide (row < 0) = false := by simpa using hrow
      have HQQ : Hid (nextR x iN row (Value.slice a3 (rn + 1) c3) = { x with row := row, i := 0, rcd := (Value.slice a3 (rn + 1) c3) }) := Lib.hid (by unfold nextR; rw [if_neg HWI.out, if_neg hrow])
      clear hrow
      go_wp2_with (go_at_call 68; refine (to_any bx _ row _ HB6.out).mono ?_; rintro e W7 ⟨rfl, hr7, hc7⟩; have HR7 := Lib.hid hr7; have HC7 := Lib.hid hc7; clear hr7 hc7)
      go_end0
      exact ⟨(Value.slice a3 (rn + 1) c3), rfl, by rw [HQQ.out]; exact HR7.out, Blk.keep HL6.out HC7.out (by simp; exact hne1b), by rw [← HMAP.out]; exact own_chg HO6.out HC7.out (fun y hy => by simp; exact HVB.out y hy), HLAST.out, (HC0.out.mono (by simp)).trans ((HC5.out.fresh HC6.out).trans (HC7.out.mono (by simp)))⟩
end Go.Proofs.Ytjplamoofkcojaa.rop
