/- The reference's operation: its words in memory; to, end, fail. -/
import Derived.Test.YtbbpnpokccfhjaaObj2
namespace Go.Proofs.Ytbbpnpokccfhjaa.rop
open Go Go.RowKit Go.Proofs.Ytbbpnpokccfhjaa.kit Go.Proofs.Ytbbpnpokccfhjaa.obj
set_option linter.unusedVariables false
set_option maxRecDepth 20000

/-- an operation as the reference has it -/
structure ROp where
  k : Int
  w : Int
  s : Int
  c : Int
  st : Int
  ia : Option Addr
  il : Nat
  ic : Nat
  wr : Int
  ra : Option Addr
  rl : Nat
  rc : Nat
  at_ : Int
  op : Int
  reader : Int
  row : Int
  i : Int
  tries : Int
  code : Int
  steps : Int
  a : Int
  b : Int
  u : Nat → Bool
  rcd : Value
  over : Bool
def ROp.cells (x : ROp) : Array Value := #[.int .i64 x.k, .int .i64 x.w, .int .i64 x.s, .int .i64 x.c, .int .u32 x.st, .slice x.ia x.il x.ic, .int .i64 x.wr, .slice x.ra x.rl x.rc, .int .i64 x.at_, .int .i64 x.op, .int .i64 x.reader, .int .i64 x.row, .int .i64 x.i, .int .i64 x.tries, .int .i64 x.code, .int .i64 x.steps, .int .u32 x.a, .int .u32 x.b, .bool (x.u 0), .bool (x.u 1), .bool (x.u 2), .bool (x.u 3), .bool (x.u 4), .bool (x.u 5), .bool (x.u 6), .bool (x.u 7), .bool (x.u 8), .bool (x.u 9), .bool (x.u 10), .bool (x.u 11), .bool (x.u 12), .bool (x.u 13), .bool (x.u 14), .bool (x.u 15), .bool (x.u 16), .bool (x.u 17), .bool (x.u 18), .bool (x.u 19), x.rcd, .bool x.over]
def RAt (W : World) (bx : Nat) (x : ROp) : Prop := Blk W bx x.cells 62

set_option maxHeartbeats 2000000 in
theorem to_any (bx : Nat) (x : ROp) (r : Int) (W : World) (h : RAt W bx x) :
    Calls Try.prog 94 #[.pointer (some ⟨bx, 0, none⟩), .int .i64 r] W fun e W' => e = .returned (.tuple #[]) ∧ RAt W' bx { x with row := r, i := 0 } ∧ Chg [bx] W W' := by
  have HB : Hid (Blk W bx x.cells 62) := Lib.hid h
  have e11 := HB.out.cell (o := 11) (v := .int .i64 x.row) rfl
  have e12 := HB.out.cell (o := 12) (v := .int .i64 x.i) rfl
  have f11 := HB.out.free 11
  have f12 := HB.out.free 12
  clear h
  go_enter Try.func94, Try.ntmps94
  go_wp2
  go_end0
  exact ⟨rfl, (HB.out.set 11 (.int .i64 r)).set 12 (.int .i64 0), ((Chg.refl [bx] W).setCell (.inl (by simp)) _).setCell (.inl (by simp)) _⟩

theorem code_gen {C : Code} {P : Program} {Q : Exit → Act → World → Prop} {a : Act} {W : World} {R : World → Prop} (hp : R W) (h : ∀ W', R W' → C.wp P Q a W') : C.wp P Q a W := h W hp
theorem Writes_c (k : Int) (W : World) : Calls Try.prog 54 #[.int .i64 k] W fun e W' => e = .returned (.int .i64 (writesI k)) ∧ Chg [] W W' :=
  (rWrites_any k W).mono (by rintro e W' ⟨rfl, rfl⟩; exact ⟨rfl, Chg.refl _ _⟩)

def ROp.ended (x : ROp) (cd : Int) : ROp := { x with over := true, code := cd, rcd := if cd ≠ 0 ∨ x.op = writesI x.k then .slice none 0 0 else x.rcd }
set_option maxHeartbeats 4000000 in
theorem end_any (bx : Nat) (x : ROp) (cd : Int) (W : World) (h : RAt W bx x) :
    Calls Try.prog 96 #[.pointer (some ⟨bx, 0, none⟩), .int .i64 cd] W fun e W' => e = .returned (.tuple #[]) ∧ RAt W' bx (x.ended cd) ∧ Chg [bx] W W' := by
  have HB : Hid (Blk W bx x.cells 62) := Lib.hid h
  have e14 := HB.out.cell (o := 14) (v := .int .i64 x.code) rfl
  have f14 := HB.out.free 14
  have e39 := HB.out.cell (o := 39) (v := .bool x.over) rfl
  have f39 := HB.out.free 39
  clear h
  by_cases hcd : cd = 0
  · subst hcd
    by_cases hop : x.op = writesI x.k
    · rw [show x.ended 0 = { x with over := true, code := 0, rcd := .slice none 0 0 } from by simp [ROp.ended, hop]]
      have hob : (x.op == writesI x.k) = true := by simpa using hop
      clear hop
      go_enter Try.func96, Try.ntmps96
      go_wp2_with fail
      refine code_gen (R := fun V => Hid (Blk V bx ({ x with over := true, code := 0 } : ROp).cells 62) ∧ Hid (Chg [bx] W V)) ⟨Lib.hid ((HB.out.set 39 (.bool true)).set 14 (.int .i64 0)), Lib.hid (((Chg.refl [bx] W).setCell (.inl (by simp)) _).setCell (.inl (by simp)) _)⟩ ?_
      rintro W0 ⟨HB0, HC0⟩
      have e0 : W0.cell? ⟨bx, 0, none⟩ = some (.int .i64 x.k) := HB0.out.cell rfl
      have e9 : W0.cell? ⟨bx, 9, none⟩ = some (.int .i64 x.op) := HB0.out.cell rfl
      have KEEP := Lib.hid (fun (V : World) (h : Chg [] W0 V) => (⟨h.keep e0 (by simp), h.keep e9 (by simp), Lib.hid h⟩ : (fun V : World => V.cell? ⟨bx, 0, none⟩ = some (.int .i64 x.k) ∧ V.cell? ⟨bx, 9, none⟩ = some (.int .i64 x.op) ∧ Hid (Chg [] W0 V)) V))
      clear e0 e9
      have hHeld : (fun V : World => V.cell? ⟨bx, 0, none⟩ = some (.int .i64 x.k) ∧ V.cell? ⟨bx, 9, none⟩ = some (.int .i64 x.op) ∧ Hid (Chg [] W0 V)) (World.drew W0) := KEEP.out _ (Chg.refl _ _).drew
      refine wp_region_plan (fun V : World => V.cell? ⟨bx, 0, none⟩ = some (.int .i64 x.k) ∧ V.cell? ⟨bx, 9, none⟩ = some (.int .i64 x.op) ∧ Hid (Chg [] W0 V)) [(0, true, some 11), (1, true, some 12), (2, true, some 13), (3, true, some 14), (4, true, some 15), (5, true, some 16), (6, true, some 17), (7, true, some 18), (8, true, some 19), (9, true, some 20), (10, true, some 21), (11, true, some 22), (12, false, some 23), (13, true, some 24), (14, true, some 25)] (by kernel_rfl) (by kernel_rfl) (by kernel_rfl) (by kernel_rfl) (fun d c a v w h => by cases d <;> exact h) hHeld ?_
      repeat (first
        | (refine planWp_read (v := ?_) rfl rfl ?_ ?_ ?_; rotate_left; (focus rfl); (focus (intro u hSw; (try dsimp only at hSw); go_simp; (try with_reducible rfl))); (try simp only [Act.put, List.setIfInBounds_toArray, List.set_cons_zero, List.set_cons_succ]))
        | (refine planWp_skip rfl rfl ?_ ?_; (focus rfl); (try simp only [Act.put, List.setIfInBounds_toArray, List.set_cons_zero, List.set_cons_succ]))
        | (refine planWp_leave rfl rfl ?_ hHeld ?_; (focus rfl); (try simp only [Act.put, List.setIfInBounds_toArray, List.set_cons_zero, List.set_cons_succ]))
        | (refine planWp_do rfl rfl ?_ (fun K hK => ?_); (focus rfl); go_simp; (try go_wp2_with (go_at_call 54; refine (Writes_c _ _).mono ?_; rintro e wx ⟨rfl, hcx⟩; have HCX := Lib.hid hcx; clear hcx)); refine hK.out _ _ ?_ (fun hHeld2 => ?_); (focus (have hcn := Chg.trans hHeld.2.2.out HCX.out; exact KEEP.out _ hcn)); clear hK K hHeld; have hHeld := hHeld2; clear hHeld2; (try simp only [Act.put, List.setIfInBounds_toArray, List.set_cons_zero, List.set_cons_succ])))
      refine planWp_nil ?_
      have HB1 := Lib.hid (Blk.keep HB0.out hHeld.2.2.out (by simp))
      have HC1 := Lib.hid (HC0.out.fresh hHeld.2.2.out)
      clear hHeld KEEP
      have e38 := HB1.out.cell (o := 38) (v := x.rcd) rfl
      have f38 := HB1.out.free 38
      go_wp2_with fail
      go_end0
      exact ⟨rfl, HB1.out.set 38 (.slice none 0 0), HC1.out.setCell (.inl (by simp)) _⟩
    · rw [show x.ended 0 = { x with over := true, code := 0 } from by simp [ROp.ended, hop]]
      have hob : (x.op == writesI x.k) = false := by simpa using hop
      clear hop
      go_enter Try.func96, Try.ntmps96
      go_wp2_with fail
      refine code_gen (R := fun V => Hid (Blk V bx ({ x with over := true, code := 0 } : ROp).cells 62) ∧ Hid (Chg [bx] W V)) ⟨Lib.hid ((HB.out.set 39 (.bool true)).set 14 (.int .i64 0)), Lib.hid (((Chg.refl [bx] W).setCell (.inl (by simp)) _).setCell (.inl (by simp)) _)⟩ ?_
      rintro W0 ⟨HB0, HC0⟩
      have e0 : W0.cell? ⟨bx, 0, none⟩ = some (.int .i64 x.k) := HB0.out.cell rfl
      have e9 : W0.cell? ⟨bx, 9, none⟩ = some (.int .i64 x.op) := HB0.out.cell rfl
      have KEEP := Lib.hid (fun (V : World) (h : Chg [] W0 V) => (⟨h.keep e0 (by simp), h.keep e9 (by simp), Lib.hid h⟩ : (fun V : World => V.cell? ⟨bx, 0, none⟩ = some (.int .i64 x.k) ∧ V.cell? ⟨bx, 9, none⟩ = some (.int .i64 x.op) ∧ Hid (Chg [] W0 V)) V))
      clear e0 e9
      have hHeld : (fun V : World => V.cell? ⟨bx, 0, none⟩ = some (.int .i64 x.k) ∧ V.cell? ⟨bx, 9, none⟩ = some (.int .i64 x.op) ∧ Hid (Chg [] W0 V)) (World.drew W0) := KEEP.out _ (Chg.refl _ _).drew
      refine wp_region_plan (fun V : World => V.cell? ⟨bx, 0, none⟩ = some (.int .i64 x.k) ∧ V.cell? ⟨bx, 9, none⟩ = some (.int .i64 x.op) ∧ Hid (Chg [] W0 V)) [(0, true, some 11), (1, true, some 12), (2, true, some 13), (3, true, some 14), (4, true, some 15), (5, true, some 16), (6, true, some 17), (7, true, some 18), (8, true, some 19), (9, true, some 20), (10, true, some 21), (11, true, some 22), (12, false, some 23), (13, true, some 24), (14, true, some 25)] (by kernel_rfl) (by kernel_rfl) (by kernel_rfl) (by kernel_rfl) (fun d c a v w h => by cases d <;> exact h) hHeld ?_
      repeat (first
        | (refine planWp_read (v := ?_) rfl rfl ?_ ?_ ?_; rotate_left; (focus rfl); (focus (intro u hSw; (try dsimp only at hSw); go_simp; (try with_reducible rfl))); (try simp only [Act.put, List.setIfInBounds_toArray, List.set_cons_zero, List.set_cons_succ]))
        | (refine planWp_skip rfl rfl ?_ ?_; (focus rfl); (try simp only [Act.put, List.setIfInBounds_toArray, List.set_cons_zero, List.set_cons_succ]))
        | (refine planWp_leave rfl rfl ?_ hHeld ?_; (focus rfl); (try simp only [Act.put, List.setIfInBounds_toArray, List.set_cons_zero, List.set_cons_succ]))
        | (refine planWp_do rfl rfl ?_ (fun K hK => ?_); (focus rfl); go_simp; (try go_wp2_with (go_at_call 54; refine (Writes_c _ _).mono ?_; rintro e wx ⟨rfl, hcx⟩; have HCX := Lib.hid hcx; clear hcx)); refine hK.out _ _ ?_ (fun hHeld2 => ?_); (focus (have hcn := Chg.trans hHeld.2.2.out HCX.out; exact KEEP.out _ hcn)); clear hK K hHeld; have hHeld := hHeld2; clear hHeld2; (try simp only [Act.put, List.setIfInBounds_toArray, List.set_cons_zero, List.set_cons_succ])))
      refine planWp_nil ?_
      have HB1 := Lib.hid (Blk.keep HB0.out hHeld.2.2.out (by simp))
      have HC1 := Lib.hid (HC0.out.fresh hHeld.2.2.out)
      clear hHeld KEEP
      go_wp2_with fail
      go_end0
      exact ⟨rfl, HB1.out, HC1.out⟩
  · rw [show x.ended cd = { x with over := true, code := cd, rcd := .slice none 0 0 } from by simp [ROp.ended, hcd]]
    have hcb : (cd != 0) = true := by simp [hcd]
    have hcb2 : (cd == 0) = false := by simp [hcd]
    clear hcd
    go_enter Try.func96, Try.ntmps96
    go_wp2_with fail
    refine code_gen (R := fun V => Hid (Blk V bx ({ x with over := true, code := cd } : ROp).cells 62) ∧ Hid (Chg [bx] W V)) ⟨Lib.hid ((HB.out.set 39 (.bool true)).set 14 (.int .i64 cd)), Lib.hid (((Chg.refl [bx] W).setCell (.inl (by simp)) _).setCell (.inl (by simp)) _)⟩ ?_
    rintro W0 ⟨HB0, HC0⟩
    have e0 : W0.cell? ⟨bx, 0, none⟩ = some (.int .i64 x.k) := HB0.out.cell rfl
    have e9 : W0.cell? ⟨bx, 9, none⟩ = some (.int .i64 x.op) := HB0.out.cell rfl
    have KEEP := Lib.hid (fun (V : World) (h : Chg [] W0 V) => (⟨h.keep e0 (by simp), h.keep e9 (by simp), Lib.hid h⟩ : (fun V : World => V.cell? ⟨bx, 0, none⟩ = some (.int .i64 x.k) ∧ V.cell? ⟨bx, 9, none⟩ = some (.int .i64 x.op) ∧ Hid (Chg [] W0 V)) V))
    clear e0 e9
    have hHeld : (fun V : World => V.cell? ⟨bx, 0, none⟩ = some (.int .i64 x.k) ∧ V.cell? ⟨bx, 9, none⟩ = some (.int .i64 x.op) ∧ Hid (Chg [] W0 V)) (World.drew W0) := KEEP.out _ (Chg.refl _ _).drew
    refine wp_region_plan (fun V : World => V.cell? ⟨bx, 0, none⟩ = some (.int .i64 x.k) ∧ V.cell? ⟨bx, 9, none⟩ = some (.int .i64 x.op) ∧ Hid (Chg [] W0 V)) [(0, true, some 11), (1, true, some 12), (2, true, some 13), (3, true, some 14), (4, true, some 15), (5, true, some 16), (6, true, some 17), (7, true, some 18), (8, true, some 19), (9, true, some 20), (10, true, some 21), (11, true, some 22), (12, false, some 23), (13, true, some 24), (14, true, some 25)] (by kernel_rfl) (by kernel_rfl) (by kernel_rfl) (by kernel_rfl) (fun d c a v w h => by cases d <;> exact h) hHeld ?_
    repeat (first
      | (refine planWp_read (v := ?_) rfl rfl ?_ ?_ ?_; rotate_left; (focus rfl); (focus (intro u hSw; (try dsimp only at hSw); go_simp; (try with_reducible rfl))); (try simp only [Act.put, List.setIfInBounds_toArray, List.set_cons_zero, List.set_cons_succ]))
      | (refine planWp_skip rfl rfl ?_ ?_; (focus rfl); (try simp only [Act.put, List.setIfInBounds_toArray, List.set_cons_zero, List.set_cons_succ]))
      | (refine planWp_leave rfl rfl ?_ hHeld ?_; (focus rfl); (try simp only [Act.put, List.setIfInBounds_toArray, List.set_cons_zero, List.set_cons_succ]))
      | (refine planWp_do rfl rfl ?_ (fun K hK => ?_); (focus rfl); go_simp; (try go_wp2_with (go_at_call 54; refine (Writes_c _ _).mono ?_; rintro e wx ⟨rfl, hcx⟩; have HCX := Lib.hid hcx; clear hcx)); refine hK.out _ _ ?_ (fun hHeld2 => ?_); (focus (have hcn := Chg.trans hHeld.2.2.out HCX.out; exact KEEP.out _ hcn)); clear hK K hHeld; have hHeld := hHeld2; clear hHeld2; (try simp only [Act.put, List.setIfInBounds_toArray, List.set_cons_zero, List.set_cons_succ])))
    refine planWp_nil ?_
    have HB1 := Lib.hid (Blk.keep HB0.out hHeld.2.2.out (by simp))
    have HC1 := Lib.hid (HC0.out.fresh hHeld.2.2.out)
    clear hHeld KEEP
    have e38 := HB1.out.cell (o := 38) (v := x.rcd) rfl
    have f38 := HB1.out.free 38
    go_wp2_with fail
    go_end0
    exact ⟨rfl, HB1.out.set 38 (.slice none 0 0), HC1.out.setCell (.inl (by simp)) _⟩

end Go.Proofs.Ytbbpnpokccfhjaa.rop
