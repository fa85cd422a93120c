/- The reference's operation: a word of the record is written. -/
import Derived.Test.YtbbpnpokccfhjaaRop2
namespace Go.Proofs.Ytbbpnpokccfhjaa.rop
open Go Go.RowKit Go.Proofs.Ytbbpnpokccfhjaa.kit Go.Proofs.Ytbbpnpokccfhjaa.obj
set_option linter.unusedVariables false
set_option maxRecDepth 20000

def LB (W : World) (g : Nat) (ws : List Int) : Prop := Blk W g (ws.map (Value.int .u32)).toArray 22
theorem then_gen {K : Act → World → Prop} {Q : Exit → Act → World → Prop} {e : Exit} {a : Act} {W : World} {R : World → Prop} (hp : R W) (h : ∀ W', R W' → Exit.then K Q e a W') : Exit.then K Q e a W := h W hp
theorem LB.put {W : World} {g : Nat} {ws : List Int} (h : LB W g ws) (j : Nat) (v : Int) : LB (W.setCell ⟨g, j, none⟩ (.int .u32 v)) g (ws.set j v) := by
  have h1 := Blk.set h j (.int .u32 v)
  unfold LB
  rw [List.map_set]
  simpa using h1
theorem wrap64_near {z : Int} (h : -1000000000000 ≤ z ∧ z ≤ 1000000000000) : IntKind.i64.wrap z = z := by rw [IntKind.wrap_i64]; omega
theorem at_val {hd sl w i at_ : Int} (hh : 0 ≤ hd ∧ hd ≤ 200) (hs : 0 ≤ sl ∧ sl ≤ 4294967295) (hw : 1 ≤ w ∧ w ≤ 8) (hi : 0 ≤ i ∧ i ≤ 100) (h : hd + sl * w + i = at_) :
    IntKind.i64.wrap (IntKind.i64.wrap (hd + IntKind.i64.wrap (IntKind.i64.wrap sl * w)) + i) = at_ := by
  have h1 : sl * w ≤ 4294967295 * w := Int.mul_le_mul_of_nonneg_right hs.2 (by omega)
  have h2 : 0 ≤ sl * w := Int.mul_nonneg hs.1 (by omega)
  rw [wrap64_near (z := sl) (by omega), wrap64_near (z := sl * w) (by omega), wrap64_near (z := hd + sl * w) (by omega), wrap64_near (by omega)]
  exact h
theorem head_bd (k : Int) (rl : Nat) (h : rl ≤ 100) : 0 ≤ headI k rl ∧ headI k rl ≤ 200 := by
  unfold headI; repeat' split
  all_goals omega
set_option maxHeartbeats 8000000 in
theorem word_write (bx g rg : Nat) (x : ROp) (sl row : Int) (o m cp iN rn rcap at_ : Nat) (ws : List Int) (rv : Int) (W : World) (h : RAt W bx ({ x with i := (iN : Int), rcd := .slice (some ⟨rg, 0, none⟩) rn rcap } : ROp)) (hl : LB W g ws) (hop : x.op = writesI x.k) (hrl : x.rl ≤ 100)
    (hw : 1 ≤ x.w ∧ x.w ≤ 8) (hi : iN ≤ 100) (hir : iN < rn) (hsl : 0 ≤ sl ∧ sl ≤ 4294967295) (hat : headI x.k x.rl + sl * x.w + iN = (at_ : Int)) (ham : at_ < m) (hmc : m ≤ cp) (hom : o + m ≤ ws.length)
    (hrv : W.cell? ⟨rg, iN, none⟩ = some (.int .u32 rv)) (hne1 : bx ≠ g) (hne2 : ¬ rg = bx) (hne3 : ¬ rg = g) :
    Calls Try.prog 95 #[.pointer (some ⟨bx, 0, none⟩), .slice (some ⟨g, o, none⟩) m cp, .int .u32 sl, .int .i64 row] W fun e W' => e = .returned (.tuple #[]) ∧
      RAt W' bx (if (iN : Int) + 1 < x.w then { ({ x with i := (iN : Int), rcd := .slice (some ⟨rg, 0, none⟩) rn rcap } : ROp) with i := (iN : Int) + 1 } else if row < 0 then ({ ({ x with i := (iN : Int), rcd := .slice (some ⟨rg, 0, none⟩) rn rcap } : ROp) with i := (iN : Int) + 1 } : ROp).ended 0 else { ({ x with i := (iN : Int), rcd := .slice (some ⟨rg, 0, none⟩) rn rcap } : ROp) with row := row, i := 0 }) ∧ LB W' g (ws.set (o + at_) rv) ∧ Chg [bx, g] W W' := by
  have HB0 : Hid (Blk W bx ({ x with i := (iN : Int), rcd := .slice (some ⟨rg, 0, none⟩) rn rcap } : ROp).cells 62) := Lib.hid h
  have HL := Lib.hid hl
  have HRL := Lib.hid hrl
  have HAT := Lib.hid (at_val (head_bd x.k x.rl hrl) hsl hw ⟨by omega, by omega⟩ hat)
  have hob : (x.op == writesI x.k) = true := by simpa using hop
  have HRV := Lib.hid hrv
  have HOM := Lib.hid hom
  have HSL := Lib.hid hsl
  generalize hpost : (if (iN : Int) + 1 < x.w then { ({ x with i := (iN : Int), rcd := .slice (some ⟨rg, 0, none⟩) rn rcap } : ROp) with i := (iN : Int) + 1 } else if row < 0 then ({ ({ x with i := (iN : Int), rcd := .slice (some ⟨rg, 0, none⟩) rn rcap } : ROp) with i := (iN : Int) + 1 } : ROp).ended 0 else { ({ x with i := (iN : Int), rcd := .slice (some ⟨rg, 0, none⟩) rn rcap } : ROp) with row := row, i := 0 }) = yy
  have HPOST := Lib.hid hpost
  clear h hl hat hop hrv hpost hrl hom hsl
  go_enter Try.func95, Try.ntmps95
  go_wp2_with fail
  generalize hWW : W = W0 at *
  have HC0 : Hid (Chg [] W W0) := Lib.hid (by rw [hWW]; exact Chg.refl _ _)
  clear hWW
  have e0 : W0.cell? ⟨bx, 0, none⟩ = some (.int .i64 x.k) := HB0.out.cell rfl
  have e1 : W0.cell? ⟨bx, 1, none⟩ = some (.int .i64 x.w) := HB0.out.cell rfl
  have e2 : W0.cell? ⟨bx, 2, none⟩ = some (.int .i64 x.s) := HB0.out.cell rfl
  have e3 : W0.cell? ⟨bx, 3, none⟩ = some (.int .i64 x.c) := HB0.out.cell rfl
  have e4 : W0.cell? ⟨bx, 4, none⟩ = some (.int .u32 x.st) := HB0.out.cell rfl
  have e5 : W0.cell? ⟨bx, 5, none⟩ = some (.slice x.ia x.il x.ic) := HB0.out.cell rfl
  have e6 : W0.cell? ⟨bx, 6, none⟩ = some (.int .i64 x.wr) := HB0.out.cell rfl
  have e7 : W0.cell? ⟨bx, 7, none⟩ = some (.slice x.ra x.rl x.rc) := HB0.out.cell rfl
  have e12 : W0.cell? ⟨bx, 12, none⟩ = some (.int .i64 (iN : Int)) := HB0.out.cell rfl
  have KEEP := Lib.hid (fun (V : World) (h : Chg [] W0 V) => (⟨h.keep e0 (by simp), h.keep e1 (by simp), h.keep e2 (by simp), h.keep e3 (by simp), h.keep e4 (by simp), h.keep e5 (by simp), h.keep e6 (by simp), h.keep e7 (by simp), h.keep e12 (by simp), Lib.hid h⟩ : (fun V : World => V.cell? ⟨bx, 0, none⟩ = some (.int .i64 x.k) ∧ V.cell? ⟨bx, 1, none⟩ = some (.int .i64 x.w) ∧ V.cell? ⟨bx, 2, none⟩ = some (.int .i64 x.s) ∧ V.cell? ⟨bx, 3, none⟩ = some (.int .i64 x.c) ∧ V.cell? ⟨bx, 4, none⟩ = some (.int .u32 x.st) ∧ V.cell? ⟨bx, 5, none⟩ = some (.slice x.ia x.il x.ic) ∧ V.cell? ⟨bx, 6, none⟩ = some (.int .i64 x.wr) ∧ V.cell? ⟨bx, 7, none⟩ = some (.slice x.ra x.rl x.rc) ∧ V.cell? ⟨bx, 12, none⟩ = some (.int .i64 (iN : Int)) ∧ Hid (Chg [] W0 V)) V))
  clear e0 e1 e2 e3 e4 e5 e6 e7 e12
  have hHeld : (fun V : World => V.cell? ⟨bx, 0, none⟩ = some (.int .i64 x.k) ∧ V.cell? ⟨bx, 1, none⟩ = some (.int .i64 x.w) ∧ V.cell? ⟨bx, 2, none⟩ = some (.int .i64 x.s) ∧ V.cell? ⟨bx, 3, none⟩ = some (.int .i64 x.c) ∧ V.cell? ⟨bx, 4, none⟩ = some (.int .u32 x.st) ∧ V.cell? ⟨bx, 5, none⟩ = some (.slice x.ia x.il x.ic) ∧ V.cell? ⟨bx, 6, none⟩ = some (.int .i64 x.wr) ∧ V.cell? ⟨bx, 7, none⟩ = some (.slice x.ra x.rl x.rc) ∧ V.cell? ⟨bx, 12, none⟩ = some (.int .i64 (iN : Int)) ∧ Hid (Chg [] W0 V)) (World.drew W0) := KEEP.out _ (Chg.refl _ _).drew
  refine wp_region_plan (fun V : World => V.cell? ⟨bx, 0, none⟩ = some (.int .i64 x.k) ∧ V.cell? ⟨bx, 1, none⟩ = some (.int .i64 x.w) ∧ V.cell? ⟨bx, 2, none⟩ = some (.int .i64 x.s) ∧ V.cell? ⟨bx, 3, none⟩ = some (.int .i64 x.c) ∧ V.cell? ⟨bx, 4, none⟩ = some (.int .u32 x.st) ∧ V.cell? ⟨bx, 5, none⟩ = some (.slice x.ia x.il x.ic) ∧ V.cell? ⟨bx, 6, none⟩ = some (.int .i64 x.wr) ∧ V.cell? ⟨bx, 7, none⟩ = some (.slice x.ra x.rl x.rc) ∧ V.cell? ⟨bx, 12, none⟩ = some (.int .i64 (iN : Int)) ∧ Hid (Chg [] W0 V)) [(0, true, some 9), (1, true, some 10), (2, true, some 11), (3, true, some 12), (5, true, some 14), (6, true, some 15), (7, true, some 16), (8, true, some 17), (9, true, some 18), (10, true, some 19), (11, true, some 20), (12, true, some 21), (14, true, some 23), (15, true, some 24), (16, true, some 25), (17, true, some 26), (4, false, some 13), (13, true, some 22), (18, true, some 27), (19, true, some 8)] (by kernel_rfl) (by kernel_rfl) (by kernel_rfl) (by kernel_rfl) (fun d c a v w h => by cases d <;> exact h) hHeld ?_
  repeat (first
    | (refine planWp_read (v := ?_) rfl rfl ?_ ?_ ?_; rotate_left; (focus rfl); (focus (intro u hSw; (try dsimp only at hSw); go_simp; (try with_reducible rfl))); (try simp only [Act.put, List.setIfInBounds_toArray, List.set_cons_zero, List.set_cons_succ]))
    | (refine planWp_skip rfl rfl ?_ ?_; (focus rfl); (try simp only [Act.put, List.setIfInBounds_toArray, List.set_cons_zero, List.set_cons_succ]))
    | (refine planWp_leave rfl rfl ?_ hHeld ?_; (focus rfl); (try simp only [Act.put, List.setIfInBounds_toArray, List.set_cons_zero, List.set_cons_succ]))
    | (refine planWp_do rfl rfl ?_ (fun K hK => ?_); (focus rfl); go_simp; (try go_wp2_with (go_at_call 52; refine (Head_any _ _ _ _ _ _ _ _ _ _ _ _ HRL.out _).mono ?_; rintro e wx ⟨rfl, hcx⟩; have HCX := Lib.hid hcx; clear hcx)); refine hK.out _ _ ?_ (fun hHeld2 => ?_); (focus (have hcn := Chg.trans hHeld.2.2.2.2.2.2.2.2.2.out HCX.out; exact KEEP.out _ hcn)); clear hK K hHeld; have hHeld := hHeld2; clear hHeld2; (try simp only [Act.put, List.setIfInBounds_toArray, List.set_cons_zero, List.set_cons_succ])))
  refine planWp_nil ?_
  rw [HAT.out]
  refine then_gen (R := fun V => Hid (Chg [] W0 V)) (Lib.hid hHeld.2.2.2.2.2.2.2.2.2.out) ?_
  clear hHeld KEEP
  rintro W1 HC1
  have HB1 := Lib.hid (Blk.keep HB0.out HC1.out (by simp))
  go_wp2_with fail
  have e0 : W1.cell? ⟨bx, 0, none⟩ = some (.int .i64 x.k) := HB1.out.cell rfl
  have e9 : W1.cell? ⟨bx, 9, none⟩ = some (.int .i64 x.op) := HB1.out.cell rfl
  have KEEP := Lib.hid (fun (V : World) (h : Chg [] W1 V) => (⟨h.keep e0 (by simp), h.keep e9 (by simp), Lib.hid h⟩ : (fun V : World => V.cell? ⟨bx, 0, none⟩ = some (.int .i64 x.k) ∧ V.cell? ⟨bx, 9, none⟩ = some (.int .i64 x.op) ∧ Hid (Chg [] W1 V)) V))
  clear e0 e9
  have hHeld : (fun V : World => V.cell? ⟨bx, 0, none⟩ = some (.int .i64 x.k) ∧ V.cell? ⟨bx, 9, none⟩ = some (.int .i64 x.op) ∧ Hid (Chg [] W1 V)) (World.drew W1) := KEEP.out _ (Chg.refl _ _).drew
  refine wp_region_plan (fun V : World => V.cell? ⟨bx, 0, none⟩ = some (.int .i64 x.k) ∧ V.cell? ⟨bx, 9, none⟩ = some (.int .i64 x.op) ∧ Hid (Chg [] W1 V)) [(0, true, some 28), (1, true, some 29), (2, true, some 30), (3, true, some 31), (4, true, some 32), (5, true, some 33), (6, true, some 34), (7, true, some 35), (8, true, some 36), (9, false, some 37), (10, true, some 38)] (by kernel_rfl) (by kernel_rfl) (by kernel_rfl) (by kernel_rfl) (fun d c a v w h => by cases d <;> exact h) hHeld ?_
  repeat (first
    | (refine planWp_read (v := ?_) rfl rfl ?_ ?_ ?_; rotate_left; (focus rfl); (focus (intro u hSw; (try dsimp only at hSw); go_simp; (try with_reducible rfl))); (try simp only [Act.put, List.setIfInBounds_toArray, List.set_cons_zero, List.set_cons_succ]))
    | (refine planWp_skip rfl rfl ?_ ?_; (focus rfl); (try simp only [Act.put, List.setIfInBounds_toArray, List.set_cons_zero, List.set_cons_succ]))
    | (refine planWp_leave rfl rfl ?_ hHeld ?_; (focus rfl); (try simp only [Act.put, List.setIfInBounds_toArray, List.set_cons_zero, List.set_cons_succ]))
    | (refine planWp_do rfl rfl ?_ (fun K hK => ?_); (focus rfl); go_simp; (try go_wp2_with (go_at_call 54; refine (Writes_c _ _).mono ?_; rintro e wx ⟨rfl, hcx⟩; have HCX := Lib.hid hcx; clear hcx)); refine hK.out _ _ ?_ (fun hHeld2 => ?_); (focus (have hcn := Chg.trans hHeld.2.2.out HCX.out; exact KEEP.out _ hcn)); clear hK K hHeld; have hHeld := hHeld2; clear hHeld2; (try simp only [Act.put, List.setIfInBounds_toArray, List.set_cons_zero, List.set_cons_succ])))
  refine planWp_nil ?_
  refine then_gen (R := fun V => Hid (Chg [] W1 V)) (Lib.hid hHeld.2.2.out) ?_
  clear hHeld KEEP
  rintro W2 HC2a
  have HC2 := Lib.hid (HC1.out.trans HC2a.out)
  have HB2 := Lib.hid (Blk.keep HB0.out HC2.out (by simp))
  have HL2 : Hid (LB W2 g ws) := Lib.hid (Blk.keep HL.out HC2.out (by simp))
  have HR2 := Lib.hid (HC2.out.keep HRV.out (by simp))
  clear HC2a HB1
  go_wp2_with fail
  refine wp_region_tail 13 (by kernel_rfl) (by kernel_rfl) ?_
  intro W3 hW3
  have HB3 : Hid (Blk W3 bx ({ x with i := (iN : Int), rcd := .slice (some ⟨rg, 0, none⟩) rn rcap } : ROp).cells 62) := Lib.hid (by rw [hW3.out]; exact HB2.out)
  have HL3 : Hid (LB W3 g ws) := Lib.hid (by rw [hW3.out]; exact HL2.out)
  have HC3 : Hid (Chg [] W0 W3) := Lib.hid (by rw [hW3.out]; exact HC2.out.drew)
  have g0 : W3.cell? ⟨rg, iN, none⟩ = some (.int .u32 rv) := by rw [hW3.out]; exact HR2.out
  have e12 : W3.cell? ⟨bx, 12, none⟩ = some (.int .i64 (iN : Int)) := HB3.out.cell rfl
  have f12 := HB3.out.free 12
  have e38 : W3.cell? ⟨bx, 38, none⟩ = some (.slice (some ⟨rg, 0, none⟩) rn rcap) := HB3.out.cell rfl
  have hlt : o + at_ < ws.length := by have := HOM.out; omega
  have g1 : W3.cell? ⟨g, o + at_, none⟩ = some (.int .u32 (ws.getD (o + at_) 0)) := HL3.out.cell (by simp [List.getD, hlt])
  have g2 := HL3.out.free (o + at_)
  have hne1b : ¬ g = bx := fun hh => hne1 hh.symm
  have hne1c : ¬ bx = g := hne1
  clear hlt
  simp only [List.take_succ_cons, List.take_zero, List.drop_succ_cons, List.drop_zero]
  repeat still_step
  refine wpStill_nil ?_
  go_wp2_with fail
  refine code_gen (R := fun V => Hid (Blk V bx ({ ({ x with i := (iN : Int), rcd := .slice (some ⟨rg, 0, none⟩) rn rcap } : ROp) with i := (iN : Int) + 1 } : ROp).cells 62) ∧ Hid (LB V g (ws.set (o + at_) rv)) ∧ Hid (Chg [bx, g] W0 V)) ⟨Lib.hid ((HB3.out.set_ne hne1 _ _ _).set 12 (.int .i64 ((iN : Int) + 1))), Lib.hid (Blk.set_ne (LB.put HL3.out (o + at_) rv) hne1b _ _ _), Lib.hid (((HC3.out.mono (by simp)).setCell (.inl (by simp)) _).setCell (.inl (by simp)) _)⟩ ?_
  clear e12 f12 e38 g0 g1 g2 HB3 HL3 HC3 hW3
  rintro W5 ⟨HB5, HL5, HC5⟩
  by_cases hwi : (iN : Int) + 1 < x.w
  · have hwb : decide ((iN : Int) + 1 < x.w) = true := by simpa using hwi
    have HPP := Lib.hid (HPOST.out.symm.trans (if_pos hwi))
    clear hwi
    have e12 : W5.cell? ⟨bx, 12, none⟩ = some (.int .i64 ((iN : Int) + 1)) := HB5.out.cell rfl
    have e1 : W5.cell? ⟨bx, 1, none⟩ = some (.int .i64 x.w) := HB5.out.cell rfl
    have KEEP := Lib.hid (fun (V : World) (h : Chg [] W5 V) => (⟨h.keep e12 (by simp), h.keep e1 (by simp), Lib.hid h⟩ : (fun V : World => V.cell? ⟨bx, 12, none⟩ = some (.int .i64 ((iN : Int) + 1)) ∧ V.cell? ⟨bx, 1, none⟩ = some (.int .i64 x.w) ∧ Hid (Chg [] W5 V)) V))
    clear e12 e1
    have hHeld : (fun V : World => V.cell? ⟨bx, 12, none⟩ = some (.int .i64 ((iN : Int) + 1)) ∧ V.cell? ⟨bx, 1, none⟩ = some (.int .i64 x.w) ∧ Hid (Chg [] W5 V)) (World.drew W5) := KEEP.out _ (Chg.refl _ _).drew
    refine wp_region_plan (fun V : World => V.cell? ⟨bx, 12, none⟩ = some (.int .i64 ((iN : Int) + 1)) ∧ V.cell? ⟨bx, 1, none⟩ = some (.int .i64 x.w) ∧ Hid (Chg [] W5 V)) [(0, true, some 72), (1, true, some 73), (2, true, some 74), (3, true, some 75), (4, true, some 76), (5, true, some 77), (6, true, some 78), (7, true, some 79), (8, true, some 80), (9, true, some 81)] (by kernel_rfl) (by kernel_rfl) (by kernel_rfl) (by kernel_rfl) (fun d c a v w h => by cases d <;> exact h) hHeld ?_
    repeat (first
      | (refine planWp_read (v := ?_) rfl rfl ?_ ?_ ?_; rotate_left; (focus rfl); (focus (intro u hSw; (try dsimp only at hSw); go_simp; (try with_reducible rfl))); (try simp only [Act.put, List.setIfInBounds_toArray, List.set_cons_zero, List.set_cons_succ]))
      | (refine planWp_skip rfl rfl ?_ ?_; (focus rfl); (try simp only [Act.put, List.setIfInBounds_toArray, List.set_cons_zero, List.set_cons_succ]))
      | (refine planWp_leave rfl rfl ?_ hHeld ?_; (focus rfl); (try simp only [Act.put, List.setIfInBounds_toArray, List.set_cons_zero, List.set_cons_succ]))
      | (refine planWp_do rfl rfl ?_ (fun K hK => ?_); (focus rfl); go_simp; (try go_wp2_with fail); refine hK.out _ _ ?_ (fun hHeld2 => ?_); (focus (have hcn := Chg.trans hHeld.2.2.out HCX.out; exact KEEP.out _ hcn)); clear hK K hHeld; have hHeld := hHeld2; clear hHeld2; (try simp only [Act.put, List.setIfInBounds_toArray, List.set_cons_zero, List.set_cons_succ])))
    refine planWp_nil ?_
    have HC6 := Lib.hid hHeld.2.2.out
    clear hHeld KEEP
    go_wp2_with fail
    refine bodyPost_ret (results_none rfl _ _ _) rfl ?_
    exact ⟨rfl, by rw [HPP.out]; exact HB5.out.keep HC6.out (by simp), Blk.keep HL5.out HC6.out (by simp), (HC0.out.mono (by simp)).trans (HC5.out.fresh HC6.out)⟩
  · have hwb : decide ((iN : Int) + 1 < x.w) = false := by simpa using hwi
    have HPP := Lib.hid (HPOST.out.symm.trans (if_neg hwi))
    clear hwi
    have e12 : W5.cell? ⟨bx, 12, none⟩ = some (.int .i64 ((iN : Int) + 1)) := HB5.out.cell rfl
    have e1 : W5.cell? ⟨bx, 1, none⟩ = some (.int .i64 x.w) := HB5.out.cell rfl
    have KEEP := Lib.hid (fun (V : World) (h : Chg [] W5 V) => (⟨h.keep e12 (by simp), h.keep e1 (by simp), Lib.hid h⟩ : (fun V : World => V.cell? ⟨bx, 12, none⟩ = some (.int .i64 ((iN : Int) + 1)) ∧ V.cell? ⟨bx, 1, none⟩ = some (.int .i64 x.w) ∧ Hid (Chg [] W5 V)) V))
    clear e12 e1
    have hHeld : (fun V : World => V.cell? ⟨bx, 12, none⟩ = some (.int .i64 ((iN : Int) + 1)) ∧ V.cell? ⟨bx, 1, none⟩ = some (.int .i64 x.w) ∧ Hid (Chg [] W5 V)) (World.drew W5) := KEEP.out _ (Chg.refl _ _).drew
    refine wp_region_plan (fun V : World => V.cell? ⟨bx, 12, none⟩ = some (.int .i64 ((iN : Int) + 1)) ∧ V.cell? ⟨bx, 1, none⟩ = some (.int .i64 x.w) ∧ Hid (Chg [] W5 V)) [(0, true, some 72), (1, true, some 73), (2, true, some 74), (3, true, some 75), (4, true, some 76), (5, true, some 77), (6, true, some 78), (7, true, some 79), (8, true, some 80), (9, true, some 81)] (by kernel_rfl) (by kernel_rfl) (by kernel_rfl) (by kernel_rfl) (fun d c a v w h => by cases d <;> exact h) hHeld ?_
    repeat (first
      | (refine planWp_read (v := ?_) rfl rfl ?_ ?_ ?_; rotate_left; (focus rfl); (focus (intro u hSw; (try dsimp only at hSw); go_simp; (try with_reducible rfl))); (try simp only [Act.put, List.setIfInBounds_toArray, List.set_cons_zero, List.set_cons_succ]))
      | (refine planWp_skip rfl rfl ?_ ?_; (focus rfl); (try simp only [Act.put, List.setIfInBounds_toArray, List.set_cons_zero, List.set_cons_succ]))
      | (refine planWp_leave rfl rfl ?_ hHeld ?_; (focus rfl); (try simp only [Act.put, List.setIfInBounds_toArray, List.set_cons_zero, List.set_cons_succ]))
      | (refine planWp_do rfl rfl ?_ (fun K hK => ?_); (focus rfl); go_simp; (try go_wp2_with fail); refine hK.out _ _ ?_ (fun hHeld2 => ?_); (focus (have hcn := Chg.trans hHeld.2.2.out HCX.out; exact KEEP.out _ hcn)); clear hK K hHeld; have hHeld := hHeld2; clear hHeld2; (try simp only [Act.put, List.setIfInBounds_toArray, List.set_cons_zero, List.set_cons_succ])))
    refine planWp_nil ?_
    have HC6 := Lib.hid hHeld.2.2.out
    have HB6 : Hid (Blk _ bx ({ ({ x with i := (iN : Int), rcd := .slice (some ⟨rg, 0, none⟩) rn rcap } : ROp) with i := (iN : Int) + 1 } : ROp).cells 62) := Lib.hid (HB5.out.keep HC6.out (by simp))
    have HL6 := Lib.hid (Blk.keep HL5.out HC6.out (by simp))
    clear hHeld KEEP
    by_cases hrow : row < 0
    · have hrb : decide (row < 0) = true := by simpa using hrow
      have HQQ := Lib.hid (HPP.out.trans (if_pos hrow))
      clear hrow
      go_wp2_with (go_at_call 96; refine (end_any bx _ 0 _ HB6.out).mono ?_; rintro e W7 ⟨rfl, hr7, hc7⟩; have HR7 := Lib.hid hr7; have HC7 := Lib.hid hc7; clear hr7 hc7)
      refine bodyPost_ret (results_none rfl _ _ _) rfl ?_
      exact ⟨rfl, by rw [HQQ.out]; exact HR7.out, Blk.keep HL6.out HC7.out (by simp; exact hne1b), (HC0.out.mono (by simp)).trans ((HC5.out.fresh HC6.out).trans (HC7.out.mono (by simp)))⟩
    · have hrb : decide (row < 0) = false := by simpa using hrow
      have HQQ := Lib.hid (HPP.out.trans (if_neg hrow))
      clear hrow
      go_wp2_with (go_at_call 94; refine (to_any bx _ row _ HB6.out).mono ?_; rintro e W7 ⟨rfl, hr7, hc7⟩; have HR7 := Lib.hid hr7; have HC7 := Lib.hid hc7; clear hr7 hc7)
      go_end0
      exact ⟨rfl, by rw [HQQ.out]; exact HR7.out, Blk.keep HL6.out HC7.out (by simp; exact hne1b), (HC0.out.mono (by simp)).trans ((HC5.out.fresh HC6.out).trans (HC7.out.mono (by simp)))⟩
end Go.Proofs.Ytbbpnpokccfhjaa.rop
