/- The reference's operation: fail, the words ahead of the records. -/
import Derived.Test.YtbbpnpokccfhjaaRop1
namespace Go.Proofs.Ytbbpnpokccfhjaa.rop
open Go Go.RowKit Go.Proofs.Ytbbpnpokccfhjaa.kit Go.Proofs.Ytbbpnpokccfhjaa.obj
set_option linter.unusedVariables false
set_option maxRecDepth 20000

theorem fail_core (bx : Nat) (x : ROp) (W : World) (h : RAt W bx x) (ht : 0 ≤ x.tries ∧ x.tries ≤ 1000000) :
    Calls Try.prog 99 #[.pointer (some ⟨bx, 0, none⟩)] W fun e W' => e = .returned (.bool (decide (x.c ≤ x.tries + 1))) ∧ RAt W' bx { x with tries := x.tries + 1, rcd := .slice none 0 0, row := 0, i := 0 } ∧ Chg [bx] W W' := by
  have HB : Hid (Blk W bx x.cells 62) := Lib.hid h
  have e13 := HB.out.cell (o := 13) (v := .int .i64 x.tries) rfl
  have f13 := HB.out.free 13
  have e38 : W.cell? ⟨bx, 38, none⟩ = some x.rcd := HB.out.cell rfl
  have f38 := HB.out.free 38
  clear h
  go_enter Try.func99, Try.ntmps99
  go_wp2_with (go_at_call 94; refine (to_any bx { x with tries := x.tries + 1, rcd := .slice none 0 0 } 0 _ ((HB.out.set 13 (.int .i64 (x.tries + 1))).set 38 (.slice none 0 0))).mono ?_; rintro e W0 ⟨rfl, hr, hcx⟩; have HB0 : Hid (Blk W0 bx ({ x with tries := x.tries + 1, rcd := .slice none 0 0, row := 0, i := 0 } : ROp).cells 62) := Lib.hid hr; have HC0 : Hid (Chg [bx] W W0) := Lib.hid ((((Chg.refl [bx] W).setCell (.inl (by simp)) _).setCell (.inl (by simp)) _).trans hcx); clear hr hcx)
  have e13 : W0.cell? ⟨bx, 13, none⟩ = some (.int .i64 (x.tries + 1)) := HB0.out.cell rfl
  have e3 : W0.cell? ⟨bx, 3, none⟩ = some (.int .i64 x.c) := HB0.out.cell rfl
  have KEEP := Lib.hid (fun (V : World) (h : Chg [] W0 V) => (⟨h.keep e13 (by simp), h.keep e3 (by simp), Lib.hid h⟩ : (fun V : World => V.cell? ⟨bx, 13, none⟩ = some (.int .i64 (x.tries + 1)) ∧ V.cell? ⟨bx, 3, none⟩ = some (.int .i64 x.c) ∧ Hid (Chg [] W0 V)) V))
  clear e13 e3
  have hHeld : (fun V : World => V.cell? ⟨bx, 13, none⟩ = some (.int .i64 (x.tries + 1)) ∧ V.cell? ⟨bx, 3, none⟩ = some (.int .i64 x.c) ∧ Hid (Chg [] W0 V)) (World.drew W0) := KEEP.out _ (Chg.refl _ _).drew
  refine wp_region_plan (fun V : World => V.cell? ⟨bx, 13, none⟩ = some (.int .i64 (x.tries + 1)) ∧ V.cell? ⟨bx, 3, none⟩ = some (.int .i64 x.c) ∧ Hid (Chg [] W0 V)) [(0, true, some 15), (1, true, some 16), (2, true, some 17), (3, true, some 18), (4, true, some 19), (5, true, some 20), (6, true, some 21), (7, true, some 22), (8, true, some 23), (9, true, some 24), (10, true, some 2)] (by kernel_rfl) (by kernel_rfl) (by kernel_rfl) (by kernel_rfl) (fun d c a v w h => by cases d <;> exact h) hHeld ?_
  repeat (first
    | (refine planWp_read (v := ?_) rfl rfl ?_ ?_ ?_; rotate_left; (focus rfl); (focus (intro u hSw; (try dsimp only at hSw); go_simp; (try with_reducible rfl))); (try simp only [Act.put, List.setIfInBounds_toArray, List.set_cons_zero, List.set_cons_succ]))
    | (refine planWp_skip rfl rfl ?_ ?_; (focus rfl); (try simp only [Act.put, List.setIfInBounds_toArray, List.set_cons_zero, List.set_cons_succ]))
    | (refine planWp_leave rfl rfl ?_ hHeld ?_; (focus rfl); (try simp only [Act.put, List.setIfInBounds_toArray, List.set_cons_zero, List.set_cons_succ]))
    | (refine planWp_do rfl rfl ?_ (fun K hK => ?_); (focus rfl); go_simp; (try go_wp2_with fail); refine hK.out _ _ ?_ (fun hHeld2 => ?_); (focus (have hcn := Chg.trans hHeld.2.2.out HCX.out; exact KEEP.out _ hcn)); clear hK K hHeld; have hHeld := hHeld2; clear hHeld2; (try simp only [Act.put, List.setIfInBounds_toArray, List.set_cons_zero, List.set_cons_succ])))
  refine planWp_nil ?_
  have HB1 := Lib.hid (Blk.keep HB0.out hHeld.2.2.out (by simp))
  have HC1 := Lib.hid (HC0.out.fresh hHeld.2.2.out)
  clear hHeld KEEP
  go_wp2_with fail
  go_ret
  exact ⟨rfl, HB1.out, HC1.out⟩

def headI (k : Int) (rl : Nat) : Int := if k = 1 then 4 else if k = 2 ∨ k = 5 then 1 + rl else if k = 6 then 2 else 1
set_option maxHeartbeats 4000000 in
theorem Head_any (k w s c st : Int) (ia : Option Addr) (il ic : Nat) (wr : Int) (ra : Option Addr) (rl rc : Nat) (hrl : rl ≤ 100) (W : World) :
    Calls Try.prog 52 #[.agg #[.int .i64 k, .int .i64 w, .int .i64 s, .int .i64 c, .int .u32 st, .slice ia il ic, .int .i64 wr, .slice ra rl rc]] W fun e W' => e = .returned (.int .i64 (headI k rl)) ∧ Chg [] W W' := by
  by_cases h1 : k = 1
  · rw [show headI k rl = 4 from by simp [headI, h1]]
    have b1 : (k == 1) = true := by simpa using h1
    clear h1
    go_enter Try.func52, Try.ntmps52
    go_wp2
    go_ret
    exact ⟨rfl, (Chg.refl _ _).alloc _⟩
  have b1 : (k == 1) = false := by simpa using h1
  by_cases h2 : k = 2
  · rw [show headI k rl = 1 + rl from by simp [headI, h1, h2]]
    have b2 : (k == 2) = true := by simpa using h2
    clear h1 h2
    go_enter Try.func52, Try.ntmps52
    go_wp2
    go_ret
    exact ⟨by rfl, (Chg.refl _ _).alloc _⟩
  have b2 : (k == 2) = false := by simpa using h2
  by_cases h5 : k = 5
  · rw [show headI k rl = 1 + rl from by simp [headI, h1, h2, h5]]
    have b5 : (k == 5) = true := by simpa using h5
    clear h1 h2 h5
    go_enter Try.func52, Try.ntmps52
    go_wp2
    go_ret
    exact ⟨by rfl, (Chg.refl _ _).alloc _⟩
  have b5 : (k == 5) = false := by simpa using h5
  by_cases h6 : k = 6
  · rw [show headI k rl = 2 from by simp [headI, h1, h2, h5, h6]]
    have b6 : (k == 6) = true := by simpa using h6
    clear h1 h2 h5 h6
    go_enter Try.func52, Try.ntmps52
    go_wp2
    go_ret
    exact ⟨rfl, (Chg.refl _ _).alloc _⟩
  have b6 : (k == 6) = false := by simpa using h6
  rw [show headI k rl = 1 from by simp [headI, h1, h2, h5, h6]]
  go_enter Try.func52, Try.ntmps52
  go_wp2
  go_ret
  exact ⟨rfl, (Chg.refl _ _).alloc _⟩
end Go.Proofs.Ytbbpnpokccfhjaa.rop
