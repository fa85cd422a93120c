/- The reference's objects: how many records, how many words. -/
import Derived.Test.YtjplamoofkcojaaRopA
import Derived.Test.YtjplamoofkcojaaObj
namespace Go.Proofs.Ytjplamoofkcojaa.rop
open Go Go.RowKit Go.Proofs.Ytjplamoofkcojaa.kit Go.Proofs.Ytjplamoofkcojaa.obj
set_option linter.unusedVariables false
set_option linter.unusedSimpArgs false
set_option maxRecDepth 20000

def recordsI (k s : Int) (rl : Nat) : Int := if k = 1 then 4 else if k = 2 then rl + 2 else if k = 3 then 1 else s
set_option maxHeartbeats 4000000 in
theorem Records_any (k : Int) (w s c st : Int) (ia : Option Addr) (il ic : Nat) (wr : Int) (ra : Option Addr) (rl rc : Nat) (hrl : rl ≤ 100) (W : World) :
    Calls Try.prog 67 #[.agg #[.int .i64 k, .int .i64 w, .int .i64 s, .int .i64 c, .int .u32 st, .slice ia il ic, .int .i64 wr, .slice ra rl rc]] W fun e W' => e = .returned (.int .i64 (recordsI k s rl)) ∧ Chg [] W W' := by
  by_cases h1 : k = 1
  · rw [show recordsI k s rl = 4 from by simp [recordsI, h1]]
    have b1 : (k == 1) = true := by simpa using h1
    clear h1
    go_enter Try.func67, Try.ntmps67
    go_wp2
    go_ret
    exact ⟨by rfl, (Chg.refl _ _).alloc _⟩
  have b1 : (k == 1) = false := by simpa using h1
  by_cases h2 : k = 2
  · rw [show recordsI k s rl = rl + 2 from by simp [recordsI, h1, h2]]
    have b2 : (k == 2) = true := by simpa using h2
    clear h1 h2
    go_enter Try.func67, Try.ntmps67
    go_wp2
    go_ret
    exact ⟨by rfl, (Chg.refl _ _).alloc _⟩
  have b2 : (k == 2) = false := by simpa using h2
  by_cases h3 : k = 3
  · rw [show recordsI k s rl = 1 from by simp [recordsI, h1, h2, h3]]
    have b3 : (k == 3) = true := by simpa using h3
    clear h1 h2 h3
    go_enter Try.func67, Try.ntmps67
    go_wp2
    go_ret
    exact ⟨by rfl, (Chg.refl _ _).alloc _⟩
  have b3 : (k == 3) = false := by simpa using h3
  rw [show recordsI k s rl = s from by simp [recordsI, h1, h2, h3]]
  clear h1 h2 h3
  go_enter Try.func67, Try.ntmps67
  go_wp2
  go_ret
  exact ⟨by rfl, (Chg.refl _ _).alloc _⟩

def sizeI (k w s c st : Int) (il rl : Nat) : Int := if rightB k w s c st il rl then headI k rl + recordsI k s rl * w else 0
theorem records_bd {k w s c st : Int} {il rl : Nat} (h : rightB k w s c st il rl = true) : 0 ≤ recordsI k s rl ∧ recordsI k s rl ≤ 16 := by
  have hb := rightB_bd h
  unfold recordsI
  repeat' split
  all_goals omega
theorem mul16 {a b : Int} (ha : 0 ≤ a ∧ a ≤ 16) (hb : 1 ≤ b ∧ b ≤ 8) : 0 ≤ a * b ∧ a * b ≤ 128 := by
  have h1 : a * b ≤ 16 * b := Int.mul_le_mul_of_nonneg_right ha.2 (by omega)
  have h2 : 0 ≤ a * b := Int.mul_nonneg ha.1 (by omega)
  omega
theorem size_val {k w s c st : Int} {il rl : Nat} (hrl : rl ≤ 100) (h : rightB k w s c st il rl = true) : IntKind.i64.wrap (headI k rl + IntKind.i64.wrap (recordsI k s rl * w)) = headI k rl + recordsI k s rl * w := by
  have hb := rightB_bd h
  have hm := mul16 (records_bd h) ⟨hb.1, hb.2.1⟩
  have hh : 0 ≤ headI k rl ∧ headI k rl ≤ 200 := by
    unfold headI; repeat' split
    all_goals omega
  rw [IntKind.wrap_i64, IntKind.wrap_i64]; omega
theorem sizeI_bd (k w s c st : Int) (il rl : Nat) : 0 ≤ sizeI k w s c st il rl ∧ sizeI k w s c st il rl ≤ 200 := by
  unfold sizeI
  split
  · rename_i h
    have hb := rightB_bd h
    have hm := mul16 (records_bd h) ⟨hb.1, hb.2.1⟩
    have hh : 0 ≤ headI k rl ∧ headI k rl ≤ 5 := by
      unfold headI; repeat' split
      all_goals omega
    omega
  · omega
set_option maxHeartbeats 4000000 in
theorem Size_any (k : Int) (w s c st : Int) (ia : Option Addr) (il ic : Nat) (wr : Int) (ra : Option Addr) (rl rc : Nat) (h : ObjW k w s c st il rl) (W : World) :
    Calls Try.prog 38 #[.agg #[.int .i64 k, .int .i64 w, .int .i64 s, .int .i64 c, .int .u32 st, .slice ia il ic, .int .i64 wr, .slice ra rl rc]] W fun e W' => e = .returned (.int .i64 (sizeI k w s c st il rl)) ∧ Chg [] W W' := by
  have HRR := Lib.hid (fun u => rRight_any k w s c st ia il ic wr ra rl rc h u)
  have HRL := Lib.hid h.rlen
  clear h
  have HBX : Hid (Blk (W.alloc (.cells #[.int .i64 k, .int .i64 w, .int .i64 s, .int .i64 c, .int .u32 st, .slice ia il ic, .int .i64 wr, .slice ra rl rc] 26)) W.heap.size #[.int .i64 k, .int .i64 w, .int .i64 s, .int .i64 c, .int .u32 st, .slice ia il ic, .int .i64 wr, .slice ra rl rc] 26) := Lib.hid (Blk.new W _ _)
  have HCC : Hid (Chg [] W (W.alloc (.cells #[.int .i64 k, .int .i64 w, .int .i64 s, .int .i64 c, .int .u32 st, .slice ia il ic, .int .i64 wr, .slice ra rl rc] 26))) := Lib.hid ((Chg.refl _ _).alloc _)
  cases hg : rightB k w s c st il rl
  · rw [show sizeI k w s c st il rl = 0 from by unfold sizeI; rw [hg]; rfl]
    have HG := Lib.hid hg
    clear hg
    go_enter Try.func38, Try.ntmps38
    go_wp2_with (go_at_call 35; refine (HRR.out _).mono ?_; rintro e wx ⟨rfl, hcx⟩; rw [HG.out]; have HBX := Lib.hid (Blk.keep HBX.out hcx (by simp)); have e0 := HBX.out.cell (o := 0) (v := .int .i64 k) rfl; have e1 := HBX.out.cell (o := 1) (v := .int .i64 w) rfl; have e2 := HBX.out.cell (o := 2) (v := .int .i64 s) rfl; have e3 := HBX.out.cell (o := 3) (v := .int .i64 c) rfl; have e4 := HBX.out.cell (o := 4) (v := .int .u32 st) rfl; have e5 := HBX.out.cell (o := 5) (v := .slice ia il ic) rfl; have e6 := HBX.out.cell (o := 6) (v := .int .i64 wr) rfl; have e7 := HBX.out.cell (o := 7) (v := .slice ra rl rc) rfl; have HCC := Lib.hid (HCC.out.trans hcx); clear hcx)
    go_ret
    exact ⟨rfl, HCC.out⟩
  have HV := Lib.hid (size_val HRL.out hg)
  rw [show sizeI k w s c st il rl = headI k rl + recordsI k s rl * w from by unfold sizeI; rw [hg]; rfl]
  have HG := Lib.hid hg
  clear hg
  go_enter Try.func38, Try.ntmps38
  go_wp2_with (go_at_call 35; refine (HRR.out _).mono ?_; rintro e W0 ⟨rfl, hcx⟩; rw [HG.out]; have HBX := Lib.hid (Blk.keep HBX.out hcx (by simp)); have e0 := HBX.out.cell (o := 0) (v := .int .i64 k) rfl; have e1 := HBX.out.cell (o := 1) (v := .int .i64 w) rfl; have e2 := HBX.out.cell (o := 2) (v := .int .i64 s) rfl; have e3 := HBX.out.cell (o := 3) (v := .int .i64 c) rfl; have e4 := HBX.out.cell (o := 4) (v := .int .u32 st) rfl; have e5 := HBX.out.cell (o := 5) (v := .slice ia il ic) rfl; have e6 := HBX.out.cell (o := 6) (v := .int .i64 wr) rfl; have e7 := HBX.out.cell (o := 7) (v := .slice ra rl rc) rfl; have HCC := Lib.hid (HCC.out.trans hcx); clear hcx)
  have hB0 : Blk W0 W.heap.size #[.int .i64 k, .int .i64 w, .int .i64 s, .int .i64 c, .int .u32 st, .slice ia il ic, .int .i64 wr, .slice ra rl rc] 26 := HBX.out
  have e0 : W0.cell? ⟨W.heap.size, 0, none⟩ = some (.int .i64 k) := hB0.cell rfl
  have e1 : W0.cell? ⟨W.heap.size, 1, none⟩ = some (.int .i64 w) := hB0.cell rfl
  have e2 : W0.cell? ⟨W.heap.size, 2, none⟩ = some (.int .i64 s) := hB0.cell rfl
  have e3 : W0.cell? ⟨W.heap.size, 3, none⟩ = some (.int .i64 c) := hB0.cell rfl
  have e4 : W0.cell? ⟨W.heap.size, 4, none⟩ = some (.int .u32 st) := hB0.cell rfl
  have e5 : W0.cell? ⟨W.heap.size, 5, none⟩ = some (.slice ia il ic) := hB0.cell rfl
  have e6 : W0.cell? ⟨W.heap.size, 6, none⟩ = some (.int .i64 wr) := hB0.cell rfl
  have e7 : W0.cell? ⟨W.heap.size, 7, none⟩ = some (.slice ra rl rc) := hB0.cell rfl
  have KEEP := Lib.hid (fun (V : World) (h : Chg [] W0 V) => (⟨h.keep e0 (by simp), h.keep e1 (by simp), h.keep e2 (by simp), h.keep e3 (by simp), h.keep e4 (by simp), h.keep e5 (by simp), h.keep e6 (by simp), h.keep e7 (by simp), Lib.hid h⟩ : (fun V : World => V.cell? ⟨W.heap.size, 0, none⟩ = some (.int .i64 k) ∧ V.cell? ⟨W.heap.size, 1, none⟩ = some (.int .i64 w) ∧ V.cell? ⟨W.heap.size, 2, none⟩ = some (.int .i64 s) ∧ V.cell? ⟨W.heap.size, 3, none⟩ = some (.int .i64 c) ∧ V.cell? ⟨W.heap.size, 4, none⟩ = some (.int .u32 st) ∧ V.cell? ⟨W.heap.size, 5, none⟩ = some (.slice ia il ic) ∧ V.cell? ⟨W.heap.size, 6, none⟩ = some (.int .i64 wr) ∧ V.cell? ⟨W.heap.size, 7, none⟩ = some (.slice ra rl rc) ∧ Hid (Chg [] W0 V)) V))
  clear e0 e1 e2 e3 e4 e5 e6 e7 hB0
  have hHeld : (fun V : World => V.cell? ⟨W.heap.size, 0, none⟩ = some (.int .i64 k) ∧ V.cell? ⟨W.heap.size, 1, none⟩ = some (.int .i64 w) ∧ V.cell? ⟨W.heap.size, 2, none⟩ = some (.int .i64 s) ∧ V.cell? ⟨W.heap.size, 3, none⟩ = some (.int .i64 c) ∧ V.cell? ⟨W.heap.size, 4, none⟩ = some (.int .u32 st) ∧ V.cell? ⟨W.heap.size, 5, none⟩ = some (.slice ia il ic) ∧ V.cell? ⟨W.heap.size, 6, none⟩ = some (.int .i64 wr) ∧ V.cell? ⟨W.heap.size, 7, none⟩ = some (.slice ra rl rc) ∧ Hid (Chg [] W0 V)) (World.drew W0) := KEEP.out _ (Chg.refl _ _).drew
  refine wp_region_plan (fun V : World => V.cell? ⟨W.heap.size, 0, none⟩ = some (.int .i64 k) ∧ V.cell? ⟨W.heap.size, 1, none⟩ = some (.int .i64 w) ∧ V.cell? ⟨W.heap.size, 2, none⟩ = some (.int .i64 s) ∧ V.cell? ⟨W.heap.size, 3, none⟩ = some (.int .i64 c) ∧ V.cell? ⟨W.heap.size, 4, none⟩ = some (.int .u32 st) ∧ V.cell? ⟨W.heap.size, 5, none⟩ = some (.slice ia il ic) ∧ V.cell? ⟨W.heap.size, 6, none⟩ = some (.int .i64 wr) ∧ V.cell? ⟨W.heap.size, 7, none⟩ = some (.slice ra rl rc) ∧ Hid (Chg [] W0 V)) [(0, true, some 6), (2, true, some 8), (4, true, some 10), (5, true, some 11), (1, false, some 7), (3, false, some 9), (6, true, some 12), (7, true, some 13), (8, true, some 2)] (by kernel_rfl) (by kernel_rfl) (by kernel_rfl) (by kernel_rfl) (fun d c a v w h => by cases d <;> exact h) hHeld ?_
  repeat (first
    | (refine planWp_read (v := ?_) rfl rfl ?_ ?_ ?_; rotate_left; (focus rfl); (focus (intro u hSw; (try dsimp only at hSw); go_simp; (try with_reducible rfl))); (try simp only [Act.put, List.setIfInBounds_toArray, List.set_cons_zero, List.set_cons_succ]))
    | (refine planWp_skip rfl rfl ?_ ?_; (focus rfl); (try simp only [Act.put, List.setIfInBounds_toArray, List.set_cons_zero, List.set_cons_succ]))
    | (refine planWp_leave rfl rfl ?_ hHeld ?_; (focus rfl); (try simp only [Act.put, List.setIfInBounds_toArray, List.set_cons_zero, List.set_cons_succ]))
    | (refine planWp_do rfl rfl ?_ (fun K hK => ?_); (focus rfl); go_simp; (try go_wp2_with (first | (go_at_call 66; refine (Head_any _ _ _ _ _ _ _ _ _ _ _ _ HRL.out _).mono ?_; rintro e wx ⟨rfl, hcx⟩; have HCX := Lib.hid hcx; clear hcx) | (go_at_call 67; refine (Records_any _ _ _ _ _ _ _ _ _ _ _ _ HRL.out _).mono ?_; rintro e wx ⟨rfl, hcx⟩; have HCX := Lib.hid hcx; clear hcx))); refine hK.out _ _ ?_ (fun hHeld2 => ?_); (focus (have hcn := Chg.trans hHeld.2.2.2.2.2.2.2.2.out HCX.out; exact KEEP.out _ hcn)); clear hK K hHeld; have hHeld := hHeld2; clear hHeld2; (try simp only [Act.put, List.setIfInBounds_toArray, List.set_cons_zero, List.set_cons_succ])))
  refine planWp_nil ?_
  have HCC := Lib.hid (HCC.out.trans hHeld.2.2.2.2.2.2.2.2.out)
  clear hHeld KEEP
  go_wp2_with fail
  go_ret
  exact ⟨by (refine ret_int ?_; exact HV.out), HCC.out⟩
end Go.Proofs.Ytjplamoofkcojaa.rop
