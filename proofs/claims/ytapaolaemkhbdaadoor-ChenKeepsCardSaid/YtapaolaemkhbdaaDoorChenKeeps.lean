/-
  coxswainlaw15.ChenKeeps returns true for every o and l: what is read, by each reader, is what was written last, as long as nobody writes; ahead of all it is the first record. No conditions.
-/
import Derived.Test.YtapaolaemkhbdaaDoorRows
import Derived.WalkKit
import Derived.ProofKit
import Derived.OpenShut
import Derived.ShutString
import Derived.ChangeOld
import Derived.Below
import Derived.Test.YtapaolaemkhbdaaDoorOpen
import Derived.Test.YtapaolaemkhbdaaDoorTab2
import Derived.Test.YtapaolaemkhbdaaDoorCards
import Derived.Test.YtapaolaemkhbdaaDoorTie
import Derived.SevenTiedAt
import Derived.Stop.Joined
import Derived.Test.YtapaolaemkhbdaaDoorChenK
import Derived.Test.YtapaolaemkhbdaaDoorKeep
import Derived.Deep.CutBlock
namespace Go.Proofs.YtapaolaemkhbdaaDoor.chenKeeps
open Go.ChangeShapes Go.WideShapes Go.ChangeAt Go.RowKit
open Go.ChangeMaps (open_string shut_string)
set_option linter.unusedVariables false
open Go.Proofs.YtapaolaemkhbdaaDoor.kit Go.Proofs.YtapaolaemkhbdaaDoor.obj Go.Proofs.YtapaolaemkhbdaaDoor.mem Go.Proofs.YtapaolaemkhbdaaDoor.core
set_option linter.unusedSimpArgs false
set_option maxRecDepth 100000
/-- the table lies where it was laid, wherever an operation goes on whose blocks are new -/
theorem tabs {T : TypeId} {bx mb : Nat} {sv r0 : Value} {W0 B : World} (hT : bitm.Tab B) (hc : Chg [] B W0) (h1 : B.heap.size ≤ bx) (h2 : B.heap.size ≤ mb) (h3 : ∀ y, sv.ownBlock = some y → B.heap.size ≤ y) (h4 : ∀ y, r0.ownBlock = some y → B.heap.size ≤ y) :
    ∀ V x' rec' ws' n', St T bx mb sv W0 r0 V x' rec' ws' n' → bitm.Tab V := by
  have hp := hT.pos
  exact St.tab (hT.keep hc) (by omega) (by omega) (fun hh => by have := h3 0 hh; omega) (fun hh => by have := h4 0 hh; omega)
set_option maxHeartbeats 4000000 in
theorem easy (k w s c st : Int) (ia : Option Addr) (il ic : Nat) (wri : Int) (ra : Option Addr) (rl rc : Nat) (qa : Option Addr) (ql qc : Nat) (h : ¬ ((il ≤ 100 ∧ rl ≤ 100) ∧ ql ≤ 40 ∧ (decide (k = 2) && rightB k w s c st il rl) = true)) (hob : il ≤ 100 → rl ≤ 100 → ObjW k w s c st il rl) (W : World) (hT : bitm.Tab W) :
    Calls Tryd.prog 8 #[.agg #[.int .i64 k, .int .i64 w, .int .i64 s, .int .i64 c, .int .u32 st, .slice ia il ic, .int .i64 wri, .slice ra rl rc], .slice qa ql qc] W fun e W' => e = .returned (.bool true) ∧ Below W.heap.size W W' := by
  by_cases h1 : il ≤ 100 ∧ rl ≤ 100
  · have HSM : Hid (decide (il ≤ 100 ∧ rl ≤ 100) = true) := Lib.hid (decide_eq_true h1)
    have ho := hob h1.1 h1.2
    by_cases h2 : ql ≤ 40
    · have h3 : (decide (k = 2) && rightB k w s c st il rl) = false := by
        cases hc : (decide (k = 2) && rightB k w s c st il rl)
        · rfl
        · exact absurd ⟨h1, h2, hc⟩ h
      have hrt := fun u => chenRight_any k w s c st ia il ic wri ra rl rc ho u
      simp only [h3] at hrt
      have HRT := Lib.hid hrt
      have h2I : ¬ ((40 : Int) < (ql : Int)) := by omega
      clear hrt h3 h2 h1 h hob ho
      have HBX : Hid (Blk (W.alloc (.cells #[.int .i64 k, .int .i64 w, .int .i64 s, .int .i64 c, .int .u32 st, .slice ia il ic, .int .i64 wri, .slice ra rl rc] 26)) W.heap.size #[.int .i64 k, .int .i64 w, .int .i64 s, .int .i64 c, .int .u32 st, .slice ia il ic, .int .i64 wri, .slice ra rl rc] 26) := Lib.hid (Blk.new W _ _)
      have HCA : Hid (Chg [] W (W.alloc (.cells #[.int .i64 k, .int .i64 w, .int .i64 s, .int .i64 c, .int .u32 st, .slice ia il ic, .int .i64 wri, .slice ra rl rc] 26))) := Lib.hid ((Chg.refl _ _).alloc _)
      have HTA : Hid (bitm.Tab (W.alloc (.cells #[.int .i64 k, .int .i64 w, .int .i64 s, .int .i64 c, .int .u32 st, .slice ia il ic, .int .i64 wri, .slice ra rl rc] 26))) := Lib.hid (hT.keep HCA.out)
      clear hT
      have HCC : Hid (Chg [] (W.alloc (.cells #[.int .i64 k, .int .i64 w, .int .i64 s, .int .i64 c, .int .u32 st, .slice ia il ic, .int .i64 wri, .slice ra rl rc] 26)) (W.alloc (.cells #[.int .i64 k, .int .i64 w, .int .i64 s, .int .i64 c, .int .u32 st, .slice ia il ic, .int .i64 wri, .slice ra rl rc] 26))) := Lib.hid (Chg.refl _ _)
      go_enter Tryd.func8, Tryd.ntmps8
      go_wp2_with (first | (go_at_call 13; refine (small_any k w s c st ia il ic wri ra rl rc _).mono ?_; rintro e wx ⟨rfl, hcx⟩; rw [HSM.out]; have HCC := Lib.hid (HCC.out.trans hcx); have HBX := Lib.hid (HBX.out.keep hcx (by simp)); clear hcx; have e0 : wx.cell? ⟨W.heap.size, 0, none⟩ = some (.int .i64 k) := HBX.out.cell rfl; have e1 : wx.cell? ⟨W.heap.size, 1, none⟩ = some (.int .i64 w) := HBX.out.cell rfl; have e2 : wx.cell? ⟨W.heap.size, 2, none⟩ = some (.int .i64 s) := HBX.out.cell rfl; have e3 : wx.cell? ⟨W.heap.size, 3, none⟩ = some (.int .i64 c) := HBX.out.cell rfl; have e4 : wx.cell? ⟨W.heap.size, 4, none⟩ = some (.int .u32 st) := HBX.out.cell rfl; have e5 : wx.cell? ⟨W.heap.size, 5, none⟩ = some (.slice ia il ic) := HBX.out.cell rfl; have e6 : wx.cell? ⟨W.heap.size, 6, none⟩ = some (.int .i64 wri) := HBX.out.cell rfl; have e7 : wx.cell? ⟨W.heap.size, 7, none⟩ = some (.slice ra rl rc) := HBX.out.cell rfl) | (go_at_call 25; refine (HRT.out _).mono ?_; rintro e wx ⟨rfl, hcx⟩; have HCC := Lib.hid (HCC.out.trans hcx); have HBX := Lib.hid (HBX.out.keep hcx (by simp)); clear hcx; have e0 : wx.cell? ⟨W.heap.size, 0, none⟩ = some (.int .i64 k) := HBX.out.cell rfl; have e1 : wx.cell? ⟨W.heap.size, 1, none⟩ = some (.int .i64 w) := HBX.out.cell rfl; have e2 : wx.cell? ⟨W.heap.size, 2, none⟩ = some (.int .i64 s) := HBX.out.cell rfl; have e3 : wx.cell? ⟨W.heap.size, 3, none⟩ = some (.int .i64 c) := HBX.out.cell rfl; have e4 : wx.cell? ⟨W.heap.size, 4, none⟩ = some (.int .u32 st) := HBX.out.cell rfl; have e5 : wx.cell? ⟨W.heap.size, 5, none⟩ = some (.slice ia il ic) := HBX.out.cell rfl; have e6 : wx.cell? ⟨W.heap.size, 6, none⟩ = some (.int .i64 wri) := HBX.out.cell rfl; have e7 : wx.cell? ⟨W.heap.size, 7, none⟩ = some (.slice ra rl rc) := HBX.out.cell rfl) | (go_at_call 24; refine (chen.awake_any _ (HTA.out.keep HCC.out)).mono ?_; rintro e wz ⟨rfl, hcz⟩; have HZ := Lib.hid hcz; clear hcz))
      go_ret
      exact ⟨rfl, (HCA.out.trans (HCC.out.trans HZ.out)).below⟩
    · have h2I : (40 : Int) < (ql : Int) := by omega
      clear h2 h1 h hob ho
      have HBX : Hid (Blk (W.alloc (.cells #[.int .i64 k, .int .i64 w, .int .i64 s, .int .i64 c, .int .u32 st, .slice ia il ic, .int .i64 wri, .slice ra rl rc] 26)) W.heap.size #[.int .i64 k, .int .i64 w, .int .i64 s, .int .i64 c, .int .u32 st, .slice ia il ic, .int .i64 wri, .slice ra rl rc] 26) := Lib.hid (Blk.new W _ _)
      have HCA : Hid (Chg [] W (W.alloc (.cells #[.int .i64 k, .int .i64 w, .int .i64 s, .int .i64 c, .int .u32 st, .slice ia il ic, .int .i64 wri, .slice ra rl rc] 26))) := Lib.hid ((Chg.refl _ _).alloc _)
      have HTA : Hid (bitm.Tab (W.alloc (.cells #[.int .i64 k, .int .i64 w, .int .i64 s, .int .i64 c, .int .u32 st, .slice ia il ic, .int .i64 wri, .slice ra rl rc] 26))) := Lib.hid (hT.keep HCA.out)
      clear hT
      have HCC : Hid (Chg [] (W.alloc (.cells #[.int .i64 k, .int .i64 w, .int .i64 s, .int .i64 c, .int .u32 st, .slice ia il ic, .int .i64 wri, .slice ra rl rc] 26)) (W.alloc (.cells #[.int .i64 k, .int .i64 w, .int .i64 s, .int .i64 c, .int .u32 st, .slice ia il ic, .int .i64 wri, .slice ra rl rc] 26))) := Lib.hid (Chg.refl _ _)
      go_enter Tryd.func8, Tryd.ntmps8
      go_wp2_with (first | (go_at_call 13; refine (small_any k w s c st ia il ic wri ra rl rc _).mono ?_; rintro e wx ⟨rfl, hcx⟩; rw [HSM.out]; have HCC := Lib.hid (HCC.out.trans hcx); have HBX := Lib.hid (HBX.out.keep hcx (by simp)); clear hcx; have e0 : wx.cell? ⟨W.heap.size, 0, none⟩ = some (.int .i64 k) := HBX.out.cell rfl; have e1 : wx.cell? ⟨W.heap.size, 1, none⟩ = some (.int .i64 w) := HBX.out.cell rfl; have e2 : wx.cell? ⟨W.heap.size, 2, none⟩ = some (.int .i64 s) := HBX.out.cell rfl; have e3 : wx.cell? ⟨W.heap.size, 3, none⟩ = some (.int .i64 c) := HBX.out.cell rfl; have e4 : wx.cell? ⟨W.heap.size, 4, none⟩ = some (.int .u32 st) := HBX.out.cell rfl; have e5 : wx.cell? ⟨W.heap.size, 5, none⟩ = some (.slice ia il ic) := HBX.out.cell rfl; have e6 : wx.cell? ⟨W.heap.size, 6, none⟩ = some (.int .i64 wri) := HBX.out.cell rfl; have e7 : wx.cell? ⟨W.heap.size, 7, none⟩ = some (.slice ra rl rc) := HBX.out.cell rfl) | (go_at_call 24; refine (chen.awake_any _ (HTA.out.keep HCC.out)).mono ?_; rintro e wz ⟨rfl, hcz⟩; have HZ := Lib.hid hcz; clear hcz))
      go_ret
      exact ⟨rfl, (HCA.out.trans (HCC.out.trans HZ.out)).below⟩
  · have HSM : Hid (decide (il ≤ 100 ∧ rl ≤ 100) = false) := Lib.hid (decide_eq_false h1)
    clear h1 h hob
    have HBX : Hid (Blk (W.alloc (.cells #[.int .i64 k, .int .i64 w, .int .i64 s, .int .i64 c, .int .u32 st, .slice ia il ic, .int .i64 wri, .slice ra rl rc] 26)) W.heap.size #[.int .i64 k, .int .i64 w, .int .i64 s, .int .i64 c, .int .u32 st, .slice ia il ic, .int .i64 wri, .slice ra rl rc] 26) := Lib.hid (Blk.new W _ _)
    have HCA : Hid (Chg [] W (W.alloc (.cells #[.int .i64 k, .int .i64 w, .int .i64 s, .int .i64 c, .int .u32 st, .slice ia il ic, .int .i64 wri, .slice ra rl rc] 26))) := Lib.hid ((Chg.refl _ _).alloc _)
    have HTA : Hid (bitm.Tab (W.alloc (.cells #[.int .i64 k, .int .i64 w, .int .i64 s, .int .i64 c, .int .u32 st, .slice ia il ic, .int .i64 wri, .slice ra rl rc] 26))) := Lib.hid (hT.keep HCA.out)
    clear hT
    have HCC : Hid (Chg [] (W.alloc (.cells #[.int .i64 k, .int .i64 w, .int .i64 s, .int .i64 c, .int .u32 st, .slice ia il ic, .int .i64 wri, .slice ra rl rc] 26)) (W.alloc (.cells #[.int .i64 k, .int .i64 w, .int .i64 s, .int .i64 c, .int .u32 st, .slice ia il ic, .int .i64 wri, .slice ra rl rc] 26))) := Lib.hid (Chg.refl _ _)
    go_enter Tryd.func8, Tryd.ntmps8
    go_wp2_with (first | (go_at_call 13; refine (small_any k w s c st ia il ic wri ra rl rc _).mono ?_; rintro e wx ⟨rfl, hcx⟩; rw [HSM.out]; have HCC := Lib.hid (HCC.out.trans hcx); have HBX := Lib.hid (HBX.out.keep hcx (by simp)); clear hcx; have e0 : wx.cell? ⟨W.heap.size, 0, none⟩ = some (.int .i64 k) := HBX.out.cell rfl; have e1 : wx.cell? ⟨W.heap.size, 1, none⟩ = some (.int .i64 w) := HBX.out.cell rfl; have e2 : wx.cell? ⟨W.heap.size, 2, none⟩ = some (.int .i64 s) := HBX.out.cell rfl; have e3 : wx.cell? ⟨W.heap.size, 3, none⟩ = some (.int .i64 c) := HBX.out.cell rfl; have e4 : wx.cell? ⟨W.heap.size, 4, none⟩ = some (.int .u32 st) := HBX.out.cell rfl; have e5 : wx.cell? ⟨W.heap.size, 5, none⟩ = some (.slice ia il ic) := HBX.out.cell rfl; have e6 : wx.cell? ⟨W.heap.size, 6, none⟩ = some (.int .i64 wri) := HBX.out.cell rfl; have e7 : wx.cell? ⟨W.heap.size, 7, none⟩ = some (.slice ra rl rc) := HBX.out.cell rfl) | (go_at_call 24; refine (chen.awake_any _ (HTA.out.keep HCC.out)).mono ?_; rintro e wz ⟨rfl, hcz⟩; have HZ := Lib.hid hcz; clear hcz))
    go_ret
    exact ⟨rfl, (HCA.out.trans (HCC.out.trans HZ.out)).below⟩
theorem fill0_mem {N F : Nat} {z : Int} {ini : List Int} (h : z ∈ mem.fillL (List.replicate N 0) F ini) : z = 0 ∨ z ∈ ini := by
  simp only [mem.fillL, List.mem_append] at h
  rcases h with h | h | h
  · exact .inl (List.eq_of_mem_replicate (List.mem_of_mem_take h))
  · exact .inr h
  · exact .inl (List.eq_of_mem_replicate (List.mem_of_mem_drop h))

/-- an operation's beginning: a write's -/
theorem wshape (k w s c st : Int) (ia : Option Addr) (il ic : Nat) (wri : Int) (ra : Option Addr) (rl rc : Nat) (N wN : Nat) (hw : w = (wN : Int)) (hN : 1 + rl + (((rl : Int) + 2) * w).toNat = N) (hr : (decide (k = 2) && rightB k w s c st il rl) = true) (rec : List Int) (hl : rec.length = wN) : chen.K.Shape ({ k := k, w := w, s := s, c := c, st := st, ia := ia, il := il, ic := ic, wr := wri, ra := ra, rl := rl, rc := rc, op := 2, reader := 0, phase := 0, i := 0, tries := 0, a := 0, b := 0, used := 0, m := .pointer none, base := 1, size := (N : Int), code := 0, steps := 0, over := false } : Core) rec ∧ chen.K.left ({ k := k, w := w, s := s, c := c, st := st, ia := ia, il := il, ic := ic, wr := wri, ra := ra, rl := rl, rc := rc, op := 2, reader := 0, phase := 0, i := 0, tries := 0, a := 0, b := 0, used := 0, m := .pointer none, base := 1, size := (N : Int), code := 0, steps := 0, over := false } : Core) ≤ 200 := by
  have hk : k = 2 := by simp only [Bool.and_eq_true, decide_eq_true_eq] at hr; exact hr.1
  have hr2 : rightB k w s c st il rl = true := by simp only [Bool.and_eq_true] at hr; exact hr.2
  have hbd := rightB_bd hr2
  have hrl : 1 ≤ rl ∧ rl ≤ 4 := by omega
  have hnn := Int.mul_nonneg (show 0 ≤ (rl : Int) + 2 by omega) (show 0 ≤ w by omega)
  have hnw : (N : Int) = 1 + rl + ((rl : Int) + 2) * w := by omega
  exact ⟨⟨by simp only []; omega, by simp only []; omega, by simp only []; omega, by simp only []; omega, by simp only []; omega, by simp only []; omega, hnw, fun _ _ _ => bitm.Marks.zero, fun _ => by simp only []; exact ⟨by omega, by simp; omega⟩, .inl ⟨rfl, by simp, fun _ => by simp only []; omega⟩⟩, by simp [chen.K, chen.left]; omega⟩
/-- a read's -/
theorem rshape (k w s c st : Int) (ia : Option Addr) (il ic : Nat) (wri : Int) (ra : Option Addr) (rl rc : Nat) (N wN : Nat) (hw : w = (wN : Int)) (hN : 1 + rl + (((rl : Int) + 2) * w).toNat = N) (hr : (decide (k = 2) && rightB k w s c st il rl) = true) (r : Nat) (hrl : r < rl) : chen.K.Shape ({ k := k, w := w, s := s, c := c, st := st, ia := ia, il := il, ic := ic, wr := wri, ra := ra, rl := rl, rc := rc, op := 1, reader := (r : Int), phase := 0, i := 0, tries := 0, a := 0, b := 0, used := 0, m := .pointer none, base := 1, size := (N : Int), code := 0, steps := 0, over := false } : Core) [] ∧ chen.K.left ({ k := k, w := w, s := s, c := c, st := st, ia := ia, il := il, ic := ic, wr := wri, ra := ra, rl := rl, rc := rc, op := 1, reader := (r : Int), phase := 0, i := 0, tries := 0, a := 0, b := 0, used := 0, m := .pointer none, base := 1, size := (N : Int), code := 0, steps := 0, over := false } : Core) ≤ 200 := by
  have hk : k = 2 := by simp only [Bool.and_eq_true, decide_eq_true_eq] at hr; exact hr.1
  have hr2 : rightB k w s c st il rl = true := by simp only [Bool.and_eq_true] at hr; exact hr.2
  have hbd := rightB_bd hr2
  have hrl9 : 1 ≤ rl ∧ rl ≤ 4 := by omega
  have hnn := Int.mul_nonneg (show 0 ≤ (rl : Int) + 2 by omega) (show 0 ≤ w by omega)
  have hnw : (N : Int) = 1 + rl + ((rl : Int) + 2) * w := by omega
  exact ⟨⟨by simp only []; omega, by simp only []; omega, by simp only []; omega, by simp only []; omega, by simp only []; omega, by simp only []; omega, hnw, fun _ h9 => by simp at h9, fun _ => by simp only []; exact ⟨by omega, by simp; omega⟩, .inr ⟨rfl, by simp, fun _ => by simp⟩⟩, by simp [chen.K, chen.left]; omega⟩

set_option maxHeartbeats 16000000 in
theorem good (k w s c st : Int) (ia : Option Addr) (il ic : Nat) (wri : Int) (ra : Option Addr) (rl rc : Nat) (qa : Option Addr) (ql qc N wN : Nat) (ini : List Int) (rs : List (Option Addr × Nat × Nat × List Int)) (W : World) (hT : bitm.Tab W) (hw : w = (wN : Int)) (hN : 1 + rl + (((rl : Int) + 2) * w).toNat = N) (h : ObjW k w s c st il rl) (hr : (decide (k = 2) && rightB k w s c st il rl) = true) (hq : ql ≤ 40)
    (hi : ReadsW W (.slice ia il ic) ini) (hrs : ReadsR W qa ql rs) : Calls Tryd.prog 8 #[.agg #[.int .i64 k, .int .i64 w, .int .i64 s, .int .i64 c, .int .u32 st, .slice ia il ic, .int .i64 wri, .slice ra rl rc], .slice qa ql qc] W fun e W' => e = .returned (.bool true) ∧ Below W.heap.size W W' := by
  have HSM : Hid (decide (il ≤ 100 ∧ rl ≤ 100) = true) := Lib.hid (decide_eq_true ⟨h.ilen, h.rlen⟩)
  have hk : k = 2 := by simp only [Bool.and_eq_true, decide_eq_true_eq] at hr; exact hr.1
  have hrb : rightB k w s c st il rl = true := by simp only [Bool.and_eq_true] at hr; exact hr.2
  have hbd := rightB_bd hrb
  have hil : ini.length = wN := by
    have h1 : il = ini.length := by obtain ⟨_, _, he, _⟩ := reads_slice hi.1; simp at he; exact he.2.1
    simp only [rightB, decide_eq_true_eq] at hrb
    omega
  have hrl : 1 ≤ rl ∧ rl ≤ 4 := by omega
  have hnn := Int.mul_nonneg (show 0 ≤ (rl : Int) + 2 by omega) (show 0 ≤ w by omega)
  have hsi : rop.sizeI k w s c st il rl = (N : Int) := by
    unfold rop.sizeI
    rw [if_pos hrb]
    have e1 : rop.headI k rl = rop.headI 2 rl := by rw [hk]
    have e2 : rop.recordsI k s rl = rop.recordsI 2 s rl := by rw [hk]
    rw [e1, e2]
    simp [rop.headI, rop.recordsI]
    omega
  have hll : ((chen.layL w rl ini)).length = N := by
    rw [← hN]; exact chen.lay_len w rl ini hrl (by omega) (by omega)
  have hlw : ∀ z ∈ (chen.layL w rl ini), (Lit.int .u32 z).wf = true := by
    have h2 := hi.2
    intro z hz
    rcases fill0_mem hz with rfl | hz
    · decide
    · exact h2 z hz
  have hok : chen.keep.Ok w s rl (readyL N (chen.layL w rl ini)) ini := chen.ok_start w s rl N wN ini hw (by omega) hrl hN hil
  have hly := fun u (hu : ReadsW u (.slice ia il ic) ini) => chen.Lay_yes k w s c st ia il ic wri ra rl rc wN hw ini h hr u hu
  have hrd := fun u v (hv : ReadsW u v (chen.layL w rl ini)) => Ready_any k w s c st ia il ic wri ra rl rc N v (chen.layL w rl ini) u h hsi hll hv
  have hrt := fun u => chenRight_any k w s c st ia il ic wri ra rl rc h u
  simp only [hr] at hrt
  have HSZ : Hid (∀ V, Calls Tryd.prog 26 #[.agg #[.int .i64 k, .int .i64 w, .int .i64 s, .int .i64 c, .int .u32 st, .slice ia il ic, .int .i64 wri, .slice ra rl rc]] V fun e W' => e = .returned (.int .i64 (N : Int)) ∧ Chg [] V W') := Lib.hid (fun V => by rw [← hN]; exact chen.Size_yes k w s c st ia il ic wri ra rl rc wN hw h hr V)
  have HWS := Lib.hid (fun rec hl => wshape k w s c st ia il ic wri ra rl rc N wN hw hN hr rec hl)
  have HRS := Lib.hid (fun r hl => rshape k w s c st ia il ic wri ra rl rc N wN hw hN hr r hl)
  have HLY := Lib.hid hly
  have HRD := Lib.hid hrd
  have HRT := Lib.hid hrt
  have HLW := Lib.hid hlw
  have HOK := Lib.hid hok
  have HRL : Hid ((readyL N (chen.layL w rl ini)).length = N + 2) := Lib.hid (ready_len N _ hll)
  have HI := Lib.hid hi
  have HRR0 := Lib.hid hrs
  have HB := Lib.hid (show 1 ≤ w ∧ w = (wN : Int) ∧ wN ≤ 8 ∧ 1 ≤ rl ∧ rl ≤ 4 ∧ ini.length = wN ∧ 1 ≤ N ∧ ql ≤ 40 from by
    have := rop.sizeI_bd k w s c st il rl
    refine ⟨by omega, hw, by omega, by omega, by omega, hil, ?_, hq⟩
    rw [← hll]
    have h9 := hll
    exact by
      rcases Nat.eq_zero_or_pos N with h0 | h0
      · exfalso
        have h8 := hsi
        rw [h0] at h8
        unfold rop.sizeI at h8
        rw [if_pos hrb] at h8
        have e1 : rop.headI k rl = rop.headI 2 rl := by rw [hk]
        have e2 : rop.recordsI k s rl = rop.recordsI 2 s rl := by rw [hk]
        rw [e1, e2] at h8
        simp [rop.headI, rop.recordsI] at h8
        omega
      · omega)
  have h2I : ¬ ((40 : Int) < (ql : Int)) := by omega
  obtain ⟨ws0, hws0⟩ : ∃ ws0, readyL N (chen.layL w rl ini) = ws0 := ⟨_, rfl⟩
  simp only [hws0] at HRD HOK HRL
  generalize (chen.layL w rl ini) = ly at *
  clear h hr hk hrb hbd hil hsi hll hlw hok hly hrd hrt hi hrs hw hN hq hws0 hrl hnn
  have HBX : Hid (Blk (W.alloc (.cells #[.int .i64 k, .int .i64 w, .int .i64 s, .int .i64 c, .int .u32 st, .slice ia il ic, .int .i64 wri, .slice ra rl rc] 26)) W.heap.size #[.int .i64 k, .int .i64 w, .int .i64 s, .int .i64 c, .int .u32 st, .slice ia il ic, .int .i64 wri, .slice ra rl rc] 26) := Lib.hid (Blk.new W _ _)
  have HCA : Hid (Chg [] W (W.alloc (.cells #[.int .i64 k, .int .i64 w, .int .i64 s, .int .i64 c, .int .u32 st, .slice ia il ic, .int .i64 wri, .slice ra rl rc] 26))) := Lib.hid ((Chg.refl _ _).alloc _)
  have HTA : Hid (bitm.Tab (W.alloc (.cells #[.int .i64 k, .int .i64 w, .int .i64 s, .int .i64 c, .int .u32 st, .slice ia il ic, .int .i64 wri, .slice ra rl rc] 26))) := Lib.hid (hT.keep HCA.out)
  clear hT
  have HCC : Hid (Chg [] (W.alloc (.cells #[.int .i64 k, .int .i64 w, .int .i64 s, .int .i64 c, .int .u32 st, .slice ia il ic, .int .i64 wri, .slice ra rl rc] 26)) (W.alloc (.cells #[.int .i64 k, .int .i64 w, .int .i64 s, .int .i64 c, .int .u32 st, .slice ia il ic, .int .i64 wri, .slice ra rl rc] 26))) := Lib.hid (Chg.refl _ _)
  go_enter Tryd.func8, Tryd.ntmps8
  go_upto_region 3 with (first | (go_at_call 13; refine (small_any k w s c st ia il ic wri ra rl rc _).mono ?_; rintro e wx ⟨rfl, hcx⟩; rw [HSM.out]; have HCC := Lib.hid (HCC.out.trans hcx); have HBX := Lib.hid (HBX.out.keep hcx (by simp)); clear hcx; have e0 : wx.cell? ⟨W.heap.size, 0, none⟩ = some (.int .i64 k) := HBX.out.cell rfl; have e1 : wx.cell? ⟨W.heap.size, 1, none⟩ = some (.int .i64 w) := HBX.out.cell rfl; have e2 : wx.cell? ⟨W.heap.size, 2, none⟩ = some (.int .i64 s) := HBX.out.cell rfl; have e3 : wx.cell? ⟨W.heap.size, 3, none⟩ = some (.int .i64 c) := HBX.out.cell rfl; have e4 : wx.cell? ⟨W.heap.size, 4, none⟩ = some (.int .u32 st) := HBX.out.cell rfl; have e5 : wx.cell? ⟨W.heap.size, 5, none⟩ = some (.slice ia il ic) := HBX.out.cell rfl; have e6 : wx.cell? ⟨W.heap.size, 6, none⟩ = some (.int .i64 wri) := HBX.out.cell rfl; have e7 : wx.cell? ⟨W.heap.size, 7, none⟩ = some (.slice ra rl rc) := HBX.out.cell rfl) | (go_at_call 25; refine (HRT.out _).mono ?_; rintro e wx ⟨rfl, hcx⟩; have HCC := Lib.hid (HCC.out.trans hcx); have HBX := Lib.hid (HBX.out.keep hcx (by simp)); clear hcx; have e0 : wx.cell? ⟨W.heap.size, 0, none⟩ = some (.int .i64 k) := HBX.out.cell rfl; have e1 : wx.cell? ⟨W.heap.size, 1, none⟩ = some (.int .i64 w) := HBX.out.cell rfl; have e2 : wx.cell? ⟨W.heap.size, 2, none⟩ = some (.int .i64 s) := HBX.out.cell rfl; have e3 : wx.cell? ⟨W.heap.size, 3, none⟩ = some (.int .i64 c) := HBX.out.cell rfl; have e4 : wx.cell? ⟨W.heap.size, 4, none⟩ = some (.int .u32 st) := HBX.out.cell rfl; have e5 : wx.cell? ⟨W.heap.size, 5, none⟩ = some (.slice ia il ic) := HBX.out.cell rfl; have e6 : wx.cell? ⟨W.heap.size, 6, none⟩ = some (.int .i64 wri) := HBX.out.cell rfl; have e7 : wx.cell? ⟨W.heap.size, 7, none⟩ = some (.slice ra rl rc) := HBX.out.cell rfl))
  refine rop.code_gen (R := fun V => Hid (Blk V W.heap.size #[.int .i64 k, .int .i64 w, .int .i64 s, .int .i64 c, .int .u32 st, .slice ia il ic, .int .i64 wri, .slice ra rl rc] 26) ∧ Hid (Chg [] (W.alloc (.cells #[.int .i64 k, .int .i64 w, .int .i64 s, .int .i64 c, .int .u32 st, .slice ia il ic, .int .i64 wri, .slice ra rl rc] 26)) V)) ⟨HBX, HCC⟩ ?_
  clear HBX HCC h2I e0 e1 e2 e3 e4 e5 e6 e7
  rintro W1 ⟨HO1, HC1⟩
  have eS0 : W1.cell? ⟨W.heap.size, 0, none⟩ = some (.int .i64 k) := HO1.out.cell rfl
  have eS1 : W1.cell? ⟨W.heap.size, 1, none⟩ = some (.int .i64 w) := HO1.out.cell rfl
  have eS2 : W1.cell? ⟨W.heap.size, 2, none⟩ = some (.int .i64 s) := HO1.out.cell rfl
  have eS3 : W1.cell? ⟨W.heap.size, 3, none⟩ = some (.int .i64 c) := HO1.out.cell rfl
  have eS4 : W1.cell? ⟨W.heap.size, 4, none⟩ = some (.int .u32 st) := HO1.out.cell rfl
  have eS5 : W1.cell? ⟨W.heap.size, 5, none⟩ = some (.slice ia il ic) := HO1.out.cell rfl
  have eS6 : W1.cell? ⟨W.heap.size, 6, none⟩ = some (.int .i64 wri) := HO1.out.cell rfl
  have eS7 : W1.cell? ⟨W.heap.size, 7, none⟩ = some (.slice ra rl rc) := HO1.out.cell rfl
  have KEEP := Lib.hid (fun (V : World) (h : Chg [] W1 V) => (⟨h.keep eS0 (by simp), h.keep eS1 (by simp), h.keep eS2 (by simp), h.keep eS3 (by simp), h.keep eS4 (by simp), h.keep eS5 (by simp), h.keep eS6 (by simp), h.keep eS7 (by simp), Lib.hid h⟩ : (fun V : World => V.cell? ⟨W.heap.size, 0, none⟩ = some (.int .i64 k) ∧ V.cell? ⟨W.heap.size, 1, none⟩ = some (.int .i64 w) ∧ V.cell? ⟨W.heap.size, 2, none⟩ = some (.int .i64 s) ∧ V.cell? ⟨W.heap.size, 3, none⟩ = some (.int .i64 c) ∧ V.cell? ⟨W.heap.size, 4, none⟩ = some (.int .u32 st) ∧ V.cell? ⟨W.heap.size, 5, none⟩ = some (.slice ia il ic) ∧ V.cell? ⟨W.heap.size, 6, none⟩ = some (.int .i64 wri) ∧ V.cell? ⟨W.heap.size, 7, none⟩ = some (.slice ra rl rc) ∧ Hid (Chg [] W1 V)) V))
  clear eS0 eS1 eS2 eS3 eS4 eS5 eS6 eS7
  have hHeld : (fun V : World => V.cell? ⟨W.heap.size, 0, none⟩ = some (.int .i64 k) ∧ V.cell? ⟨W.heap.size, 1, none⟩ = some (.int .i64 w) ∧ V.cell? ⟨W.heap.size, 2, none⟩ = some (.int .i64 s) ∧ V.cell? ⟨W.heap.size, 3, none⟩ = some (.int .i64 c) ∧ V.cell? ⟨W.heap.size, 4, none⟩ = some (.int .u32 st) ∧ V.cell? ⟨W.heap.size, 5, none⟩ = some (.slice ia il ic) ∧ V.cell? ⟨W.heap.size, 6, none⟩ = some (.int .i64 wri) ∧ V.cell? ⟨W.heap.size, 7, none⟩ = some (.slice ra rl rc) ∧ Hid (Chg [] W1 V)) (World.drew W1) := KEEP.out _ (Chg.refl _ _).drew
  refine wp_region_plan (fun V : World => V.cell? ⟨W.heap.size, 0, none⟩ = some (.int .i64 k) ∧ V.cell? ⟨W.heap.size, 1, none⟩ = some (.int .i64 w) ∧ V.cell? ⟨W.heap.size, 2, none⟩ = some (.int .i64 s) ∧ V.cell? ⟨W.heap.size, 3, none⟩ = some (.int .i64 c) ∧ V.cell? ⟨W.heap.size, 4, none⟩ = some (.int .u32 st) ∧ V.cell? ⟨W.heap.size, 5, none⟩ = some (.slice ia il ic) ∧ V.cell? ⟨W.heap.size, 6, none⟩ = some (.int .i64 wri) ∧ V.cell? ⟨W.heap.size, 7, none⟩ = some (.slice ra rl rc) ∧ Hid (Chg [] W1 V)) [(0, true, some 31), (1, true, some 32), (2, false, some 33), (3, false, some 34), (4, true, some 5)] (by kernel_rfl) (by kernel_rfl) (by kernel_rfl) (by kernel_rfl) (fun d c a v w h => by cases d <;> exact h) hHeld ?_
  repeat (first
    | (refine planWp_read (v := ?_) rfl rfl ?_ ?_ ?_; rotate_left; (focus rfl); (focus (intro u hSw; (try dsimp only at hSw); go_simp; (try with_reducible rfl))); (try simp only [Act.put, List.setIfInBounds_toArray, List.set_cons_zero, List.set_cons_succ]))
    | (refine planWp_skip rfl rfl ?_ ?_; (focus rfl); (try simp only [Act.put, List.setIfInBounds_toArray, List.set_cons_zero, List.set_cons_succ]))
    | (refine planWp_leave rfl rfl ?_ hHeld ?_; (focus rfl); (try simp only [Act.put, List.setIfInBounds_toArray, List.set_cons_zero, List.set_cons_succ]))
    | (refine planWp_do rfl rfl ?_ (fun K hK => ?_); (focus rfl); go_simp; (try go_wp2_with (first | (go_at_call 27; refine (HLY.out _ (HI.out.chg (HCA.out.trans (HC1.out.trans hHeld.2.2.2.2.2.2.2.2.out)))).mono ?_; rintro e wl ⟨v1, rfl, ho1, hcx⟩; have HCX := Lib.hid hcx; clear hcx; have HV1 := Lib.hid (OwnW.reads ho1 HLW.out); clear ho1; obtain ⟨a1, c1, rfl, _⟩ := reads_slice HV1.out.1) | (go_at_call 36; refine (HRD.out _ _ HV1.out).mono ?_; rintro e wm ⟨mb, sv, rfl, hm, hcx, hmb, hsv⟩; have HCX := Lib.hid hcx; have HM := Lib.hid hm; have HMB : Hid ((W.alloc (.cells #[.int .i64 k, .int .i64 w, .int .i64 s, .int .i64 c, .int .u32 st, .slice ia il ic, .int .i64 wri, .slice ra rl rc] 26)).heap.size ≤ mb ∧ ∀ y, sv.ownBlock = some y → (W.alloc (.cells #[.int .i64 k, .int .i64 w, .int .i64 s, .int .i64 c, .int .u32 st, .slice ia il ic, .int .i64 wri, .slice ra rl rc] 26)).heap.size ≤ y) := Lib.hid ⟨Nat.le_trans (HC1.out.trans hHeld.2.2.2.2.2.2.2.2.out).size hmb, fun y hy => Nat.le_trans (HC1.out.trans hHeld.2.2.2.2.2.2.2.2.out).size (hsv y hy)⟩; clear hcx hm hmb hsv))); refine hK.out _ _ ?_ (fun hHeld2 => ?_); (focus (exact KEEP.out _ (Chg.trans hHeld.2.2.2.2.2.2.2.2.out HCX.out))); clear hK K hHeld; have hHeld := hHeld2; clear hHeld2; (try simp only [Act.put, List.setIfInBounds_toArray, List.set_cons_zero, List.set_cons_succ])))
  refine planWp_nil ?_
  have HO2 := Lib.hid (HO1.out.keep hHeld.2.2.2.2.2.2.2.2.out (by simp))
  have HC2 := Lib.hid (HC1.out.trans hHeld.2.2.2.2.2.2.2.2.out)
  clear hHeld KEEP HO1 HC1 HV1
  have e5 := HO2.out.cell (o := 5) (v := .slice ia il ic) rfl
  go_wp2_with fail
  go_loopw [6, 7] (fun lv i wr => ∃ (j : Nat) (iv : Int) (pa : Option Addr) (pl pc : Nat) (last ws : List Int) (n : Int), j ≤ ql + 1 ∧ iv + 1 = (j : Int) ∧ lv = .slice pa pl pc ∧ i = .int .i64 iv ∧ Hid (ReadsW W (.slice pa pl pc) last ∧ last.length = wN) ∧ Hid (MemAt wr mb sv ws n ∧ ws.length = N + 2 ∧ 0 ≤ n ∧ n ≤ 1000 * (j : Int)) ∧ Hid (chen.keep.Ok w s rl ws last) ∧ Hid (Chg [] (W.alloc (.cells #[.int .i64 k, .int .i64 w, .int .i64 s, .int .i64 c, .int .u32 st, .slice ia il ic, .int .i64 wri, .slice ra rl rc] 26)) wr)) (fun _ i _ => ql + 1 - (intOf i + 1).toNat)
  case atStart => exact ⟨0, -1, ia, il, ic, ini, ws0, 0, by omega, by omega, rfl, rfl, Lib.hid ⟨HI.out, HB.out.2.2.2.2.2.1⟩, Lib.hid ⟨HM.out, HRL.out, by omega, by omega⟩, HOK, HC2⟩
  case round =>
    obtain ⟨j, iv, pa, pl, pc, last, ws, n, hj, hiv, rfl, rfl, HLV, HMM, HOKK, HCW⟩ := hrel
    clear e5 HO2 HM HC2 HOK HRL
    have HBW : Hid (Blk wr W.heap.size #[.int .i64 k, .int .i64 w, .int .i64 s, .int .i64 c, .int .u32 st, .slice ia il ic, .int .i64 wri, .slice ra rl rc] 26) := Lib.hid ((Blk.new W _ _).keep HCW.out (by simp))
    by_cases hlt : iv < (ql : Int)
    rotate_left
    · clear hj hiv
      go_wp2_with (go_at_call 24; refine (chen.awake_any _ (HTA.out.keep HCW.out)).mono ?_; rintro e wz ⟨rfl, hcz⟩; have HZ := Lib.hid hcz; clear hcz)
      go_ret
      exact ⟨rfl, (HCA.out.trans (HCW.out.trans HZ.out)).below⟩
    have HJ : Hid (j ≤ ql ∧ ql ≤ 40 ∧ iv + 1 = (j : Int)) := Lib.hid (by have := HB.out; omega)
    obtain ⟨G, hG⟩ : ∃ G : Bool, decide (1 ≤ j ∧ ((rs.getD (j - 1) (none, 0, 0, [])).2.1 : Int) = w) = G := ⟨_, rfl⟩
    have HG := Lib.hid hG
    go_upto_region 8 with fail
    clear hj hiv
    go_cut [54] from 37 to 132 (fun g wc => g = .bool G ∧ Hid (Chg [] wr wc))
    case first =>
      rcases Nat.eq_zero_or_pos j with hj0 | hj0
      · have hneg : decide ((0 : Int) ≤ iv) = false := by simp; have := HJ.out; omega
        have hneg2 : ¬ ((0 : Int) ≤ iv) := by have := HJ.out; omega
        have hGf : G = false := by rw [← hG]; simp; omega
        subst hGf
        clear hG hj0
        have eS0 : wr.cell? ⟨W.heap.size, 1, none⟩ = some (.int .i64 w) := HBW.out.cell rfl
        have KEEP := Lib.hid (fun (V : World) (h : Chg [] wr V) => (⟨h.keep eS0 (by simp), Lib.hid h⟩ : (fun V : World => V.cell? ⟨W.heap.size, 1, none⟩ = some (.int .i64 w) ∧ Hid (Chg [] wr V)) V))
        clear eS0
        have hHeld : (fun V : World => V.cell? ⟨W.heap.size, 1, none⟩ = some (.int .i64 w) ∧ Hid (Chg [] wr V)) (World.drew wr) := KEEP.out _ (Chg.refl _ _).drew
        refine wp_region_plan (fun V : World => V.cell? ⟨W.heap.size, 1, none⟩ = some (.int .i64 w) ∧ Hid (Chg [] wr V)) [(0, true, some 43), (1, true, some 44), (2, true, some 45), (3, true, some 46), (4, true, some 47), (5, true, some 48), (6, true, some 49), (7, true, some 50), (8, true, some 51), (9, true, some 52), (10, true, some 53), (11, true, some 54)] (by kernel_rfl) (by kernel_rfl) (by kernel_rfl) (by kernel_rfl) (fun d c a v w h => by cases d <;> exact h) hHeld ?_
        repeat (first
          | (refine planWp_read (v := ?_) rfl rfl ?_ ?_ ?_; rotate_left; (focus rfl); (focus (intro u hSw; (try dsimp only at hSw); go_simp; (try with_reducible rfl))); (try simp only [Act.put, List.setIfInBounds_toArray, List.set_cons_zero, List.set_cons_succ]))
          | (refine planWp_skip rfl rfl ?_ ?_; (focus rfl); (try simp only [Act.put, List.setIfInBounds_toArray, List.set_cons_zero, List.set_cons_succ]))
          | (refine planWp_leave rfl rfl ?_ hHeld ?_; (focus rfl); (try simp only [Act.put, List.setIfInBounds_toArray, List.set_cons_zero, List.set_cons_succ]))
          | (refine planWp_do rfl rfl ?_ (fun K hK => ?_); (focus rfl); go_simp; (try go_wp2_with fail); refine hK.out _ _ ?_ (fun hHeld2 => ?_); (focus (fail)); clear hK K hHeld; have hHeld := hHeld2; clear hHeld2; (try simp only [Act.put, List.setIfInBounds_toArray, List.set_cons_zero, List.set_cons_succ])))
        refine planWp_nil ?_
        have HCK := Lib.hid hHeld.2.out
        clear hHeld KEEP
        go_wp2_with fail
        go_meet
        case rel => exact ⟨rfl, HCK⟩
      · obtain ⟨j0, rfl⟩ : ∃ j0, j = j0 + 1 := ⟨j - 1, by omega⟩
        obtain rfl : iv = (j0 : Int) := by have := HJ.out; omega
        have hjq : j0 < ql := by have := HJ.out; omega
        have hjl : j0 < rs.length := by rw [HRR0.out.1]; exact hjq
        obtain ⟨b, off, hqa, hel⟩ : ∃ b off, qa = some ⟨b, off, none⟩ ∧ ∀ (i : Nat) r, rs[i]? = some r → W.cell? ⟨b, off + i, none⟩ = some (.slice r.1 r.2.1 r.2.2.1) := by
          rcases HRR0.out.2.1 with h0 | h0
          · omega
          · exact h0
        subst hqa
        have hge : rs.getD (j0 + 1 - 1) (none, 0, 0, []) = rs[j0] := by simp [List.getD, hjl]
        rw [hge] at hG
        have ec0 := hel j0 _ (List.getElem?_eq_getElem hjl)
        generalize rs[j0] = r at hG ec0
        obtain ⟨r1, r2, r3, r4⟩ := r
        dsimp only at hG ec0
        have hGv : ((r2 : Int) == w) = G := by rw [← hG]; simp; rw [Bool.eq_iff_iff]; simp
        have hpos : (0 : Int) ≤ (j0 : Int) := by omega
        have hpos2 : decide ((0 : Int) ≤ (j0 : Int)) = true := by simp
        clear hG hge hel hj0 hjl
        have eS0 : wr.cell? ⟨W.heap.size, 1, none⟩ = some (.int .i64 w) := HBW.out.cell rfl
        have eS1 : wr.cell? ⟨b, off + j0, none⟩ = some (.slice r1 r2 r3) := (HCA.out.trans HCW.out).keep ec0 (by simp)
        have KEEP := Lib.hid (fun (V : World) (h : Chg [] wr V) => (⟨h.keep eS0 (by simp), h.keep eS1 (by simp), Lib.hid h⟩ : (fun V : World => V.cell? ⟨W.heap.size, 1, none⟩ = some (.int .i64 w) ∧ V.cell? ⟨b, off + j0, none⟩ = some (.slice r1 r2 r3) ∧ Hid (Chg [] wr V)) V))
        clear eS0 eS1 ec0
        have hHeld : (fun V : World => V.cell? ⟨W.heap.size, 1, none⟩ = some (.int .i64 w) ∧ V.cell? ⟨b, off + j0, none⟩ = some (.slice r1 r2 r3) ∧ Hid (Chg [] wr V)) (World.drew wr) := KEEP.out _ (Chg.refl _ _).drew
        refine wp_region_plan (fun V : World => V.cell? ⟨W.heap.size, 1, none⟩ = some (.int .i64 w) ∧ V.cell? ⟨b, off + j0, none⟩ = some (.slice r1 r2 r3) ∧ Hid (Chg [] wr V)) [(0, true, some 43), (1, true, some 44), (2, true, some 45), (3, true, some 46), (4, true, some 47), (5, true, some 48), (6, true, some 49), (7, true, some 50), (8, true, some 51), (9, true, some 52), (10, true, some 53), (11, true, some 54)] (by kernel_rfl) (by kernel_rfl) (by kernel_rfl) (by kernel_rfl) (fun d c a v w h => by cases d <;> exact h) hHeld ?_
        repeat (first
          | (refine planWp_read (v := ?_) rfl rfl ?_ ?_ ?_; rotate_left; (focus rfl); (focus (intro u hSw; (try dsimp only at hSw); go_simp; (try with_reducible rfl))); (try simp only [Act.put, List.setIfInBounds_toArray, List.set_cons_zero, List.set_cons_succ]))
          | (refine planWp_skip rfl rfl ?_ ?_; (focus rfl); (try simp only [Act.put, List.setIfInBounds_toArray, List.set_cons_zero, List.set_cons_succ]))
          | (refine planWp_leave rfl rfl ?_ hHeld ?_; (focus rfl); (try simp only [Act.put, List.setIfInBounds_toArray, List.set_cons_zero, List.set_cons_succ]))
          | (refine planWp_do rfl rfl ?_ (fun K hK => ?_); (focus rfl); go_simp; (try go_wp2_with fail); refine hK.out _ _ ?_ (fun hHeld2 => ?_); (focus (fail)); clear hK K hHeld; have hHeld := hHeld2; clear hHeld2; (try simp only [Act.put, List.setIfInBounds_toArray, List.set_cons_zero, List.set_cons_succ])))
        refine planWp_nil ?_
        have HCK := Lib.hid hHeld.2.2.out
        clear hHeld KEEP
        go_wp2_with fail
        go_meet
        case rel => exact ⟨rfl, HCK⟩
    case rest =>
    obtain ⟨rfl, HCK⟩ := hcut
    rename World => wone
    have HCW1 : Hid (Chg [] (W.alloc (.cells #[.int .i64 k, .int .i64 w, .int .i64 s, .int .i64 c, .int .u32 st, .slice ia il ic, .int .i64 wri, .slice ra rl rc] 26)) wone) := Lib.hid (HCW.out.trans HCK.out)
    have HMM1 : Hid (MemAt wone mb sv ws n ∧ ws.length = N + 2 ∧ 0 ≤ n ∧ n ≤ 1000 * (j : Int)) := Lib.hid ⟨HMM.out.1.fresh HCK.out, HMM.out.2⟩
    clear HBW HMM HCW HCK hG
    have HBW : Hid (Blk wone W.heap.size #[.int .i64 k, .int .i64 w, .int .i64 s, .int .i64 c, .int .u32 st, .slice ia il ic, .int .i64 wri, .slice ra rl rc] 26) := Lib.hid ((Blk.new W _ _).keep HCW1.out (by simp))
    go_upto_if 54 with fail
    go_cut [6] from 37 to 132 (fun lv wc => ∃ (pa : Option Addr) (pl pc : Nat) (last ws : List Int) (n : Int), lv = .slice pa pl pc ∧ Hid (ReadsW W (.slice pa pl pc) last ∧ last.length = wN) ∧ Hid (MemAt wc mb sv ws n ∧ ws.length = N + 2 ∧ 0 ≤ n ∧ n ≤ 1000 * (j : Int) + 200) ∧ Hid (chen.keep.Ok w s rl ws last) ∧ Hid (Chg [] (W.alloc (.cells #[.int .i64 k, .int .i64 w, .int .i64 s, .int .i64 c, .int .u32 st, .slice ia il ic, .int .i64 wri, .slice ra rl rc] 26)) wc))
    case first =>
      cases G
      · go_wp2_with fail
        go_meet
        case rel => exact ⟨pa, pl, pc, last, ws, n, rfl, HLV, Lib.hid ⟨HMM1.out.1, HMM1.out.2.1, HMM1.out.2.2.1, by have := HMM1.out.2.2.2; omega⟩, HOKK, HCW1⟩
      · have hG2 : 1 ≤ j ∧ ((rs.getD (j - 1) (none, 0, 0, [])).2.1 : Int) = w := of_decide_eq_true HG.out
        obtain ⟨j0, rfl⟩ : ∃ j0, j = j0 + 1 := ⟨j - 1, by omega⟩
        obtain rfl : iv = (j0 : Int) := by have := HJ.out; omega
        have hjq : j0 < ql := by have := HJ.out; omega
        have hjqI : (j0 : Int) < (ql : Int) := by omega
        have hjl : j0 < rs.length := by rw [HRR0.out.1]; exact hjq
        obtain ⟨b, off, hqa, hel⟩ : ∃ b off, qa = some ⟨b, off, none⟩ ∧ ∀ (i : Nat) r, rs[i]? = some r → W.cell? ⟨b, off + i, none⟩ = some (.slice r.1 r.2.1 r.2.2.1) := by
          rcases HRR0.out.2.1 with h0 | h0
          · omega
          · exact h0
        subst hqa
        have hge : rs.getD (j0 + 1 - 1) (none, 0, 0, []) = rs[j0] := by simp [List.getD, hjl]
        rw [hge] at hG2
        have ec0 := hel j0 _ (List.getElem?_eq_getElem hjl)
        have hrr := HRR0.out.2.2 _ (List.getElem_mem hjl)
        generalize rs[j0] = r at hG2 ec0 hrr
        obtain ⟨r1, r2, r3, rec⟩ := r
        dsimp only at hG2 ec0 hrr
        have hrl : rec.length = wN := by
          have h1 : r2 = rec.length := by obtain ⟨_, _, he, _⟩ := reads_slice hrr.1; simp at he; exact he.2.1
          have := HB.out.2.1; omega
        have HREC := Lib.hid hrr
        have HRCL := Lib.hid hrl
        have HSH := Lib.hid (HWS.out rec hrl)
        have HBG : Hid (begI w rl (N : Int) 1 2 0 2 1 rec.length = 0) := Lib.hid (by
          have h1 := HB.out; unfold begI
          rw [if_neg (by omega), if_pos rfl, if_neg (by omega), if_neg (by omega)])
        have HNB : Hid (0 ≤ n ∧ n ≤ 41200) := Lib.hid (by have h1 := HMM1.out.2.2; have h2 := HJ.out; omega)
        have HWL : Hid (ws.length = N + 2) := Lib.hid HMM1.out.2.1
        have HEC := Lib.hid ec0
        clear hG2 hge hel hrr hrl ec0 HG
        go_upto_region 9 with fail
        have eS0 : wone.cell? ⟨W.heap.size, 0, none⟩ = some (.int .i64 k) := HBW.out.cell rfl
        have eS1 : wone.cell? ⟨W.heap.size, 1, none⟩ = some (.int .i64 w) := HBW.out.cell rfl
        have eS2 : wone.cell? ⟨W.heap.size, 2, none⟩ = some (.int .i64 s) := HBW.out.cell rfl
        have eS3 : wone.cell? ⟨W.heap.size, 3, none⟩ = some (.int .i64 c) := HBW.out.cell rfl
        have eS4 : wone.cell? ⟨W.heap.size, 4, none⟩ = some (.int .u32 st) := HBW.out.cell rfl
        have eS5 : wone.cell? ⟨W.heap.size, 5, none⟩ = some (.slice ia il ic) := HBW.out.cell rfl
        have eS6 : wone.cell? ⟨W.heap.size, 6, none⟩ = some (.int .i64 wri) := HBW.out.cell rfl
        have eS7 : wone.cell? ⟨W.heap.size, 7, none⟩ = some (.slice ra rl rc) := HBW.out.cell rfl
        have eS8 : wone.cell? ⟨b, off + j0, none⟩ = some (.slice r1 r2 r3) := (HCA.out.trans HCW1.out).keep HEC.out (by simp)
        have KEEP := Lib.hid (fun (V : World) (h : Chg [] wone V) => (⟨h.keep eS0 (by simp), h.keep eS1 (by simp), h.keep eS2 (by simp), h.keep eS3 (by simp), h.keep eS4 (by simp), h.keep eS5 (by simp), h.keep eS6 (by simp), h.keep eS7 (by simp), h.keep eS8 (by simp), Lib.hid h⟩ : (fun V : World => V.cell? ⟨W.heap.size, 0, none⟩ = some (.int .i64 k) ∧ V.cell? ⟨W.heap.size, 1, none⟩ = some (.int .i64 w) ∧ V.cell? ⟨W.heap.size, 2, none⟩ = some (.int .i64 s) ∧ V.cell? ⟨W.heap.size, 3, none⟩ = some (.int .i64 c) ∧ V.cell? ⟨W.heap.size, 4, none⟩ = some (.int .u32 st) ∧ V.cell? ⟨W.heap.size, 5, none⟩ = some (.slice ia il ic) ∧ V.cell? ⟨W.heap.size, 6, none⟩ = some (.int .i64 wri) ∧ V.cell? ⟨W.heap.size, 7, none⟩ = some (.slice ra rl rc) ∧ V.cell? ⟨b, off + j0, none⟩ = some (.slice r1 r2 r3) ∧ Hid (Chg [] wone V)) V))
        clear eS0 eS1 eS2 eS3 eS4 eS5 eS6 eS7 eS8
        have hHeld : (fun V : World => V.cell? ⟨W.heap.size, 0, none⟩ = some (.int .i64 k) ∧ V.cell? ⟨W.heap.size, 1, none⟩ = some (.int .i64 w) ∧ V.cell? ⟨W.heap.size, 2, none⟩ = some (.int .i64 s) ∧ V.cell? ⟨W.heap.size, 3, none⟩ = some (.int .i64 c) ∧ V.cell? ⟨W.heap.size, 4, none⟩ = some (.int .u32 st) ∧ V.cell? ⟨W.heap.size, 5, none⟩ = some (.slice ia il ic) ∧ V.cell? ⟨W.heap.size, 6, none⟩ = some (.int .i64 wri) ∧ V.cell? ⟨W.heap.size, 7, none⟩ = some (.slice ra rl rc) ∧ V.cell? ⟨b, off + j0, none⟩ = some (.slice r1 r2 r3) ∧ Hid (Chg [] wone V)) (World.drew wone) := KEEP.out _ (Chg.refl _ _).drew
        refine wp_region_plan (fun V : World => V.cell? ⟨W.heap.size, 0, none⟩ = some (.int .i64 k) ∧ V.cell? ⟨W.heap.size, 1, none⟩ = some (.int .i64 w) ∧ V.cell? ⟨W.heap.size, 2, none⟩ = some (.int .i64 s) ∧ V.cell? ⟨W.heap.size, 3, none⟩ = some (.int .i64 c) ∧ V.cell? ⟨W.heap.size, 4, none⟩ = some (.int .u32 st) ∧ V.cell? ⟨W.heap.size, 5, none⟩ = some (.slice ia il ic) ∧ V.cell? ⟨W.heap.size, 6, none⟩ = some (.int .i64 wri) ∧ V.cell? ⟨W.heap.size, 7, none⟩ = some (.slice ra rl rc) ∧ V.cell? ⟨b, off + j0, none⟩ = some (.slice r1 r2 r3) ∧ Hid (Chg [] wone V)) [(0, true, some 56), (1, true, some 57), (2, true, some 58), (3, true, some 59), (4, true, some 60), (5, false, some 61), (6, true, some 55), (7, true, some 62), (8, true, some 63), (9, true, some 8), (10, true, some 9)] (by kernel_rfl) (by kernel_rfl) (by kernel_rfl) (by kernel_rfl) (fun d c a v w h => by cases d <;> exact h) hHeld ?_
        repeat (first
          | (refine planWp_read (v := ?_) rfl rfl ?_ ?_ ?_; rotate_left; (focus rfl); (focus (intro u hSw; (try dsimp only at hSw); go_simp; (try with_reducible rfl))); (try simp only [Act.put, List.setIfInBounds_toArray, List.set_cons_zero, List.set_cons_succ]))
          | (refine planWp_skip rfl rfl ?_ ?_; (focus rfl); (try simp only [Act.put, List.setIfInBounds_toArray, List.set_cons_zero, List.set_cons_succ]))
          | (refine planWp_leave rfl rfl ?_ hHeld ?_; (focus rfl); (try simp only [Act.put, List.setIfInBounds_toArray, List.set_cons_zero, List.set_cons_succ]))
          | (refine planWp_do rfl rfl ?_ (fun K hK => ?_); (focus rfl); go_simp; (try go_wp2_with (go_at_call 38; refine (chen.Begin_yes k w s c st ia il ic wri ra rl rc 1 2 0 (N : Int) _ rec _ (HREC.out.chg (HCA.out.trans (HCW1.out.trans hHeld.2.2.2.2.2.2.2.2.2.out))) (by have h1 := HRCL.out; have h2 := HB.out; omega) HSZ.out HBG.out).mono ?_; rintro e wb ⟨bx, v, rfl, hb, ho, hv, hxb, hcx⟩; have HP0 : Hid (Pair 83 bx mb sv wb ({ k := k, w := w, s := s, c := c, st := st, ia := ia, il := il, ic := ic, wr := wri, ra := ra, rl := rl, rc := rc, op := 2, reader := 0, phase := 0, i := 0, tries := 0, a := 0, b := 0, used := 0, m := .pointer none, base := 1, size := (N : Int), code := 0, steps := 0, over := false } : Core) v rec ws n) := Lib.hid (Pair.late hb ho hv hxb HREC.out.2 (by have h1 := HRCL.out; have h2 := HB.out; omega) hcx (HMM1.out.1.fresh hHeld.2.2.2.2.2.2.2.2.2.out)); have HX0 : Hid ((W.alloc (.cells #[.int .i64 k, .int .i64 w, .int .i64 s, .int .i64 c, .int .u32 st, .slice ia il ic, .int .i64 wri, .slice ra rl rc] 26)).heap.size ≤ bx) := Lib.hid (Nat.le_trans (HCW1.out.trans hHeld.2.2.2.2.2.2.2.2.2.out).size hxb); have HV0 : Hid (∀ y, v.ownBlock = some y → (W.alloc (.cells #[.int .i64 k, .int .i64 w, .int .i64 s, .int .i64 c, .int .u32 st, .slice ia il ic, .int .i64 wri, .slice ra rl rc] 26)).heap.size ≤ y) := Lib.hid (fun y hy => by rcases ho.2 with ⟨rfl, _⟩ | ⟨g, _, _, rfl, hg, _⟩; cases hy; simp [Value.ownBlock] at hy; have := (HCW1.out.trans hHeld.2.2.2.2.2.2.2.2.2.out).size; omega); have HCX := Lib.hid hcx; clear hcx hb ho hv hxb)); refine hK.out _ _ ?_ (fun hHeld2 => ?_); (focus (exact KEEP.out _ (Chg.trans hHeld.2.2.2.2.2.2.2.2.2.out HCX.out))); clear hK K hHeld; have hHeld := hHeld2; clear hHeld2; (try simp only [Act.put, List.setIfInBounds_toArray, List.set_cons_zero, List.set_cons_succ])))
        refine planWp_nil ?_
        have HCB : Hid (Chg [] (W.alloc (.cells #[.int .i64 k, .int .i64 w, .int .i64 s, .int .i64 c, .int .u32 st, .slice ia il ic, .int .i64 wri, .slice ra rl rc] 26)) wb) := Lib.hid (HCW1.out.trans hHeld.2.2.2.2.2.2.2.2.2.out)
        have HST0 : Hid (chen.keep.WI w s rl (({ k := k, w := w, s := s, c := c, st := st, ia := ia, il := il, ic := ic, wr := wri, ra := ra, rl := rl, rc := rc, op := 2, reader := 0, phase := 0, i := 0, tries := 0, a := 0, b := 0, used := 0, m := .pointer none, base := 1, size := (N : Int), code := 0, steps := 0, over := false } : Core), rec, ws) rec) := Lib.hid (chen.wi_start HB.out.1 rfl rfl rfl rfl rfl rfl rfl rfl rfl (by have h1 := HRCL.out; have h2 := HB.out.2.1; omega) HOKK.out)
        clear hHeld KEEP
        generalize hw0 : wb = w0 at *
        clear hw0
        obtain ⟨q0, hq0⟩ : ∃ q0 : Q, (({ k := k, w := w, s := s, c := c, st := st, ia := ia, il := il, ic := ic, wr := wri, ra := ra, rl := rl, rc := rc, op := 2, reader := 0, phase := 0, i := 0, tries := 0, a := 0, b := 0, used := 0, m := .pointer none, base := 1, size := (N : Int), code := 0, steps := 0, over := false } : Core), rec, ws) = q0 := ⟨_, rfl⟩
        have HAT0 : Hid (chen.K.At 83 bx mb sv w0 v q0 n w0 0) := Lib.hid (by rw [← hq0]; exact Kind.At.start (St.start HP0.out) HSH.out.1)
        have HI0 : Hid (chen.keep.WI w s rl (chen.K.run (.pointer (some ⟨mb, 0, none⟩)) 0 q0) rec) := Lib.hid (by rw [← hq0]; exact HST0.out)
        have HQ0 : Hid (q0.1.base = 1 ∧ q0.1.size = (N : Int) ∧ q0.2.2.length = N + 2 ∧ q0.1.steps = 0 ∧ chen.K.left q0.1 ≤ 200) := Lib.hid (by rw [← hq0]; exact ⟨rfl, rfl, HWL.out, rfl, HSH.out.2⟩)
        clear hq0 HP0 HSH HST0
        go_wp2_with fail
        go_loopw [70] (fun _ wr => ∃ t : Nat, Hid (chen.K.At 83 bx mb sv w0 v q0 n wr t) ∧ Hid (chen.keep.WI w s rl (chen.K.run (.pointer (some ⟨mb, 0, none⟩)) t q0) rec)) (fun _ wr => 200 - stepsOf wr bx)
        case atStart => exact ⟨0, HAT0, HI0⟩
        case round =>
          obtain ⟨t, HAT, HIT⟩ := hrel
          clear HAT0 HI0
          have HT : Hid ((t : Int) ≤ 200 ∧ (chen.K.run (.pointer (some ⟨mb, 0, none⟩)) t q0).1.steps = (t : Int)) := Lib.hid (by
            have h1 := HAT.out.most; have h2 := HQ0.out.2.2.2.2; have h3 := HAT.out.steps; have h4 := HQ0.out.2.2.2.1
            exact ⟨by omega, by omega⟩)
          have hopn := HAT.out.opens (by rw [HQ0.out.1]; omega) (by rw [HQ0.out.2.1]; omega) (by rw [HQ0.out.1, HQ0.out.2.1, HQ0.out.2.2.1]; omega)
          cases hov : (chen.K.run (.pointer (some ⟨mb, 0, none⟩)) t q0).1.over
          · rw [hov] at hopn
            have HOP : Hid (core.opens (chen.K.run (.pointer (some ⟨mb, 0, none⟩)) t q0).1 (chen.K.run (.pointer (some ⟨mb, 0, none⟩)) t q0).2.2.length = true) := Lib.hid hopn
            have HLT : Hid (t < 200) := Lib.hid (by
              have h1 := HAT.out.left; have h2 := chen.K.pos HAT.out.shape hov; have h3 := HQ0.out.2.2.2.2
              omega)
            have HIN : Hid (chen.keep.WI w s rl (chen.K.run (.pointer (some ⟨mb, 0, none⟩)) (t + 1) q0) rec) := Lib.hid (chen.keep.wstep (.pointer (some ⟨mb, 0, none⟩)) HAT.out.shape hov HIT.out)
            have HOV := Lib.hid hov
            clear hopn hov
            go_wp2_with (go_at_call 39; refine (chen.Step_yes (tabs HTA.out HCB.out HX0.out HMB.out.1 HMB.out.2 HV0.out) HAT.out.shape (by rw [HT.out.2]; have := HT.out.1; omega) HOP.out (by have h1 := HT.out.1; have h2 := HNB.out; omega) HAT.out.st).mono ?_; rintro e w5 ⟨rfl, hx⟩; have HX := Lib.hid (HAT.out.next HOV.out hx); clear hx)
            have hlt := HLT.out
            have m1 := HAT.out.made HQ0.out.2.2.2.1
            have m2 := HX.out.made HQ0.out.2.2.2.1
            go_roundw
            case rel => exact ⟨t + 1, HX, HIN⟩
            case measure => rw [m1, m2]; omega
          · rw [hov] at hopn
            have HOP : Hid (core.opens (chen.K.run (.pointer (some ⟨mb, 0, none⟩)) t q0).1 (chen.K.run (.pointer (some ⟨mb, 0, none⟩)) t q0).2.2.length = false) := Lib.hid hopn
            have HOV := Lib.hid hov
            have HEND := Lib.hid (chen.keep.wend HIT.out hov)
            have HLEN : Hid ((chen.K.run (.pointer (some ⟨mb, 0, none⟩)) t q0).2.2.length = N + 2) := Lib.hid (by rw [Kind.run_len]; exact HQ0.out.2.2.1)
            have HNT : Hid (0 ≤ n + (t : Int) ∧ n + (t : Int) ≤ n + 200) := Lib.hid (by have h1 := HT.out.1; have h2 := HNB.out; omega)
            have HNEW : Hid (Chg [] (W.alloc (.cells #[.int .i64 k, .int .i64 w, .int .i64 s, .int .i64 c, .int .u32 st, .slice ia il ic, .int .i64 wri, .slice ra rl rc] 26)) wr) := Lib.hid (HAT.out.st.into HCB.out HX0.out HMB.out.1 HMB.out.2 HV0.out)
            have HSTE := Lib.hid HAT.out.st
            obtain ⟨qe, hqe⟩ : ∃ qe : Q, chen.K.run (.pointer (some ⟨mb, 0, none⟩)) t q0 = qe := ⟨_, rfl⟩
            obtain ⟨ne, hne⟩ : ∃ ne : Int, n + (t : Int) = ne := ⟨_, rfl⟩
            simp only [hqe, hne] at HOP HOV HEND HLEN HNT HSTE
            clear hqe hne HAT HIT hopn hov HT HQ0
            obtain ⟨ve, hpe, hee⟩ := HSTE.out
            have HPE := Lib.hid hpe
            clear hpe hee
            obtain ⟨rr, hrr⟩ : ∃ rr, (if qe.1.over then qe.2.1 else []) = rr := ⟨_, rfl⟩
            have HRR : Hid (qe.2.1 = rr) := Lib.hid (by rw [← hrr, HOV.out]; rfl)
            have HAX : Hid (∀ V, Chg [] wr V → Calls Tryd.prog 42 #[.pointer (some ⟨bx, 0, none⟩)] V fun e W' => ∃ v', e = .returned (.tuple #[v', .int .i64 0]) ∧ OwnW W' V.heap.size v' rr ∧ Chg [] V W') := Lib.hid (fun V hV => by
              have h1 := chen.Answer_any (HPE.out.keep hV)
              rw [hrr, show (if qe.1.over then qe.1.code else 0) = 0 from by rw [HEND.out.1]; simp] at h1
              exact h1)
            have HOX : Hid (∀ V, Chg [] wr V → Calls Tryd.prog 40 #[.pointer (some ⟨bx, 0, none⟩)] V fun e W' => e = .returned (.bool true) ∧ V = W') := Lib.hid (fun V hV => by
              have h1 := chen.Over_any (St.start (HPE.out.keep hV))
              rw [HOV.out] at h1
              exact h1)
            clear hrr
            have HF := Lib.hid (Chg.refl [] wr)
            go_upto_region 14 with (first | (go_at_call 39; refine (chen.Step_no HOP.out HSTE.out).mono ?_; rintro e w6 ⟨rfl, hc⟩; have HF := Lib.hid (HF.out.trans hc); clear hc) | (go_at_call 42; refine (HAX.out _ HF.out).mono ?_; rintro e w7 ⟨xa, rfl, ho, hc⟩; have HF := Lib.hid (HF.out.trans hc); have HOA := Lib.hid ho; clear ho hc) | (go_at_call 40; refine (HOX.out _ HF.out).mono ?_; rintro e w8 ⟨rfl, rfl⟩))
            have ecZ := (HCA.out.trans (HNEW.out.trans HF.out)).keep HEC.out (by simp)
            go_wp2_with fail
            go_meet
            case rel => exact ⟨r1, r2, r3, rec, qe.2.2, ne, rfl, Lib.hid ⟨HREC.out, HRCL.out⟩, Lib.hid ⟨HPE.out.mem.fresh HF.out, HLEN.out, HNT.out.1, by have h1 := HNT.out.2; have h2 := HMM1.out.2.2.2; omega⟩, Lib.hid HEND.out.2, Lib.hid (HNEW.out.trans HF.out)⟩
    case rest =>
    clear HLV HOKK
    obtain ⟨pa2, pl2, pc2, last, ws2, n2, rfl, HLV, HMM2, HOK2, HCW2⟩ := hcut
    rename World => wtwo
    clear HMM1 HCW1 HBW HG
    have HBT : Hid (Blk wtwo W.heap.size #[.int .i64 k, .int .i64 w, .int .i64 s, .int .i64 c, .int .u32 st, .slice ia il ic, .int .i64 wri, .slice ra rl rc] 26) := Lib.hid ((Blk.new W _ _).keep HCW2.out (by simp))
    have e7 := HBT.out.cell (o := 7) (v := .slice ra rl rc) rfl
    go_wp2_with fail
    go_loopw [94] (fun r wr => ∃ (r0 : Nat) (ws : List Int) (n : Int), r0 ≤ rl ∧ r = .int .i64 (r0 : Int) ∧ Hid (MemAt wr mb sv ws n ∧ ws.length = N + 2 ∧ 0 ≤ n ∧ n ≤ 1000 * (j : Int) + 200 + 200 * (r0 : Int)) ∧ Hid (chen.keep.Ok w s rl ws last) ∧ Hid (Chg [] (W.alloc (.cells #[.int .i64 k, .int .i64 w, .int .i64 s, .int .i64 c, .int .u32 st, .slice ia il ic, .int .i64 wri, .slice ra rl rc] 26)) wr)) (fun r _ => rl - (intOf r).toNat)
    case atStart => exact ⟨0, ws2, n2, by omega, rfl, Lib.hid ⟨HMM2.out.1, HMM2.out.2.1, HMM2.out.2.2.1, by have := HMM2.out.2.2.2; omega⟩, HOK2, HCW2⟩
    case round =>
      obtain ⟨r0, ws, n, hr0, rfl, HMR, HOKR, HCR⟩ := hrel
      clear e7 HBT HMM2 HOK2 HCW2
      by_cases hrlt : r0 < rl
      · have hrltI : (r0 : Int) < (rl : Int) := by omega
        have HR0 := Lib.hid hrlt
        have HBR : Hid (Blk wr W.heap.size #[.int .i64 k, .int .i64 w, .int .i64 s, .int .i64 c, .int .u32 st, .slice ia il ic, .int .i64 wri, .slice ra rl rc] 26) := Lib.hid ((Blk.new W _ _).keep HCR.out (by simp))
        have e0 : wr.cell? ⟨W.heap.size, 0, none⟩ = some (.int .i64 k) := HBR.out.cell rfl
        have e1 : wr.cell? ⟨W.heap.size, 1, none⟩ = some (.int .i64 w) := HBR.out.cell rfl
        have e2 : wr.cell? ⟨W.heap.size, 2, none⟩ = some (.int .i64 s) := HBR.out.cell rfl
        have e3 : wr.cell? ⟨W.heap.size, 3, none⟩ = some (.int .i64 c) := HBR.out.cell rfl
        have e4 : wr.cell? ⟨W.heap.size, 4, none⟩ = some (.int .u32 st) := HBR.out.cell rfl
        have e5 : wr.cell? ⟨W.heap.size, 5, none⟩ = some (.slice ia il ic) := HBR.out.cell rfl
        have e6 : wr.cell? ⟨W.heap.size, 6, none⟩ = some (.int .i64 wri) := HBR.out.cell rfl
        have e7 : wr.cell? ⟨W.heap.size, 7, none⟩ = some (.slice ra rl rc) := HBR.out.cell rfl
        have HSH := Lib.hid (HRS.out r0 hrlt)
        have HBG : Hid (begI w rl (N : Int) 1 1 (r0 : Int) 2 1 ([] : List Int).length = 0) := Lib.hid (by
          have h1 := HB.out; unfold begI
          rw [if_neg (by omega), if_neg (by omega), if_pos rfl, if_neg (by omega), if_neg (by simp)])
        have HNB : Hid (0 ≤ n ∧ n ≤ 42200) := Lib.hid (by have h1 := HMR.out.2.2; have h2 := HJ.out; have h3 := HB.out; omega)
        have HWL : Hid (ws.length = N + 2) := Lib.hid HMR.out.2.1
        have HST0 : Hid (chen.keep.RI w s rl (({ k := k, w := w, s := s, c := c, st := st, ia := ia, il := il, ic := ic, wr := wri, ra := ra, rl := rl, rc := rc, op := 1, reader := (r0 : Int), phase := 0, i := 0, tries := 0, a := 0, b := 0, used := 0, m := .pointer none, base := 1, size := (N : Int), code := 0, steps := 0, over := false } : Core), [], ws) last) := Lib.hid (chen.ri_start HB.out.1 rfl rfl rfl rfl rfl rfl rfl rfl rfl HOKR.out)
        clear hrlt hr0
        go_upto_block 6 with (go_at_call 38; refine (chen.Begin_yes k w s c st ia il ic wri ra rl rc 1 1 (r0 : Int) (N : Int) _ [] _ (ReadsW.nil _) (by simp) HSZ.out HBG.out).mono ?_; rintro e wb ⟨bx, v, rfl, hb, ho, hv, hxb, hcx⟩; have HP0 : Hid (Pair 83 bx mb sv wb ({ k := k, w := w, s := s, c := c, st := st, ia := ia, il := il, ic := ic, wr := wri, ra := ra, rl := rl, rc := rc, op := 1, reader := (r0 : Int), phase := 0, i := 0, tries := 0, a := 0, b := 0, used := 0, m := .pointer none, base := 1, size := (N : Int), code := 0, steps := 0, over := false } : Core) v [] ws n) := Lib.hid (Pair.late hb ho hv hxb (by simp) (by simp) hcx HMR.out.1); have HX0 : Hid ((W.alloc (.cells #[.int .i64 k, .int .i64 w, .int .i64 s, .int .i64 c, .int .u32 st, .slice ia il ic, .int .i64 wri, .slice ra rl rc] 26)).heap.size ≤ bx) := Lib.hid (Nat.le_trans HCR.out.size hxb); have HV0 : Hid (∀ y, v.ownBlock = some y → (W.alloc (.cells #[.int .i64 k, .int .i64 w, .int .i64 s, .int .i64 c, .int .u32 st, .slice ia il ic, .int .i64 wri, .slice ra rl rc] 26)).heap.size ≤ y) := Lib.hid (fun y hy => by rcases ho.2 with ⟨rfl, _⟩ | ⟨g, _, _, rfl, hg, _⟩; cases hy; simp [Value.ownBlock] at hy; have := HCR.out.size; omega); have HCB : Hid (Chg [] (W.alloc (.cells #[.int .i64 k, .int .i64 w, .int .i64 s, .int .i64 c, .int .u32 st, .slice ia il ic, .int .i64 wri, .slice ra rl rc] 26)) wb) := Lib.hid (HCR.out.trans hcx); clear hcx hb ho hv hxb e0 e1 e2 e3 e4 e5 e6 e7)
        generalize hw0 : wb = w0 at *
        clear hw0
        obtain ⟨q0, hq0⟩ : ∃ q0 : Q, (({ k := k, w := w, s := s, c := c, st := st, ia := ia, il := il, ic := ic, wr := wri, ra := ra, rl := rl, rc := rc, op := 1, reader := (r0 : Int), phase := 0, i := 0, tries := 0, a := 0, b := 0, used := 0, m := .pointer none, base := 1, size := (N : Int), code := 0, steps := 0, over := false } : Core), [], ws) = q0 := ⟨_, rfl⟩
        have HAT0 : Hid (chen.K.At 83 bx mb sv w0 v q0 n w0 0) := Lib.hid (by rw [← hq0]; exact Kind.At.start (St.start HP0.out) HSH.out.1)
        have HI0 : Hid (chen.keep.RI w s rl (chen.K.run (.pointer (some ⟨mb, 0, none⟩)) 0 q0) last) := Lib.hid (by rw [← hq0]; exact HST0.out)
        have HQ0 : Hid (q0.1.base = 1 ∧ q0.1.size = (N : Int) ∧ q0.2.2.length = N + 2 ∧ q0.1.steps = 0 ∧ chen.K.left q0.1 ≤ 200) := Lib.hid (by rw [← hq0]; exact ⟨rfl, rfl, HWL.out, rfl, HSH.out.2⟩)
        clear hq0 HP0 HSH HST0
        go_wp2_with fail
        go_loopw [109] (fun _ wr => ∃ t : Nat, Hid (chen.K.At 83 bx mb sv w0 v q0 n wr t) ∧ Hid (chen.keep.RI w s rl (chen.K.run (.pointer (some ⟨mb, 0, none⟩)) t q0) last)) (fun _ wr => 200 - stepsOf wr bx)
        case atStart => exact ⟨0, HAT0, HI0⟩
        case round =>
          obtain ⟨t, HAT, HIT⟩ := hrel
          clear HAT0 HI0
          have HT : Hid ((t : Int) ≤ 200 ∧ (chen.K.run (.pointer (some ⟨mb, 0, none⟩)) t q0).1.steps = (t : Int)) := Lib.hid (by
            have h1 := HAT.out.most; have h2 := HQ0.out.2.2.2.2; have h3 := HAT.out.steps; have h4 := HQ0.out.2.2.2.1
            exact ⟨by omega, by omega⟩)
          have hopn := HAT.out.opens (by rw [HQ0.out.1]; omega) (by rw [HQ0.out.2.1]; omega) (by rw [HQ0.out.1, HQ0.out.2.1, HQ0.out.2.2.1]; omega)
          cases hov : (chen.K.run (.pointer (some ⟨mb, 0, none⟩)) t q0).1.over
          · rw [hov] at hopn
            have HOP : Hid (core.opens (chen.K.run (.pointer (some ⟨mb, 0, none⟩)) t q0).1 (chen.K.run (.pointer (some ⟨mb, 0, none⟩)) t q0).2.2.length = true) := Lib.hid hopn
            have HLT : Hid (t < 200) := Lib.hid (by
              have h1 := HAT.out.left; have h2 := chen.K.pos HAT.out.shape hov; have h3 := HQ0.out.2.2.2.2
              omega)
            have HIN : Hid (chen.keep.RI w s rl (chen.K.run (.pointer (some ⟨mb, 0, none⟩)) (t + 1) q0) last) := Lib.hid (chen.keep.rstep (.pointer (some ⟨mb, 0, none⟩)) HAT.out.shape hov HIT.out)
            have HOV := Lib.hid hov
            clear hopn hov
            go_wp2_with (go_at_call 39; refine (chen.Step_yes (tabs HTA.out HCB.out HX0.out HMB.out.1 HMB.out.2 HV0.out) HAT.out.shape (by rw [HT.out.2]; have := HT.out.1; omega) HOP.out (by have h1 := HT.out.1; have h2 := HNB.out; omega) HAT.out.st).mono ?_; rintro e w5 ⟨rfl, hx⟩; have HX := Lib.hid (HAT.out.next HOV.out hx); clear hx)
            have hlt := HLT.out
            have m1 := HAT.out.made HQ0.out.2.2.2.1
            have m2 := HX.out.made HQ0.out.2.2.2.1
            go_roundw
            case rel => exact ⟨t + 1, HX, HIN⟩
            case measure => rw [m1, m2]; omega
          · rw [hov] at hopn
            have HOP : Hid (core.opens (chen.K.run (.pointer (some ⟨mb, 0, none⟩)) t q0).1 (chen.K.run (.pointer (some ⟨mb, 0, none⟩)) t q0).2.2.length = false) := Lib.hid hopn
            have HOV := Lib.hid hov
            have HEND := Lib.hid (chen.keep.rend HIT.out hov)
            have HLEN : Hid ((chen.K.run (.pointer (some ⟨mb, 0, none⟩)) t q0).2.2.length = N + 2) := Lib.hid (by rw [Kind.run_len]; exact HQ0.out.2.2.1)
            have HNT : Hid (0 ≤ n + (t : Int) ∧ n + (t : Int) ≤ n + 200) := Lib.hid (by have h1 := HT.out.1; have h2 := HNB.out; omega)
            have HNEW : Hid (Chg [] (W.alloc (.cells #[.int .i64 k, .int .i64 w, .int .i64 s, .int .i64 c, .int .u32 st, .slice ia il ic, .int .i64 wri, .slice ra rl rc] 26)) wr) := Lib.hid (HAT.out.st.into HCB.out HX0.out HMB.out.1 HMB.out.2 HV0.out)
            have HSTE := Lib.hid HAT.out.st
            obtain ⟨qe, hqe⟩ : ∃ qe : Q, chen.K.run (.pointer (some ⟨mb, 0, none⟩)) t q0 = qe := ⟨_, rfl⟩
            obtain ⟨ne, hne⟩ : ∃ ne : Int, n + (t : Int) = ne := ⟨_, rfl⟩
            simp only [hqe, hne] at HOP HOV HEND HLEN HNT HSTE
            clear hqe hne HAT HIT hopn hov HT HQ0
            obtain ⟨ve, hpe, hee⟩ := HSTE.out
            have HPE := Lib.hid hpe
            clear hpe hee
            obtain ⟨rr, hrr⟩ : ∃ rr, (if qe.1.over then qe.2.1 else []) = rr := ⟨_, rfl⟩
            have HRR : Hid (qe.2.1 = rr) := Lib.hid (by rw [← hrr, HOV.out]; rfl)
            have HAX : Hid (∀ V, Chg [] wr V → Calls Tryd.prog 42 #[.pointer (some ⟨bx, 0, none⟩)] V fun e W' => ∃ v', e = .returned (.tuple #[v', .int .i64 0]) ∧ OwnW W' V.heap.size v' rr ∧ Chg [] V W') := Lib.hid (fun V hV => by
              have h1 := chen.Answer_any (HPE.out.keep hV)
              rw [hrr, show (if qe.1.over then qe.1.code else 0) = 0 from by rw [HEND.out.1]; simp] at h1
              exact h1)
            have HOX : Hid (∀ V, Chg [] wr V → Calls Tryd.prog 40 #[.pointer (some ⟨bx, 0, none⟩)] V fun e W' => e = .returned (.bool true) ∧ V = W') := Lib.hid (fun V hV => by
              have h1 := chen.Over_any (St.start (HPE.out.keep hV))
              rw [HOV.out] at h1
              exact h1)
            clear hrr
            have HF := Lib.hid (Chg.refl [] wr)
            have HRL2 : Hid (rr = last) := Lib.hid (HRR.out.symm.trans HEND.out.2.1)
            rw [HRL2.out] at HAX
            clear HRR
            have k9 : IntKind.i64.wrap ((r0 : Int) + 1) = (r0 : Int) + 1 := by have h1 := HR0.out; have h2 := HB.out; rw [IntKind.wrap_i64]; omega
            go_wp2_with (first | (go_at_call 39; refine (chen.Step_no HOP.out HSTE.out).mono ?_; rintro e w6 ⟨rfl, hc⟩; have HF := Lib.hid (HF.out.trans hc); clear hc) | (go_at_call 42; refine (HAX.out _ HF.out).mono ?_; rintro e w7 ⟨xa, rfl, ho, hc⟩; have HF := Lib.hid (HF.out.trans hc); have HOA := Lib.hid ho; have HA1 := Lib.hid (OwnW.reads ho HLV.out.1.2); have HA2 := Lib.hid (HLV.out.1.chg (HCA.out.trans (HNEW.out.trans HF.out))); clear ho hc; obtain ⟨xa1, xa2, rfl, _⟩ := reads_slice HA1.out.1) | (go_at_call 40; refine (HOX.out _ HF.out).mono ?_; rintro e w8 ⟨rfl, rfl⟩) | (go_at_call 21; refine (Words_any _ _ last last _ HA1.out HA2.out (by have h1 := HLV.out.2; have h2 := HB.out; omega) (by have h1 := HLV.out.2; have h2 := HB.out; omega)).mono ?_; rintro e wk ⟨rfl, hq⟩; have HF := Lib.hid (HF.out.quiet hq); clear hq; rw [show wordsB last last = true from by simp [wordsB]]))
            have hr0l := HR0.out
            go_roundw
            case rel => exact ⟨r0 + 1, qe.2.2, ne, by omega, by go_num, Lib.hid ⟨HPE.out.mem.fresh HF.out, HLEN.out, HNT.out.1, by have h1 := HNT.out.2; have h2 := HMR.out.2.2.2; push_cast; omega⟩, Lib.hid HEND.out.2.2, Lib.hid (HNEW.out.trans HF.out)⟩
            case measure => simp [intOf]; omega
      · obtain rfl : r0 = rl := by omega
        have hrltI : ¬ ((r0 : Int) < (r0 : Int)) := by omega
        have k9 : IntKind.i64.wrap (iv + 1) = iv + 1 := by have h2 := HJ.out; rw [IntKind.wrap_i64]; omega
        clear hrlt hr0
        go_wp2_with fail
        have hjj := HJ.out
        go_roundw
        case rel => exact ⟨j + 1, iv + 1, pa2, pl2, pc2, last, ws, n, by omega, by push_cast; omega, rfl, by go_num, HLV, Lib.hid ⟨HMR.out.1, HMR.out.2.1, HMR.out.2.2.1, by have h1 := HMR.out.2.2.2; have h2 := HB.out; push_cast; omega⟩, HOKR, HCR⟩
        case measure => simp [intOf]; omega
theorem own : ownKnob Tryd.prog.godebug = none := by kernel_rfl
theorem laidOut : laidOutB Tryd.prog = true := by kernel_rfl

/-- The walk: the law returns true, and nothing that was there has turned. -/
theorem walk (w : World) (hT : bitm.Tab w) (cs0 : Array Value) (hs0 : cs0.size = Tryd.prog.cellsOf 26) (o0 : kit.Opens Tryd.prog w 9 26 cs0.toList) (a1 : Option Addr) (len1 cap1 : Nat) (o1 : kit.Opens Tryd.prog w 9 47 [.slice a1 len1 cap1]) :
    Calls Tryd.prog 8 #[.agg cs0, .slice a1 len1 cap1] w fun e w' => e = .returned (.bool true) ∧ Below w.heap.size w w' := by
  set_option maxRecDepth 100000 in
  obtain ⟨k, w', s, c, st, ia, il, ic, wr, ra, rl, rc, hcs, hb⟩ := obj_open (n := 6) o0
  have hcs2 : cs0 = #[.int .i64 k, .int .i64 w', .int .i64 s, .int .i64 c, .int .u32 st, .slice ia il ic, .int .i64 wr, .slice ra rl rc] := by
    apply Array.toList_inj.1; rw [hcs]
  subst hcs2
  by_cases h : (il ≤ 100 ∧ rl ≤ 100) ∧ len1 ≤ 40 ∧ (decide (k = 2) && rightB k w' s c st il rl) = true
  · have hO := hb h.1.1 h.1.2
    obtain ⟨ini, hini⟩ : ∃ ini, ReadsW w (.slice ia il ic) ini := init_open o0
    obtain ⟨rs, hrs⟩ := recs_open (n := 6) o1
    have hbd := rightB_bd (by have h9 := h.2.2; simp only [Bool.and_eq_true] at h9; exact h9.2)
    obtain ⟨wN, hw⟩ : ∃ wN : Nat, w' = (wN : Int) := ⟨w'.toNat, by omega⟩
    obtain ⟨N, hN⟩ : ∃ N : Nat, 1 + rl + (((rl : Int) + 2) * w').toNat = N := ⟨_, rfl⟩
    exact good k w' s c st ia il ic wr ra rl rc a1 len1 cap1 N wN ini rs w hT hw hN hO h.2.2 h.2.1 hini hrs
  · exact easy k w' s c st ia il ic wr ra rl rc a1 len1 cap1 h hb w hT

set_option maxRecDepth 100000 in
theorem lifted (os : Os) (started : os.Started) (H : Type) (enc : TypeId × Value → H) :
    ReturnsInHanded {} Tryd.checked os 8 .any (fun w args => (Rows.chenKeepsSpec.pre enc Tryd.prog Tryd.f8 [] false w args ∧ laidMetH Tryd.prog bitm.laids w) ∧ sizedMet enc Tryd.prog Tryd.f8 (OpenSpec.ofChange Rows.chenKeepsSpec) false w args) (Rows.chenKeepsSpec.post enc Tryd.prog Tryd.f8 false true false false) := by
  refine returnsInHanded_of_change_and (C := Tryd.checked) (X := fun w _ => laidMetH Tryd.prog bitm.laids w) (fun _ _ _ hh h => h.of_heap hh) own started (by kernel_rfl) Tryd.func8
    (ChangeSpec.witness_shaped (enc := enc) (C := Tryd.checked) (os := os) (X := fun w _ => laidMetH Tryd.prog bitm.laids w) false (World.doorLaid Tryd.prog 14 os) #[.agg #[.int .i64 0, .int .i64 0, .int .i64 0, .int .i64 0, .int .u32 0, .slice none 0 0, .int .i64 0, .slice none 0 0], .slice none 0 0] 8 rfl (World.shaped_of_RefB (by kernel_rfl) (by kernel_rfl)) (by kernel_rfl) (by kernel_rfl) (by kernel_rfl) (bitm.door_met os _)) ?_
  intro W base args ds gs before hval0 hW hcnd _ hL _
  have hval : ∀ (j : Nat) t v, Tryd.f8.params[j]? = some t → args[j]? = some v → Value.okWide Tryd.prog W .any base t v := hval0
  have hW' := hW
  obtain ⟨p, q, hA0, hV, rfl, hfz, hnd⟩ := hW
  have hA : DataW.TrodAll enc Tryd.prog W 0 (fun _ => true) true Tryd.f8.params.toList args.toList ds p := hA0
  rw [Tryd.params8] at hA hval
  obtain ⟨v0, vs0, d0, ds0, p0, q0, hargs, rfl, rfl, h0, r0⟩ := trodAll_cons hA
  obtain ⟨v1, vs1, d1, ds1, p1, q1, rfl, rfl, rfl, h1, r1⟩ := trodAll_cons r0
  obtain ⟨rfl, rfl, rfl⟩ := trodAll_nil r1
  obtain rfl : args = #[v0, v1] := by cases args; simp_all
  obtain ⟨rfl, rfl⟩ := trodVars_none hV
  have k0 := h0
  have lt0 : ∀ x ∈ p0, x.block < W.heap.size := by obtain ⟨m, hm⟩ := k0; exact DataW.trod_lt m _ _ _ hm
  have k1 := h1
  have lt1 : ∀ x ∈ p1, x.block < W.heap.size := by obtain ⟨m, hm⟩ := k1; exact DataW.trod_lt m _ _ _ hm
  obtain ⟨cs0, rfl, hs0⟩ := okWide_struct Tryd.underlying26 (hval 0 26 v0 rfl rfl)
  have o0 : kit.Opens Tryd.prog W 9 26 cs0.toList := by simpa [Value.cells] using kit.Trod_opens 9 k0
  obtain ⟨a1, len1, cap1, rfl⟩ := okWide_slice Tryd.underlying47 (hval 1 47 v1 rfl rfl)
  have o1 : kit.Opens Tryd.prog W 9 47 [.slice a1 len1 cap1] := by simpa [Value.cells] using kit.Trod_opens 9 k1
  clear hA0 hval0
  refine (walk W (bitm.tab_of_laid hL) cs0 hs0 o0 a1 len1 cap1 o1).mono fun e W' ⟨he, bel⟩ => ?_
  subst he
  exact ⟨_, rfl, _, _, _, [], _, [], hW', trodAll_mk1 (shut_bool Tryd.underlying4 _), (trodAll_cons_mk (Below.trod laidOut (by kernel_rfl) (of_decide_eq_true (by kernel_rfl)) k0 bel lt0) (trodAll_cons_mk (Below.trod laidOut (by kernel_rfl) (of_decide_eq_true (by kernel_rfl)) k1 bel lt1) trodAll_mk0)), rfl, bel.frame _, fun h => by cases h⟩

theorem over : Rows.chenKeepsRow.holds Tryd.pinned (OpenSpec.ofChange Rows.chenKeepsSpec) :=
  OpenClaim.holds_of_wide 8 Tryd.f8 rfl rfl rfl rfl rfl rfl rfl ⟨rfl, rfl, rfl, rfl, rfl⟩ rfl rfl rfl rfl rfl (by kernel_rfl) Tryd.func8 (by kernel_rfl)
    (of_decide_eq_true (by kernel_rfl)) (by unfold Func.isWrapper; first | (rw [if_pos (by decide +kernel)]; kernel_rfl) | (rw [if_neg (by decide +kernel)]; exact ⟨rfl, rfl⟩))
    (fun os started H enc _ => lifted os started H enc)

/-- The statement: the tied card. -/
theorem proved : Rows.ChenKeepsCardSaid :=
  Claim7.holds_tied_plain_at .later [] [.data] true (true, "2e2be42b2330c043c67e7858dff84d72ae4a187c610b75565135d5b7ac40942f") false
    over (fun _ h => by cases h) (by kernel_rfl) (fun _ h => by cases h) chenKeeps_row_tie rfl ⟨rfl, rfl⟩ (by kernel_rfl) rfl
    (fun f fn hf hfn => by
      obtain rfl : f = 8 := Option.some.inj ((show Tryd.prog.funcNamed "coxswain/coxswainlaw15.ChenKeeps" = some 8 by kernel_rfl).symm.trans hf) |>.symm
      obtain rfl : fn = Tryd.f8 := (Option.some.inj (Tryd.func8.symm.trans hfn)).symm
      exact ⟨by kernel_rfl, fun j t ht => by
        rw [Tryd.params8] at ht
        have hm : t ∈ [26, 47] := by simpa using Array.mem_of_getElem? ht
        have hall : ([26, 47].all fun u => !Tryd.prog.wantsStandIn u) = true := by kernel_rfl
        exact (show Tryd.prog.wantsStandIn t = false by simpa using List.all_eq_true.1 hall t hm)⟩)
    (by kernel_rfl)
end Go.Proofs.YtapaolaemkhbdaaDoor.chenKeeps
