/-
  coxswainlaw19.FifoKeeps returns true for every o and l: puts and takes, one behind the other, are those of a queue of so many. No conditions.
-/
import Derived.Test.YtjnmlfpljeddmaaRows
import Derived.WalkKit
import Derived.ProofKit
import Derived.OpenShut
import Derived.ShutString
import Derived.ChangeOld
import Derived.Below
import Derived.Test.YtjnmlfpljeddmaaOpen
import Derived.Test.YtjnmlfpljeddmaaFifoQ
import Derived.Test.YtjnmlfpljeddmaaKeep
import Derived.Deep.CutBlock
namespace Go.Proofs.Ytjnmlfpljeddmaa.fifoKeeps
open Go.ChangeShapes Go.WideShapes Go.ChangeAt Go.RowKit
open Go.ChangeMaps (open_string shut_string)
set_option linter.unusedVariables false
open Go.Proofs.Ytjnmlfpljeddmaa.kit Go.Proofs.Ytjnmlfpljeddmaa.obj Go.Proofs.Ytjnmlfpljeddmaa.mem Go.Proofs.Ytjnmlfpljeddmaa.core
set_option linter.unusedSimpArgs false
set_option maxRecDepth 100000
set_option maxHeartbeats 4000000 in
theorem easy (k w s c st : Int) (ia : Option Addr) (il ic : Nat) (wri : Int) (ra : Option Addr) (rl rc : Nat) (qa : Option Addr) (ql qc : Nat) (h : ¬ ((il ≤ 100 ∧ rl ≤ 100) ∧ ql ≤ 60 ∧ (decide (k = 6) && rightB k w s c st il rl) = true)) (hob : il ≤ 100 → rl ≤ 100 → ObjW k w s c st il rl) (W : World) :
    Calls Try.prog 8 #[.agg #[.int .i64 k, .int .i64 w, .int .i64 s, .int .i64 c, .int .u32 st, .slice ia il ic, .int .i64 wri, .slice ra rl rc], .slice qa ql qc] W fun e W' => e = .returned (.bool true) ∧ Below W.heap.size W W' := by
  by_cases h1 : il ≤ 100 ∧ rl ≤ 100
  · have HSM : Hid (decide (il ≤ 100 ∧ rl ≤ 100) = true) := Lib.hid (decide_eq_true h1)
    have ho := hob h1.1 h1.2
    by_cases h2 : ql ≤ 60
    · have h3 : (decide (k = 6) && rightB k w s c st il rl) = false := by
        cases hc : (decide (k = 6) && rightB k w s c st il rl)
        · rfl
        · exact absurd ⟨h1, h2, hc⟩ h
      have hrt := fun u => fifoRight_any k w s c st ia il ic wri ra rl rc ho u
      simp only [h3] at hrt
      have HRT := Lib.hid hrt
      have h2I : ¬ ((60 : Int) < (ql : Int)) := by omega
      clear hrt h3 h2 h1 h hob ho
      have HBX : Hid (Blk (W.alloc (.cells #[.int .i64 k, .int .i64 w, .int .i64 s, .int .i64 c, .int .u32 st, .slice ia il ic, .int .i64 wri, .slice ra rl rc] 26)) W.heap.size #[.int .i64 k, .int .i64 w, .int .i64 s, .int .i64 c, .int .u32 st, .slice ia il ic, .int .i64 wri, .slice ra rl rc] 26) := Lib.hid (Blk.new W _ _)
      have HCA : Hid (Chg [] W (W.alloc (.cells #[.int .i64 k, .int .i64 w, .int .i64 s, .int .i64 c, .int .u32 st, .slice ia il ic, .int .i64 wri, .slice ra rl rc] 26))) := Lib.hid ((Chg.refl _ _).alloc _)
      have HCC : Hid (Chg [] (W.alloc (.cells #[.int .i64 k, .int .i64 w, .int .i64 s, .int .i64 c, .int .u32 st, .slice ia il ic, .int .i64 wri, .slice ra rl rc] 26)) (W.alloc (.cells #[.int .i64 k, .int .i64 w, .int .i64 s, .int .i64 c, .int .u32 st, .slice ia il ic, .int .i64 wri, .slice ra rl rc] 26))) := Lib.hid (Chg.refl _ _)
      go_enter Try.func8, Try.ntmps8
      go_wp2_with (first | (go_at_call 13; refine (small_any k w s c st ia il ic wri ra rl rc _).mono ?_; rintro e wx ⟨rfl, hcx⟩; rw [HSM.out]; have HCC := Lib.hid (HCC.out.trans hcx); have HBX := Lib.hid (HBX.out.keep hcx (by simp)); clear hcx; have e0 : wx.cell? ⟨W.heap.size, 0, none⟩ = some (.int .i64 k) := HBX.out.cell rfl; have e1 : wx.cell? ⟨W.heap.size, 1, none⟩ = some (.int .i64 w) := HBX.out.cell rfl; have e2 : wx.cell? ⟨W.heap.size, 2, none⟩ = some (.int .i64 s) := HBX.out.cell rfl; have e3 : wx.cell? ⟨W.heap.size, 3, none⟩ = some (.int .i64 c) := HBX.out.cell rfl; have e4 : wx.cell? ⟨W.heap.size, 4, none⟩ = some (.int .u32 st) := HBX.out.cell rfl; have e5 : wx.cell? ⟨W.heap.size, 5, none⟩ = some (.slice ia il ic) := HBX.out.cell rfl; have e6 : wx.cell? ⟨W.heap.size, 6, none⟩ = some (.int .i64 wri) := HBX.out.cell rfl; have e7 : wx.cell? ⟨W.heap.size, 7, none⟩ = some (.slice ra rl rc) := HBX.out.cell rfl) | (go_at_call 16; refine (HRT.out _).mono ?_; rintro e wx ⟨rfl, hcx⟩; have HCC := Lib.hid (HCC.out.trans hcx); have HBX := Lib.hid (HBX.out.keep hcx (by simp)); clear hcx; have e0 : wx.cell? ⟨W.heap.size, 0, none⟩ = some (.int .i64 k) := HBX.out.cell rfl; have e1 : wx.cell? ⟨W.heap.size, 1, none⟩ = some (.int .i64 w) := HBX.out.cell rfl; have e2 : wx.cell? ⟨W.heap.size, 2, none⟩ = some (.int .i64 s) := HBX.out.cell rfl; have e3 : wx.cell? ⟨W.heap.size, 3, none⟩ = some (.int .i64 c) := HBX.out.cell rfl; have e4 : wx.cell? ⟨W.heap.size, 4, none⟩ = some (.int .u32 st) := HBX.out.cell rfl; have e5 : wx.cell? ⟨W.heap.size, 5, none⟩ = some (.slice ia il ic) := HBX.out.cell rfl; have e6 : wx.cell? ⟨W.heap.size, 6, none⟩ = some (.int .i64 wri) := HBX.out.cell rfl; have e7 : wx.cell? ⟨W.heap.size, 7, none⟩ = some (.slice ra rl rc) := HBX.out.cell rfl) | (go_at_call 14; refine (fifo.awake_any _).mono ?_; rintro e wz ⟨rfl, hcz⟩; have HZ := Lib.hid hcz; clear hcz))
      go_ret
      exact ⟨rfl, (HCA.out.trans (HCC.out.trans HZ.out)).below⟩
    · have h2I : (60 : Int) < (ql : Int) := by omega
      clear h2 h1 h hob ho
      have HBX : Hid (Blk (W.alloc (.cells #[.int .i64 k, .int .i64 w, .int .i64 s, .int .i64 c, .int .u32 st, .slice ia il ic, .int .i64 wri, .slice ra rl rc] 26)) W.heap.size #[.int .i64 k, .int .i64 w, .int .i64 s, .int .i64 c, .int .u32 st, .slice ia il ic, .int .i64 wri, .slice ra rl rc] 26) := Lib.hid (Blk.new W _ _)
      have HCA : Hid (Chg [] W (W.alloc (.cells #[.int .i64 k, .int .i64 w, .int .i64 s, .int .i64 c, .int .u32 st, .slice ia il ic, .int .i64 wri, .slice ra rl rc] 26))) := Lib.hid ((Chg.refl _ _).alloc _)
      have HCC : Hid (Chg [] (W.alloc (.cells #[.int .i64 k, .int .i64 w, .int .i64 s, .int .i64 c, .int .u32 st, .slice ia il ic, .int .i64 wri, .slice ra rl rc] 26)) (W.alloc (.cells #[.int .i64 k, .int .i64 w, .int .i64 s, .int .i64 c, .int .u32 st, .slice ia il ic, .int .i64 wri, .slice ra rl rc] 26))) := Lib.hid (Chg.refl _ _)
      go_enter Try.func8, Try.ntmps8
      go_wp2_with (first | (go_at_call 13; refine (small_any k w s c st ia il ic wri ra rl rc _).mono ?_; rintro e wx ⟨rfl, hcx⟩; rw [HSM.out]; have HCC := Lib.hid (HCC.out.trans hcx); have HBX := Lib.hid (HBX.out.keep hcx (by simp)); clear hcx; have e0 : wx.cell? ⟨W.heap.size, 0, none⟩ = some (.int .i64 k) := HBX.out.cell rfl; have e1 : wx.cell? ⟨W.heap.size, 1, none⟩ = some (.int .i64 w) := HBX.out.cell rfl; have e2 : wx.cell? ⟨W.heap.size, 2, none⟩ = some (.int .i64 s) := HBX.out.cell rfl; have e3 : wx.cell? ⟨W.heap.size, 3, none⟩ = some (.int .i64 c) := HBX.out.cell rfl; have e4 : wx.cell? ⟨W.heap.size, 4, none⟩ = some (.int .u32 st) := HBX.out.cell rfl; have e5 : wx.cell? ⟨W.heap.size, 5, none⟩ = some (.slice ia il ic) := HBX.out.cell rfl; have e6 : wx.cell? ⟨W.heap.size, 6, none⟩ = some (.int .i64 wri) := HBX.out.cell rfl; have e7 : wx.cell? ⟨W.heap.size, 7, none⟩ = some (.slice ra rl rc) := HBX.out.cell rfl) | (go_at_call 14; refine (fifo.awake_any _).mono ?_; rintro e wz ⟨rfl, hcz⟩; have HZ := Lib.hid hcz; clear hcz))
      go_ret
      exact ⟨rfl, (HCA.out.trans (HCC.out.trans HZ.out)).below⟩
  · have HSM : Hid (decide (il ≤ 100 ∧ rl ≤ 100) = false) := Lib.hid (decide_eq_false h1)
    clear h1 h hob
    have HBX : Hid (Blk (W.alloc (.cells #[.int .i64 k, .int .i64 w, .int .i64 s, .int .i64 c, .int .u32 st, .slice ia il ic, .int .i64 wri, .slice ra rl rc] 26)) W.heap.size #[.int .i64 k, .int .i64 w, .int .i64 s, .int .i64 c, .int .u32 st, .slice ia il ic, .int .i64 wri, .slice ra rl rc] 26) := Lib.hid (Blk.new W _ _)
    have HCA : Hid (Chg [] W (W.alloc (.cells #[.int .i64 k, .int .i64 w, .int .i64 s, .int .i64 c, .int .u32 st, .slice ia il ic, .int .i64 wri, .slice ra rl rc] 26))) := Lib.hid ((Chg.refl _ _).alloc _)
    have HCC : Hid (Chg [] (W.alloc (.cells #[.int .i64 k, .int .i64 w, .int .i64 s, .int .i64 c, .int .u32 st, .slice ia il ic, .int .i64 wri, .slice ra rl rc] 26)) (W.alloc (.cells #[.int .i64 k, .int .i64 w, .int .i64 s, .int .i64 c, .int .u32 st, .slice ia il ic, .int .i64 wri, .slice ra rl rc] 26))) := Lib.hid (Chg.refl _ _)
    go_enter Try.func8, Try.ntmps8
    go_wp2_with (first | (go_at_call 13; refine (small_any k w s c st ia il ic wri ra rl rc _).mono ?_; rintro e wx ⟨rfl, hcx⟩; rw [HSM.out]; have HCC := Lib.hid (HCC.out.trans hcx); have HBX := Lib.hid (HBX.out.keep hcx (by simp)); clear hcx; have e0 : wx.cell? ⟨W.heap.size, 0, none⟩ = some (.int .i64 k) := HBX.out.cell rfl; have e1 : wx.cell? ⟨W.heap.size, 1, none⟩ = some (.int .i64 w) := HBX.out.cell rfl; have e2 : wx.cell? ⟨W.heap.size, 2, none⟩ = some (.int .i64 s) := HBX.out.cell rfl; have e3 : wx.cell? ⟨W.heap.size, 3, none⟩ = some (.int .i64 c) := HBX.out.cell rfl; have e4 : wx.cell? ⟨W.heap.size, 4, none⟩ = some (.int .u32 st) := HBX.out.cell rfl; have e5 : wx.cell? ⟨W.heap.size, 5, none⟩ = some (.slice ia il ic) := HBX.out.cell rfl; have e6 : wx.cell? ⟨W.heap.size, 6, none⟩ = some (.int .i64 wri) := HBX.out.cell rfl; have e7 : wx.cell? ⟨W.heap.size, 7, none⟩ = some (.slice ra rl rc) := HBX.out.cell rfl) | (go_at_call 14; refine (fifo.awake_any _).mono ?_; rintro e wz ⟨rfl, hcz⟩; have HZ := Lib.hid hcz; clear hcz))
    go_ret
    exact ⟨rfl, (HCA.out.trans (HCC.out.trans HZ.out)).below⟩
theorem pshape (k w s c st : Int) (ia : Option Addr) (il ic : Nat) (wri : Int) (ra : Option Addr) (rl rc : Nat) (N wN : Nat) (hw : w = (wN : Int)) (hN : (2 + s * w).toNat = N) (hr : (decide (k = 6) && rightB k w s c st il rl) = true) (rec : List Int) (hl : rec.length = wN) : fifo.K.Shape ({ k := k, w := w, s := s, c := c, st := st, ia := ia, il := il, ic := ic, wr := wri, ra := ra, rl := rl, rc := rc, op := 3, reader := 0, phase := 0, i := 0, tries := 0, a := 0, b := 0, used := 0, m := .pointer none, base := 1, size := (N : Int), code := 0, steps := 0, over := false } : Core) rec ∧ fifo.K.left ({ k := k, w := w, s := s, c := c, st := st, ia := ia, il := il, ic := ic, wr := wri, ra := ra, rl := rl, rc := rc, op := 3, reader := 0, phase := 0, i := 0, tries := 0, a := 0, b := 0, used := 0, m := .pointer none, base := 1, size := (N : Int), code := 0, steps := 0, over := false } : Core) ≤ 200 := by
  have hk : k = 6 := by simp only [Bool.and_eq_true, decide_eq_true_eq] at hr; exact hr.1
  have hr2 : rightB k w s c st il rl = true := by simp only [Bool.and_eq_true] at hr; exact hr.2
  have hbd := rightB_bd hr2
  have hs16 : 1 ≤ s ∧ s ≤ 16 := by subst hk; simp only [rightB, decide_eq_true_eq] at hr2; omega
  have hnn := Int.mul_nonneg (show 0 ≤ s by omega) (show 0 ≤ w by omega)
  exact ⟨⟨by simp only []; omega, by simp only []; omega, by simp only []; omega, by simp only []; omega, by simp only []; omega, fun _ => by simp only []; omega, .inl ⟨rfl, by simp, fun _ => by simp only []; omega⟩⟩, by simp [fifo.K, fifo.left]; omega⟩
theorem tshape (k w s c st : Int) (ia : Option Addr) (il ic : Nat) (wri : Int) (ra : Option Addr) (rl rc : Nat) (N wN : Nat) (hw : w = (wN : Int)) (hN : (2 + s * w).toNat = N) (hr : (decide (k = 6) && rightB k w s c st il rl) = true) : fifo.K.Shape ({ k := k, w := w, s := s, c := c, st := st, ia := ia, il := il, ic := ic, wr := wri, ra := ra, rl := rl, rc := rc, op := 4, reader := 0, phase := 0, i := 0, tries := 0, a := 0, b := 0, used := 0, m := .pointer none, base := 1, size := (N : Int), code := 0, steps := 0, over := false } : Core) ([] : List Int) ∧ fifo.K.left ({ k := k, w := w, s := s, c := c, st := st, ia := ia, il := il, ic := ic, wr := wri, ra := ra, rl := rl, rc := rc, op := 4, reader := 0, phase := 0, i := 0, tries := 0, a := 0, b := 0, used := 0, m := .pointer none, base := 1, size := (N : Int), code := 0, steps := 0, over := false } : Core) ≤ 200 := by
  have hk : k = 6 := by simp only [Bool.and_eq_true, decide_eq_true_eq] at hr; exact hr.1
  have hr2 : rightB k w s c st il rl = true := by simp only [Bool.and_eq_true] at hr; exact hr.2
  have hbd := rightB_bd hr2
  have hs16 : 1 ≤ s ∧ s ≤ 16 := by subst hk; simp only [rightB, decide_eq_true_eq] at hr2; omega
  have hnn := Int.mul_nonneg (show 0 ≤ s by omega) (show 0 ≤ w by omega)
  exact ⟨⟨by simp only []; omega, by simp only []; omega, by simp only []; omega, by simp only []; omega, by simp only []; omega, fun _ => by simp only []; omega, .inr ⟨rfl, by simp, fun _ => by simp⟩⟩, by simp [fifo.K, fifo.left]; omega⟩
set_option maxHeartbeats 16000000 in
theorem good (k w s c st : Int) (ia : Option Addr) (il ic : Nat) (wri : Int) (ra : Option Addr) (rl rc : Nat) (qa : Option Addr) (ql qc N wN : Nat) (rs : List (Option Addr × Nat × Nat × List Int)) (W : World) (hw : w = (wN : Int)) (hN : (2 + s * w).toNat = N) (h : ObjW k w s c st il rl) (hr : (decide (k = 6) && rightB k w s c st il rl) = true) (hq : ql ≤ 60)
    (hrs : ReadsR W qa ql rs) : Calls Try.prog 8 #[.agg #[.int .i64 k, .int .i64 w, .int .i64 s, .int .i64 c, .int .u32 st, .slice ia il ic, .int .i64 wri, .slice ra rl rc], .slice qa ql qc] W fun e W' => e = .returned (.bool true) ∧ Below W.heap.size W W' := by
  have HSM : Hid (decide (il ≤ 100 ∧ rl ≤ 100) = true) := Lib.hid (decide_eq_true ⟨h.ilen, h.rlen⟩)
  have hk : k = 6 := by simp only [Bool.and_eq_true, decide_eq_true_eq] at hr; exact hr.1
  have hrb : rightB k w s c st il rl = true := by simp only [Bool.and_eq_true] at hr; exact hr.2
  have hbd := rightB_bd hrb
  have hs16 : 1 ≤ s ∧ s ≤ 16 := by subst hk; simp only [rightB, decide_eq_true_eq] at hrb; omega
  have hnn := Int.mul_nonneg (show 0 ≤ s by omega) (show 0 ≤ w by omega)
  have hsi : rop.sizeI k w s c st il rl = (N : Int) := by
    unfold rop.sizeI
    rw [if_pos hrb]
    have e1 : rop.headI k rl = rop.headI 6 rl := by rw [hk]
    have e2 : rop.recordsI k s rl = rop.recordsI 6 s rl := by rw [hk]
    rw [e1, e2]
    simp [rop.headI, rop.recordsI]
    omega
  have hll : (fifo.layL s w st).length = N := fifo.lay_len s w st N hN
  have hlw : ∀ z ∈ (fifo.layL s w st), (Lit.int .u32 z).wf = true := by
    have h3 := h.st32
    intro z hz
    unfold fifo.layL at hz
    rcases List.mem_or_eq_of_mem_set hz with hz | rfl
    · rcases List.mem_or_eq_of_mem_set hz with hz | rfl
      · rw [List.eq_of_mem_replicate hz]; decide
      · exact core.u32_wf h3
    · exact core.u32_wf h3
  have hok : fifo.Holds (readyL N (fifo.layL s w st)) s wN [] := fifo.ok_start w s N wN st hw (by omega) hs16 hN (by subst hk; have h9 := h.st32; simp only [rightB, decide_eq_true_eq] at hrb; omega)
  have hly := fun u => fifo.Lay_yes k w s c st ia il ic wri ra rl rc wN hw h hr u
  have hrd := fun u v (hv : ReadsW u v (fifo.layL s w st)) => Ready_any k w s c st ia il ic wri ra rl rc N v (fifo.layL s w st) u h hsi hll hv
  have hrt := fun u => fifoRight_any k w s c st ia il ic wri ra rl rc h u
  simp only [hr] at hrt
  have HSZ : Hid (∀ V, Calls Try.prog 17 #[.agg #[.int .i64 k, .int .i64 w, .int .i64 s, .int .i64 c, .int .u32 st, .slice ia il ic, .int .i64 wri, .slice ra rl rc]] V fun e W' => e = .returned (.int .i64 (N : Int)) ∧ Chg [] V W') := Lib.hid (fun V => by rw [← hN]; exact fifo.Size_yes k w s c st ia il ic wri ra rl rc wN hw h hr V)
  have HPS := Lib.hid (fun rec hl => pshape k w s c st ia il ic wri ra rl rc N wN hw hN hr rec hl)
  have HTS := Lib.hid (tshape k w s c st ia il ic wri ra rl rc N wN hw hN hr)
  have HLY := Lib.hid hly
  have HRD := Lib.hid hrd
  have HRT := Lib.hid hrt
  have HLW := Lib.hid hlw
  have HOK := Lib.hid hok
  have HRL : Hid ((readyL N (fifo.layL s w st)).length = N + 2) := Lib.hid (ready_len N _ hll)
  have HRR0 := Lib.hid hrs
  have HB := Lib.hid (show 1 ≤ w ∧ w = (wN : Int) ∧ wN ≤ 8 ∧ 1 ≤ rl ∧ rl ≤ 4 ∧ 1 ≤ N ∧ ql ≤ 60 ∧ (1 ≤ s ∧ s ≤ 16) from ⟨by omega, hw, by omega, by omega, by omega, by omega, hq, hs16⟩)
  have h2I : ¬ ((60 : Int) < (ql : Int)) := by omega
  obtain ⟨i0, hi0, hz0, hz1, hz2⟩ := info_parts infoRow
  have HI0 : Hid (Try.prog.info? 23 = some i0 ∧ i0.zero = some (.slice none 0 0) ∧ i0.size = 1 ∧ i0.bytes = 24) := Lib.hid ⟨hi0, hz0, hz1, hz2⟩
  clear hi0 hz0 hz1 hz2
  obtain ⟨ws0, hws0⟩ : ∃ ws0, readyL N (fifo.layL s w st) = ws0 := ⟨_, rfl⟩
  simp only [hws0] at HRD HOK HRL
  generalize (fifo.layL s w st) = ly at *
  clear h hr hk hrb hbd hsi hll hlw hok hly hrd hrt hrs hw hN hq hws0 hs16 hnn
  have HBX : Hid (Blk (W.alloc (.cells #[.int .i64 k, .int .i64 w, .int .i64 s, .int .i64 c, .int .u32 st, .slice ia il ic, .int .i64 wri, .slice ra rl rc] 26)) W.heap.size #[.int .i64 k, .int .i64 w, .int .i64 s, .int .i64 c, .int .u32 st, .slice ia il ic, .int .i64 wri, .slice ra rl rc] 26) := Lib.hid (Blk.new W _ _)
  have HCA : Hid (Chg [] W (W.alloc (.cells #[.int .i64 k, .int .i64 w, .int .i64 s, .int .i64 c, .int .u32 st, .slice ia il ic, .int .i64 wri, .slice ra rl rc] 26))) := Lib.hid ((Chg.refl _ _).alloc _)
  have HCC : Hid (Chg [] (W.alloc (.cells #[.int .i64 k, .int .i64 w, .int .i64 s, .int .i64 c, .int .u32 st, .slice ia il ic, .int .i64 wri, .slice ra rl rc] 26)) (W.alloc (.cells #[.int .i64 k, .int .i64 w, .int .i64 s, .int .i64 c, .int .u32 st, .slice ia il ic, .int .i64 wri, .slice ra rl rc] 26))) := Lib.hid (Chg.refl _ _)
  go_enter Try.func8, Try.ntmps8
  go_upto_region 3 with (first | (go_at_call 13; refine (small_any k w s c st ia il ic wri ra rl rc _).mono ?_; rintro e wx ⟨rfl, hcx⟩; rw [HSM.out]; have HCC := Lib.hid (HCC.out.trans hcx); have HBX := Lib.hid (HBX.out.keep hcx (by simp)); clear hcx; have e0 : wx.cell? ⟨W.heap.size, 0, none⟩ = some (.int .i64 k) := HBX.out.cell rfl; have e1 : wx.cell? ⟨W.heap.size, 1, none⟩ = some (.int .i64 w) := HBX.out.cell rfl; have e2 : wx.cell? ⟨W.heap.size, 2, none⟩ = some (.int .i64 s) := HBX.out.cell rfl; have e3 : wx.cell? ⟨W.heap.size, 3, none⟩ = some (.int .i64 c) := HBX.out.cell rfl; have e4 : wx.cell? ⟨W.heap.size, 4, none⟩ = some (.int .u32 st) := HBX.out.cell rfl; have e5 : wx.cell? ⟨W.heap.size, 5, none⟩ = some (.slice ia il ic) := HBX.out.cell rfl; have e6 : wx.cell? ⟨W.heap.size, 6, none⟩ = some (.int .i64 wri) := HBX.out.cell rfl; have e7 : wx.cell? ⟨W.heap.size, 7, none⟩ = some (.slice ra rl rc) := HBX.out.cell rfl) | (go_at_call 16; refine (HRT.out _).mono ?_; rintro e wx ⟨rfl, hcx⟩; have HCC := Lib.hid (HCC.out.trans hcx); have HBX := Lib.hid (HBX.out.keep hcx (by simp)); clear hcx; have e0 : wx.cell? ⟨W.heap.size, 0, none⟩ = some (.int .i64 k) := HBX.out.cell rfl; have e1 : wx.cell? ⟨W.heap.size, 1, none⟩ = some (.int .i64 w) := HBX.out.cell rfl; have e2 : wx.cell? ⟨W.heap.size, 2, none⟩ = some (.int .i64 s) := HBX.out.cell rfl; have e3 : wx.cell? ⟨W.heap.size, 3, none⟩ = some (.int .i64 c) := HBX.out.cell rfl; have e4 : wx.cell? ⟨W.heap.size, 4, none⟩ = some (.int .u32 st) := HBX.out.cell rfl; have e5 : wx.cell? ⟨W.heap.size, 5, none⟩ = some (.slice ia il ic) := HBX.out.cell rfl; have e6 : wx.cell? ⟨W.heap.size, 6, none⟩ = some (.int .i64 wri) := HBX.out.cell rfl; have e7 : wx.cell? ⟨W.heap.size, 7, none⟩ = some (.slice ra rl rc) := HBX.out.cell rfl))
  refine rop.code_gen (R := fun V => Hid (Blk V W.heap.size #[.int .i64 k, .int .i64 w, .int .i64 s, .int .i64 c, .int .u32 st, .slice ia il ic, .int .i64 wri, .slice ra rl rc] 26) ∧ Hid (Chg [] (W.alloc (.cells #[.int .i64 k, .int .i64 w, .int .i64 s, .int .i64 c, .int .u32 st, .slice ia il ic, .int .i64 wri, .slice ra rl rc] 26)) V)) ⟨HBX, HCC⟩ ?_
  clear HBX HCC h2I e0 e1 e2 e3 e4 e5 e6 e7
  rintro W1 ⟨HO1, HC1⟩
  have eS0 : W1.cell? ⟨W.heap.size, 0, none⟩ = some (.int .i64 k) := HO1.out.cell rfl
  have eS1 : W1.cell? ⟨W.heap.size, 1, none⟩ = some (.int .i64 w) := HO1.out.cell rfl
  have eS2 : W1.cell? ⟨W.heap.size, 2, none⟩ = some (.int .i64 s) := HO1.out.cell rfl
  have eS3 : W1.cell? ⟨W.heap.size, 3, none⟩ = some (.int .i64 c) := HO1.out.cell rfl
  have eS4 : W1.cell? ⟨W.heap.size, 4, none⟩ = some (.int .u32 st) := HO1.out.cell rfl
  have eS5 : W1.cell? ⟨W.heap.size, 5, none⟩ = some (.slice ia il ic) := HO1.out.cell rfl
  have eS6 : W1.cell? ⟨W.heap.size, 6, none⟩ = some (.int .i64 wri) := HO1.out.cell rfl
  have eS7 : W1.cell? ⟨W.heap.size, 7, none⟩ = some (.slice ra rl rc) := HO1.out.cell rfl
  have KEEP := Lib.hid (fun (V : World) (h : Chg [] W1 V) => (⟨h.keep eS0 (by simp), h.keep eS1 (by simp), h.keep eS2 (by simp), h.keep eS3 (by simp), h.keep eS4 (by simp), h.keep eS5 (by simp), h.keep eS6 (by simp), h.keep eS7 (by simp), Lib.hid h⟩ : (fun V : World => V.cell? ⟨W.heap.size, 0, none⟩ = some (.int .i64 k) ∧ V.cell? ⟨W.heap.size, 1, none⟩ = some (.int .i64 w) ∧ V.cell? ⟨W.heap.size, 2, none⟩ = some (.int .i64 s) ∧ V.cell? ⟨W.heap.size, 3, none⟩ = some (.int .i64 c) ∧ V.cell? ⟨W.heap.size, 4, none⟩ = some (.int .u32 st) ∧ V.cell? ⟨W.heap.size, 5, none⟩ = some (.slice ia il ic) ∧ V.cell? ⟨W.heap.size, 6, none⟩ = some (.int .i64 wri) ∧ V.cell? ⟨W.heap.size, 7, none⟩ = some (.slice ra rl rc) ∧ Hid (Chg [] W1 V)) V))
  clear eS0 eS1 eS2 eS3 eS4 eS5 eS6 eS7
  have hHeld : (fun V : World => V.cell? ⟨W.heap.size, 0, none⟩ = some (.int .i64 k) ∧ V.cell? ⟨W.heap.size, 1, none⟩ = some (.int .i64 w) ∧ V.cell? ⟨W.heap.size, 2, none⟩ = some (.int .i64 s) ∧ V.cell? ⟨W.heap.size, 3, none⟩ = some (.int .i64 c) ∧ V.cell? ⟨W.heap.size, 4, none⟩ = some (.int .u32 st) ∧ V.cell? ⟨W.heap.size, 5, none⟩ = some (.slice ia il ic) ∧ V.cell? ⟨W.heap.size, 6, none⟩ = some (.int .i64 wri) ∧ V.cell? ⟨W.heap.size, 7, none⟩ = some (.slice ra rl rc) ∧ Hid (Chg [] W1 V)) (World.drew W1) := KEEP.out _ (Chg.refl _ _).drew
  refine wp_region_plan (fun V : World => V.cell? ⟨W.heap.size, 0, none⟩ = some (.int .i64 k) ∧ V.cell? ⟨W.heap.size, 1, none⟩ = some (.int .i64 w) ∧ V.cell? ⟨W.heap.size, 2, none⟩ = some (.int .i64 s) ∧ V.cell? ⟨W.heap.size, 3, none⟩ = some (.int .i64 c) ∧ V.cell? ⟨W.heap.size, 4, none⟩ = some (.int .u32 st) ∧ V.cell? ⟨W.heap.size, 5, none⟩ = some (.slice ia il ic) ∧ V.cell? ⟨W.heap.size, 6, none⟩ = some (.int .i64 wri) ∧ V.cell? ⟨W.heap.size, 7, none⟩ = some (.slice ra rl rc) ∧ Hid (Chg [] W1 V)) [(0, true, some 28), (1, true, some 29), (2, false, some 30), (3, false, some 31), (4, true, some 5)] (by kernel_rfl) (by kernel_rfl) (by kernel_rfl) (by kernel_rfl) (fun d c a v w h => by cases d <;> exact h) hHeld ?_
  repeat (first
    | (refine planWp_read (v := ?_) rfl rfl ?_ ?_ ?_; rotate_left; (focus rfl); (focus (intro u hSw; (try dsimp only at hSw); go_simp; (try with_reducible rfl))); (try simp only [Act.put, List.setIfInBounds_toArray, List.set_cons_zero, List.set_cons_succ]))
    | (refine planWp_skip rfl rfl ?_ ?_; (focus rfl); (try simp only [Act.put, List.setIfInBounds_toArray, List.set_cons_zero, List.set_cons_succ]))
    | (refine planWp_leave rfl rfl ?_ hHeld ?_; (focus rfl); (try simp only [Act.put, List.setIfInBounds_toArray, List.set_cons_zero, List.set_cons_succ]))
    | (refine planWp_do rfl rfl ?_ (fun K hK => ?_); (focus rfl); go_simp; (try go_wp2_with (first | (go_at_call 18; refine (HLY.out _).mono ?_; rintro e wl ⟨v1, rfl, ho1, hcx⟩; have HCX := Lib.hid hcx; clear hcx; have HV1 := Lib.hid (OwnW.reads ho1 HLW.out); clear ho1; obtain ⟨a1, c1, rfl, _⟩ := reads_slice HV1.out.1) | (go_at_call 40; refine (HRD.out _ _ HV1.out).mono ?_; rintro e wm ⟨mb, sv, rfl, hm, hcx, hmb, hsv⟩; have HCX := Lib.hid hcx; have HM := Lib.hid hm; have HMB : Hid ((W.alloc (.cells #[.int .i64 k, .int .i64 w, .int .i64 s, .int .i64 c, .int .u32 st, .slice ia il ic, .int .i64 wri, .slice ra rl rc] 26)).heap.size ≤ mb ∧ ∀ y, sv.ownBlock = some y → (W.alloc (.cells #[.int .i64 k, .int .i64 w, .int .i64 s, .int .i64 c, .int .u32 st, .slice ia il ic, .int .i64 wri, .slice ra rl rc] 26)).heap.size ≤ y) := Lib.hid ⟨Nat.le_trans (HC1.out.trans hHeld.2.2.2.2.2.2.2.2.out).size hmb, fun y hy => Nat.le_trans (HC1.out.trans hHeld.2.2.2.2.2.2.2.2.out).size (hsv y hy)⟩; clear hcx hm hmb hsv))); refine hK.out _ _ ?_ (fun hHeld2 => ?_); (focus (exact KEEP.out _ (Chg.trans hHeld.2.2.2.2.2.2.2.2.out HCX.out))); clear hK K hHeld; have hHeld := hHeld2; clear hHeld2; (try simp only [Act.put, List.setIfInBounds_toArray, List.set_cons_zero, List.set_cons_succ])))
  refine planWp_nil ?_
  have HO2 := Lib.hid (HO1.out.keep hHeld.2.2.2.2.2.2.2.2.out (by simp))
  have HC2 := Lib.hid (HC1.out.trans hHeld.2.2.2.2.2.2.2.2.out)
  clear hHeld KEEP HO1 HC1 HV1
  go_wp2_with fail
  go_loopw [6, 34] (fun qv i wr => ∃ (j : Nat) (q : List (List Int)) (ws : List Int) (n : Int), j ≤ ql ∧ i = .int .i64 (j : Int) ∧ Hid (QS wr W (W.alloc (.cells #[.int .i64 k, .int .i64 w, .int .i64 s, .int .i64 c, .int .u32 st, .slice ia il ic, .int .i64 wri, .slice ra rl rc] 26)).heap.size mb sv qv q) ∧ Hid (MemAt wr mb sv ws n ∧ ws.length = N + 2 ∧ 0 ≤ n ∧ n ≤ 500 * (j : Int)) ∧ Hid (fifo.Holds ws s wN q) ∧ Hid (Chg [] (W.alloc (.cells #[.int .i64 k, .int .i64 w, .int .i64 s, .int .i64 c, .int .u32 st, .slice ia il ic, .int .i64 wri, .slice ra rl rc] 26)) wr)) (fun _ i _ => ql - (intOf i).toNat)
  case atStart => exact ⟨0, [], ws0, 0, by omega, rfl, Lib.hid QS.nil, Lib.hid ⟨HM.out, HRL.out, by omega, by omega⟩, HOK, HC2⟩
  case round =>
    obtain ⟨j, q, ws, n, hj, rfl, HQ, HMM, HHO, HCW⟩ := hrel
    clear HO2 HM HC2 HOK HRL
    obtain ⟨qao, qcap, hqv⟩ := HQ.out.slice
    subst hqv
    have HBW : Hid (Blk wr W.heap.size #[.int .i64 k, .int .i64 w, .int .i64 s, .int .i64 c, .int .u32 st, .slice ia il ic, .int .i64 wri, .slice ra rl rc] 26) := Lib.hid ((Blk.new W _ _).keep HCW.out (by simp))
    by_cases hlt : j < ql
    rotate_left
    · have hltI : ¬ ((j : Int) < (ql : Int)) := by omega
      clear hj hlt
      go_wp2_with (go_at_call 14; refine (fifo.awake_any _).mono ?_; rintro e wz ⟨rfl, hcz⟩; have HZ := Lib.hid hcz; clear hcz)
      go_ret
      exact ⟨rfl, (HCA.out.trans (HCW.out.trans HZ.out)).below⟩
    have hltI : (j : Int) < (ql : Int) := by omega
    have HJ : Hid (j < ql ∧ ql ≤ 60) := Lib.hid ⟨hlt, HB.out.2.2.2.2.2.2.1⟩
    have k9 : IntKind.i64.wrap ((j : Int) + 1) = (j : Int) + 1 := by have := HJ.out; rw [IntKind.wrap_i64]; omega
    have hjl : j < rs.length := by rw [HRR0.out.1]; exact hlt
    obtain ⟨b, off, hqa, hel⟩ : ∃ b off, qa = some ⟨b, off, none⟩ ∧ ∀ (i : Nat) r, rs[i]? = some r → W.cell? ⟨b, off + i, none⟩ = some (.slice r.1 r.2.1 r.2.2.1) := by
      rcases HRR0.out.2.1 with h0 | h0
      · omega
      · exact h0
    subst hqa
    have ec0 := hel j _ (List.getElem?_eq_getElem hjl)
    have hrr := HRR0.out.2.2 _ (List.getElem_mem hjl)
    generalize rs[j] = r at ec0 hrr
    obtain ⟨r1, r2, r3, rec⟩ := r
    dsimp only at ec0 hrr
    have hrl : r2 = rec.length := by obtain ⟨_, _, he, _⟩ := reads_slice hrr.1; simp at he; exact he.2.1
    have HREC := Lib.hid hrr
    have HNB : Hid (0 ≤ n ∧ n ≤ 41200) := Lib.hid (by have h1 := HMM.out.2.2; have h2 := HJ.out; omega)
    have HWL : Hid (ws.length = N + 2) := Lib.hid HMM.out.2.1
    have HEC : Hid (wr.cell? ⟨b, off + j, none⟩ = some (.slice r1 r2 r3)) := Lib.hid ((HCA.out.trans HCW.out).keep ec0 (by simp))
    clear hel hjl hrr ec0 hlt hj
    by_cases h0 : r2 = 0
    · have h00 : ¬ (0 < r2) := by omega
      have h01 : ¬ ((0 : Int) < (r2 : Int)) := by omega
      have hrec : rec = [] := List.eq_nil_of_length_eq_zero (by omega)
      subst hrec
      clear h0 hrl
      have HSH := Lib.hid HTS.out
      have HBG : Hid (begI w rl (N : Int) 1 4 0 3 4 ([] : List Int).length = 0) := Lib.hid (by
        have h1 := HB.out; unfold begI
        rw [if_neg (by omega), if_neg (by omega), if_pos rfl, if_neg (by omega), if_neg (by simp)])
      have ec := HEC.out
      have e0 : wr.cell? ⟨W.heap.size, 0, none⟩ = some (.int .i64 k) := HBW.out.cell rfl
      have e1 : wr.cell? ⟨W.heap.size, 1, none⟩ = some (.int .i64 w) := HBW.out.cell rfl
      have e2 : wr.cell? ⟨W.heap.size, 2, none⟩ = some (.int .i64 s) := HBW.out.cell rfl
      have e3 : wr.cell? ⟨W.heap.size, 3, none⟩ = some (.int .i64 c) := HBW.out.cell rfl
      have e4 : wr.cell? ⟨W.heap.size, 4, none⟩ = some (.int .u32 st) := HBW.out.cell rfl
      have e5 : wr.cell? ⟨W.heap.size, 5, none⟩ = some (.slice ia il ic) := HBW.out.cell rfl
      have e6 : wr.cell? ⟨W.heap.size, 6, none⟩ = some (.int .i64 wri) := HBW.out.cell rfl
      have e7 : wr.cell? ⟨W.heap.size, 7, none⟩ = some (.slice ra rl rc) := HBW.out.cell rfl
      go_wp2_with (go_at_call 25; refine (fifo.Begin_yes k w s c st ia il ic wri ra rl rc 1 4 0 (N : Int) _ ([] : List Int) _ (HREC.out.chg (HCA.out.trans HCW.out)) (by simp) HSZ.out HBG.out).mono ?_; rintro e wb ⟨bx, v, rfl, hb, ho, hv, hxb, hcx⟩; have HP0 : Hid (Pair 77 bx mb sv wb ({ k := k, w := w, s := s, c := c, st := st, ia := ia, il := il, ic := ic, wr := wri, ra := ra, rl := rl, rc := rc, op := 4, reader := 0, phase := 0, i := 0, tries := 0, a := 0, b := 0, used := 0, m := .pointer none, base := 1, size := (N : Int), code := 0, steps := 0, over := false } : Core) v ([] : List Int) ws n) := Lib.hid (Pair.late hb ho hv hxb (by simp) (by simp) hcx HMM.out.1); have HX0 : Hid ((W.alloc (.cells #[.int .i64 k, .int .i64 w, .int .i64 s, .int .i64 c, .int .u32 st, .slice ia il ic, .int .i64 wri, .slice ra rl rc] 26)).heap.size ≤ bx) := Lib.hid (Nat.le_trans HCW.out.size hxb); have HV1 : Hid (∀ y, v.ownBlock = some y → wr.heap.size ≤ y) := Lib.hid (fun y hy => by rcases ho.2 with ⟨rfl, _⟩ | ⟨g, _, _, rfl, hg, _⟩; cases hy; simp [Value.ownBlock] at hy; omega); have HX1 : Hid (wr.heap.size ≤ bx) := Lib.hid hxb; have HCX := Lib.hid hcx; clear hcx hb ho hv hxb)
      have HCB : Hid (Chg [] (W.alloc (.cells #[.int .i64 k, .int .i64 w, .int .i64 s, .int .i64 c, .int .u32 st, .slice ia il ic, .int .i64 wri, .slice ra rl rc] 26)) wb) := Lib.hid (HCW.out.trans HCX.out)
      have HQB : Hid (QS wb W (W.alloc (.cells #[.int .i64 k, .int .i64 w, .int .i64 s, .int .i64 c, .int .u32 st, .slice ia il ic, .int .i64 wri, .slice ra rl rc] 26)).heap.size mb sv (.slice qao q.length qcap) q ∧ ∀ y, (Value.slice qao q.length qcap).ownBlock = some y → y ≠ bx ∧ y ≠ mb ∧ sv.ownBlock ≠ some y ∧ v.ownBlock ≠ some y) := Lib.hid ⟨HQ.out.fresh HCX.out, fun y hy => by have h1 := HQ.out.blk y hy; have h2 := HX1.out; exact ⟨by omega, h1.2.2.1, h1.2.2.2, fun hh => by have := HV1.out y hh; omega⟩⟩
      have HV0 : Hid (∀ y, v.ownBlock = some y → (W.alloc (.cells #[.int .i64 k, .int .i64 w, .int .i64 s, .int .i64 c, .int .u32 st, .slice ia il ic, .int .i64 wri, .slice ra rl rc] 26)).heap.size ≤ y) := Lib.hid (fun y hy => Nat.le_trans HCW.out.size (HV1.out y hy))
      have HST0 : Hid (fifo.TI ({ k := k, w := w, s := s, c := c, st := st, ia := ia, il := il, ic := ic, wr := wri, ra := ra, rl := rl, rc := rc, op := 4, reader := 0, phase := 0, i := 0, tries := 0, a := 0, b := 0, used := 0, m := .pointer none, base := 1, size := (N : Int), code := 0, steps := 0, over := false } : Core) ([] : List Int) ws s wN q) := Lib.hid (fifo.ti_start rfl HB.out.2.1 rfl rfl rfl rfl rfl HHO.out)
      clear e0 e1 e2 e3 e4 e5 e6 e7 ec
      generalize hw0 : wb = w0 at *
      clear hw0
      obtain ⟨q0, hq0⟩ : ∃ q0 : Q, (({ k := k, w := w, s := s, c := c, st := st, ia := ia, il := il, ic := ic, wr := wri, ra := ra, rl := rl, rc := rc, op := 4, reader := 0, phase := 0, i := 0, tries := 0, a := 0, b := 0, used := 0, m := .pointer none, base := 1, size := (N : Int), code := 0, steps := 0, over := false } : Core), ([] : List Int), ws) = q0 := ⟨_, rfl⟩
      have HAT0 : Hid (fifo.K.At 77 bx mb sv w0 v q0 n w0 0) := Lib.hid (by rw [← hq0]; exact Kind.At.start (St.start HP0.out) HSH.out.1)
      have HIN0 : Hid (fifo.TI (fifo.K.run (.pointer (some ⟨mb, 0, none⟩)) 0 q0).1 (fifo.K.run (.pointer (some ⟨mb, 0, none⟩)) 0 q0).2.1 (fifo.K.run (.pointer (some ⟨mb, 0, none⟩)) 0 q0).2.2 s wN q) := Lib.hid (by rw [← hq0]; exact HST0.out)
      have HQ0 : Hid (q0.1.base = 1 ∧ q0.1.size = (N : Int) ∧ q0.2.2.length = N + 2 ∧ q0.1.steps = 0 ∧ fifo.K.left q0.1 ≤ 200) := Lib.hid (by rw [← hq0]; exact ⟨rfl, rfl, HWL.out, rfl, HSH.out.2⟩)
      clear hq0 HP0 HSH HST0
      go_loopw [63] (fun _ wr2 => ∃ t : Nat, Hid (fifo.K.At 77 bx mb sv w0 v q0 n wr2 t) ∧ Hid (fifo.TI (fifo.K.run (.pointer (some ⟨mb, 0, none⟩)) t q0).1 (fifo.K.run (.pointer (some ⟨mb, 0, none⟩)) t q0).2.1 (fifo.K.run (.pointer (some ⟨mb, 0, none⟩)) t q0).2.2 s wN q)) (fun _ wr2 => 200 - stepsOf wr2 bx)
      case atStart => exact ⟨0, HAT0, HIN0⟩
      case round =>
        obtain ⟨t, HAT, HIT⟩ := hrel
        clear HAT0 HIN0
        have HT : Hid ((t : Int) ≤ 200 ∧ (fifo.K.run (.pointer (some ⟨mb, 0, none⟩)) t q0).1.steps = (t : Int)) := Lib.hid (by
          have h1 := HAT.out.most; have h2 := HQ0.out.2.2.2.2; have h3 := HAT.out.steps; have h4 := HQ0.out.2.2.2.1
          exact ⟨by omega, by omega⟩)
        have hopn := HAT.out.opens (by rw [HQ0.out.1]; omega) (by rw [HQ0.out.2.1]; omega) (by rw [HQ0.out.1, HQ0.out.2.1, HQ0.out.2.2.1]; omega)
        cases hov : (fifo.K.run (.pointer (some ⟨mb, 0, none⟩)) t q0).1.over
        · rw [hov] at hopn
          have HOP : Hid (opens (fifo.K.run (.pointer (some ⟨mb, 0, none⟩)) t q0).1 (fifo.K.run (.pointer (some ⟨mb, 0, none⟩)) t q0).2.2.length = true) := Lib.hid hopn
          have HLT : Hid (t < 200) := Lib.hid (by
            have h1 := HAT.out.left; have h2 := fifo.K.pos HAT.out.shape hov; have h3 := HQ0.out.2.2.2.2
            omega)
          have HIN : Hid (fifo.TI (fifo.K.run (.pointer (some ⟨mb, 0, none⟩)) (t + 1) q0).1 (fifo.K.run (.pointer (some ⟨mb, 0, none⟩)) (t + 1) q0).2.1 (fifo.K.run (.pointer (some ⟨mb, 0, none⟩)) (t + 1) q0).2.2 s wN q) := Lib.hid (fifo.take_step (.pointer (some ⟨mb, 0, none⟩)) HAT.out.shape hov HIT.out)
          have HOV := Lib.hid hov
          clear hopn hov
          go_wp2_with (go_at_call 26; refine (fifo.Step_yes HAT.out.shape (by rw [HT.out.2]; have := HT.out.1; omega) HOP.out (by have h1 := HT.out.1; have h2 := HNB.out; omega) HAT.out.st).mono ?_; rintro e w5 ⟨rfl, hx⟩; have HX := Lib.hid (HAT.out.next HOV.out hx); clear hx)
          have hlt := HLT.out
          have m1 := HAT.out.made HQ0.out.2.2.2.1
          have m2 := HX.out.made HQ0.out.2.2.2.1
          go_roundw
          case rel => exact ⟨t + 1, HX, HIN⟩
          case measure => rw [m1, m2]; omega
        · rw [hov] at hopn
          have HOP : Hid (opens (fifo.K.run (.pointer (some ⟨mb, 0, none⟩)) t q0).1 (fifo.K.run (.pointer (some ⟨mb, 0, none⟩)) t q0).2.2.length = false) := Lib.hid hopn
          have HOV := Lib.hid hov
          have HEND := Lib.hid (HIT.out.done hov)
          have HLEN : Hid ((fifo.K.run (.pointer (some ⟨mb, 0, none⟩)) t q0).2.2.length = N + 2) := Lib.hid (by rw [Kind.run_len]; exact HQ0.out.2.2.1)
          have HNT : Hid (0 ≤ n + (t : Int) ∧ n + (t : Int) ≤ n + 200) := Lib.hid (by have h1 := HT.out.1; have h2 := HNB.out; omega)
          have HNEW : Hid (Chg [] (W.alloc (.cells #[.int .i64 k, .int .i64 w, .int .i64 s, .int .i64 c, .int .u32 st, .slice ia il ic, .int .i64 wri, .slice ra rl rc] 26)) wr) := Lib.hid (HAT.out.st.into HCB.out HX0.out HMB.out.1 HMB.out.2 HV0.out)
          have HSTE := Lib.hid HAT.out.st
          obtain ⟨qe, hqe⟩ : ∃ qe : Q, fifo.K.run (.pointer (some ⟨mb, 0, none⟩)) t q0 = qe := ⟨_, rfl⟩
          obtain ⟨ne, hne⟩ : ∃ ne : Int, n + (t : Int) = ne := ⟨_, rfl⟩
          simp only [hqe, hne] at HOP HOV HEND HLEN HNT HSTE
          clear hqe hne HAT HIT hopn hov HT HQ0
          obtain ⟨ve, hpe, hee⟩ := HSTE.out
          have HPE := Lib.hid hpe
          have HQE : Hid (QS wr W (W.alloc (.cells #[.int .i64 k, .int .i64 w, .int .i64 s, .int .i64 c, .int .u32 st, .slice ia il ic, .int .i64 wri, .slice ra rl rc] 26)).heap.size mb sv (.slice qao q.length qcap) q) := Lib.hid (HQB.out.1.keep hee.chg (fun y hy => by
            have h1 := HQB.out.2 y hy
            simp only [List.mem_cons, List.mem_append, Option.mem_toList, Option.mem_def, not_or]
            exact ⟨h1.1, h1.2.1, h1.2.2.1, h1.2.2.2⟩))
          clear hpe hee
          have HOX : Hid (∀ V, Chg [] wr V → Calls Try.prog 28 #[.pointer (some ⟨bx, 0, none⟩)] V fun e W' => e = .returned (.bool true) ∧ V = W') := Lib.hid (fun V hV => by
            have h1 := fifo.Over_any (St.start (HPE.out.keep hV))
            rw [HOV.out] at h1
            exact h1)
          have HF := Lib.hid (Chg.refl [] wr)
          have hjj := HJ.out
          rcases HEND.out with ⟨hq1, hq2, hrz, hq3, hq4⟩ | ⟨hq1, hq2, hrz, hq4⟩
          · have HR9 : Hid (OpTold qe [] 3 2) := Lib.hid ⟨hrz, hq2, hq3⟩
            have HHN := Lib.hid hq4
            have hfb : ((q.length : Int) == 0) = true := by simpa using hq1
            have hfb2 : (q.length == 0) = true := by simpa using hq1
            clear hrz hq1 hq2 hq3 hq4 HEND
            have HAX : Hid (∀ V, Chg [] wr V → Calls Try.prog 42 #[.pointer (some ⟨bx, 0, none⟩)] V fun e W' => ∃ v', e = .returned (.tuple #[v', .int .i64 3]) ∧ (∃ xp xc, v' = .slice xp 0 xc) ∧ Chg [] V W') := Lib.hid (fun V hV => by
              have h1 := fifo.Answer_any (HPE.out.keep hV)
              rw [show (if qe.1.over then qe.2.1 else []) = ([] : List Int) from by rw [HOV.out]; simpa using HR9.out.rec0, show (if qe.1.over then qe.1.code else 0) = 3 from by rw [HOV.out]; simpa using HR9.out.code0] at h1
              refine h1.mono ?_
              rintro e w ⟨v', he, ho, hc⟩
              exact ⟨v', he, ans_none ho, hc⟩)
            have HSX : Hid (∀ V, Chg [] wr V → Calls Try.prog 30 #[.pointer (some ⟨bx, 0, none⟩)] V fun e W' => e = .returned (.int .i64 2) ∧ V = W') := Lib.hid (fun V hV => by
              have h1 := fifo.Steps_any (St.start (HPE.out.keep hV))
              rw [HR9.out.steps0] at h1
              exact h1)
            go_wp2_with (first | (go_at_call 26; refine (fifo.Step_no HOP.out HSTE.out).mono ?_; rintro e w6 ⟨rfl, hc⟩; have HF := Lib.hid (HF.out.trans hc); clear hc) | (go_at_call 42; refine (HAX.out _ HF.out).mono ?_; rintro e w7 ⟨xa, rfl, ⟨xp, xc, rfl⟩, hc⟩; have HF := Lib.hid (HF.out.trans hc); have e2 : w7.cell? ⟨W.heap.size, 2, none⟩ = some (.int .i64 s) := Blk.cell ((Blk.new W _ _).keep (HNEW.out.trans HF.out) (by simp)) rfl; clear hc) | (go_at_call 28; refine (HOX.out _ HF.out).mono ?_; rintro e w8 ⟨rfl, rfl⟩) | (go_at_call 30; refine (HSX.out _ HF.out).mono ?_; rintro e w9 ⟨rfl, rfl⟩))
            go_roundw
            case rel => exact ⟨j + 1, q, qe.2.2, ne, by omega, by go_num, Lib.hid (HQE.out.fresh HF.out), Lib.hid ⟨HPE.out.mem.fresh HF.out, HLEN.out, HNT.out.1, by have h1 := HNT.out.2; have h2 := HMM.out.2.2.2; push_cast; omega⟩, HHN, Lib.hid (HNEW.out.trans HF.out)⟩
            case measure => simp [intOf]; omega
          · have HR9 : Hid (qe.2.1 = q.headD [] ∧ qe.1.code = 0) := Lib.hid ⟨hrz, hq2⟩
            have HHN := Lib.hid hq4
            obtain ⟨g, go_, gcap, qa1, qa2, qa3, hgv, hgc, hgr⟩ := HQE.out.get hq1
            simp only [Value.slice.injEq] at hgv
            obtain ⟨rfl, -, rfl⟩ := hgv
            obtain ⟨v2, hcut, hqn⟩ := HQE.out.cut hq1
            obtain ⟨hd, hhd⟩ : ∃ hd, q.headD [] = hd := ⟨_, rfl⟩
            rw [hhd] at HR9 hgr hrz
            have HQN := Lib.hid hqn
            have HGC := Lib.hid hgc
            have HGR := Lib.hid hgr
            have HGW : Hid (∀ z ∈ hd, (Lit.int .u32 z).wf = true) := Lib.hid hgr.2
            have HGL : Hid ((hd).length ≤ 1000000) := Lib.hid (by have h1 := HPE.out.short; rw [hrz] at h1; omega)
            have hfb : ((q.length : Int) == 0) = false := beq_eq_false_iff_ne.2 (by omega)
            have hfb2 : (q.length == 0) = false := beq_eq_false_iff_ne.2 (by omega)
            have hqp : 0 < q.length := hq1
            have hqpI : (0 : Int) < (q.length : Int) := by omega
            clear hrz hq1 hq2 hq4 HEND hqn hgc hgr hhd
            have HAX : Hid (∀ V, Chg [] wr V → Calls Try.prog 42 #[.pointer (some ⟨bx, 0, none⟩)] V fun e W' => ∃ v', e = .returned (.tuple #[v', .int .i64 0]) ∧ OwnW W' V.heap.size v' (hd) ∧ Chg [] V W') := Lib.hid (fun V hV => by
              have h1 := fifo.Answer_any (HPE.out.keep hV)
              rw [show (if qe.1.over then qe.2.1 else []) = hd from by rw [HOV.out]; simpa using HR9.out.1, show (if qe.1.over then qe.1.code else 0) = 0 from by rw [HOV.out]; simpa using HR9.out.2] at h1
              exact h1)
            go_wp2_with (first | (go_at_call 26; refine (fifo.Step_no HOP.out HSTE.out).mono ?_; rintro e w6 ⟨rfl, hc⟩; have HF := Lib.hid (HF.out.trans hc); clear hc) | (go_at_call 42; refine (HAX.out _ HF.out).mono ?_; rintro e w7 ⟨xa, rfl, ho, hc⟩; have HF := Lib.hid (HF.out.trans hc); have HA1 := Lib.hid (OwnW.reads ho HGW.out); have HA2 := Lib.hid (HGR.out.chg (HCA.out.trans (HNEW.out.trans HF.out))); have eg : w7.cell? ⟨g, go_, none⟩ = some (.slice qa1 qa2 qa3) := HF.out.keep HGC.out (by simp); have e2 : w7.cell? ⟨W.heap.size, 2, none⟩ = some (.int .i64 s) := Blk.cell ((Blk.new W _ _).keep (HNEW.out.trans HF.out) (by simp)) rfl; clear ho hc; obtain ⟨xa1, xa2, rfl, _⟩ := reads_slice HA1.out.1) | (go_at_call 28; refine (HOX.out _ HF.out).mono ?_; rintro e w8 ⟨rfl, rfl⟩) | (go_at_call 21; refine (Words_any _ _ (hd) (hd) _ HA1.out HA2.out HGL.out HGL.out).mono ?_; rintro e wk ⟨rfl, hq⟩; rw [show wordsB (hd) (hd) = true from by simp [wordsB]]; have HF := Lib.hid (HF.out.trans (quiet_chg hq)); clear hq))
            go_roundw
            case rel => exact ⟨j + 1, q.tail, qe.2.2, ne, by omega, by go_num, Lib.hid (HQN.out.fresh HF.out), Lib.hid ⟨HPE.out.mem.fresh HF.out, HLEN.out, HNT.out.1, by have h1 := HNT.out.2; have h2 := HMM.out.2.2.2; push_cast; omega⟩, HHN, Lib.hid (HNEW.out.trans HF.out)⟩
            case measure => simp [intOf]; omega
    · have h00 : 0 < r2 := by omega
      have h01 : (0 : Int) < (r2 : Int) := by omega
      by_cases hrw : (r2 : Int) = w
      · have hneb : ((r2 : Int) != w) = false := by simpa using hrw
        have hrl2 : rec.length = wN := by have := HB.out.2.1; omega
        have HRCL := Lib.hid hrl2
        clear h0 hrl hrw hrl2
        have HSH := Lib.hid (HPS.out rec HRCL.out)
        have HBG : Hid (begI w rl (N : Int) 1 3 0 3 4 rec.length = 0) := Lib.hid (by
          have h1 := HB.out; unfold begI
          rw [if_neg (by omega), if_pos rfl, if_neg (by omega), if_neg (by have h2 := HRCL.out; omega)])
        have ec := HEC.out
        have e0 : wr.cell? ⟨W.heap.size, 0, none⟩ = some (.int .i64 k) := HBW.out.cell rfl
        have e1 : wr.cell? ⟨W.heap.size, 1, none⟩ = some (.int .i64 w) := HBW.out.cell rfl
        have e2 : wr.cell? ⟨W.heap.size, 2, none⟩ = some (.int .i64 s) := HBW.out.cell rfl
        have e3 : wr.cell? ⟨W.heap.size, 3, none⟩ = some (.int .i64 c) := HBW.out.cell rfl
        have e4 : wr.cell? ⟨W.heap.size, 4, none⟩ = some (.int .u32 st) := HBW.out.cell rfl
        have e5 : wr.cell? ⟨W.heap.size, 5, none⟩ = some (.slice ia il ic) := HBW.out.cell rfl
        have e6 : wr.cell? ⟨W.heap.size, 6, none⟩ = some (.int .i64 wri) := HBW.out.cell rfl
        have e7 : wr.cell? ⟨W.heap.size, 7, none⟩ = some (.slice ra rl rc) := HBW.out.cell rfl
        go_wp2_with (go_at_call 25; refine (fifo.Begin_yes k w s c st ia il ic wri ra rl rc 1 3 0 (N : Int) _ rec _ (HREC.out.chg (HCA.out.trans HCW.out)) (by have h1 := HRCL.out; have h2 := HB.out; omega) HSZ.out HBG.out).mono ?_; rintro e wb ⟨bx, v, rfl, hb, ho, hv, hxb, hcx⟩; have HP0 : Hid (Pair 77 bx mb sv wb ({ k := k, w := w, s := s, c := c, st := st, ia := ia, il := il, ic := ic, wr := wri, ra := ra, rl := rl, rc := rc, op := 3, reader := 0, phase := 0, i := 0, tries := 0, a := 0, b := 0, used := 0, m := .pointer none, base := 1, size := (N : Int), code := 0, steps := 0, over := false } : Core) v rec ws n) := Lib.hid (Pair.late hb ho hv hxb HREC.out.2 (by have h1 := HRCL.out; have h2 := HB.out; omega) hcx HMM.out.1); have HX0 : Hid ((W.alloc (.cells #[.int .i64 k, .int .i64 w, .int .i64 s, .int .i64 c, .int .u32 st, .slice ia il ic, .int .i64 wri, .slice ra rl rc] 26)).heap.size ≤ bx) := Lib.hid (Nat.le_trans HCW.out.size hxb); have HV1 : Hid (∀ y, v.ownBlock = some y → wr.heap.size ≤ y) := Lib.hid (fun y hy => by rcases ho.2 with ⟨rfl, _⟩ | ⟨g, _, _, rfl, hg, _⟩; cases hy; simp [Value.ownBlock] at hy; omega); have HX1 : Hid (wr.heap.size ≤ bx) := Lib.hid hxb; have HCX := Lib.hid hcx; clear hcx hb ho hv hxb)
        have HCB : Hid (Chg [] (W.alloc (.cells #[.int .i64 k, .int .i64 w, .int .i64 s, .int .i64 c, .int .u32 st, .slice ia il ic, .int .i64 wri, .slice ra rl rc] 26)) wb) := Lib.hid (HCW.out.trans HCX.out)
        have HQB : Hid (QS wb W (W.alloc (.cells #[.int .i64 k, .int .i64 w, .int .i64 s, .int .i64 c, .int .u32 st, .slice ia il ic, .int .i64 wri, .slice ra rl rc] 26)).heap.size mb sv (.slice qao q.length qcap) q ∧ ∀ y, (Value.slice qao q.length qcap).ownBlock = some y → y ≠ bx ∧ y ≠ mb ∧ sv.ownBlock ≠ some y ∧ v.ownBlock ≠ some y) := Lib.hid ⟨HQ.out.fresh HCX.out, fun y hy => by have h1 := HQ.out.blk y hy; have h2 := HX1.out; exact ⟨by omega, h1.2.2.1, h1.2.2.2, fun hh => by have := HV1.out y hh; omega⟩⟩
        have HV0 : Hid (∀ y, v.ownBlock = some y → (W.alloc (.cells #[.int .i64 k, .int .i64 w, .int .i64 s, .int .i64 c, .int .u32 st, .slice ia il ic, .int .i64 wri, .slice ra rl rc] 26)).heap.size ≤ y) := Lib.hid (fun y hy => Nat.le_trans HCW.out.size (HV1.out y hy))
        have HST0 : Hid (fifo.PI ({ k := k, w := w, s := s, c := c, st := st, ia := ia, il := il, ic := ic, wr := wri, ra := ra, rl := rl, rc := rc, op := 3, reader := 0, phase := 0, i := 0, tries := 0, a := 0, b := 0, used := 0, m := .pointer none, base := 1, size := (N : Int), code := 0, steps := 0, over := false } : Core) rec ws s wN q rec) := Lib.hid (fifo.pi_start rfl HB.out.2.1 rfl rfl rfl rfl rfl HRCL.out HHO.out)
        clear e0 e1 e2 e3 e4 e5 e6 e7 ec
        generalize hw0 : wb = w0 at *
        clear hw0
        obtain ⟨q0, hq0⟩ : ∃ q0 : Q, (({ k := k, w := w, s := s, c := c, st := st, ia := ia, il := il, ic := ic, wr := wri, ra := ra, rl := rl, rc := rc, op := 3, reader := 0, phase := 0, i := 0, tries := 0, a := 0, b := 0, used := 0, m := .pointer none, base := 1, size := (N : Int), code := 0, steps := 0, over := false } : Core), rec, ws) = q0 := ⟨_, rfl⟩
        have HAT0 : Hid (fifo.K.At 77 bx mb sv w0 v q0 n w0 0) := Lib.hid (by rw [← hq0]; exact Kind.At.start (St.start HP0.out) HSH.out.1)
        have HIN0 : Hid (fifo.PI (fifo.K.run (.pointer (some ⟨mb, 0, none⟩)) 0 q0).1 (fifo.K.run (.pointer (some ⟨mb, 0, none⟩)) 0 q0).2.1 (fifo.K.run (.pointer (some ⟨mb, 0, none⟩)) 0 q0).2.2 s wN q rec) := Lib.hid (by rw [← hq0]; exact HST0.out)
        have HQ0 : Hid (q0.1.base = 1 ∧ q0.1.size = (N : Int) ∧ q0.2.2.length = N + 2 ∧ q0.1.steps = 0 ∧ fifo.K.left q0.1 ≤ 200) := Lib.hid (by rw [← hq0]; exact ⟨rfl, rfl, HWL.out, rfl, HSH.out.2⟩)
        clear hq0 HP0 HSH HST0
        go_loopw [63] (fun _ wr2 => ∃ t : Nat, Hid (fifo.K.At 77 bx mb sv w0 v q0 n wr2 t) ∧ Hid (fifo.PI (fifo.K.run (.pointer (some ⟨mb, 0, none⟩)) t q0).1 (fifo.K.run (.pointer (some ⟨mb, 0, none⟩)) t q0).2.1 (fifo.K.run (.pointer (some ⟨mb, 0, none⟩)) t q0).2.2 s wN q rec)) (fun _ wr2 => 200 - stepsOf wr2 bx)
        case atStart => exact ⟨0, HAT0, HIN0⟩
        case round =>
          obtain ⟨t, HAT, HIT⟩ := hrel
          clear HAT0 HIN0
          have HT : Hid ((t : Int) ≤ 200 ∧ (fifo.K.run (.pointer (some ⟨mb, 0, none⟩)) t q0).1.steps = (t : Int)) := Lib.hid (by
            have h1 := HAT.out.most; have h2 := HQ0.out.2.2.2.2; have h3 := HAT.out.steps; have h4 := HQ0.out.2.2.2.1
            exact ⟨by omega, by omega⟩)
          have hopn := HAT.out.opens (by rw [HQ0.out.1]; omega) (by rw [HQ0.out.2.1]; omega) (by rw [HQ0.out.1, HQ0.out.2.1, HQ0.out.2.2.1]; omega)
          cases hov : (fifo.K.run (.pointer (some ⟨mb, 0, none⟩)) t q0).1.over
          · rw [hov] at hopn
            have HOP : Hid (opens (fifo.K.run (.pointer (some ⟨mb, 0, none⟩)) t q0).1 (fifo.K.run (.pointer (some ⟨mb, 0, none⟩)) t q0).2.2.length = true) := Lib.hid hopn
            have HLT : Hid (t < 200) := Lib.hid (by
              have h1 := HAT.out.left; have h2 := fifo.K.pos HAT.out.shape hov; have h3 := HQ0.out.2.2.2.2
              omega)
            have HIN : Hid (fifo.PI (fifo.K.run (.pointer (some ⟨mb, 0, none⟩)) (t + 1) q0).1 (fifo.K.run (.pointer (some ⟨mb, 0, none⟩)) (t + 1) q0).2.1 (fifo.K.run (.pointer (some ⟨mb, 0, none⟩)) (t + 1) q0).2.2 s wN q rec) := Lib.hid (fifo.put_step (.pointer (some ⟨mb, 0, none⟩)) HAT.out.shape hov HIT.out)
            have HOV := Lib.hid hov
            clear hopn hov
            go_wp2_with (go_at_call 26; refine (fifo.Step_yes HAT.out.shape (by rw [HT.out.2]; have := HT.out.1; omega) HOP.out (by have h1 := HT.out.1; have h2 := HNB.out; omega) HAT.out.st).mono ?_; rintro e w5 ⟨rfl, hx⟩; have HX := Lib.hid (HAT.out.next HOV.out hx); clear hx)
            have hlt := HLT.out
            have m1 := HAT.out.made HQ0.out.2.2.2.1
            have m2 := HX.out.made HQ0.out.2.2.2.1
            go_roundw
            case rel => exact ⟨t + 1, HX, HIN⟩
            case measure => rw [m1, m2]; omega
          · rw [hov] at hopn
            have HOP : Hid (opens (fifo.K.run (.pointer (some ⟨mb, 0, none⟩)) t q0).1 (fifo.K.run (.pointer (some ⟨mb, 0, none⟩)) t q0).2.2.length = false) := Lib.hid hopn
            have HOV := Lib.hid hov
            have HEND := Lib.hid (HIT.out.done hov)
            have HLEN : Hid ((fifo.K.run (.pointer (some ⟨mb, 0, none⟩)) t q0).2.2.length = N + 2) := Lib.hid (by rw [Kind.run_len]; exact HQ0.out.2.2.1)
            have HNT : Hid (0 ≤ n + (t : Int) ∧ n + (t : Int) ≤ n + 200) := Lib.hid (by have h1 := HT.out.1; have h2 := HNB.out; omega)
            have HNEW : Hid (Chg [] (W.alloc (.cells #[.int .i64 k, .int .i64 w, .int .i64 s, .int .i64 c, .int .u32 st, .slice ia il ic, .int .i64 wri, .slice ra rl rc] 26)) wr) := Lib.hid (HAT.out.st.into HCB.out HX0.out HMB.out.1 HMB.out.2 HV0.out)
            have HSTE := Lib.hid HAT.out.st
            obtain ⟨qe, hqe⟩ : ∃ qe : Q, fifo.K.run (.pointer (some ⟨mb, 0, none⟩)) t q0 = qe := ⟨_, rfl⟩
            obtain ⟨ne, hne⟩ : ∃ ne : Int, n + (t : Int) = ne := ⟨_, rfl⟩
            simp only [hqe, hne] at HOP HOV HEND HLEN HNT HSTE
            clear hqe hne HAT HIT hopn hov HT HQ0
            obtain ⟨ve, hpe, hee⟩ := HSTE.out
            have HPE := Lib.hid hpe
            have HQE : Hid (QS wr W (W.alloc (.cells #[.int .i64 k, .int .i64 w, .int .i64 s, .int .i64 c, .int .u32 st, .slice ia il ic, .int .i64 wri, .slice ra rl rc] 26)).heap.size mb sv (.slice qao q.length qcap) q) := Lib.hid (HQB.out.1.keep hee.chg (fun y hy => by
              have h1 := HQB.out.2 y hy
              simp only [List.mem_cons, List.mem_append, Option.mem_toList, Option.mem_def, not_or]
              exact ⟨h1.1, h1.2.1, h1.2.2.1, h1.2.2.2⟩))
            clear hpe hee
            have HOX : Hid (∀ V, Chg [] wr V → Calls Try.prog 28 #[.pointer (some ⟨bx, 0, none⟩)] V fun e W' => e = .returned (.bool true) ∧ V = W') := Lib.hid (fun V hV => by
              have h1 := fifo.Over_any (St.start (HPE.out.keep hV))
              rw [HOV.out] at h1
              exact h1)
            have HF := Lib.hid (Chg.refl [] wr)
            have hjj := HJ.out
            rcases HEND.out with ⟨hrz, ⟨hq1, hq2, hq3, hq4⟩ | ⟨hq1, hq2, hq4⟩⟩
            · have HR9 : Hid (OpTold qe [] 2 2) := Lib.hid ⟨hrz, hq2, hq3⟩
              have HHN := Lib.hid hq4
              have hfb : ((q.length : Int) == s) = true := by simpa using hq1
              clear hrz hq1 hq2 hq3 hq4 HEND
              have HAX : Hid (∀ V, Chg [] wr V → Calls Try.prog 42 #[.pointer (some ⟨bx, 0, none⟩)] V fun e W' => ∃ v', e = .returned (.tuple #[v', .int .i64 2]) ∧ (∃ xp xc, v' = .slice xp 0 xc) ∧ Chg [] V W') := Lib.hid (fun V hV => by
                have h1 := fifo.Answer_any (HPE.out.keep hV)
                rw [show (if qe.1.over then qe.2.1 else []) = ([] : List Int) from by rw [HOV.out]; simpa using HR9.out.rec0, show (if qe.1.over then qe.1.code else 0) = 2 from by rw [HOV.out]; simpa using HR9.out.code0] at h1
                refine h1.mono ?_
                rintro e w ⟨v', he, ho, hc⟩
                exact ⟨v', he, ans_none ho, hc⟩)
              have HSX : Hid (∀ V, Chg [] wr V → Calls Try.prog 30 #[.pointer (some ⟨bx, 0, none⟩)] V fun e W' => e = .returned (.int .i64 2) ∧ V = W') := Lib.hid (fun V hV => by
                have h1 := fifo.Steps_any (St.start (HPE.out.keep hV))
                rw [HR9.out.steps0] at h1
                exact h1)
              go_wp2_with (first | (go_at_call 26; refine (fifo.Step_no HOP.out HSTE.out).mono ?_; rintro e w6 ⟨rfl, hc⟩; have HF := Lib.hid (HF.out.trans hc); clear hc) | (go_at_call 42; refine (HAX.out _ HF.out).mono ?_; rintro e w7 ⟨xa, rfl, ⟨xp, xc, rfl⟩, hc⟩; have HF := Lib.hid (HF.out.trans hc); have e2 : w7.cell? ⟨W.heap.size, 2, none⟩ = some (.int .i64 s) := Blk.cell ((Blk.new W _ _).keep (HNEW.out.trans HF.out) (by simp)) rfl; clear hc) | (go_at_call 28; refine (HOX.out _ HF.out).mono ?_; rintro e w8 ⟨rfl, rfl⟩) | (go_at_call 30; refine (HSX.out _ HF.out).mono ?_; rintro e w9 ⟨rfl, rfl⟩))
              go_roundw
              case rel => exact ⟨j + 1, q, qe.2.2, ne, by omega, by go_num, Lib.hid (HQE.out.fresh HF.out), Lib.hid ⟨HPE.out.mem.fresh HF.out, HLEN.out, HNT.out.1, by have h1 := HNT.out.2; have h2 := HMM.out.2.2.2; push_cast; omega⟩, HHN, Lib.hid (HNEW.out.trans HF.out)⟩
              case measure => simp [intOf]; omega
            · have HR9 : Hid (qe.2.1 = [] ∧ qe.1.code = 0) := Lib.hid ⟨hrz, hq2⟩
              have HHN := Lib.hid hq4
              have HLQ : Hid (q.length < 16) := Lib.hid (by have h2 := HB.out; omega)
              have hfb : ((q.length : Int) == s) = false := by simp; omega
              clear hrz hq1 hq2 hq4 HEND
              have HAX : Hid (∀ V, Chg [] wr V → Calls Try.prog 42 #[.pointer (some ⟨bx, 0, none⟩)] V fun e W' => ∃ v', e = .returned (.tuple #[v', .int .i64 0]) ∧ (∃ xp xc, v' = .slice xp 0 xc) ∧ Chg [] V W') := Lib.hid (fun V hV => by
                have h1 := fifo.Answer_any (HPE.out.keep hV)
                rw [show (if qe.1.over then qe.2.1 else []) = ([] : List Int) from by rw [HOV.out]; simpa using (OpTold.of HR9.out).rec0, show (if qe.1.over then qe.1.code else 0) = 0 from by rw [HOV.out]; simpa using (OpTold.of HR9.out).code0] at h1
                refine h1.mono ?_
                rintro e w ⟨v', he, ho, hc⟩
                exact ⟨v', he, ans_none ho, hc⟩)
              obtain ⟨qs, hqr, hql2, hqd⟩ := HQE.out.row
              have HQR : Hid (QRow wr (W.alloc (.cells #[.int .i64 k, .int .i64 w, .int .i64 s, .int .i64 c, .int .u32 st, .slice ia il ic, .int .i64 wri, .slice ra rl rc] 26)).heap.size 23 (.slice qao q.length qcap) qs ∧ qs.length = q.length ∧ ∀ (i : Nat) u r, qs[i]? = some u → q[i]? = some r → (∃ a n c, u = .slice a n c) ∧ ReadsW W u r) := Lib.hid ⟨hqr, hql2, hqd⟩
              clear hqr hql2 hqd
              go_wp2_with (first | (go_at_call 26; refine (fifo.Step_no HOP.out HSTE.out).mono ?_; rintro e w6 ⟨rfl, hc⟩; have HF := Lib.hid (HF.out.trans hc); clear hc) | (go_at_call 42; refine (HAX.out _ HF.out).mono ?_; rintro e w7 ⟨xa, rfl, ⟨xp, xc, rfl⟩, hc⟩; have HF := Lib.hid (HF.out.trans hc); have e2 : w7.cell? ⟨W.heap.size, 2, none⟩ = some (.int .i64 s) := Blk.cell ((Blk.new W _ _).keep (HNEW.out.trans HF.out) (by simp)) rfl; clear hc) | (go_at_call 28; refine (HOX.out _ HF.out).mono ?_; rintro e w8 ⟨rfl, rfl⟩) | ((with_reducible show wpList _ _ _ (⟨some 123, _, _, _, _, _⟩ :: _) _ _); refine wpList_append_q (v := .slice qao q.length qcap) (o := ⟨some 123, _, _, _, _, _⟩) rfl (.tmp 120) (.tmp 122) 50 rfl i0 (.slice none 0 0) 24 Try.underlying50 HI0.out.1 HI0.out.2.1 HI0.out.2.2.1 HI0.out.2.2.2 rfl rfl (HQR.out.1.fresh (HF.out.alloc _)) w7.heap.size (.slice r1 r2 r3) rfl (Blk.cell (Blk.new w7 #[.slice r1 r2 r3] 23) rfl) rfl (by have h1 := HQR.out.2.1; have h2 := HB.out; have h3 := HLQ.out; unfold maxLen; omega) (by have h1 := HQR.out.2.1; have h3 := HLQ.out; have h2 := HB.out; omega) (Nat.le_trans (HNEW.out.trans HF.out).size (by simp)) ?_; intro v2 w8 hq8 hc8 hb8; have HQ8 := Lib.hid hq8; have HC8 := Lib.hid hc8; have HB8 := Lib.hid hb8; clear hq8 hc8 hb8))
              have HQN : Hid (QS w8 W (W.alloc (.cells #[.int .i64 k, .int .i64 w, .int .i64 s, .int .i64 c, .int .u32 st, .slice ia il ic, .int .i64 wri, .slice ra rl rc] 26)).heap.size mb sv v2 (q ++ [rec])) := Lib.hid (QS.more HQE.out HPE.out.mem (HF.out.alloc _) qs HQ8.out HQR.out.2.1 HQR.out.2.2 HC8.out HB8.out ⟨⟨_, _, _, rfl⟩, HREC.out⟩)
              have HCN : Hid (Chg [] (W.alloc (.cells #[.int .i64 k, .int .i64 w, .int .i64 s, .int .i64 c, .int .u32 st, .slice ia il ic, .int .i64 wri, .slice ra rl rc] 26)) w8) := Lib.hid ((HNEW.out.trans (HF.out.alloc _)).into HC8.out (fun y hy => .inr (HQE.out.blk y (by simpa using hy)).1))
              have HMN : Hid (MemAt w8 mb sv qe.2.2 ne) := Lib.hid ((HPE.out.mem.fresh (HF.out.alloc _)).keep HC8.out (fun hh => (HQE.out.blk mb (by simpa using hh)).2.2.1 rfl) (fun y hy hh => (HQE.out.blk y (by simpa using hh)).2.2.2 hy))
              go_wp2_with fail
              go_roundw
              case rel => exact ⟨j + 1, q ++ [rec], qe.2.2, ne, by omega, by go_num, HQN, Lib.hid ⟨HMN.out, HLEN.out, HNT.out.1, by have h1 := HNT.out.2; have h2 := HMM.out.2.2.2; push_cast; omega⟩, HHN, HCN⟩
              case measure => simp [intOf]; omega
      · have hneb : ((r2 : Int) != w) = true := by simpa using hrw
        have ec := HEC.out
        have e1 := HBW.out.cell (o := 1) (v := .int .i64 w) rfl
        clear h0 hrl hrw
        go_wp2_with fail
        have hjj := HJ.out
        go_roundw
        case rel => exact ⟨j + 1, q, ws, n, by omega, by go_num, HQ, Lib.hid ⟨HMM.out.1, HMM.out.2.1, HMM.out.2.2.1, by have h1 := HMM.out.2.2.2; push_cast; omega⟩, HHO, HCW⟩
        case measure => simp [intOf]; omega
theorem own : ownKnob Try.prog.godebug = none := by kernel_rfl
theorem laidOut : laidOutB Try.prog = true := by kernel_rfl

/-- The walk: the law returns true, and nothing that was there has turned. -/
theorem walk (w : World) (cs0 : Array Value) (hs0 : cs0.size = Try.prog.cellsOf 26) (o0 : kit.Opens Try.prog w 9 26 cs0.toList) (a1 : Option Addr) (len1 cap1 : Nat) (o1 : kit.Opens Try.prog w 9 50 [.slice a1 len1 cap1]) :
    Calls Try.prog 8 #[.agg cs0, .slice a1 len1 cap1] w fun e w' => e = .returned (.bool true) ∧ Below w.heap.size w w' := by
  set_option maxRecDepth 100000 in
  obtain ⟨k, w', s, c, st, ia, il, ic, wr, ra, rl, rc, hcs, hb⟩ := obj_open (n := 6) o0
  have hcs2 : cs0 = #[.int .i64 k, .int .i64 w', .int .i64 s, .int .i64 c, .int .u32 st, .slice ia il ic, .int .i64 wr, .slice ra rl rc] := by
    apply Array.toList_inj.1; rw [hcs]
  subst hcs2
  by_cases h : (il ≤ 100 ∧ rl ≤ 100) ∧ len1 ≤ 60 ∧ (decide (k = 6) && rightB k w' s c st il rl) = true
  · have hO := hb h.1.1 h.1.2
    obtain ⟨rs, hrs⟩ := recs_open (n := 6) o1
    have hbd := rightB_bd (by have h9 := h.2.2; simp only [Bool.and_eq_true] at h9; exact h9.2)
    obtain ⟨wN, hw⟩ : ∃ wN : Nat, w' = (wN : Int) := ⟨w'.toNat, by omega⟩
    obtain ⟨N, hN⟩ : ∃ N : Nat, (2 + s * w').toNat = N := ⟨_, rfl⟩
    exact good k w' s c st ia il ic wr ra rl rc a1 len1 cap1 N wN rs w hw hN hO h.2.2 h.2.1 hrs
  · exact easy k w' s c st ia il ic wr ra rl rc a1 len1 cap1 h hb w

set_option maxRecDepth 100000 in
theorem lifted (os : Os) (started : os.Started) (H : Type) (enc : TypeId × Value → H) :
    ReturnsInHanded {} Try.checked os 8 .any (Rows.fifoKeepsSpec.pre6 enc Try.prog Try.f8 Rows.fifoKeepsRow.domain false) (Rows.fifoKeepsSpec.post enc Try.prog Try.f8 false true false false) := by
  refine returnsInHanded_of_change (C := Try.checked) own started (by kernel_rfl) Try.func8
    (ChangeSpec.witness6 (enc := enc) (C := Try.checked) false ⟨#[], #[.agg #[.int .i64 0, .int .i64 0, .int .i64 0, .int .i64 0, .int .u32 0, .slice none 0 0, .int .i64 0, .slice none 0 0], .slice none 0 0], []⟩ 8 (by kernel_rfl) (by kernel_rfl) (by kernel_rfl) (by kernel_rfl)) ?_
  intro W base args ds gs before hval0 hW hcnd _
  have hval : ∀ (j : Nat) t v, Try.f8.params[j]? = some t → args[j]? = some v → Value.okWide Try.prog W .any base t v := hval0
  have hW' := hW
  obtain ⟨p, q, hA0, hV, rfl, hfz, hnd⟩ := hW
  have hA : DataW.TrodAll enc Try.prog W 0 (fun _ => true) true Try.f8.params.toList args.toList ds p := hA0
  rw [Try.params8] at hA hval
  obtain ⟨v0, vs0, d0, ds0, p0, q0, hargs, rfl, rfl, h0, r0⟩ := trodAll_cons hA
  obtain ⟨v1, vs1, d1, ds1, p1, q1, rfl, rfl, rfl, h1, r1⟩ := trodAll_cons r0
  obtain ⟨rfl, rfl, rfl⟩ := trodAll_nil r1
  obtain rfl : args = #[v0, v1] := by cases args; simp_all
  obtain ⟨rfl, rfl⟩ := trodVars_none hV
  have k0 := h0
  have lt0 : ∀ x ∈ p0, x.block < W.heap.size := by obtain ⟨m, hm⟩ := k0; exact DataW.trod_lt m _ _ _ hm
  have k1 := h1
  have lt1 : ∀ x ∈ p1, x.block < W.heap.size := by obtain ⟨m, hm⟩ := k1; exact DataW.trod_lt m _ _ _ hm
  obtain ⟨cs0, rfl, hs0⟩ := okWide_struct Try.underlying26 (hval 0 26 v0 rfl rfl)
  have o0 : kit.Opens Try.prog W 9 26 cs0.toList := by simpa [Value.cells] using kit.Trod_opens 9 k0
  obtain ⟨a1, len1, cap1, rfl⟩ := okWide_slice Try.underlying50 (hval 1 50 v1 rfl rfl)
  have o1 : kit.Opens Try.prog W 9 50 [.slice a1 len1 cap1] := by simpa [Value.cells] using kit.Trod_opens 9 k1
  clear hA0 hval0
  refine (walk W cs0 hs0 o0 a1 len1 cap1 o1).mono fun e W' ⟨he, bel⟩ => ?_
  subst he
  exact ⟨_, rfl, _, _, _, [], _, [], hW', trodAll_mk1 (shut_bool Try.underlying4 _), (trodAll_cons_mk (Below.trod laidOut (by kernel_rfl) (of_decide_eq_true (by kernel_rfl)) k0 bel lt0) (trodAll_cons_mk (Below.trod laidOut (by kernel_rfl) (of_decide_eq_true (by kernel_rfl)) k1 bel lt1) trodAll_mk0)), rfl, bel.frame _, fun h => by cases h⟩

theorem over : Rows.fifoKeepsRow.holds Try.pinned (OpenSpec.ofChange Rows.fifoKeepsSpec) :=
  OpenClaim.holds_of_wide 8 Try.f8 rfl rfl rfl rfl rfl rfl rfl ⟨rfl, rfl, rfl, rfl, rfl⟩ rfl rfl rfl rfl rfl (by kernel_rfl) Try.func8 (by kernel_rfl)
    (of_decide_eq_true (by kernel_rfl)) (by unfold Func.isWrapper; first | (rw [if_pos (by decide +kernel)]; kernel_rfl) | (rw [if_neg (by decide +kernel)]; exact ⟨rfl, rfl⟩))
    (fun os started H enc _ => lifted os started H enc)

/-- The statement. -/
theorem proved : Rows.FifoKeepsSaid := over
end Go.Proofs.Ytjnmlfpljeddmaa.fifoKeeps
