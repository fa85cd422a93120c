/- Objects: how many steps an operation has: the program's, and the reference's. -/
import Derived.Test.YtjplamoofkcojaaObj2r
import Derived.Test.YtjplamoofkcojaaObj2f
namespace Go.Proofs.Ytjplamoofkcojaa.obj
open Go Go.RowKit Go.Proofs.Ytjplamoofkcojaa.kit
set_option linter.unusedVariables false
set_option linter.unusedSimpArgs false
set_option maxRecDepth 20000


set_option maxHeartbeats 4000000 in
theorem fourBound_any (k : Int) (w s c st : Int) (ia : Option Addr) (il ic : Nat) (wr : Int) (ra : Option Addr) (rl rc : Nat) (op : Int) (h : ObjW k w s c st il rl) (W : World) :
    Calls Try.prog 60 #[.agg #[.int .i64 k, .int .i64 w, .int .i64 s, .int .i64 c, .int .u32 st, .slice ia il ic, .int .i64 wr, .slice ra rl rc], .int .i64 op] W fun e W' => e = .returned (.int .i64 (if decide (k = 1) && rightB k w s c st il rl then boundK 1 w c rl op else 0)) ∧ Chg [] W W' := by
  have HRR := Lib.hid (fun u => fourRight_any k w s c st ia il ic wr ra rl rc h u)
  have hst := h.st32
  clear h
  cases hg : (decide (k = 1) && rightB k w s c st il rl)
  · rw [if_neg (by decide)]
    have HG := Lib.hid hg
    clear hg
    go_enter Try.func60, Try.ntmps60
    go_wp2_with (go_at_call 89; refine (HRR.out _).mono ?_; rintro e wx ⟨rfl, hcx⟩; rw [HG.out])
    go_ret
    exact ⟨rfl, ((Chg.refl _ _).alloc _).trans hcx⟩
  · rw [if_pos rfl]
    have HG := Lib.hid hg
    have hb := rightB_bd (by simp only [Bool.and_eq_true] at hg; exact hg.2)
    obtain ⟨b1, b2, b3, b4, b5, b6, b7, b8, _, _⟩ := hb
    have hm := mul_bd ⟨b5, b6⟩ ⟨b1, b2⟩
    have hmw : wrap64 (c * (w + 2)) = c * (w + 2) := by unfold wrap64; omega
    have HMW := Lib.hid hmw
    clear hmw
    clear hg hm
    have hop : op = 1 ∨ op = 2 ∨ (op ≠ 1 ∧ op ≠ 2) := by omega
    rcases hop with rfl | rfl | ⟨n1, n2⟩
    · rw [show boundK 1 w c rl 1 = w + 3 from by simp [boundK]]
      go_enter Try.func60, Try.ntmps60
      go_wp2_with (go_at_call 89; refine (HRR.out _).mono ?_; rintro e wx ⟨rfl, hcx⟩; rw [HG.out]; have HBX := Lib.hid (Blk.keep (Blk.new W #[.int .i64 k, .int .i64 w, .int .i64 s, .int .i64 c, .int .u32 st, .slice ia il ic, .int .i64 wr, .slice ra rl rc] 26) hcx (by simp)); have e0 := HBX.out.cell (o := 0) (v := .int .i64 k) rfl; have e1 := HBX.out.cell (o := 1) (v := .int .i64 w) rfl; have e2 := HBX.out.cell (o := 2) (v := .int .i64 s) rfl; have e3 := HBX.out.cell (o := 3) (v := .int .i64 c) rfl; have e4 := HBX.out.cell (o := 4) (v := .int .u32 st) rfl; have e5 := HBX.out.cell (o := 5) (v := .slice ia il ic) rfl; have e6 := HBX.out.cell (o := 6) (v := .int .i64 wr) rfl; have e7 := HBX.out.cell (o := 7) (v := .slice ra rl rc) rfl; have HCX := Lib.hid hcx; clear hcx)
      go_ret
      exact ⟨by first | rfl | (rw [HMW.out]; rfl), ((Chg.refl _ _).alloc _).trans HCX.out⟩
    · rw [show boundK 1 w c rl 2 = w + 4 from by simp [boundK]]
      go_enter Try.func60, Try.ntmps60
      go_wp2_with (go_at_call 89; refine (HRR.out _).mono ?_; rintro e wx ⟨rfl, hcx⟩; rw [HG.out]; have HBX := Lib.hid (Blk.keep (Blk.new W #[.int .i64 k, .int .i64 w, .int .i64 s, .int .i64 c, .int .u32 st, .slice ia il ic, .int .i64 wr, .slice ra rl rc] 26) hcx (by simp)); have e0 := HBX.out.cell (o := 0) (v := .int .i64 k) rfl; have e1 := HBX.out.cell (o := 1) (v := .int .i64 w) rfl; have e2 := HBX.out.cell (o := 2) (v := .int .i64 s) rfl; have e3 := HBX.out.cell (o := 3) (v := .int .i64 c) rfl; have e4 := HBX.out.cell (o := 4) (v := .int .u32 st) rfl; have e5 := HBX.out.cell (o := 5) (v := .slice ia il ic) rfl; have e6 := HBX.out.cell (o := 6) (v := .int .i64 wr) rfl; have e7 := HBX.out.cell (o := 7) (v := .slice ra rl rc) rfl; have HCX := Lib.hid hcx; clear hcx)
      go_ret
      exact ⟨by first | rfl | (rw [HMW.out]; rfl), ((Chg.refl _ _).alloc _).trans HCX.out⟩
    · rw [show boundK 1 w c rl op = 0 from by simp [boundK, n1, n2]]
      have m1 : (op == 1) = false := by simpa using n1
      have k1 : (op != 1) = true := by simp [n1]
      have m2 : (op == 2) = false := by simpa using n2
      have k2 : (op != 2) = true := by simp [n2]
      go_enter Try.func60, Try.ntmps60
      go_wp2_with (go_at_call 89; refine (HRR.out _).mono ?_; rintro e wx ⟨rfl, hcx⟩; rw [HG.out]; have HBX := Lib.hid (Blk.keep (Blk.new W #[.int .i64 k, .int .i64 w, .int .i64 s, .int .i64 c, .int .u32 st, .slice ia il ic, .int .i64 wr, .slice ra rl rc] 26) hcx (by simp)); have e0 := HBX.out.cell (o := 0) (v := .int .i64 k) rfl; have e1 := HBX.out.cell (o := 1) (v := .int .i64 w) rfl; have e2 := HBX.out.cell (o := 2) (v := .int .i64 s) rfl; have e3 := HBX.out.cell (o := 3) (v := .int .i64 c) rfl; have e4 := HBX.out.cell (o := 4) (v := .int .u32 st) rfl; have e5 := HBX.out.cell (o := 5) (v := .slice ia il ic) rfl; have e6 := HBX.out.cell (o := 6) (v := .int .i64 wr) rfl; have e7 := HBX.out.cell (o := 7) (v := .slice ra rl rc) rfl; have HCX := Lib.hid hcx; clear hcx)
      go_ret
      exact ⟨rfl, ((Chg.refl _ _).alloc _).trans HCX.out⟩

set_option maxHeartbeats 4000000 in
theorem chenBound_any (k : Int) (w s c st : Int) (ia : Option Addr) (il ic : Nat) (wr : Int) (ra : Option Addr) (rl rc : Nat) (op : Int) (h : ObjW k w s c st il rl) (W : World) :
    Calls Try.prog 61 #[.agg #[.int .i64 k, .int .i64 w, .int .i64 s, .int .i64 c, .int .u32 st, .slice ia il ic, .int .i64 wr, .slice ra rl rc], .int .i64 op] W fun e W' => e = .returned (.int .i64 (if decide (k = 2) && rightB k w s c st il rl then boundK 2 w c rl op else 0)) ∧ Chg [] W W' := by
  have HRR := Lib.hid (fun u => chenRight_any k w s c st ia il ic wr ra rl rc h u)
  have hst := h.st32
  clear h
  cases hg : (decide (k = 2) && rightB k w s c st il rl)
  · rw [if_neg (by decide)]
    have HG := Lib.hid hg
    clear hg
    go_enter Try.func61, Try.ntmps61
    go_wp2_with (go_at_call 90; refine (HRR.out _).mono ?_; rintro e wx ⟨rfl, hcx⟩; rw [HG.out])
    go_ret
    exact ⟨rfl, ((Chg.refl _ _).alloc _).trans hcx⟩
  · rw [if_pos rfl]
    have HG := Lib.hid hg
    have hb := rightB_bd (by simp only [Bool.and_eq_true] at hg; exact hg.2)
    obtain ⟨b1, b2, b3, b4, b5, b6, b7, b8, _, _⟩ := hb
    have hm := mul_bd ⟨b5, b6⟩ ⟨b1, b2⟩
    have hmw : wrap64 (c * (w + 2)) = c * (w + 2) := by unfold wrap64; omega
    have HMW := Lib.hid hmw
    clear hmw
    clear hg hm
    have hop : op = 1 ∨ op = 2 ∨ (op ≠ 1 ∧ op ≠ 2) := by omega
    rcases hop with rfl | rfl | ⟨n1, n2⟩
    · rw [show boundK 2 w c rl 1 = w + 4 from by simp [boundK]]
      go_enter Try.func61, Try.ntmps61
      go_wp2_with (go_at_call 90; refine (HRR.out _).mono ?_; rintro e wx ⟨rfl, hcx⟩; rw [HG.out]; have HBX := Lib.hid (Blk.keep (Blk.new W #[.int .i64 k, .int .i64 w, .int .i64 s, .int .i64 c, .int .u32 st, .slice ia il ic, .int .i64 wr, .slice ra rl rc] 26) hcx (by simp)); have e0 := HBX.out.cell (o := 0) (v := .int .i64 k) rfl; have e1 := HBX.out.cell (o := 1) (v := .int .i64 w) rfl; have e2 := HBX.out.cell (o := 2) (v := .int .i64 s) rfl; have e3 := HBX.out.cell (o := 3) (v := .int .i64 c) rfl; have e4 := HBX.out.cell (o := 4) (v := .int .u32 st) rfl; have e5 := HBX.out.cell (o := 5) (v := .slice ia il ic) rfl; have e6 := HBX.out.cell (o := 6) (v := .int .i64 wr) rfl; have e7 := HBX.out.cell (o := 7) (v := .slice ra rl rc) rfl; have HCX := Lib.hid hcx; clear hcx)
      go_ret
      exact ⟨by first | rfl | (rw [HMW.out]; rfl), ((Chg.refl _ _).alloc _).trans HCX.out⟩
    · rw [show boundK 2 w c rl 2 = w + 2 * rl + 2 from by simp [boundK]]
      go_enter Try.func61, Try.ntmps61
      go_wp2_with (go_at_call 90; refine (HRR.out _).mono ?_; rintro e wx ⟨rfl, hcx⟩; rw [HG.out]; have HBX := Lib.hid (Blk.keep (Blk.new W #[.int .i64 k, .int .i64 w, .int .i64 s, .int .i64 c, .int .u32 st, .slice ia il ic, .int .i64 wr, .slice ra rl rc] 26) hcx (by simp)); have e0 := HBX.out.cell (o := 0) (v := .int .i64 k) rfl; have e1 := HBX.out.cell (o := 1) (v := .int .i64 w) rfl; have e2 := HBX.out.cell (o := 2) (v := .int .i64 s) rfl; have e3 := HBX.out.cell (o := 3) (v := .int .i64 c) rfl; have e4 := HBX.out.cell (o := 4) (v := .int .u32 st) rfl; have e5 := HBX.out.cell (o := 5) (v := .slice ia il ic) rfl; have e6 := HBX.out.cell (o := 6) (v := .int .i64 wr) rfl; have e7 := HBX.out.cell (o := 7) (v := .slice ra rl rc) rfl; have HCX := Lib.hid hcx; clear hcx)
      go_ret
      exact ⟨by first | rfl | (rw [HMW.out]; rfl), ((Chg.refl _ _).alloc _).trans HCX.out⟩
    · rw [show boundK 2 w c rl op = 0 from by simp [boundK, n1, n2]]
      have m1 : (op == 1) = false := by simpa using n1
      have k1 : (op != 1) = true := by simp [n1]
      have m2 : (op == 2) = false := by simpa using n2
      have k2 : (op != 2) = true := by simp [n2]
      go_enter Try.func61, Try.ntmps61
      go_wp2_with (go_at_call 90; refine (HRR.out _).mono ?_; rintro e wx ⟨rfl, hcx⟩; rw [HG.out]; have HBX := Lib.hid (Blk.keep (Blk.new W #[.int .i64 k, .int .i64 w, .int .i64 s, .int .i64 c, .int .u32 st, .slice ia il ic, .int .i64 wr, .slice ra rl rc] 26) hcx (by simp)); have e0 := HBX.out.cell (o := 0) (v := .int .i64 k) rfl; have e1 := HBX.out.cell (o := 1) (v := .int .i64 w) rfl; have e2 := HBX.out.cell (o := 2) (v := .int .i64 s) rfl; have e3 := HBX.out.cell (o := 3) (v := .int .i64 c) rfl; have e4 := HBX.out.cell (o := 4) (v := .int .u32 st) rfl; have e5 := HBX.out.cell (o := 5) (v := .slice ia il ic) rfl; have e6 := HBX.out.cell (o := 6) (v := .int .i64 wr) rfl; have e7 := HBX.out.cell (o := 7) (v := .slice ra rl rc) rfl; have HCX := Lib.hid hcx; clear hcx)
      go_ret
      exact ⟨rfl, ((Chg.refl _ _).alloc _).trans HCX.out⟩

set_option maxHeartbeats 4000000 in
theorem seqBound_any (k : Int) (w s c st : Int) (ia : Option Addr) (il ic : Nat) (wr : Int) (ra : Option Addr) (rl rc : Nat) (op : Int) (h : ObjW k w s c st il rl) (W : World) :
    Calls Try.prog 62 #[.agg #[.int .i64 k, .int .i64 w, .int .i64 s, .int .i64 c, .int .u32 st, .slice ia il ic, .int .i64 wr, .slice ra rl rc], .int .i64 op] W fun e W' => e = .returned (.int .i64 (if decide (k = 3) && rightB k w s c st il rl then boundK 3 w c rl op else 0)) ∧ Chg [] W W' := by
  have HRR := Lib.hid (fun u => seqRight_any k w s c st ia il ic wr ra rl rc h u)
  have hst := h.st32
  clear h
  cases hg : (decide (k = 3) && rightB k w s c st il rl)
  · rw [if_neg (by decide)]
    have HG := Lib.hid hg
    clear hg
    go_enter Try.func62, Try.ntmps62
    go_wp2_with (go_at_call 91; refine (HRR.out _).mono ?_; rintro e wx ⟨rfl, hcx⟩; rw [HG.out])
    go_ret
    exact ⟨rfl, ((Chg.refl _ _).alloc _).trans hcx⟩
  · rw [if_pos rfl]
    have HG := Lib.hid hg
    have hb := rightB_bd (by simp only [Bool.and_eq_true] at hg; exact hg.2)
    obtain ⟨b1, b2, b3, b4, b5, b6, b7, b8, _, _⟩ := hb
    have hm := mul_bd ⟨b5, b6⟩ ⟨b1, b2⟩
    have hmw : wrap64 (c * (w + 2)) = c * (w + 2) := by unfold wrap64; omega
    have HMW := Lib.hid hmw
    clear hmw
    clear hg hm
    have hop : op = 1 ∨ op = 2 ∨ (op ≠ 1 ∧ op ≠ 2) := by omega
    rcases hop with rfl | rfl | ⟨n1, n2⟩
    · rw [show boundK 3 w c rl 1 = c * (w + 2) from by simp [boundK]]
      go_enter Try.func62, Try.ntmps62
      go_wp2_with (go_at_call 91; refine (HRR.out _).mono ?_; rintro e wx ⟨rfl, hcx⟩; rw [HG.out]; have HBX := Lib.hid (Blk.keep (Blk.new W #[.int .i64 k, .int .i64 w, .int .i64 s, .int .i64 c, .int .u32 st, .slice ia il ic, .int .i64 wr, .slice ra rl rc] 26) hcx (by simp)); have e0 := HBX.out.cell (o := 0) (v := .int .i64 k) rfl; have e1 := HBX.out.cell (o := 1) (v := .int .i64 w) rfl; have e2 := HBX.out.cell (o := 2) (v := .int .i64 s) rfl; have e3 := HBX.out.cell (o := 3) (v := .int .i64 c) rfl; have e4 := HBX.out.cell (o := 4) (v := .int .u32 st) rfl; have e5 := HBX.out.cell (o := 5) (v := .slice ia il ic) rfl; have e6 := HBX.out.cell (o := 6) (v := .int .i64 wr) rfl; have e7 := HBX.out.cell (o := 7) (v := .slice ra rl rc) rfl; have HCX := Lib.hid hcx; clear hcx)
      go_ret
      exact ⟨by first | rfl | (rw [HMW.out]; rfl), ((Chg.refl _ _).alloc _).trans HCX.out⟩
    · rw [show boundK 3 w c rl 2 = w + 3 from by simp [boundK]]
      go_enter Try.func62, Try.ntmps62
      go_wp2_with (go_at_call 91; refine (HRR.out _).mono ?_; rintro e wx ⟨rfl, hcx⟩; rw [HG.out]; have HBX := Lib.hid (Blk.keep (Blk.new W #[.int .i64 k, .int .i64 w, .int .i64 s, .int .i64 c, .int .u32 st, .slice ia il ic, .int .i64 wr, .slice ra rl rc] 26) hcx (by simp)); have e0 := HBX.out.cell (o := 0) (v := .int .i64 k) rfl; have e1 := HBX.out.cell (o := 1) (v := .int .i64 w) rfl; have e2 := HBX.out.cell (o := 2) (v := .int .i64 s) rfl; have e3 := HBX.out.cell (o := 3) (v := .int .i64 c) rfl; have e4 := HBX.out.cell (o := 4) (v := .int .u32 st) rfl; have e5 := HBX.out.cell (o := 5) (v := .slice ia il ic) rfl; have e6 := HBX.out.cell (o := 6) (v := .int .i64 wr) rfl; have e7 := HBX.out.cell (o := 7) (v := .slice ra rl rc) rfl; have HCX := Lib.hid hcx; clear hcx)
      go_ret
      exact ⟨by first | rfl | (rw [HMW.out]; rfl), ((Chg.refl _ _).alloc _).trans HCX.out⟩
    · rw [show boundK 3 w c rl op = 0 from by simp [boundK, n1, n2]]
      have m1 : (op == 1) = false := by simpa using n1
      have k1 : (op != 1) = true := by simp [n1]
      have m2 : (op == 2) = false := by simpa using n2
      have k2 : (op != 2) = true := by simp [n2]
      go_enter Try.func62, Try.ntmps62
      go_wp2_with (go_at_call 91; refine (HRR.out _).mono ?_; rintro e wx ⟨rfl, hcx⟩; rw [HG.out]; have HBX := Lib.hid (Blk.keep (Blk.new W #[.int .i64 k, .int .i64 w, .int .i64 s, .int .i64 c, .int .u32 st, .slice ia il ic, .int .i64 wr, .slice ra rl rc] 26) hcx (by simp)); have e0 := HBX.out.cell (o := 0) (v := .int .i64 k) rfl; have e1 := HBX.out.cell (o := 1) (v := .int .i64 w) rfl; have e2 := HBX.out.cell (o := 2) (v := .int .i64 s) rfl; have e3 := HBX.out.cell (o := 3) (v := .int .i64 c) rfl; have e4 := HBX.out.cell (o := 4) (v := .int .u32 st) rfl; have e5 := HBX.out.cell (o := 5) (v := .slice ia il ic) rfl; have e6 := HBX.out.cell (o := 6) (v := .int .i64 wr) rfl; have e7 := HBX.out.cell (o := 7) (v := .slice ra rl rc) rfl; have HCX := Lib.hid hcx; clear hcx)
      go_ret
      exact ⟨rfl, ((Chg.refl _ _).alloc _).trans HCX.out⟩

set_option maxHeartbeats 4000000 in
theorem ringBound_any (k : Int) (w s c st : Int) (ia : Option Addr) (il ic : Nat) (wr : Int) (ra : Option Addr) (rl rc : Nat) (op : Int) (h : ObjW k w s c st il rl) (W : World) :
    Calls Try.prog 63 #[.agg #[.int .i64 k, .int .i64 w, .int .i64 s, .int .i64 c, .int .u32 st, .slice ia il ic, .int .i64 wr, .slice ra rl rc], .int .i64 op] W fun e W' => e = .returned (.int .i64 (if decide (k = 4) && rightB k w s c st il rl then boundK 4 w c rl op else 0)) ∧ Chg [] W W' := by
  have HRR := Lib.hid (fun u => ringRight_any k w s c st ia il ic wr ra rl rc h u)
  have hst := h.st32
  clear h
  cases hg : (decide (k = 4) && rightB k w s c st il rl)
  · rw [if_neg (by decide)]
    have HG := Lib.hid hg
    clear hg
    go_enter Try.func63, Try.ntmps63
    go_wp2_with (go_at_call 92; refine (HRR.out _).mono ?_; rintro e wx ⟨rfl, hcx⟩; rw [HG.out])
    go_ret
    exact ⟨rfl, ((Chg.refl _ _).alloc _).trans hcx⟩
  · rw [if_pos rfl]
    have HG := Lib.hid hg
    have hb := rightB_bd (by simp only [Bool.and_eq_true] at hg; exact hg.2)
    obtain ⟨b1, b2, b3, b4, b5, b6, b7, b8, _, _⟩ := hb
    have hm := mul_bd ⟨b5, b6⟩ ⟨b1, b2⟩
    have hmw : wrap64 (c * (w + 2)) = c * (w + 2) := by unfold wrap64; omega
    have HMW := Lib.hid hmw
    clear hmw
    clear hg hm
    have hop : op = 1 ∨ op = 2 ∨ (op ≠ 1 ∧ op ≠ 2) := by omega
    rcases hop with rfl | rfl | ⟨n1, n2⟩
    · rw [show boundK 4 w c rl 1 = c * (w + 2) from by simp [boundK]]
      go_enter Try.func63, Try.ntmps63
      go_wp2_with (go_at_call 92; refine (HRR.out _).mono ?_; rintro e wx ⟨rfl, hcx⟩; rw [HG.out]; have HBX := Lib.hid (Blk.keep (Blk.new W #[.int .i64 k, .int .i64 w, .int .i64 s, .int .i64 c, .int .u32 st, .slice ia il ic, .int .i64 wr, .slice ra rl rc] 26) hcx (by simp)); have e0 := HBX.out.cell (o := 0) (v := .int .i64 k) rfl; have e1 := HBX.out.cell (o := 1) (v := .int .i64 w) rfl; have e2 := HBX.out.cell (o := 2) (v := .int .i64 s) rfl; have e3 := HBX.out.cell (o := 3) (v := .int .i64 c) rfl; have e4 := HBX.out.cell (o := 4) (v := .int .u32 st) rfl; have e5 := HBX.out.cell (o := 5) (v := .slice ia il ic) rfl; have e6 := HBX.out.cell (o := 6) (v := .int .i64 wr) rfl; have e7 := HBX.out.cell (o := 7) (v := .slice ra rl rc) rfl; have HCX := Lib.hid hcx; clear hcx)
      go_ret
      exact ⟨by first | rfl | (rw [HMW.out]; rfl), ((Chg.refl _ _).alloc _).trans HCX.out⟩
    · rw [show boundK 4 w c rl 2 = w + 2 from by simp [boundK]]
      go_enter Try.func63, Try.ntmps63
      go_wp2_with (go_at_call 92; refine (HRR.out _).mono ?_; rintro e wx ⟨rfl, hcx⟩; rw [HG.out]; have HBX := Lib.hid (Blk.keep (Blk.new W #[.int .i64 k, .int .i64 w, .int .i64 s, .int .i64 c, .int .u32 st, .slice ia il ic, .int .i64 wr, .slice ra rl rc] 26) hcx (by simp)); have e0 := HBX.out.cell (o := 0) (v := .int .i64 k) rfl; have e1 := HBX.out.cell (o := 1) (v := .int .i64 w) rfl; have e2 := HBX.out.cell (o := 2) (v := .int .i64 s) rfl; have e3 := HBX.out.cell (o := 3) (v := .int .i64 c) rfl; have e4 := HBX.out.cell (o := 4) (v := .int .u32 st) rfl; have e5 := HBX.out.cell (o := 5) (v := .slice ia il ic) rfl; have e6 := HBX.out.cell (o := 6) (v := .int .i64 wr) rfl; have e7 := HBX.out.cell (o := 7) (v := .slice ra rl rc) rfl; have HCX := Lib.hid hcx; clear hcx)
      go_ret
      exact ⟨by first | rfl | (rw [HMW.out]; rfl), ((Chg.refl _ _).alloc _).trans HCX.out⟩
    · rw [show boundK 4 w c rl op = 0 from by simp [boundK, n1, n2]]
      have m1 : (op == 1) = false := by simpa using n1
      have k1 : (op != 1) = true := by simp [n1]
      have m2 : (op == 2) = false := by simpa using n2
      have k2 : (op != 2) = true := by simp [n2]
      go_enter Try.func63, Try.ntmps63
      go_wp2_with (go_at_call 92; refine (HRR.out _).mono ?_; rintro e wx ⟨rfl, hcx⟩; rw [HG.out]; have HBX := Lib.hid (Blk.keep (Blk.new W #[.int .i64 k, .int .i64 w, .int .i64 s, .int .i64 c, .int .u32 st, .slice ia il ic, .int .i64 wr, .slice ra rl rc] 26) hcx (by simp)); have e0 := HBX.out.cell (o := 0) (v := .int .i64 k) rfl; have e1 := HBX.out.cell (o := 1) (v := .int .i64 w) rfl; have e2 := HBX.out.cell (o := 2) (v := .int .i64 s) rfl; have e3 := HBX.out.cell (o := 3) (v := .int .i64 c) rfl; have e4 := HBX.out.cell (o := 4) (v := .int .u32 st) rfl; have e5 := HBX.out.cell (o := 5) (v := .slice ia il ic) rfl; have e6 := HBX.out.cell (o := 6) (v := .int .i64 wr) rfl; have e7 := HBX.out.cell (o := 7) (v := .slice ra rl rc) rfl; have HCX := Lib.hid hcx; clear hcx)
      go_ret
      exact ⟨rfl, ((Chg.refl _ _).alloc _).trans HCX.out⟩

set_option maxHeartbeats 4000000 in
theorem cabBound_any (k : Int) (w s c st : Int) (ia : Option Addr) (il ic : Nat) (wr : Int) (ra : Option Addr) (rl rc : Nat) (op : Int) (h : ObjW k w s c st il rl) (W : World) :
    Calls Try.prog 64 #[.agg #[.int .i64 k, .int .i64 w, .int .i64 s, .int .i64 c, .int .u32 st, .slice ia il ic, .int .i64 wr, .slice ra rl rc], .int .i64 op] W fun e W' => e = .returned (.int .i64 (if decide (k = 5) && rightB k w s c st il rl then boundK 5 w c rl op else 0)) ∧ Chg [] W W' := by
  have HRR := Lib.hid (fun u => cabRight_any k w s c st ia il ic wr ra rl rc h u)
  have hst := h.st32
  clear h
  cases hg : (decide (k = 5) && rightB k w s c st il rl)
  · rw [if_neg (by decide)]
    have HG := Lib.hid hg
    clear hg
    go_enter Try.func64, Try.ntmps64
    go_wp2_with (go_at_call 93; refine (HRR.out _).mono ?_; rintro e wx ⟨rfl, hcx⟩; rw [HG.out])
    go_ret
    exact ⟨rfl, ((Chg.refl _ _).alloc _).trans hcx⟩
  · rw [if_pos rfl]
    have HG := Lib.hid hg
    have hb := rightB_bd (by simp only [Bool.and_eq_true] at hg; exact hg.2)
    obtain ⟨b1, b2, b3, b4, b5, b6, b7, b8, _, _⟩ := hb
    have hm := mul_bd ⟨b5, b6⟩ ⟨b1, b2⟩
    have hmw : wrap64 (c * (w + 2)) = c * (w + 2) := by unfold wrap64; omega
    have HMW := Lib.hid hmw
    clear hmw
    clear hg hm
    have hop : op = 1 ∨ op = 2 ∨ (op ≠ 1 ∧ op ≠ 2) := by omega
    rcases hop with rfl | rfl | ⟨n1, n2⟩
    · rw [show boundK 5 w c rl 1 = 3 * c + w + 1 from by simp [boundK]]
      go_enter Try.func64, Try.ntmps64
      go_wp2_with (go_at_call 93; refine (HRR.out _).mono ?_; rintro e wx ⟨rfl, hcx⟩; rw [HG.out]; have HBX := Lib.hid (Blk.keep (Blk.new W #[.int .i64 k, .int .i64 w, .int .i64 s, .int .i64 c, .int .u32 st, .slice ia il ic, .int .i64 wr, .slice ra rl rc] 26) hcx (by simp)); have e0 := HBX.out.cell (o := 0) (v := .int .i64 k) rfl; have e1 := HBX.out.cell (o := 1) (v := .int .i64 w) rfl; have e2 := HBX.out.cell (o := 2) (v := .int .i64 s) rfl; have e3 := HBX.out.cell (o := 3) (v := .int .i64 c) rfl; have e4 := HBX.out.cell (o := 4) (v := .int .u32 st) rfl; have e5 := HBX.out.cell (o := 5) (v := .slice ia il ic) rfl; have e6 := HBX.out.cell (o := 6) (v := .int .i64 wr) rfl; have e7 := HBX.out.cell (o := 7) (v := .slice ra rl rc) rfl; have HCX := Lib.hid hcx; clear hcx)
      go_ret
      exact ⟨by first | rfl | (rw [HMW.out]; rfl), ((Chg.refl _ _).alloc _).trans HCX.out⟩
    · rw [show boundK 5 w c rl 2 = w + rl + 2 from by simp [boundK]]
      go_enter Try.func64, Try.ntmps64
      go_wp2_with (go_at_call 93; refine (HRR.out _).mono ?_; rintro e wx ⟨rfl, hcx⟩; rw [HG.out]; have HBX := Lib.hid (Blk.keep (Blk.new W #[.int .i64 k, .int .i64 w, .int .i64 s, .int .i64 c, .int .u32 st, .slice ia il ic, .int .i64 wr, .slice ra rl rc] 26) hcx (by simp)); have e0 := HBX.out.cell (o := 0) (v := .int .i64 k) rfl; have e1 := HBX.out.cell (o := 1) (v := .int .i64 w) rfl; have e2 := HBX.out.cell (o := 2) (v := .int .i64 s) rfl; have e3 := HBX.out.cell (o := 3) (v := .int .i64 c) rfl; have e4 := HBX.out.cell (o := 4) (v := .int .u32 st) rfl; have e5 := HBX.out.cell (o := 5) (v := .slice ia il ic) rfl; have e6 := HBX.out.cell (o := 6) (v := .int .i64 wr) rfl; have e7 := HBX.out.cell (o := 7) (v := .slice ra rl rc) rfl; have HCX := Lib.hid hcx; clear hcx)
      go_ret
      exact ⟨by first | rfl | (rw [HMW.out]; rfl), ((Chg.refl _ _).alloc _).trans HCX.out⟩
    · rw [show boundK 5 w c rl op = 0 from by simp [boundK, n1, n2]]
      have m1 : (op == 1) = false := by simpa using n1
      have k1 : (op != 1) = true := by simp [n1]
      have m2 : (op == 2) = false := by simpa using n2
      have k2 : (op != 2) = true := by simp [n2]
      go_enter Try.func64, Try.ntmps64
      go_wp2_with (go_at_call 93; refine (HRR.out _).mono ?_; rintro e wx ⟨rfl, hcx⟩; rw [HG.out]; have HBX := Lib.hid (Blk.keep (Blk.new W #[.int .i64 k, .int .i64 w, .int .i64 s, .int .i64 c, .int .u32 st, .slice ia il ic, .int .i64 wr, .slice ra rl rc] 26) hcx (by simp)); have e0 := HBX.out.cell (o := 0) (v := .int .i64 k) rfl; have e1 := HBX.out.cell (o := 1) (v := .int .i64 w) rfl; have e2 := HBX.out.cell (o := 2) (v := .int .i64 s) rfl; have e3 := HBX.out.cell (o := 3) (v := .int .i64 c) rfl; have e4 := HBX.out.cell (o := 4) (v := .int .u32 st) rfl; have e5 := HBX.out.cell (o := 5) (v := .slice ia il ic) rfl; have e6 := HBX.out.cell (o := 6) (v := .int .i64 wr) rfl; have e7 := HBX.out.cell (o := 7) (v := .slice ra rl rc) rfl; have HCX := Lib.hid hcx; clear hcx)
      go_ret
      exact ⟨rfl, ((Chg.refl _ _).alloc _).trans HCX.out⟩

set_option maxHeartbeats 4000000 in
theorem fifoBound_any (k : Int) (w s c st : Int) (ia : Option Addr) (il ic : Nat) (wr : Int) (ra : Option Addr) (rl rc : Nat) (op : Int) (h : ObjW k w s c st il rl) (W : World) :
    Calls Try.prog 65 #[.agg #[.int .i64 k, .int .i64 w, .int .i64 s, .int .i64 c, .int .u32 st, .slice ia il ic, .int .i64 wr, .slice ra rl rc], .int .i64 op] W fun e W' => e = .returned (.int .i64 (if decide (k = 6) && rightB k w s c st il rl then boundK 6 w c rl op else 0)) ∧ Chg [] W W' := by
  have HRR := Lib.hid (fun u => fifoRight_any k w s c st ia il ic wr ra rl rc h u)
  have hst := h.st32
  clear h
  cases hg : (decide (k = 6) && rightB k w s c st il rl)
  · rw [if_neg (by decide)]
    have HG := Lib.hid hg
    clear hg
    go_enter Try.func65, Try.ntmps65
    go_wp2_with (go_at_call 94; refine (HRR.out _).mono ?_; rintro e wx ⟨rfl, hcx⟩; rw [HG.out])
    go_ret
    exact ⟨rfl, ((Chg.refl _ _).alloc _).trans hcx⟩
  · rw [if_pos rfl]
    have HG := Lib.hid hg
    have hb := rightB_bd (by simp only [Bool.and_eq_true] at hg; exact hg.2)
    obtain ⟨b1, b2, b3, b4, b5, b6, b7, b8, _, _⟩ := hb
    have hm := mul_bd ⟨b5, b6⟩ ⟨b1, b2⟩
    have hmw : wrap64 (c * (w + 2)) = c * (w + 2) := by unfold wrap64; omega
    have HMW := Lib.hid hmw
    clear hmw
    clear hg hm
    have hop : op = 3 ∨ op = 4 ∨ (op ≠ 3 ∧ op ≠ 4) := by omega
    rcases hop with rfl | rfl | ⟨n3, n4⟩
    · rw [show boundK 6 w c rl 3 = w + 3 from by simp [boundK]]
      go_enter Try.func65, Try.ntmps65
      go_wp2_with (go_at_call 94; refine (HRR.out _).mono ?_; rintro e wx ⟨rfl, hcx⟩; rw [HG.out]; have HBX := Lib.hid (Blk.keep (Blk.new W #[.int .i64 k, .int .i64 w, .int .i64 s, .int .i64 c, .int .u32 st, .slice ia il ic, .int .i64 wr, .slice ra rl rc] 26) hcx (by simp)); have e0 := HBX.out.cell (o := 0) (v := .int .i64 k) rfl; have e1 := HBX.out.cell (o := 1) (v := .int .i64 w) rfl; have e2 := HBX.out.cell (o := 2) (v := .int .i64 s) rfl; have e3 := HBX.out.cell (o := 3) (v := .int .i64 c) rfl; have e4 := HBX.out.cell (o := 4) (v := .int .u32 st) rfl; have e5 := HBX.out.cell (o := 5) (v := .slice ia il ic) rfl; have e6 := HBX.out.cell (o := 6) (v := .int .i64 wr) rfl; have e7 := HBX.out.cell (o := 7) (v := .slice ra rl rc) rfl; have HCX := Lib.hid hcx; clear hcx)
      go_ret
      exact ⟨by first | rfl | (rw [HMW.out]; rfl), ((Chg.refl _ _).alloc _).trans HCX.out⟩
    · rw [show boundK 6 w c rl 4 = w + 3 from by simp [boundK]]
      go_enter Try.func65, Try.ntmps65
      go_wp2_with (go_at_call 94; refine (HRR.out _).mono ?_; rintro e wx ⟨rfl, hcx⟩; rw [HG.out]; have HBX := Lib.hid (Blk.keep (Blk.new W #[.int .i64 k, .int .i64 w, .int .i64 s, .int .i64 c, .int .u32 st, .slice ia il ic, .int .i64 wr, .slice ra rl rc] 26) hcx (by simp)); have e0 := HBX.out.cell (o := 0) (v := .int .i64 k) rfl; have e1 := HBX.out.cell (o := 1) (v := .int .i64 w) rfl; have e2 := HBX.out.cell (o := 2) (v := .int .i64 s) rfl; have e3 := HBX.out.cell (o := 3) (v := .int .i64 c) rfl; have e4 := HBX.out.cell (o := 4) (v := .int .u32 st) rfl; have e5 := HBX.out.cell (o := 5) (v := .slice ia il ic) rfl; have e6 := HBX.out.cell (o := 6) (v := .int .i64 wr) rfl; have e7 := HBX.out.cell (o := 7) (v := .slice ra rl rc) rfl; have HCX := Lib.hid hcx; clear hcx)
      go_ret
      exact ⟨by first | rfl | (rw [HMW.out]; rfl), ((Chg.refl _ _).alloc _).trans HCX.out⟩
    · rw [show boundK 6 w c rl op = 0 from by simp [boundK, n3, n4]]
      have m3 : (op == 3) = false := by simpa using n3
      have k3 : (op != 3) = true := by simp [n3]
      have m4 : (op == 4) = false := by simpa using n4
      have k4 : (op != 4) = true := by simp [n4]
      go_enter Try.func65, Try.ntmps65
      go_wp2_with (go_at_call 94; refine (HRR.out _).mono ?_; rintro e wx ⟨rfl, hcx⟩; rw [HG.out]; have HBX := Lib.hid (Blk.keep (Blk.new W #[.int .i64 k, .int .i64 w, .int .i64 s, .int .i64 c, .int .u32 st, .slice ia il ic, .int .i64 wr, .slice ra rl rc] 26) hcx (by simp)); have e0 := HBX.out.cell (o := 0) (v := .int .i64 k) rfl; have e1 := HBX.out.cell (o := 1) (v := .int .i64 w) rfl; have e2 := HBX.out.cell (o := 2) (v := .int .i64 s) rfl; have e3 := HBX.out.cell (o := 3) (v := .int .i64 c) rfl; have e4 := HBX.out.cell (o := 4) (v := .int .u32 st) rfl; have e5 := HBX.out.cell (o := 5) (v := .slice ia il ic) rfl; have e6 := HBX.out.cell (o := 6) (v := .int .i64 wr) rfl; have e7 := HBX.out.cell (o := 7) (v := .slice ra rl rc) rfl; have HCX := Lib.hid hcx; clear hcx)
      go_ret
      exact ⟨rfl, ((Chg.refl _ _).alloc _).trans HCX.out⟩
end Go.Proofs.Ytjplamoofkcojaa.obj
