/- Objects: how many steps an operation has: the reference's. -/
import Derived.Test.YtjplamoofkcojaaObj
import Derived.Test.YtjplamoofkcojaaObjA
namespace Go.Proofs.Ytjplamoofkcojaa.obj
open Go Go.RowKit Go.Proofs.Ytjplamoofkcojaa.kit
set_option linter.unusedVariables false
set_option linter.unusedSimpArgs false
set_option maxRecDepth 20000

set_option maxHeartbeats 4000000 in
theorem rBound_1 (w s c st : Int) (ia : Option Addr) (il ic : Nat) (wr : Int) (ra : Option Addr) (rl rc : Nat) (op : Int) (h : ObjW 1 w s c st il rl) (hg : rightB 1 w s c st il rl = true) (W : World) :
    Calls Try.prog 16 #[.agg #[.int .i64 1, .int .i64 w, .int .i64 s, .int .i64 c, .int .u32 st, .slice ia il ic, .int .i64 wr, .slice ra rl rc], .int .i64 op] W fun e W' => e = .returned (.int .i64 (boundK 1 w c rl op)) ∧ Chg [] W W' := by
  have HRR := Lib.hid (fun u => rRight_any 1 w s c st ia il ic wr ra rl rc h u)
  have HG := Lib.hid hg
  obtain ⟨b1, b2, b3, b4, b5, b6, b7, b8, _, _⟩ := rightB_bd hg
  have hm := mul_bd ⟨b5, b6⟩ ⟨b1, b2⟩
  have hmw : wrap64 (c * (w + 2)) = c * (w + 2) := by unfold wrap64; omega
  have HMW := Lib.hid hmw
  clear hmw
  have HWK := Lib.hid (show writesI 1 = 2 from rfl)
  have HRK := Lib.hid (show readsI 1 = 1 from rfl)
  clear h hg hm
  have hop : op = 2 ∨ op = 1 ∨ (op ≠ 2 ∧ op ≠ 1) := by omega
  rcases hop with rfl | rfl | ⟨n1, n2⟩
  · rw [show boundK 1 w c rl 2 = w + 4 from by simp [boundK]]
    go_enter Try.func16, Try.ntmps16
    go_wp2_with (first | (go_at_call 35; refine (HRR.out _).mono ?_; rintro e wx ⟨rfl, hcx⟩; rw [HG.out]; have HBX := Lib.hid (Blk.keep (Blk.new W #[.int .i64 1, .int .i64 w, .int .i64 s, .int .i64 c, .int .u32 st, .slice ia il ic, .int .i64 wr, .slice ra rl rc] 26) hcx (by simp)); have e0 := HBX.out.cell (o := 0) (v := .int .i64 1) rfl; have e1 := HBX.out.cell (o := 1) (v := .int .i64 w) rfl; have e2 := HBX.out.cell (o := 2) (v := .int .i64 s) rfl; have e3 := HBX.out.cell (o := 3) (v := .int .i64 c) rfl; have e4 := HBX.out.cell (o := 4) (v := .int .u32 st) rfl; have e5 := HBX.out.cell (o := 5) (v := .slice ia il ic) rfl; have e6 := HBX.out.cell (o := 6) (v := .int .i64 wr) rfl; have e7 := HBX.out.cell (o := 7) (v := .slice ra rl rc) rfl; have HCX := Lib.hid hcx; clear hcx) | (go_at_call 36; refine (rWrites_any _ _).mono ?_; rintro e wx ⟨rfl, rfl⟩; rw [HWK.out]) | (go_at_call 37; refine (rReads_any _ _).mono ?_; rintro e wx ⟨rfl, rfl⟩; rw [HRK.out]))
    go_ret
    exact ⟨by first | rfl | (rw [HMW.out]; rfl), ((Chg.refl _ _).alloc _).trans HCX.out⟩
  · rw [show boundK 1 w c rl 1 = w + 3 from by simp [boundK]]
    go_enter Try.func16, Try.ntmps16
    go_wp2_with (first | (go_at_call 35; refine (HRR.out _).mono ?_; rintro e wx ⟨rfl, hcx⟩; rw [HG.out]; have HBX := Lib.hid (Blk.keep (Blk.new W #[.int .i64 1, .int .i64 w, .int .i64 s, .int .i64 c, .int .u32 st, .slice ia il ic, .int .i64 wr, .slice ra rl rc] 26) hcx (by simp)); have e0 := HBX.out.cell (o := 0) (v := .int .i64 1) rfl; have e1 := HBX.out.cell (o := 1) (v := .int .i64 w) rfl; have e2 := HBX.out.cell (o := 2) (v := .int .i64 s) rfl; have e3 := HBX.out.cell (o := 3) (v := .int .i64 c) rfl; have e4 := HBX.out.cell (o := 4) (v := .int .u32 st) rfl; have e5 := HBX.out.cell (o := 5) (v := .slice ia il ic) rfl; have e6 := HBX.out.cell (o := 6) (v := .int .i64 wr) rfl; have e7 := HBX.out.cell (o := 7) (v := .slice ra rl rc) rfl; have HCX := Lib.hid hcx; clear hcx) | (go_at_call 36; refine (rWrites_any _ _).mono ?_; rintro e wx ⟨rfl, rfl⟩; rw [HWK.out]) | (go_at_call 37; refine (rReads_any _ _).mono ?_; rintro e wx ⟨rfl, rfl⟩; rw [HRK.out]))
    go_ret
    exact ⟨by first | rfl | (rw [HMW.out]; rfl), ((Chg.refl _ _).alloc _).trans HCX.out⟩
  · rw [show boundK 1 w c rl op = 0 from by simp [boundK, n1, n2]]
    have m1 : (op == 2) = false := by simpa using n1
    have k1 : (op != 2) = true := by simp [n1]
    have m2 : (op == 1) = false := by simpa using n2
    have k2 : (op != 1) = true := by simp [n2]
    go_enter Try.func16, Try.ntmps16
    go_wp2_with (first | (go_at_call 35; refine (HRR.out _).mono ?_; rintro e wx ⟨rfl, hcx⟩; rw [HG.out]; have HBX := Lib.hid (Blk.keep (Blk.new W #[.int .i64 1, .int .i64 w, .int .i64 s, .int .i64 c, .int .u32 st, .slice ia il ic, .int .i64 wr, .slice ra rl rc] 26) hcx (by simp)); have e0 := HBX.out.cell (o := 0) (v := .int .i64 1) rfl; have e1 := HBX.out.cell (o := 1) (v := .int .i64 w) rfl; have e2 := HBX.out.cell (o := 2) (v := .int .i64 s) rfl; have e3 := HBX.out.cell (o := 3) (v := .int .i64 c) rfl; have e4 := HBX.out.cell (o := 4) (v := .int .u32 st) rfl; have e5 := HBX.out.cell (o := 5) (v := .slice ia il ic) rfl; have e6 := HBX.out.cell (o := 6) (v := .int .i64 wr) rfl; have e7 := HBX.out.cell (o := 7) (v := .slice ra rl rc) rfl; have HCX := Lib.hid hcx; clear hcx) | (go_at_call 36; refine (rWrites_any _ _).mono ?_; rintro e wx ⟨rfl, rfl⟩; rw [HWK.out]) | (go_at_call 37; refine (rReads_any _ _).mono ?_; rintro e wx ⟨rfl, rfl⟩; rw [HRK.out]))
    go_ret
    exact ⟨rfl, ((Chg.refl _ _).alloc _).trans HCX.out⟩

set_option maxHeartbeats 4000000 in
theorem rBound_2 (w s c st : Int) (ia : Option Addr) (il ic : Nat) (wr : Int) (ra : Option Addr) (rl rc : Nat) (op : Int) (h : ObjW 2 w s c st il rl) (hg : rightB 2 w s c st il rl = true) (W : World) :
    Calls Try.prog 16 #[.agg #[.int .i64 2, .int .i64 w, .int .i64 s, .int .i64 c, .int .u32 st, .slice ia il ic, .int .i64 wr, .slice ra rl rc], .int .i64 op] W fun e W' => e = .returned (.int .i64 (boundK 2 w c rl op)) ∧ Chg [] W W' := by
  have HRR := Lib.hid (fun u => rRight_any 2 w s c st ia il ic wr ra rl rc h u)
  have HG := Lib.hid hg
  obtain ⟨b1, b2, b3, b4, b5, b6, b7, b8, _, _⟩ := rightB_bd hg
  have hm := mul_bd ⟨b5, b6⟩ ⟨b1, b2⟩
  have hmw : wrap64 (c * (w + 2)) = c * (w + 2) := by unfold wrap64; omega
  have HMW := Lib.hid hmw
  clear hmw
  have HWK := Lib.hid (show writesI 2 = 2 from rfl)
  have HRK := Lib.hid (show readsI 2 = 1 from rfl)
  clear h hg hm
  have hop : op = 2 ∨ op = 1 ∨ (op ≠ 2 ∧ op ≠ 1) := by omega
  rcases hop with rfl | rfl | ⟨n1, n2⟩
  · rw [show boundK 2 w c rl 2 = w + 2 * rl + 2 from by simp [boundK]]
    go_enter Try.func16, Try.ntmps16
    go_wp2_with (first | (go_at_call 35; refine (HRR.out _).mono ?_; rintro e wx ⟨rfl, hcx⟩; rw [HG.out]; have HBX := Lib.hid (Blk.keep (Blk.new W #[.int .i64 2, .int .i64 w, .int .i64 s, .int .i64 c, .int .u32 st, .slice ia il ic, .int .i64 wr, .slice ra rl rc] 26) hcx (by simp)); have e0 := HBX.out.cell (o := 0) (v := .int .i64 2) rfl; have e1 := HBX.out.cell (o := 1) (v := .int .i64 w) rfl; have e2 := HBX.out.cell (o := 2) (v := .int .i64 s) rfl; have e3 := HBX.out.cell (o := 3) (v := .int .i64 c) rfl; have e4 := HBX.out.cell (o := 4) (v := .int .u32 st) rfl; have e5 := HBX.out.cell (o := 5) (v := .slice ia il ic) rfl; have e6 := HBX.out.cell (o := 6) (v := .int .i64 wr) rfl; have e7 := HBX.out.cell (o := 7) (v := .slice ra rl rc) rfl; have HCX := Lib.hid hcx; clear hcx) | (go_at_call 36; refine (rWrites_any _ _).mono ?_; rintro e wx ⟨rfl, rfl⟩; rw [HWK.out]) | (go_at_call 37; refine (rReads_any _ _).mono ?_; rintro e wx ⟨rfl, rfl⟩; rw [HRK.out]))
    go_ret
    exact ⟨by first | rfl | (rw [HMW.out]; rfl), ((Chg.refl _ _).alloc _).trans HCX.out⟩
  · rw [show boundK 2 w c rl 1 = w + 4 from by simp [boundK]]
    go_enter Try.func16, Try.ntmps16
    go_wp2_with (first | (go_at_call 35; refine (HRR.out _).mono ?_; rintro e wx ⟨rfl, hcx⟩; rw [HG.out]; have HBX := Lib.hid (Blk.keep (Blk.new W #[.int .i64 2, .int .i64 w, .int .i64 s, .int .i64 c, .int .u32 st, .slice ia il ic, .int .i64 wr, .slice ra rl rc] 26) hcx (by simp)); have e0 := HBX.out.cell (o := 0) (v := .int .i64 2) rfl; have e1 := HBX.out.cell (o := 1) (v := .int .i64 w) rfl; have e2 := HBX.out.cell (o := 2) (v := .int .i64 s) rfl; have e3 := HBX.out.cell (o := 3) (v := .int .i64 c) rfl; have e4 := HBX.out.cell (o := 4) (v := .int .u32 st) rfl; have e5 := HBX.out.cell (o := 5) (v := .slice ia il ic) rfl; have e6 := HBX.out.cell (o := 6) (v := .int .i64 wr) rfl; have e7 := HBX.out.cell (o := 7) (v := .slice ra rl rc) rfl; have HCX := Lib.hid hcx; clear hcx) | (go_at_call 36; refine (rWrites_any _ _).mono ?_; rintro e wx ⟨rfl, rfl⟩; rw [HWK.out]) | (go_at_call 37; refine (rReads_any _ _).mono ?_; rintro e wx ⟨rfl, rfl⟩; rw [HRK.out]))
    go_ret
    exact ⟨by first | rfl | (rw [HMW.out]; rfl), ((Chg.refl _ _).alloc _).trans HCX.out⟩
  · rw [show boundK 2 w c rl op = 0 from by simp [boundK, n1, n2]]
    have m1 : (op == 2) = false := by simpa using n1
    have k1 : (op != 2) = true := by simp [n1]
    have m2 : (op == 1) = false := by simpa using n2
    have k2 : (op != 1) = true := by simp [n2]
    go_enter Try.func16, Try.ntmps16
    go_wp2_with (first | (go_at_call 35; refine (HRR.out _).mono ?_; rintro e wx ⟨rfl, hcx⟩; rw [HG.out]; have HBX := Lib.hid (Blk.keep (Blk.new W #[.int .i64 2, .int .i64 w, .int .i64 s, .int .i64 c, .int .u32 st, .slice ia il ic, .int .i64 wr, .slice ra rl rc] 26) hcx (by simp)); have e0 := HBX.out.cell (o := 0) (v := .int .i64 2) rfl; have e1 := HBX.out.cell (o := 1) (v := .int .i64 w) rfl; have e2 := HBX.out.cell (o := 2) (v := .int .i64 s) rfl; have e3 := HBX.out.cell (o := 3) (v := .int .i64 c) rfl; have e4 := HBX.out.cell (o := 4) (v := .int .u32 st) rfl; have e5 := HBX.out.cell (o := 5) (v := .slice ia il ic) rfl; have e6 := HBX.out.cell (o := 6) (v := .int .i64 wr) rfl; have e7 := HBX.out.cell (o := 7) (v := .slice ra rl rc) rfl; have HCX := Lib.hid hcx; clear hcx) | (go_at_call 36; refine (rWrites_any _ _).mono ?_; rintro e wx ⟨rfl, rfl⟩; rw [HWK.out]) | (go_at_call 37; refine (rReads_any _ _).mono ?_; rintro e wx ⟨rfl, rfl⟩; rw [HRK.out]))
    go_ret
    exact ⟨rfl, ((Chg.refl _ _).alloc _).trans HCX.out⟩

set_option maxHeartbeats 4000000 in
theorem rBound_3 (w s c st : Int) (ia : Option Addr) (il ic : Nat) (wr : Int) (ra : Option Addr) (rl rc : Nat) (op : Int) (h : ObjW 3 w s c st il rl) (hg : rightB 3 w s c st il rl = true) (W : World) :
    Calls Try.prog 16 #[.agg #[.int .i64 3, .int .i64 w, .int .i64 s, .int .i64 c, .int .u32 st, .slice ia il ic, .int .i64 wr, .slice ra rl rc], .int .i64 op] W fun e W' => e = .returned (.int .i64 (boundK 3 w c rl op)) ∧ Chg [] W W' := by
  have HRR := Lib.hid (fun u => rRight_any 3 w s c st ia il ic wr ra rl rc h u)
  have HG := Lib.hid hg
  obtain ⟨b1, b2, b3, b4, b5, b6, b7, b8, _, _⟩ := rightB_bd hg
  have hm := mul_bd ⟨b5, b6⟩ ⟨b1, b2⟩
  have hmw : wrap64 (c * (w + 2)) = c * (w + 2) := by unfold wrap64; omega
  have HMW := Lib.hid hmw
  clear hmw
  have HWK := Lib.hid (show writesI 3 = 2 from rfl)
  have HRK := Lib.hid (show readsI 3 = 1 from rfl)
  clear h hg hm
  have hop : op = 2 ∨ op = 1 ∨ (op ≠ 2 ∧ op ≠ 1) := by omega
  rcases hop with rfl | rfl | ⟨n1, n2⟩
  · rw [show boundK 3 w c rl 2 = w + 3 from by simp [boundK]]
    go_enter Try.func16, Try.ntmps16
    go_wp2_with (first | (go_at_call 35; refine (HRR.out _).mono ?_; rintro e wx ⟨rfl, hcx⟩; rw [HG.out]; have HBX := Lib.hid (Blk.keep (Blk.new W #[.int .i64 3, .int .i64 w, .int .i64 s, .int .i64 c, .int .u32 st, .slice ia il ic, .int .i64 wr, .slice ra rl rc] 26) hcx (by simp)); have e0 := HBX.out.cell (o := 0) (v := .int .i64 3) rfl; have e1 := HBX.out.cell (o := 1) (v := .int .i64 w) rfl; have e2 := HBX.out.cell (o := 2) (v := .int .i64 s) rfl; have e3 := HBX.out.cell (o := 3) (v := .int .i64 c) rfl; have e4 := HBX.out.cell (o := 4) (v := .int .u32 st) rfl; have e5 := HBX.out.cell (o := 5) (v := .slice ia il ic) rfl; have e6 := HBX.out.cell (o := 6) (v := .int .i64 wr) rfl; have e7 := HBX.out.cell (o := 7) (v := .slice ra rl rc) rfl; have HCX := Lib.hid hcx; clear hcx) | (go_at_call 36; refine (rWrites_any _ _).mono ?_; rintro e wx ⟨rfl, rfl⟩; rw [HWK.out]) | (go_at_call 37; refine (rReads_any _ _).mono ?_; rintro e wx ⟨rfl, rfl⟩; rw [HRK.out]))
    go_ret
    exact ⟨by first | rfl | (rw [HMW.out]; rfl), ((Chg.refl _ _).alloc _).trans HCX.out⟩
  · rw [show boundK 3 w c rl 1 = c * (w + 2) from by simp [boundK]]
    go_enter Try.func16, Try.ntmps16
    go_wp2_with (first | (go_at_call 35; refine (HRR.out _).mono ?_; rintro e wx ⟨rfl, hcx⟩; rw [HG.out]; have HBX := Lib.hid (Blk.keep (Blk.new W #[.int .i64 3, .int .i64 w, .int .i64 s, .int .i64 c, .int .u32 st, .slice ia il ic, .int .i64 wr, .slice ra rl rc] 26) hcx (by simp)); have e0 := HBX.out.cell (o := 0) (v := .int .i64 3) rfl; have e1 := HBX.out.cell (o := 1) (v := .int .i64 w) rfl; have e2 := HBX.out.cell (o := 2) (v := .int .i64 s) rfl; have e3 := HBX.out.cell (o := 3) (v := .int .i64 c) rfl; have e4 := HBX.out.cell (o := 4) (v := .int .u32 st) rfl; have e5 := HBX.out.cell (o := 5) (v := .slice ia il ic) rfl; have e6 := HBX.out.cell (o := 6) (v := .int .i64 wr) rfl; have e7 := HBX.out.cell (o := 7) (v := .slice ra rl rc) rfl; have HCX := Lib.hid hcx; clear hcx) | (go_at_call 36; refine (rWrites_any _ _).mono ?_; rintro e wx ⟨rfl, rfl⟩; rw [HWK.out]) | (go_at_call 37; refine (rReads_any _ _).mono ?_; rintro e wx ⟨rfl, rfl⟩; rw [HRK.out]))
    go_ret
    exact ⟨by first | rfl | (rw [HMW.out]; rfl), ((Chg.refl _ _).alloc _).trans HCX.out⟩
  · rw [show boundK 3 w c rl op = 0 from by simp [boundK, n1, n2]]
    have m1 : (op == 2) = false := by simpa using n1
    have k1 : (op != 2) = true := by simp [n1]
    have m2 : (op == 1) = false := by simpa using n2
    have k2 : (op != 1) = true := by simp [n2]
    go_enter Try.func16, Try.ntmps16
    go_wp2_with (first | (go_at_call 35; refine (HRR.out _).mono ?_; rintro e wx ⟨rfl, hcx⟩; rw [HG.out]; have HBX := Lib.hid (Blk.keep (Blk.new W #[.int .i64 3, .int .i64 w, .int .i64 s, .int .i64 c, .int .u32 st, .slice ia il ic, .int .i64 wr, .slice ra rl rc] 26) hcx (by simp)); have e0 := HBX.out.cell (o := 0) (v := .int .i64 3) rfl; have e1 := HBX.out.cell (o := 1) (v := .int .i64 w) rfl; have e2 := HBX.out.cell (o := 2) (v := .int .i64 s) rfl; have e3 := HBX.out.cell (o := 3) (v := .int .i64 c) rfl; have e4 := HBX.out.cell (o := 4) (v := .int .u32 st) rfl; have e5 := HBX.out.cell (o := 5) (v := .slice ia il ic) rfl; have e6 := HBX.out.cell (o := 6) (v := .int .i64 wr) rfl; have e7 := HBX.out.cell (o := 7) (v := .slice ra rl rc) rfl; have HCX := Lib.hid hcx; clear hcx) | (go_at_call 36; refine (rWrites_any _ _).mono ?_; rintro e wx ⟨rfl, rfl⟩; rw [HWK.out]) | (go_at_call 37; refine (rReads_any _ _).mono ?_; rintro e wx ⟨rfl, rfl⟩; rw [HRK.out]))
    go_ret
    exact ⟨rfl, ((Chg.refl _ _).alloc _).trans HCX.out⟩

set_option maxHeartbeats 4000000 in
theorem rBound_4 (w s c st : Int) (ia : Option Addr) (il ic : Nat) (wr : Int) (ra : Option Addr) (rl rc : Nat) (op : Int) (h : ObjW 4 w s c st il rl) (hg : rightB 4 w s c st il rl = true) (W : World) :
    Calls Try.prog 16 #[.agg #[.int .i64 4, .int .i64 w, .int .i64 s, .int .i64 c, .int .u32 st, .slice ia il ic, .int .i64 wr, .slice ra rl rc], .int .i64 op] W fun e W' => e = .returned (.int .i64 (boundK 4 w c rl op)) ∧ Chg [] W W' := by
  have HRR := Lib.hid (fun u => rRight_any 4 w s c st ia il ic wr ra rl rc h u)
  have HG := Lib.hid hg
  obtain ⟨b1, b2, b3, b4, b5, b6, b7, b8, _, _⟩ := rightB_bd hg
  have hm := mul_bd ⟨b5, b6⟩ ⟨b1, b2⟩
  have hmw : wrap64 (c * (w + 2)) = c * (w + 2) := by unfold wrap64; omega
  have HMW := Lib.hid hmw
  clear hmw
  have HWK := Lib.hid (show writesI 4 = 2 from rfl)
  have HRK := Lib.hid (show readsI 4 = 1 from rfl)
  clear h hg hm
  have hop : op = 2 ∨ op = 1 ∨ (op ≠ 2 ∧ op ≠ 1) := by omega
  rcases hop with rfl | rfl | ⟨n1, n2⟩
  · rw [show boundK 4 w c rl 2 = w + 2 from by simp [boundK]]
    go_enter Try.func16, Try.ntmps16
    go_wp2_with (first | (go_at_call 35; refine (HRR.out _).mono ?_; rintro e wx ⟨rfl, hcx⟩; rw [HG.out]; have HBX := Lib.hid (Blk.keep (Blk.new W #[.int .i64 4, .int .i64 w, .int .i64 s, .int .i64 c, .int .u32 st, .slice ia il ic, .int .i64 wr, .slice ra rl rc] 26) hcx (by simp)); have e0 := HBX.out.cell (o := 0) (v := .int .i64 4) rfl; have e1 := HBX.out.cell (o := 1) (v := .int .i64 w) rfl; have e2 := HBX.out.cell (o := 2) (v := .int .i64 s) rfl; have e3 := HBX.out.cell (o := 3) (v := .int .i64 c) rfl; have e4 := HBX.out.cell (o := 4) (v := .int .u32 st) rfl; have e5 := HBX.out.cell (o := 5) (v := .slice ia il ic) rfl; have e6 := HBX.out.cell (o := 6) (v := .int .i64 wr) rfl; have e7 := HBX.out.cell (o := 7) (v := .slice ra rl rc) rfl; have HCX := Lib.hid hcx; clear hcx) | (go_at_call 36; refine (rWrites_any _ _).mono ?_; rintro e wx ⟨rfl, rfl⟩; rw [HWK.out]) | (go_at_call 37; refine (rReads_any _ _).mono ?_; rintro e wx ⟨rfl, rfl⟩; rw [HRK.out]))
    go_ret
    exact ⟨by first | rfl | (rw [HMW.out]; rfl), ((Chg.refl _ _).alloc _).trans HCX.out⟩
  · rw [show boundK 4 w c rl 1 = c * (w + 2) from by simp [boundK]]
    go_enter Try.func16, Try.ntmps16
    go_wp2_with (first | (go_at_call 35; refine (HRR.out _).mono ?_; rintro e wx ⟨rfl, hcx⟩; rw [HG.out]; have HBX := Lib.hid (Blk.keep (Blk.new W #[.int .i64 4, .int .i64 w, .int .i64 s, .int .i64 c, .int .u32 st, .slice ia il ic, .int .i64 wr, .slice ra rl rc] 26) hcx (by simp)); have e0 := HBX.out.cell (o := 0) (v := .int .i64 4) rfl; have e1 := HBX.out.cell (o := 1) (v := .int .i64 w) rfl; have e2 := HBX.out.cell (o := 2) (v := .int .i64 s) rfl; have e3 := HBX.out.cell (o := 3) (v := .int .i64 c) rfl; have e4 := HBX.out.cell (o := 4) (v := .int .u32 st) rfl; have e5 := HBX.out.cell (o := 5) (v := .slice ia il ic) rfl; have e6 := HBX.out.cell (o := 6) (v := .int .i64 wr) rfl; have e7 := HBX.out.cell (o := 7) (v := .slice ra rl rc) rfl; have HCX := Lib.hid hcx; clear hcx) | (go_at_call 36; refine (rWrites_any _ _).mono ?_; rintro e wx ⟨rfl, rfl⟩; rw [HWK.out]) | (go_at_call 37; refine (rReads_any _ _).mono ?_; rintro e wx ⟨rfl, rfl⟩; rw [HRK.out]))
    go_ret
    exact ⟨by first | rfl | (rw [HMW.out]; rfl), ((Chg.refl _ _).alloc _).trans HCX.out⟩
  · rw [show boundK 4 w c rl op = 0 from by simp [boundK, n1, n2]]
    have m1 : (op == 2) = false := by simpa using n1
    have k1 : (op != 2) = true := by simp [n1]
    have m2 : (op == 1) = false := by simpa using n2
    have k2 : (op != 1) = true := by simp [n2]
    go_enter Try.func16, Try.ntmps16
    go_wp2_with (first | (go_at_call 35; refine (HRR.out _).mono ?_; rintro e wx ⟨rfl, hcx⟩; rw [HG.out]; have HBX := Lib.hid (Blk.keep (Blk.new W #[.int .i64 4, .int .i64 w, .int .i64 s, .int .i64 c, .int .u32 st, .slice ia il ic, .int .i64 wr, .slice ra rl rc] 26) hcx (by simp)); have e0 := HBX.out.cell (o := 0) (v := .int .i64 4) rfl; have e1 := HBX.out.cell (o := 1) (v := .int .i64 w) rfl; have e2 := HBX.out.cell (o := 2) (v := .int .i64 s) rfl; have e3 := HBX.out.cell (o := 3) (v := .int .i64 c) rfl; have e4 := HBX.out.cell (o := 4) (v := .int .u32 st) rfl; have e5 := HBX.out.cell (o := 5) (v := .slice ia il ic) rfl; have e6 := HBX.out.cell (o := 6) (v := .int .i64 wr) rfl; have e7 := HBX.out.cell (o := 7) (v := .slice ra rl rc) rfl; have HCX := Lib.hid hcx; clear hcx) | (go_at_call 36; refine (rWrites_any _ _).mono ?_; rintro e wx ⟨rfl, rfl⟩; rw [HWK.out]) | (go_at_call 37; refine (rReads_any _ _).mono ?_; rintro e wx ⟨rfl, rfl⟩; rw [HRK.out]))
    go_ret
    exact ⟨rfl, ((Chg.refl _ _).alloc _).trans HCX.out⟩

set_option maxHeartbeats 4000000 in
theorem rBound_5 (w s c st : Int) (ia : Option Addr) (il ic : Nat) (wr : Int) (ra : Option Addr) (rl rc : Nat) (op : Int) (h : ObjW 5 w s c st il rl) (hg : rightB 5 w s c st il rl = true) (W : World) :
    Calls Try.prog 16 #[.agg #[.int .i64 5, .int .i64 w, .int .i64 s, .int .i64 c, .int .u32 st, .slice ia il ic, .int .i64 wr, .slice ra rl rc], .int .i64 op] W fun e W' => e = .returned (.int .i64 (boundK 5 w c rl op)) ∧ Chg [] W W' := by
  have HRR := Lib.hid (fun u => rRight_any 5 w s c st ia il ic wr ra rl rc h u)
  have HG := Lib.hid hg
  obtain ⟨b1, b2, b3, b4, b5, b6, b7, b8, _, _⟩ := rightB_bd hg
  have hm := mul_bd ⟨b5, b6⟩ ⟨b1, b2⟩
  have hmw : wrap64 (c * (w + 2)) = c * (w + 2) := by unfold wrap64; omega
  have HMW := Lib.hid hmw
  clear hmw
  have HWK := Lib.hid (show writesI 5 = 2 from rfl)
  have HRK := Lib.hid (show readsI 5 = 1 from rfl)
  clear h hg hm
  have hop : op = 2 ∨ op = 1 ∨ (op ≠ 2 ∧ op ≠ 1) := by omega
  rcases hop with rfl | rfl | ⟨n1, n2⟩
  · rw [show boundK 5 w c rl 2 = w + rl + 2 from by simp [boundK]]
    go_enter Try.func16, Try.ntmps16
    go_wp2_with (first | (go_at_call 35; refine (HRR.out _).mono ?_; rintro e wx ⟨rfl, hcx⟩; rw [HG.out]; have HBX := Lib.hid (Blk.keep (Blk.new W #[.int .i64 5, .int .i64 w, .int .i64 s, .int .i64 c, .int .u32 st, .slice ia il ic, .int .i64 wr, .slice ra rl rc] 26) hcx (by simp)); have e0 := HBX.out.cell (o := 0) (v := .int .i64 5) rfl; have e1 := HBX.out.cell (o := 1) (v := .int .i64 w) rfl; have e2 := HBX.out.cell (o := 2) (v := .int .i64 s) rfl; have e3 := HBX.out.cell (o := 3) (v := .int .i64 c) rfl; have e4 := HBX.out.cell (o := 4) (v := .int .u32 st) rfl; have e5 := HBX.out.cell (o := 5) (v := .slice ia il ic) rfl; have e6 := HBX.out.cell (o := 6) (v := .int .i64 wr) rfl; have e7 := HBX.out.cell (o := 7) (v := .slice ra rl rc) rfl; have HCX := Lib.hid hcx; clear hcx) | (go_at_call 36; refine (rWrites_any _ _).mono ?_; rintro e wx ⟨rfl, rfl⟩; rw [HWK.out]) | (go_at_call 37; refine (rReads_any _ _).mono ?_; rintro e wx ⟨rfl, rfl⟩; rw [HRK.out]))
    go_ret
    exact ⟨by first | rfl | (rw [HMW.out]; rfl), ((Chg.refl _ _).alloc _).trans HCX.out⟩
  · rw [show boundK 5 w c rl 1 = 3 * c + w + 1 from by simp [boundK]]
    go_enter Try.func16, Try.ntmps16
    go_wp2_with (first | (go_at_call 35; refine (HRR.out _).mono ?_; rintro e wx ⟨rfl, hcx⟩; rw [HG.out]; have HBX := Lib.hid (Blk.keep (Blk.new W #[.int .i64 5, .int .i64 w, .int .i64 s, .int .i64 c, .int .u32 st, .slice ia il ic, .int .i64 wr, .slice ra rl rc] 26) hcx (by simp)); have e0 := HBX.out.cell (o := 0) (v := .int .i64 5) rfl; have e1 := HBX.out.cell (o := 1) (v := .int .i64 w) rfl; have e2 := HBX.out.cell (o := 2) (v := .int .i64 s) rfl; have e3 := HBX.out.cell (o := 3) (v := .int .i64 c) rfl; have e4 := HBX.out.cell (o := 4) (v := .int .u32 st) rfl; have e5 := HBX.out.cell (o := 5) (v := .slice ia il ic) rfl; have e6 := HBX.out.cell (o := 6) (v := .int .i64 wr) rfl; have e7 := HBX.out.cell (o := 7) (v := .slice ra rl rc) rfl; have HCX := Lib.hid hcx; clear hcx) | (go_at_call 36; refine (rWrites_any _ _).mono ?_; rintro e wx ⟨rfl, rfl⟩; rw [HWK.out]) | (go_at_call 37; refine (rReads_any _ _).mono ?_; rintro e wx ⟨rfl, rfl⟩; rw [HRK.out]))
    go_ret
    exact ⟨by first | rfl | (rw [HMW.out]; rfl), ((Chg.refl _ _).alloc _).trans HCX.out⟩
  · rw [show boundK 5 w c rl op = 0 from by simp [boundK, n1, n2]]
    have m1 : (op == 2) = false := by simpa using n1
    have k1 : (op != 2) = true := by simp [n1]
    have m2 : (op == 1) = false := by simpa using n2
    have k2 : (op != 1) = true := by simp [n2]
    go_enter Try.func16, Try.ntmps16
    go_wp2_with (first | (go_at_call 35; refine (HRR.out _).mono ?_; rintro e wx ⟨rfl, hcx⟩; rw [HG.out]; have HBX := Lib.hid (Blk.keep (Blk.new W #[.int .i64 5, .int .i64 w, .int .i64 s, .int .i64 c, .int .u32 st, .slice ia il ic, .int .i64 wr, .slice ra rl rc] 26) hcx (by simp)); have e0 := HBX.out.cell (o := 0) (v := .int .i64 5) rfl; have e1 := HBX.out.cell (o := 1) (v := .int .i64 w) rfl; have e2 := HBX.out.cell (o := 2) (v := .int .i64 s) rfl; have e3 := HBX.out.cell (o := 3) (v := .int .i64 c) rfl; have e4 := HBX.out.cell (o := 4) (v := .int .u32 st) rfl; have e5 := HBX.out.cell (o := 5) (v := .slice ia il ic) rfl; have e6 := HBX.out.cell (o := 6) (v := .int .i64 wr) rfl; have e7 := HBX.out.cell (o := 7) (v := .slice ra rl rc) rfl; have HCX := Lib.hid hcx; clear hcx) | (go_at_call 36; refine (rWrites_any _ _).mono ?_; rintro e wx ⟨rfl, rfl⟩; rw [HWK.out]) | (go_at_call 37; refine (rReads_any _ _).mono ?_; rintro e wx ⟨rfl, rfl⟩; rw [HRK.out]))
    go_ret
    exact ⟨rfl, ((Chg.refl _ _).alloc _).trans HCX.out⟩

set_option maxHeartbeats 4000000 in
theorem rBound_6 (w s c st : Int) (ia : Option Addr) (il ic : Nat) (wr : Int) (ra : Option Addr) (rl rc : Nat) (op : Int) (h : ObjW 6 w s c st il rl) (hg : rightB 6 w s c st il rl = true) (W : World) :
    Calls Try.prog 16 #[.agg #[.int .i64 6, .int .i64 w, .int .i64 s, .int .i64 c, .int .u32 st, .slice ia il ic, .int .i64 wr, .slice ra rl rc], .int .i64 op] W fun e W' => e = .returned (.int .i64 (boundK 6 w c rl op)) ∧ Chg [] W W' := by
  have HRR := Lib.hid (fun u => rRight_any 6 w s c st ia il ic wr ra rl rc h u)
  have HG := Lib.hid hg
  obtain ⟨b1, b2, b3, b4, b5, b6, b7, b8, _, _⟩ := rightB_bd hg
  have hm := mul_bd ⟨b5, b6⟩ ⟨b1, b2⟩
  have hmw : wrap64 (c * (w + 2)) = c * (w + 2) := by unfold wrap64; omega
  have HMW := Lib.hid hmw
  clear hmw
  have HWK := Lib.hid (show writesI 6 = 3 from rfl)
  have HRK := Lib.hid (show readsI 6 = 4 from rfl)
  clear h hg hm
  have hop : op = 3 ∨ op = 4 ∨ (op ≠ 3 ∧ op ≠ 4) := by omega
  rcases hop with rfl | rfl | ⟨n1, n2⟩
  · rw [show boundK 6 w c rl 3 = w + 3 from by simp [boundK]]
    go_enter Try.func16, Try.ntmps16
    go_wp2_with (first | (go_at_call 35; refine (HRR.out _).mono ?_; rintro e wx ⟨rfl, hcx⟩; rw [HG.out]; have HBX := Lib.hid (Blk.keep (Blk.new W #[.int .i64 6, .int .i64 w, .int .i64 s, .int .i64 c, .int .u32 st, .slice ia il ic, .int .i64 wr, .slice ra rl rc] 26) hcx (by simp)); have e0 := HBX.out.cell (o := 0) (v := .int .i64 6) rfl; have e1 := HBX.out.cell (o := 1) (v := .int .i64 w) rfl; have e2 := HBX.out.cell (o := 2) (v := .int .i64 s) rfl; have e3 := HBX.out.cell (o := 3) (v := .int .i64 c) rfl; have e4 := HBX.out.cell (o := 4) (v := .int .u32 st) rfl; have e5 := HBX.out.cell (o := 5) (v := .slice ia il ic) rfl; have e6 := HBX.out.cell (o := 6) (v := .int .i64 wr) rfl; have e7 := HBX.out.cell (o := 7) (v := .slice ra rl rc) rfl; have HCX := Lib.hid hcx; clear hcx) | (go_at_call 36; refine (rWrites_any _ _).mono ?_; rintro e wx ⟨rfl, rfl⟩; rw [HWK.out]) | (go_at_call 37; refine (rReads_any _ _).mono ?_; rintro e wx ⟨rfl, rfl⟩; rw [HRK.out]))
    go_ret
    exact ⟨by first | rfl | (rw [HMW.out]; rfl), ((Chg.refl _ _).alloc _).trans HCX.out⟩
  · rw [show boundK 6 w c rl 4 = w + 3 from by simp [boundK]]
    go_enter Try.func16, Try.ntmps16
    go_wp2_with (first | (go_at_call 35; refine (HRR.out _).mono ?_; rintro e wx ⟨rfl, hcx⟩; rw [HG.out]; have HBX := Lib.hid (Blk.keep (Blk.new W #[.int .i64 6, .int .i64 w, .int .i64 s, .int .i64 c, .int .u32 st, .slice ia il ic, .int .i64 wr, .slice ra rl rc] 26) hcx (by simp)); have e0 := HBX.out.cell (o := 0) (v := .int .i64 6) rfl; have e1 := HBX.out.cell (o := 1) (v := .int .i64 w) rfl; have e2 := HBX.out.cell (o := 2) (v := .int .i64 s) rfl; have e3 := HBX.out.cell (o := 3) (v := .int .i64 c) rfl; have e4 := HBX.out.cell (o := 4) (v := .int .u32 st) rfl; have e5 := HBX.out.cell (o := 5) (v := .slice ia il ic) rfl; have e6 := HBX.out.cell (o := 6) (v := .int .i64 wr) rfl; have e7 := HBX.out.cell (o := 7) (v := .slice ra rl rc) rfl; have HCX := Lib.hid hcx; clear hcx) | (go_at_call 36; refine (rWrites_any _ _).mono ?_; rintro e wx ⟨rfl, rfl⟩; rw [HWK.out]) | (go_at_call 37; refine (rReads_any _ _).mono ?_; rintro e wx ⟨rfl, rfl⟩; rw [HRK.out]))
    go_ret
    exact ⟨by first | rfl | (rw [HMW.out]; rfl), ((Chg.refl _ _).alloc _).trans HCX.out⟩
  · rw [show boundK 6 w c rl op = 0 from by simp [boundK, n1, n2]]
    have m1 : (op == 3) = false := by simpa using n1
    have k1 : (op != 3) = true := by simp [n1]
    have m2 : (op == 4) = false := by simpa using n2
    have k2 : (op != 4) = true := by simp [n2]
    go_enter Try.func16, Try.ntmps16
    go_wp2_with (first | (go_at_call 35; refine (HRR.out _).mono ?_; rintro e wx ⟨rfl, hcx⟩; rw [HG.out]; have HBX := Lib.hid (Blk.keep (Blk.new W #[.int .i64 6, .int .i64 w, .int .i64 s, .int .i64 c, .int .u32 st, .slice ia il ic, .int .i64 wr, .slice ra rl rc] 26) hcx (by simp)); have e0 := HBX.out.cell (o := 0) (v := .int .i64 6) rfl; have e1 := HBX.out.cell (o := 1) (v := .int .i64 w) rfl; have e2 := HBX.out.cell (o := 2) (v := .int .i64 s) rfl; have e3 := HBX.out.cell (o := 3) (v := .int .i64 c) rfl; have e4 := HBX.out.cell (o := 4) (v := .int .u32 st) rfl; have e5 := HBX.out.cell (o := 5) (v := .slice ia il ic) rfl; have e6 := HBX.out.cell (o := 6) (v := .int .i64 wr) rfl; have e7 := HBX.out.cell (o := 7) (v := .slice ra rl rc) rfl; have HCX := Lib.hid hcx; clear hcx) | (go_at_call 36; refine (rWrites_any _ _).mono ?_; rintro e wx ⟨rfl, rfl⟩; rw [HWK.out]) | (go_at_call 37; refine (rReads_any _ _).mono ?_; rintro e wx ⟨rfl, rfl⟩; rw [HRK.out]))
    go_ret
    exact ⟨rfl, ((Chg.refl _ _).alloc _).trans HCX.out⟩

set_option maxHeartbeats 4000000 in
theorem rBound_any (k : Int) (w s c st : Int) (ia : Option Addr) (il ic : Nat) (wr : Int) (ra : Option Addr) (rl rc : Nat) (op : Int) (h : ObjW k w s c st il rl) (W : World) :
    Calls Try.prog 16 #[.agg #[.int .i64 k, .int .i64 w, .int .i64 s, .int .i64 c, .int .u32 st, .slice ia il ic, .int .i64 wr, .slice ra rl rc], .int .i64 op] W fun e W' => e = .returned (.int .i64 (boundI k w s c st il rl op)) ∧ Chg [] W W' := by
  cases hg : rightB k w s c st il rl
  · rw [show boundI k w s c st il rl op = 0 from by unfold boundI; rw [hg]; rfl]
    have HRR := Lib.hid (fun u => rRight_any k w s c st ia il ic wr ra rl rc h u)
    have HG := Lib.hid hg
    clear h hg
    go_enter Try.func16, Try.ntmps16
    go_wp2_with (go_at_call 35; refine (HRR.out _).mono ?_; rintro e wx ⟨rfl, hcx⟩; rw [HG.out])
    go_ret
    exact ⟨rfl, ((Chg.refl _ _).alloc _).trans hcx⟩
  · rw [show boundI k w s c st il rl op = boundK k w c rl op from by unfold boundI; rw [hg]; rfl]
    have hb := rightB_bd hg
    have hk : k = 1 ∨ k = 2 ∨ k = 3 ∨ k = 4 ∨ k = 5 ∨ k = 6 := by omega
    rcases hk with rfl | rfl | rfl | rfl | rfl | rfl
    · exact rBound_1 w s c st ia il ic wr ra rl rc op h hg W
    · exact rBound_2 w s c st ia il ic wr ra rl rc op h hg W
    · exact rBound_3 w s c st ia il ic wr ra rl rc op h hg W
    · exact rBound_4 w s c st ia il ic wr ra rl rc op h hg W
    · exact rBound_5 w s c st ia il ic wr ra rl rc op h hg W
    · exact rBound_6 w s c st ia il ic wr ra rl rc op h hg W
end Go.Proofs.Ytjplamoofkcojaa.obj
