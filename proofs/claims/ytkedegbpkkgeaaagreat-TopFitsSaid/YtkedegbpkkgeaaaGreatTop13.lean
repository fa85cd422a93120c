import Derived.Test.YtkedegbpkkgeaaaGreatTop12
import Derived.Test.YtkedegbpkkgeaaaGreatTop4
import Derived.Test.YtkedegbpkkgeaaaGreatTop5
import Derived.Test.YtkedegbpkkgeaaaGreatTop7
/- Package fifo: how many words there are, and which; answers. -/
namespace Go.Proofs.YtkedegbpkkgeaaaGreat.fifo
open Go Go.RowKit Go.Proofs.YtkedegbpkkgeaaaGreat.kit Go.Proofs.YtkedegbpkkgeaaaGreat.mem Go.Proofs.YtkedegbpkkgeaaaGreat.rop Go.Proofs.YtkedegbpkkgeaaaGreat.core Go.Proofs.YtkedegbpkkgeaaaGreat.obj
set_option linter.unusedVariables false
set_option linter.unusedSimpArgs false
set_option maxRecDepth 20000

theorem size_at (k w s c st : Int) (ia : Option Addr) (il ic : Nat) (wr : Int) (ra : Option Addr) (rl rc : Nat) (hs : 0 ≤ s ∧ s ≤ 16) (hw : 0 ≤ w ∧ w ≤ 8) (W : World) :
    Calls Tryz.prog 164 #[.agg #[.int .i64 k, .int .i64 w, .int .i64 s, .int .i64 c, .int .u32 st, .slice ia il ic, .int .i64 wr, .slice ra rl rc]] W fun e W' => e = .returned (.int .i64 (((2 + s * w).toNat : Nat) : Int)) ∧ Chg [] W W' := by
  have hb := mul_bd (c := s) (w := w) (m := 16) ⟨by omega, hs.2⟩ ⟨by omega, hw.2⟩ (by omega)
  have k1 : IntKind.i64.wrap (s * w) = s * w := by rw [IntKind.wrap_i64]; omega
  have k2 : IntKind.i64.wrap (2 + s * w) = 2 + s * w := by rw [IntKind.wrap_i64]; omega
  have HNV : Hid (2 + s * w = ((2 + s * w).toNat : Int)) := Lib.hid (by omega)
  clear hb hs hw
  go_enter Tryz.func164, Tryz.ntmps164
  go_wp2
  go_ret
  exact ⟨congrArg (fun z => Ending.returned (Value.int .i64 z)) HNV.out, (Chg.refl _ _).alloc _⟩
theorem Size_yes (k w s c st : Int) (ia : Option Addr) (il ic : Nat) (wr : Int) (ra : Option Addr) (rl rc : Nat) (wN : Nat) (hw : w = (wN : Int)) (h : ObjW k w s c st il rl) (hr : (decide (k = 6) && rightB k w s c st il rl) = true) (W : World) :
    Calls Tryz.prog 146 #[.agg #[.int .i64 k, .int .i64 w, .int .i64 s, .int .i64 c, .int .u32 st, .slice ia il ic, .int .i64 wr, .slice ra rl rc]] W fun e W' => e = .returned (.int .i64 (((2 + s * w).toNat : Nat) : Int)) ∧ Chg [] W W' := by
  have hk : k = 6 := by simp only [Bool.and_eq_true, decide_eq_true_eq] at hr; exact hr.1
  have hb := rightB_bd (by simp only [Bool.and_eq_true] at hr; exact hr.2)
  have hr2 : rightB k w s c st il rl = true := by simp only [Bool.and_eq_true] at hr; exact hr.2
  have ha := fun V => size_at k w s c st ia il ic wr ra rl rc (by subst hk; simp only [rightB, decide_eq_true_eq] at hr2; omega) (by omega) V
  obtain ⟨N0, hN0⟩ : ∃ N0 : Nat, (2 + s * w).toNat = N0 := ⟨_, rfl⟩
  simp only [hN0] at ha
  rw [hN0]
  have HA := Lib.hid ha
  clear ha hN0
  have HO := Lib.hid h
  have HR := Lib.hid hr
  clear h hr hb hw hk hr2
  go_enter Tryz.func146, Tryz.ntmps146
  go_wp2_with (first | (go_at_call 60; refine (fifoRight_any k w s c st ia il ic wr ra rl rc HO.out _).mono ?_; rintro e w1 ⟨rfl, hc⟩; rw [HR.out]; have HC := Lib.hid (((Chg.refl [] W).alloc _).trans hc); have HB := Lib.hid ((Blk.new W #[.int .i64 k, .int .i64 w, .int .i64 s, .int .i64 c, .int .u32 st, .slice ia il ic, .int .i64 wr, .slice ra rl rc] 46).keep hc (by simp)); clear hc; have e0 : w1.cell? ⟨W.heap.size, 0, none⟩ = some (.int .i64 k) := HB.out.cell rfl; have e1 : w1.cell? ⟨W.heap.size, 1, none⟩ = some (.int .i64 w) := HB.out.cell rfl; have e2 : w1.cell? ⟨W.heap.size, 2, none⟩ = some (.int .i64 s) := HB.out.cell rfl; have e3 : w1.cell? ⟨W.heap.size, 3, none⟩ = some (.int .i64 c) := HB.out.cell rfl; have e4 : w1.cell? ⟨W.heap.size, 4, none⟩ = some (.int .u32 st) := HB.out.cell rfl; have e5 : w1.cell? ⟨W.heap.size, 5, none⟩ = some (.slice ia il ic) := HB.out.cell rfl; have e6 : w1.cell? ⟨W.heap.size, 6, none⟩ = some (.int .i64 wr) := HB.out.cell rfl; have e7 : w1.cell? ⟨W.heap.size, 7, none⟩ = some (.slice ra rl rc) := HB.out.cell rfl) | (go_at_call 164; refine (HA.out _).mono ?_; rintro e w2 ⟨rfl, hc⟩; have HC2 := Lib.hid (HC.out.trans hc); clear hc))
  go_ret
  exact ⟨rfl, HC2.out⟩
theorem Size_no (k w s c st : Int) (ia : Option Addr) (il ic : Nat) (wr : Int) (ra : Option Addr) (rl rc : Nat) (h : ObjW k w s c st il rl) (hr : (decide (k = 6) && rightB k w s c st il rl) = false) (W : World) :
    Calls Tryz.prog 146 #[.agg #[.int .i64 k, .int .i64 w, .int .i64 s, .int .i64 c, .int .u32 st, .slice ia il ic, .int .i64 wr, .slice ra rl rc]] W fun e W' => e = .returned (.int .i64 0) ∧ Chg [] W W' := by
  have HO := Lib.hid h
  have HR := Lib.hid hr
  clear h hr
  go_enter Tryz.func146, Tryz.ntmps146
  go_wp2_with (go_at_call 60; refine (fifoRight_any k w s c st ia il ic wr ra rl rc HO.out _).mono ?_; rintro e w1 ⟨rfl, hc⟩; rw [HR.out]; have HC := Lib.hid (((Chg.refl [] W).alloc _).trans hc); clear hc)
  go_ret
  exact ⟨rfl, HC.out⟩
/-- the words at the beginning -/
def layL (s w st : Int) : List Int := ((List.replicate (2 + s * w).toNat 0).set 0 st).set 1 st
end Go.Proofs.YtkedegbpkkgeaaaGreat.fifo
/- Package ring: how many words there are, and which; answers; an operation is begun. -/
namespace Go.Proofs.YtkedegbpkkgeaaaGreat.ring
open Go Go.RowKit Go.Proofs.YtkedegbpkkgeaaaGreat.kit Go.Proofs.YtkedegbpkkgeaaaGreat.mem Go.Proofs.YtkedegbpkkgeaaaGreat.rop Go.Proofs.YtkedegbpkkgeaaaGreat.core Go.Proofs.YtkedegbpkkgeaaaGreat.obj
set_option linter.unusedVariables false
set_option linter.unusedSimpArgs false
set_option maxRecDepth 20000

/-- a parameter that is an object, as one value -/
theorem loadP {W V : World} {b : Nat} {cs : List Value} {T : TypeId} (h : Blk W b cs.toArray T) (h8 : cs.length = 8) {L : List Nat} (hc : Chg L W V) (hb : b ∉ L) :
    (Instr.loadAt 46 (.pointer (some ⟨b, 0, none⟩))).run Tryz.prog V = .ok (.agg cs.toArray) V :=
  run_loadAt_mid V b 0 46 cs _ (fun j u hj => by rw [Nat.zero_add]; exact hc.keep (h.cell (by simpa using hj)) hb) Tryz.underlying46 rfl (by rw [h8]; exact objSize)
theorem size_at (k w s c st : Int) (ia : Option Addr) (il ic : Nat) (wr : Int) (ra : Option Addr) (rl rc : Nat) (hs : 0 ≤ s ∧ s ≤ 16) (hw : 0 ≤ w ∧ w ≤ 8) (W : World) :
    Calls Tryz.prog 162 #[.agg #[.int .i64 k, .int .i64 w, .int .i64 s, .int .i64 c, .int .u32 st, .slice ia il ic, .int .i64 wr, .slice ra rl rc]] W fun e W' => e = .returned (.int .i64 (((1 + s * w).toNat : Nat) : Int)) ∧ Chg [] W W' := by
  have hb := mul_bd (c := s) (w := w) (m := 16) ⟨by omega, hs.2⟩ ⟨by omega, hw.2⟩ (by omega)
  have k1 : IntKind.i64.wrap (s * w) = s * w := by rw [IntKind.wrap_i64]; omega
  have k2 : IntKind.i64.wrap (1 + s * w) = 1 + s * w := by rw [IntKind.wrap_i64]; omega
  have HNV : Hid (1 + s * w = ((1 + s * w).toNat : Int)) := Lib.hid (by omega)
  clear hb hs hw
  go_enter Tryz.func162, Tryz.ntmps162
  go_wp2
  go_ret
  exact ⟨congrArg (fun z => Ending.returned (Value.int .i64 z)) HNV.out, (Chg.refl _ _).alloc _⟩
theorem Size_yes (k w s c st : Int) (ia : Option Addr) (il ic : Nat) (wr : Int) (ra : Option Addr) (rl rc : Nat) (wN : Nat) (hw : w = (wN : Int)) (h : ObjW k w s c st il rl) (hr : (decide (k = 4) && rightB k w s c st il rl) = true) (W : World) :
    Calls Tryz.prog 144 #[.agg #[.int .i64 k, .int .i64 w, .int .i64 s, .int .i64 c, .int .u32 st, .slice ia il ic, .int .i64 wr, .slice ra rl rc]] W fun e W' => e = .returned (.int .i64 (((1 + s * w).toNat : Nat) : Int)) ∧ Chg [] W W' := by
  have hk : k = 4 := by simp only [Bool.and_eq_true, decide_eq_true_eq] at hr; exact hr.1
  have hb := rightB_bd (by simp only [Bool.and_eq_true] at hr; exact hr.2)
  have hr2 : rightB k w s c st il rl = true := by simp only [Bool.and_eq_true] at hr; exact hr.2
  have ha := fun V => size_at k w s c st ia il ic wr ra rl rc (by subst hk; simp only [rightB, decide_eq_true_eq] at hr2; omega) (by omega) V
  obtain ⟨N0, hN0⟩ : ∃ N0 : Nat, (1 + s * w).toNat = N0 := ⟨_, rfl⟩
  simp only [hN0] at ha
  rw [hN0]
  have HA := Lib.hid ha
  clear ha hN0
  have HO := Lib.hid h
  have HR := Lib.hid hr
  clear h hr hb hw hk hr2
  go_enter Tryz.func144, Tryz.ntmps144
  go_wp2_with (first | (go_at_call 58; refine (ringRight_any k w s c st ia il ic wr ra rl rc HO.out _).mono ?_; rintro e w1 ⟨rfl, hc⟩; rw [HR.out]; have HC := Lib.hid (((Chg.refl [] W).alloc _).trans hc); have HB := Lib.hid ((Blk.new W #[.int .i64 k, .int .i64 w, .int .i64 s, .int .i64 c, .int .u32 st, .slice ia il ic, .int .i64 wr, .slice ra rl rc] 46).keep hc (by simp)); clear hc; have e0 : w1.cell? ⟨W.heap.size, 0, none⟩ = some (.int .i64 k) := HB.out.cell rfl; have e1 : w1.cell? ⟨W.heap.size, 1, none⟩ = some (.int .i64 w) := HB.out.cell rfl; have e2 : w1.cell? ⟨W.heap.size, 2, none⟩ = some (.int .i64 s) := HB.out.cell rfl; have e3 : w1.cell? ⟨W.heap.size, 3, none⟩ = some (.int .i64 c) := HB.out.cell rfl; have e4 : w1.cell? ⟨W.heap.size, 4, none⟩ = some (.int .u32 st) := HB.out.cell rfl; have e5 : w1.cell? ⟨W.heap.size, 5, none⟩ = some (.slice ia il ic) := HB.out.cell rfl; have e6 : w1.cell? ⟨W.heap.size, 6, none⟩ = some (.int .i64 wr) := HB.out.cell rfl; have e7 : w1.cell? ⟨W.heap.size, 7, none⟩ = some (.slice ra rl rc) := HB.out.cell rfl) | (go_at_call 162; refine (HA.out _).mono ?_; rintro e w2 ⟨rfl, hc⟩; have HC2 := Lib.hid (HC.out.trans hc); clear hc))
  go_ret
  exact ⟨rfl, HC2.out⟩
theorem Size_no (k w s c st : Int) (ia : Option Addr) (il ic : Nat) (wr : Int) (ra : Option Addr) (rl rc : Nat) (h : ObjW k w s c st il rl) (hr : (decide (k = 4) && rightB k w s c st il rl) = false) (W : World) :
    Calls Tryz.prog 144 #[.agg #[.int .i64 k, .int .i64 w, .int .i64 s, .int .i64 c, .int .u32 st, .slice ia il ic, .int .i64 wr, .slice ra rl rc]] W fun e W' => e = .returned (.int .i64 0) ∧ Chg [] W W' := by
  have HO := Lib.hid h
  have HR := Lib.hid hr
  clear h hr
  go_enter Tryz.func144, Tryz.ntmps144
  go_wp2_with (go_at_call 58; refine (ringRight_any k w s c st ia il ic wr ra rl rc HO.out _).mono ?_; rintro e w1 ⟨rfl, hc⟩; rw [HR.out]; have HC := Lib.hid (((Chg.refl [] W).alloc _).trans hc); clear hc)
  go_ret
  exact ⟨rfl, HC.out⟩
/-- the words at the beginning -/
def layL (s w st : Int) (ini : List Int) : List Int := fillL ((List.replicate (1 + s * w).toNat 0).set 0 st) (1 + (st % s) * w).toNat ini
end Go.Proofs.YtkedegbpkkgeaaaGreat.ring
