/- Parts joined: Seq3, Seq5, Seq6. -/
import Derived.Test.YtjplamoofkcojaaCoreB
import Derived.Test.YtjplamoofkcojaaObjA
import Derived.Test.YtjplamoofkcojaaRopA
import Derived.Test.YtjplamoofkcojaaGen
import Derived.Test.YtjplamoofkcojaaPlans
/- Package seq: whether it is over, its steps, its answer, its clone. -/
namespace Go.Proofs.Ytjplamoofkcojaa.seq
open Go Go.RowKit Go.Proofs.Ytjplamoofkcojaa.kit Go.Proofs.Ytjplamoofkcojaa.mem Go.Proofs.Ytjplamoofkcojaa.rop Go.Proofs.Ytjplamoofkcojaa.core
set_option linter.unusedVariables false
set_option linter.unusedSimpArgs false
set_option maxRecDepth 20000

end Go.Proofs.Ytjplamoofkcojaa.seq

/- Package seq: how many words there are, and which. -/
namespace Go.Proofs.Ytjplamoofkcojaa.seq
open Go Go.RowKit Go.Proofs.Ytjplamoofkcojaa.kit Go.Proofs.Ytjplamoofkcojaa.mem Go.Proofs.Ytjplamoofkcojaa.rop Go.Proofs.Ytjplamoofkcojaa.core Go.Proofs.Ytjplamoofkcojaa.obj
set_option linter.unusedVariables false
set_option linter.unusedSimpArgs false
set_option maxRecDepth 20000

theorem size_at (k w s c st : Int) (ia : Option Addr) (il ic : Nat) (wr : Int) (ra : Option Addr) (rl rc : Nat) (wN : Nat) (hw : w = (wN : Int)) (hwN : wN ≤ 8) (W : World) :
    Calls Try.prog 113 #[.agg #[.int .i64 k, .int .i64 w, .int .i64 s, .int .i64 c, .int .u32 st, .slice ia il ic, .int .i64 wr, .slice ra rl rc]] W fun e W' => e = .returned (.int .i64 ((1 + wN : Nat) : Int)) ∧ Chg [] W W' := by
  have k2 : IntKind.i64.wrap (1 + (wN : Int)) = 1 + (wN : Int) := by rw [IntKind.wrap_i64]; omega
  subst hw
  clear hwN
  go_enter Try.func113, Try.ntmps113
  go_wp2
  go_ret
  exact ⟨congrArg (fun z => Ending.returned (Value.int .i64 z)) (by omega), (Chg.refl _ _).alloc _⟩
theorem Size_yes (k w s c st : Int) (ia : Option Addr) (il ic : Nat) (wr : Int) (ra : Option Addr) (rl rc : Nat) (wN : Nat) (hw : w = (wN : Int)) (h : ObjW k w s c st il rl) (hr : (decide (k = 3) && rightB k w s c st il rl) = true) (W : World) :
    Calls Try.prog 98 #[.agg #[.int .i64 k, .int .i64 w, .int .i64 s, .int .i64 c, .int .u32 st, .slice ia il ic, .int .i64 wr, .slice ra rl rc]] W fun e W' => e = .returned (.int .i64 ((1 + wN : Nat) : Int)) ∧ Chg [] W W' := by
  have hb := rightB_bd (by simp only [Bool.and_eq_true] at hr; exact hr.2)
  have HW := Lib.hid (show wN ≤ 8 by omega)
  have HE := Lib.hid hw
  have HO := Lib.hid h
  have HR := Lib.hid hr
  clear h hr hb hw
  go_enter Try.func98, Try.ntmps98
  go_wp2_with (first | (go_at_call 91; refine (seqRight_any k w s c st ia il ic wr ra rl rc HO.out _).mono ?_; rintro e w1 ⟨rfl, hc⟩; rw [HR.out]; have HC := Lib.hid (((Chg.refl [] W).alloc _).trans hc); have HB := Lib.hid ((Blk.new W #[.int .i64 k, .int .i64 w, .int .i64 s, .int .i64 c, .int .u32 st, .slice ia il ic, .int .i64 wr, .slice ra rl rc] 26).keep hc (by simp)); clear hc; have e0 : w1.cell? ⟨W.heap.size, 0, none⟩ = some (.int .i64 k) := HB.out.cell rfl; have e1 : w1.cell? ⟨W.heap.size, 1, none⟩ = some (.int .i64 w) := HB.out.cell rfl; have e2 : w1.cell? ⟨W.heap.size, 2, none⟩ = some (.int .i64 s) := HB.out.cell rfl; have e3 : w1.cell? ⟨W.heap.size, 3, none⟩ = some (.int .i64 c) := HB.out.cell rfl; have e4 : w1.cell? ⟨W.heap.size, 4, none⟩ = some (.int .u32 st) := HB.out.cell rfl; have e5 : w1.cell? ⟨W.heap.size, 5, none⟩ = some (.slice ia il ic) := HB.out.cell rfl; have e6 : w1.cell? ⟨W.heap.size, 6, none⟩ = some (.int .i64 wr) := HB.out.cell rfl; have e7 : w1.cell? ⟨W.heap.size, 7, none⟩ = some (.slice ra rl rc) := HB.out.cell rfl) | (go_at_call 113; refine (size_at k w s c st ia il ic wr ra rl rc wN HE.out HW.out _).mono ?_; rintro e w2 ⟨rfl, hc⟩; have HC2 := Lib.hid (HC.out.trans hc); clear hc))
  go_ret
  exact ⟨rfl, HC2.out⟩
theorem Size_no (k w s c st : Int) (ia : Option Addr) (il ic : Nat) (wr : Int) (ra : Option Addr) (rl rc : Nat) (h : ObjW k w s c st il rl) (hr : (decide (k = 3) && rightB k w s c st il rl) = false) (W : World) :
    Calls Try.prog 98 #[.agg #[.int .i64 k, .int .i64 w, .int .i64 s, .int .i64 c, .int .u32 st, .slice ia il ic, .int .i64 wr, .slice ra rl rc]] W fun e W' => e = .returned (.int .i64 0) ∧ Chg [] W W' := by
  have HO := Lib.hid h
  have HR := Lib.hid hr
  clear h hr
  go_enter Try.func98, Try.ntmps98
  go_wp2_with (go_at_call 91; refine (seqRight_any k w s c st ia il ic wr ra rl rc HO.out _).mono ?_; rintro e w1 ⟨rfl, hc⟩; rw [HR.out]; have HC := Lib.hid (((Chg.refl [] W).alloc _).trans hc); clear hc)
  go_ret
  exact ⟨rfl, HC.out⟩
def layL (st : Int) (ini : List Int) : List Int := st :: ini
set_option maxHeartbeats 2000000 in
theorem Lay_yes (k w s c st : Int) (ia : Option Addr) (il ic : Nat) (wr : Int) (ra : Option Addr) (rl rc : Nat) (wN : Nat) (hw : w = (wN : Int)) (ini : List Int) (h : ObjW k w s c st il rl) (hr : (decide (k = 3) && rightB k w s c st il rl) = true) (W : World) (hi : ReadsW W (.slice ia il ic) ini) :
    Calls Try.prog 84 #[.agg #[.int .i64 k, .int .i64 w, .int .i64 s, .int .i64 c, .int .u32 st, .slice ia il ic, .int .i64 wr, .slice ra rl rc]] W fun e W' => ∃ v, e = .returned v ∧ OwnW W' W.heap.size v (layL st ini) ∧ Chg [] W W' := by
  obtain ⟨i0, hi0, hz0, hz1, hz2⟩ := info_parts mem.info32
  have HI0 : Hid (Try.prog.info? 22 = some i0 ∧ i0.zero = some (.int .u32 0) ∧ i0.size = 1 ∧ i0.bytes = 4) := Lib.hid ⟨hi0, hz0, hz1, hz2⟩
  have hil : il = ini.length := by obtain ⟨_, _, he, _⟩ := reads_slice hi.1; simp at he; exact he.2.1
  have HB := Lib.hid (show ini.length ≤ 100 by have := h.ilen; omega)
  have HI := Lib.hid hi
  have HO := Lib.hid h
  have HR := Lib.hid hr
  clear h hr hil hi hi0 hz0 hz1 hz2 hw
  go_enter Try.func84, Try.ntmps84
  go_wp2_with (first
    | (go_at_call 91; refine (seqRight_any k w s c st ia il ic wr ra rl rc HO.out _).mono ?_; rintro e w1 ⟨rfl, hc⟩; rw [HR.out]; have HC := Lib.hid (((Chg.refl [] W).alloc _).trans hc); have HB1 := Lib.hid ((Blk.new W #[.int .i64 k, .int .i64 w, .int .i64 s, .int .i64 c, .int .u32 st, .slice ia il ic, .int .i64 wr, .slice ra rl rc] 26).keep hc (by simp)); clear hc; have e0 : w1.cell? ⟨W.heap.size, 0, none⟩ = some (.int .i64 k) := HB1.out.cell rfl; have e1 : w1.cell? ⟨W.heap.size, 1, none⟩ = some (.int .i64 w) := HB1.out.cell rfl; have e2 : w1.cell? ⟨W.heap.size, 2, none⟩ = some (.int .i64 s) := HB1.out.cell rfl; have e3 : w1.cell? ⟨W.heap.size, 3, none⟩ = some (.int .i64 c) := HB1.out.cell rfl; have e4 : w1.cell? ⟨W.heap.size, 4, none⟩ = some (.int .u32 st) := HB1.out.cell rfl; have e5 : w1.cell? ⟨W.heap.size, 5, none⟩ = some (.slice ia il ic) := HB1.out.cell rfl; have e6 : w1.cell? ⟨W.heap.size, 6, none⟩ = some (.int .i64 wr) := HB1.out.cell rfl; have e7 : w1.cell? ⟨W.heap.size, 7, none⟩ = some (.slice ra rl rc) := HB1.out.cell rfl; have e5a : (w1.alloc (.cells #[.int .u32 st] 22)).cell? ⟨W.heap.size, 5, none⟩ = some (.slice ia il ic) := ((Chg.refl [] w1).alloc _).keep e5 (by simp))
    | ((with_reducible show wpList _ _ _ (⟨some 11, _, _, _, _, _⟩ :: _) _ _); refine wpList_append_any (o := ⟨some 11, _, _, _, _, _⟩) _ rfl (.tmp 8) (.tmp 10) 23 rfl w1.heap.size 22 i0 (.int .u32 0) 1 4 Try.underlying23 HI0.out.1 HI0.out.2.1 HI0.out.2.2.1 HI0.out.2.2.2 rfl (by decide) (.slice (some ⟨w1.heap.size, 0, none⟩) 1 1) 1 [.int .u32 st] rfl (World.ownsRow_lit w1 #[.int .u32 st] 1 (Nat.le_refl _) (by decide) rfl) (.slice ia il ic) ini.length _ rfl ((HI.out.chg HC.out).1.alloc _) (ints_oneCell _ _) (by have := HB.out; unfold maxLen; omega) (by have := HB.out; omega) (by simp) ?_; intro v2 w6 hown2 hg2; have hc2 : Chg [] w1 w6 := ((Chg.refl _ _).alloc _).grown hg2 (by simp [Value.ownBlock]); have HO2 := Lib.hid hown2; have HC2 := Lib.hid (HC.out.trans hc2); have HS2 := Lib.hid HC.out.size; clear hg2 hown2 hc2 e0 e1 e2 e3 e4 e5 e6 e7 e5a))
  go_ret
  refine ⟨_, rfl, ?_, HC2.out⟩
  have h2 := own_base HO2.out HS2.out
  unfold OwnW
  have e : (layL st ini).length = 1 + ini.length := by simp [layL]; omega
  rw [e]
  exact h2
theorem Lay_no (k w s c st : Int) (ia : Option Addr) (il ic : Nat) (wr : Int) (ra : Option Addr) (rl rc : Nat) (h : ObjW k w s c st il rl) (hr : (decide (k = 3) && rightB k w s c st il rl) = false) (W : World) :
    Calls Try.prog 84 #[.agg #[.int .i64 k, .int .i64 w, .int .i64 s, .int .i64 c, .int .u32 st, .slice ia il ic, .int .i64 wr, .slice ra rl rc]] W fun e W' => ∃ v, e = .returned v ∧ OwnW W' W.heap.size v [] ∧ Chg [] W W' := by
  have HO := Lib.hid h
  have HR := Lib.hid hr
  clear h hr
  go_enter Try.func84, Try.ntmps84
  go_wp2_with (go_at_call 91; refine (seqRight_any k w s c st ia il ic wr ra rl rc HO.out _).mono ?_; rintro e w1 ⟨rfl, hc⟩; rw [HR.out]; have HC := Lib.hid (((Chg.refl [] W).alloc _).trans hc); clear hc)
  go_ret
  exact ⟨_, rfl, ⟨by simp, .inl ⟨rfl, rfl⟩⟩, HC.out⟩
end Go.Proofs.Ytjplamoofkcojaa.seq

/- Package seq: an operation is begun. -/
namespace Go.Proofs.Ytjplamoofkcojaa.seq
open Go Go.RowKit Go.Proofs.Ytjplamoofkcojaa.kit Go.Proofs.Ytjplamoofkcojaa.mem Go.Proofs.Ytjplamoofkcojaa.rop Go.Proofs.Ytjplamoofkcojaa.core Go.Proofs.Ytjplamoofkcojaa.obj
set_option linter.unusedVariables false
set_option linter.unusedSimpArgs false
set_option maxRecDepth 20000

end Go.Proofs.Ytjplamoofkcojaa.seq
