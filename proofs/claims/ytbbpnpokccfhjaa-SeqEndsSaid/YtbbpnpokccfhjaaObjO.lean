/- An object as an argument. -/
import Derived.Test.YtbbpnpokccfhjaaObjD
namespace Go.Proofs.Ytbbpnpokccfhjaa.obj
open Go Go.RowKit Go.Proofs.Ytbbpnpokccfhjaa.kit
set_option linter.unusedVariables false
set_option maxRecDepth 20000

theorem cellsO : Try.prog.cellsOf 26 = 8 := by kernel_rfl
theorem cellsInt : Try.prog.cellsOf 3 = 1 := by kernel_rfl
theorem cellsU32 : Try.prog.cellsOf 22 = 1 := by kernel_rfl
theorem cellsWs : Try.prog.cellsOf 23 = 1 := by kernel_rfl
theorem cellsIs : Try.prog.cellsOf 24 = 1 := by kernel_rfl
theorem obj_open {w : World} {n : Nat} {cs : List Value} (h : kit.Opens Try.prog w (n + 3) 26 cs) :
    ∃ (k w' s c st : Int) (ia : Option Addr) (il ic : Nat) (wr : Int) (ra : Option Addr) (rl rc : Nat),
      cs = [.int .i64 k, .int .i64 w', .int .i64 s, .int .i64 c, .int .u32 st, .slice ia il ic, .int .i64 wr, .slice ra rl rc] ∧ (il ≤ 100 → rl ≤ 100 → ObjW k w' s c st il rl) := by
  have hl := (h.struct Try.underlying26).1
  obtain ⟨k0, h0, w0⟩ := (h.field Try.underlying26 0 _ rfl 0 1 rfl cellsInt).int Try.underlying3
  obtain ⟨k1, h1, w1⟩ := (h.field Try.underlying26 1 _ rfl 1 1 rfl cellsInt).int Try.underlying3
  obtain ⟨k2, h2, w2⟩ := (h.field Try.underlying26 2 _ rfl 2 1 rfl cellsInt).int Try.underlying3
  obtain ⟨k3, h3, w3⟩ := (h.field Try.underlying26 3 _ rfl 3 1 rfl cellsInt).int Try.underlying3
  obtain ⟨k4, h4, w4⟩ := (h.field Try.underlying26 4 _ rfl 4 1 rfl cellsU32).int Try.underlying22
  obtain ⟨ia, il, ic, h5⟩ := (h.field Try.underlying26 5 _ rfl 5 1 rfl cellsWs).isSlice Try.underlying23 (by rw [cellsU32]; decide)
  obtain ⟨k6, h6, w6⟩ := (h.field Try.underlying26 6 _ rfl 6 1 rfl cellsInt).int Try.underlying3
  obtain ⟨ra, rl, rc, h7⟩ := (h.field Try.underlying26 7 _ rfl 7 1 rfl cellsIs).isSlice Try.underlying24 (by rw [cellsInt]; decide)
  rw [cellsO] at hl
  refine ⟨k0, k1, k2, k3, k4, ia, il, ic, k6, ra, rl, rc, ?_, fun hi hr => ⟨wf_i64 w0, wf_i64 w1, wf_i64 w2, wf_i64 w3, wf_u32 w4, hi, hr⟩⟩
  match cs, hl with
  | [y0, y1, y2, y3, y4, y5, y6, y7], _ => simp at h0 h1 h2 h3 h4 h5 h6 h7; rw [h0, h1, h2, h3, h4, h5, h6, h7]
end Go.Proofs.Ytbbpnpokccfhjaa.obj
