/- Package isa: arguments that are rows of instructions, or of bytes. -/
import Derived.Test.YtihgljfiggdcpaaIsa9
namespace Go.Proofs.Ytihgljfiggdcpaa.isa
open Go Go.RowKit Go.Proofs.Ytihgljfiggdcpaa.kit Go.Proofs.Ytihgljfiggdcpaa.codec
set_option linter.unusedVariables false
set_option maxRecDepth 20000

theorem cellsI : Try.prog.cellsOf 60 = 5 := by kernel_rfl
theorem cellsU8 : Try.prog.cellsOf 5 = 1 := by kernel_rfl
theorem cellsInt : Try.prog.cellsOf 3 = 1 := by kernel_rfl
theorem cellsU32 : Try.prog.cellsOf 23 = 1 := by kernel_rfl
theorem ins_open {w : World} {n : Nat} {cs : List Value} (h : kit.Opens Try.prog w (n + 2) 60 cs) : ∃ i : Ins, cs = i.cells ∧ i.wf := by
  have hl := (h.struct Try.underlying60).1
  obtain ⟨k0, h0, w0⟩ := (h.field Try.underlying60 0 _ rfl 0 1 rfl cellsInt).int Try.underlying3
  obtain ⟨k1, h1, w1⟩ := (h.field Try.underlying60 1 _ rfl 1 1 rfl cellsInt).int Try.underlying3
  obtain ⟨k2, h2, w2⟩ := (h.field Try.underlying60 2 _ rfl 2 1 rfl cellsInt).int Try.underlying3
  obtain ⟨k3, h3, w3⟩ := (h.field Try.underlying60 3 _ rfl 3 1 rfl cellsInt).int Try.underlying3
  obtain ⟨k4, h4, w4⟩ := (h.field Try.underlying60 4 _ rfl 4 1 rfl cellsU32).int Try.underlying23
  rw [cellsI] at hl
  refine ⟨⟨k0, k1, k2, k3, k4⟩, ?_, w0, w1, w2, w3, w4⟩
  match cs, hl with
  | [y0, y1, y2, y3, y4], _ => simp at h0 h1 h2 h3 h4; rw [h0, h1, h2, h3, h4]; rfl
theorem ins_of {w : World} {n : Nat} {a : Option Addr} {len cap : Nat} (h : kit.Opens Try.prog w (n + 3) 50 [.slice a len cap]) : ∃ p : List Ins, p.length = len ∧ ReadsI w (.slice a len cap) p ∧ ∀ i ∈ p, i.wf := by
  obtain ⟨xs, hx, hxe⟩ := h.slice Try.underlying50 cellsI (by decide)
  obtain ⟨rs, hrl, rfl, hrw⟩ := rows_of Ins.cells Ins.wf 5 (fun _ => rfl) len xs hx.1 fun i hi => ins_open (hxe i hi)
  exact ⟨rs, hrl, ⟨by rw [hrl]; exact hx, fun i hi => (hrw i hi).2.2.2.2⟩, hrw⟩
theorem bytes_of {w : World} {n : Nat} {a : Option Addr} {len cap : Nat} (h : kit.Opens Try.prog w (n + 2) 51 [.slice a len cap]) : ∃ zs : List Int, zs.length = len ∧ ReadsB w (.slice a len cap) zs := by
  obtain ⟨zs, hzl, hr, hwz⟩ := h.ints Try.underlying51 Try.underlying5 cellsU8
  exact ⟨zs, hzl, hr, hwz⟩
end Go.Proofs.Ytihgljfiggdcpaa.isa
