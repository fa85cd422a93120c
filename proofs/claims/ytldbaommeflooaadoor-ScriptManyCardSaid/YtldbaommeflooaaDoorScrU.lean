/- Scripts: acts as an argument. -/
import Derived.Test.YtldbaommeflooaaDoorScrT
import Derived.Test.YtldbaommeflooaaDoorScrQ
import Derived.Test.YtldbaommeflooaaDoorOpen
namespace Go.Proofs.YtldbaommeflooaaDoor.scr
open Go Go.RowKit Go.Proofs.YtldbaommeflooaaDoor.kit Go.Proofs.YtldbaommeflooaaDoor.word Go.Shelf
set_option linter.unusedVariables false
set_option linter.unusedSimpArgs false
set_option maxRecDepth 20000
theorem cellsInt : Tryd.prog.cellsOf 3 = 1 := by kernel_rfl
theorem act_open {w : World} {n : Nat} {cs : List Value} (h : kit.Opens Tryd.prog w (n + 2) 43 cs) : ∃ a : Ac, cs = a.cells ∧ a.ok := by
  have hl := (h.struct Tryd.underlying43).1
  obtain ⟨k0, h0, w0⟩ := (h.field Tryd.underlying43 0 _ rfl 0 1 rfl cellsInt).int Tryd.underlying3
  obtain ⟨k1, h1, w1⟩ := (h.field Tryd.underlying43 1 _ rfl 1 1 rfl cellsInt).int Tryd.underlying3
  rw [cellsAct] at hl
  refine ⟨⟨k0, k1⟩, ?_, wf_i64 w0, wf_i64 w1⟩
  match cs, hl with
  | [y0, y1], _ => simp at h0 h1; rw [h0, h1]; rfl
theorem acts_open {w : World} {n : Nat} {a : Option Addr} {len cap : Nat} (h : kit.Opens Tryd.prog w (n + 3) 22 [.slice a len cap]) : ∃ l : List Ac, l.length = len ∧ ReadsA w (.slice a len cap) l := by
  obtain ⟨xs, hx, hxe⟩ := h.slice Tryd.underlying22 cellsAct (by decide)
  obtain ⟨rs, hrl, rfl, hrw⟩ := rows_of Ac.cells Ac.ok 2 (fun _ => rfl) len xs hx.1 fun i hi => act_open (hxe i hi)
  exact ⟨rs, hrl, by rw [hrl]; exact hx, hrw⟩
end Go.Proofs.YtldbaommeflooaaDoor.scr
