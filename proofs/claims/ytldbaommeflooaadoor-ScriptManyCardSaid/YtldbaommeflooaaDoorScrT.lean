/- Scripts: what the row's condition gives: strconv's table lies in its variable; a world that meets the condition. -/
import Derived.Test.YtldbaommeflooaaDoorRows
import Derived.Test.YtldbaommeflooaaDoorScrC
import Derived.LaidHandle
import Derived.LaidMore
import Derived.ProofKit
import Derived.OpenShut
import Derived.Lib.LaidTab
namespace Go.Proofs.YtldbaommeflooaaDoor.scr
open Go Go.RowKit Go.Proofs.YtldbaommeflooaaDoor.kit
set_option linter.unusedVariables false
set_option linter.unusedSimpArgs false
set_option maxRecDepth 20000
abbrev laids : List (String × DataW Unit) := [("math/bits.deBruijn32tab", Rows.laid_math_bits_deBruijn32tab), ("math/bits.deBruijn64tab", Rows.laid_math_bits_deBruijn64tab), ("internal/strconv.uint64pow10", Rows.laid_internal_strconv_uint64pow10)]
theorem door_met (os : Os) (args : Array Value) : laidMetH Tryd.prog laids ((World.doorLaid Tryd.prog 14 os).forCall (fun _ _ => 0) ⟨#[], args, []⟩).memory :=
  laidMetH_of_parts3 (fuel := 8) (laidMet_of_run' 8 (by kernel_rfl) (by kernel_rfl)) (by kernel_rfl) (by kernel_rfl)
theorem pow_data : (Rows.laid_internal_strconv_uint64pow10 : DataW Unit) = Lib.tabData .u64 Lib.pow10Tab := by kernel_rfl
theorem tab_of_laid {W : World} (h : laidMetH Tryd.prog laids W) : TabS W := by
  rw [MakeChecks.laidMetH_plain _ _ _ (by kernel_rfl)] at h
  obtain ⟨ps, hL, _⟩ := h
  obtain ⟨g1, t1, cs1, f1, p1, q1, _, _, _, _, hL, _⟩ := hL
  obtain ⟨g2, t2, cs2, f2, p2, q2, _, _, _, _, hL, _⟩ := hL
  obtain ⟨g3, t3, cs3, f3, p3, q3, hg, ht, hv, hd, hL, _⟩ := hL
  obtain rfl := Option.some.inj ((show Tryd.prog.globalNamed "internal/strconv.uint64pow10" = some 1 by kernel_rfl).symm.trans hg)
  obtain rfl := Option.some.inj ((show (Tryd.prog.globals[1]?).map (·.type) = some 87 by kernel_rfl).symm.trans ht)
  rw [pow_data] at hd
  unfold TabS Lib.TabIs
  rw [hv, ← Lib.cells_of_tab Tryd.underlying87 Tryd.underlying81 (by kernel_rfl) (by kernel_rfl) hd]
end Go.Proofs.YtldbaommeflooaaDoor.scr
