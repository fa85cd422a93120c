import Derived.Test.YtphfnjcboellhaaGreatDoorRows
import Derived.Test.YtphfnjcboellhaaGreatDoorTab
import Derived.LaidHandle
import Derived.LaidMore
import Derived.ProofKit
import Derived.OpenShut
namespace Go.Proofs.YtphfnjcboellhaaGreatDoor.bitm
open Go Go.RowKit kit
set_option maxRecDepth 20000
abbrev laids : List (String × DataW Unit) := [("math/bits.deBruijn64tab", Rows.laid_math_bits_deBruijn64tab)]
theorem gTab : Tryz.prog.globalNamed "math/bits.deBruijn64tab" = some 0 := by kernel_rfl
theorem door_met (os : Os) (args : Array Value) : laidMetH Tryz.prog laids ((World.doorLaid Tryz.prog 14 os).forCall (fun _ _ => 0) ⟨#[], args, []⟩).memory :=
 laidMetH_of_parts3 (fuel := 8) (laidMet_of_run' 8 (by kernel_rfl) (by kernel_rfl)) (by kernel_rfl) (by kernel_rfl)
theorem tTab : (Tryz.prog.globals[0]?).map (·.type) = some 158 := by kernel_rfl
theorem tab_data : (match (Rows.laid_math_bits_deBruijn64tab : DataW Unit) with | .agg l => l | _ => []) = Lib.deBruijn64tab.map fun n : Nat => DataW.lit (.int .u8 (n : Int)) := by kernel_rfl
theorem tab_agg : ∃ l, (Rows.laid_math_bits_deBruijn64tab : DataW Unit) = .agg l /\ l = Lib.deBruijn64tab.map fun n : Nat => DataW.lit (.int .u8 (n : Int)) := ⟨_, rfl, tab_data⟩
theorem tab_of_laid {W : World} (h : laidMetH Tryz.prog laids W) : Tab W := by
 rw [MakeChecks.laidMetH_plain _ _ _ (by kernel_rfl)] at h
 obtain ⟨ps, ⟨g0, t0, cs0, f0, p0, q0, hg0, ht0, hv0, hd0, _, _⟩, _, _⟩ := h
 obtain rfl := Option.some.inj (gTab.symm.trans hg0)
 obtain rfl := Option.some.inj (tTab.symm.trans ht0)
 obtain ⟨l, hl, hll⟩ := tab_agg
 rw [hl] at hd0
 obtain ⟨xs, m1, _, hx1, _, hn, hel⟩ := DataW.trod_array Tryz.underlying158 hd0
 simp only [Prod.mk.injEq, DataW.agg.injEq] at hx1
 have c1 : Tryz.prog.cellsOf 5 = 1 := by kernel_rfl
 have hlen : Lib.deBruijn64tab.length = 64 := by decide
 intro j hj
 have h1 := hel j hj
 have hjx : j < xs.length := by omega
 rw [List.getElem?_eq_getElem hjx] at h1
 obtain ⟨k, e1, e2, _⟩ := DataW.trod_int Tryz.underlying5 h1
 have h2 : (xs.map (·.1))[j]? = some (.lit (.int .u8 k)) := by rw [List.getElem?_map, List.getElem?_eq_getElem hjx, e2]; rfl
 rw [<- hx1.1, hll, List.getElem?_map, List.getElem?_eq_getElem (by omega : j < Lib.deBruijn64tab.length)] at h2
 have hk : k = (Lib.deBruijn64tab.getD j 0 : Nat) := by
  simp only [Option.map_some, Option.some.injEq, DataW.lit.injEq, Lit.int.injEq, true_and] at h2
  rw [<- h2]
  simp [List.getD, hlen, hj]
 have h3 := World.var?_cell hg0 hv0 j
 rw [h3]
 rw [c1, Nat.mul_one] at e1
 have h4 : cs0.toList[j]? = some (.int .u8 k) := by
  have h5 : (cs0.toList.drop j)[0]? = some (.int .u8 k) := by
   have h6 : ((cs0.toList.drop j).take 1)[0]? = some (.int .u8 k) := by rw [e1]; rfl
   rwa [List.getElem?_take_of_lt (by omega)] at h6
  rwa [List.getElem?_drop, Nat.add_zero] at h5
 rw [<- Array.getElem?_toList, h4, hk]
end Go.Proofs.YtphfnjcboellhaaGreatDoor.bitm
