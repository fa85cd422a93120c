/-
  coxswainlaw15.ChenShapes returns true for every o and op: whether any object is one of this kind, its words, how many they are, and how many steps its operations have. No conditions.
-/
import Derived.Test.YtapaolaemkhbdaaDoorRows
import Derived.WalkKit
import Derived.ProofKit
import Derived.OpenShut
import Derived.ShutString
import Derived.ChangeOld
import Derived.Below
import Derived.Test.YtapaolaemkhbdaaDoorOpen
import Derived.Test.YtapaolaemkhbdaaDoorTab2
import Derived.Test.YtapaolaemkhbdaaDoorCards
import Derived.Test.YtapaolaemkhbdaaDoorTie
import Derived.SevenTiedAt
import Derived.Stop.Joined
import Derived.Test.YtapaolaemkhbdaaDoorChen4
import Derived.Test.YtapaolaemkhbdaaDoorRopL
import Derived.Test.YtapaolaemkhbdaaDoorObj3
import Derived.Test.YtapaolaemkhbdaaDoorObj4
import Derived.Test.YtapaolaemkhbdaaDoorCaseA
import Derived.Test.YtapaolaemkhbdaaDoorObjA
namespace Go.Proofs.YtapaolaemkhbdaaDoor.chenShapes
open Go.ChangeShapes Go.WideShapes Go.ChangeAt Go.RowKit
open Go.ChangeMaps (open_string shut_string)
set_option linter.unusedVariables false
open Go.Proofs.YtapaolaemkhbdaaDoor.kit Go.Proofs.YtapaolaemkhbdaaDoor.obj Go.Proofs.YtapaolaemkhbdaaDoor.mem Go.Proofs.YtapaolaemkhbdaaDoor.core
set_option linter.unusedSimpArgs false
set_option maxRecDepth 100000
theorem fill0_mem {N F : Nat} {z : Int} {ini : List Int} (h : z ∈ mem.fillL (List.replicate N 0) F ini) : z = 0 ∨ z ∈ ini := by
  simp only [mem.fillL, List.mem_append] at h
  rcases h with h | h | h
  · exact .inl (List.eq_of_mem_replicate (List.mem_of_mem_take h))
  · exact .inr h
  · exact .inl (List.eq_of_mem_replicate (List.mem_of_mem_drop h))
set_option maxHeartbeats 4000000 in
theorem big (k w s c st : Int) (ia : Option Addr) (il ic : Nat) (wri : Int) (ra : Option Addr) (rl rc : Nat) (op : Int) (h : ¬ (il ≤ 100 ∧ rl ≤ 100)) (W : World) (hT : bitm.Tab W) :
    Calls Tryd.prog 4 #[.agg #[.int .i64 k, .int .i64 w, .int .i64 s, .int .i64 c, .int .u32 st, .slice ia il ic, .int .i64 wri, .slice ra rl rc], .int .i64 op] W fun e W' => e = .returned (.bool true) ∧ Below W.heap.size W W' := by
  have HSM := Lib.hid (decide_eq_false h)
  have HT := Lib.hid hT
  clear h hT
  go_enter Tryd.func4, Tryd.ntmps4
  go_wp2_with (first | (go_at_call 13; refine (small_any k w s c st ia il ic wri ra rl rc _).mono ?_; rintro e w1 ⟨rfl, hc1⟩; rw [HSM.out]) | (go_at_call 24; refine (chen.awake_any _ (HT.out.keep (((Chg.refl _ _).alloc _).trans hc1))).mono ?_; rintro e w2 ⟨rfl, hc2⟩))
  go_ret
  exact ⟨rfl, ((((Chg.refl _ _).alloc _).trans hc1).trans hc2).below⟩

set_option maxHeartbeats 8000000 in
theorem wrong (k w s c st : Int) (ia : Option Addr) (il ic : Nat) (wri : Int) (ra : Option Addr) (rl rc : Nat) (op : Int) (h : ObjW k w s c st il rl) (hr : (decide (k = 2) && rightB k w s c st il rl) = false) (W : World) (hT : bitm.Tab W) :
    Calls Tryd.prog 4 #[.agg #[.int .i64 k, .int .i64 w, .int .i64 s, .int .i64 c, .int .u32 st, .slice ia il ic, .int .i64 wri, .slice ra rl rc], .int .i64 op] W fun e W' => e = .returned (.bool true) ∧ Below W.heap.size W W' := by
  have HSM : Hid (decide (il ≤ 100 ∧ rl ≤ 100) = true) := Lib.hid (decide_eq_true ⟨h.ilen, h.rlen⟩)
  have HT := Lib.hid hT
  clear hT
  have hbn := fun u => chenBound_any k w s c st ia il ic wri ra rl rc op h u
  have hrt := fun u => chenRight_any k w s c st ia il ic wri ra rl rc h u
  simp only [hr] at hbn hrt
  have HSZ := Lib.hid (fun u => chen.Size_no k w s c st ia il ic wri ra rl rc h hr u)
  have HLY := Lib.hid (fun u => chen.Lay_no k w s c st ia il ic wri ra rl rc h hr u)
  have HBN := Lib.hid hbn
  have HRT := Lib.hid hrt
  have HRR := Lib.hid (fun u => rRight_any k w s c st ia il ic wri ra rl rc h u)
  clear hbn hrt
  have key : ∀ b, (k == 2) = b → (b = true → rightB k w s c st il rl = false) → Calls Tryd.prog 4 #[.agg #[.int .i64 k, .int .i64 w, .int .i64 s, .int .i64 c, .int .u32 st, .slice ia il ic, .int .i64 wri, .slice ra rl rc], .int .i64 op] W fun e W' => e = .returned (.bool true) ∧ Below W.heap.size W W' := by
    intro b hb hbr
    clear h hr
    have HBX : Hid (Blk (W.alloc (.cells #[.int .i64 k, .int .i64 w, .int .i64 s, .int .i64 c, .int .u32 st, .slice ia il ic, .int .i64 wri, .slice ra rl rc] 26)) W.heap.size #[.int .i64 k, .int .i64 w, .int .i64 s, .int .i64 c, .int .u32 st, .slice ia il ic, .int .i64 wri, .slice ra rl rc] 26) := Lib.hid (Blk.new W _ _)
    have HCC : Hid (Chg [] W (W.alloc (.cells #[.int .i64 k, .int .i64 w, .int .i64 s, .int .i64 c, .int .u32 st, .slice ia il ic, .int .i64 wri, .slice ra rl rc] 26))) := Lib.hid ((Chg.refl _ _).alloc _)
    cases b
    · clear hbr
      go_enter Tryd.func4, Tryd.ntmps4
      go_wp2_with (first | (go_at_call 13; refine (small_any k w s c st ia il ic wri ra rl rc _).mono ?_; rintro e wx ⟨rfl, hcx⟩; rw [HSM.out]; have HCC := Lib.hid (HCC.out.trans hcx); have HBX := Lib.hid (HBX.out.keep hcx (by simp)); clear hcx; have e0 : wx.cell? ⟨W.heap.size, 0, none⟩ = some (.int .i64 k) := HBX.out.cell rfl; have e1 : wx.cell? ⟨W.heap.size, 1, none⟩ = some (.int .i64 w) := HBX.out.cell rfl; have e2 : wx.cell? ⟨W.heap.size, 2, none⟩ = some (.int .i64 s) := HBX.out.cell rfl; have e3 : wx.cell? ⟨W.heap.size, 3, none⟩ = some (.int .i64 c) := HBX.out.cell rfl; have e4 : wx.cell? ⟨W.heap.size, 4, none⟩ = some (.int .u32 st) := HBX.out.cell rfl; have e5 : wx.cell? ⟨W.heap.size, 5, none⟩ = some (.slice ia il ic) := HBX.out.cell rfl; have e6 : wx.cell? ⟨W.heap.size, 6, none⟩ = some (.int .i64 wri) := HBX.out.cell rfl; have e7 : wx.cell? ⟨W.heap.size, 7, none⟩ = some (.slice ra rl rc) := HBX.out.cell rfl) | (go_at_call 25; refine (HRT.out _).mono ?_; rintro e wx ⟨rfl, hcx⟩; have HCC := Lib.hid (HCC.out.trans hcx); have HBX := Lib.hid (HBX.out.keep hcx (by simp)); clear hcx e0 e1 e2 e3 e4 e5 e6 e7; have e0 : wx.cell? ⟨W.heap.size, 0, none⟩ = some (.int .i64 k) := HBX.out.cell rfl; have e1 : wx.cell? ⟨W.heap.size, 1, none⟩ = some (.int .i64 w) := HBX.out.cell rfl; have e2 : wx.cell? ⟨W.heap.size, 2, none⟩ = some (.int .i64 s) := HBX.out.cell rfl; have e3 : wx.cell? ⟨W.heap.size, 3, none⟩ = some (.int .i64 c) := HBX.out.cell rfl; have e4 : wx.cell? ⟨W.heap.size, 4, none⟩ = some (.int .u32 st) := HBX.out.cell rfl; have e5 : wx.cell? ⟨W.heap.size, 5, none⟩ = some (.slice ia il ic) := HBX.out.cell rfl; have e6 : wx.cell? ⟨W.heap.size, 6, none⟩ = some (.int .i64 wri) := HBX.out.cell rfl; have e7 : wx.cell? ⟨W.heap.size, 7, none⟩ = some (.slice ra rl rc) := HBX.out.cell rfl) | (go_at_call 26; refine (HSZ.out _).mono ?_; rintro e wx ⟨rfl, hcx⟩; have HCC := Lib.hid (HCC.out.trans hcx); have HBX := Lib.hid (HBX.out.keep hcx (by simp)); clear hcx e0 e1 e2 e3 e4 e5 e6 e7; have e0 : wx.cell? ⟨W.heap.size, 0, none⟩ = some (.int .i64 k) := HBX.out.cell rfl; have e1 : wx.cell? ⟨W.heap.size, 1, none⟩ = some (.int .i64 w) := HBX.out.cell rfl; have e2 : wx.cell? ⟨W.heap.size, 2, none⟩ = some (.int .i64 s) := HBX.out.cell rfl; have e3 : wx.cell? ⟨W.heap.size, 3, none⟩ = some (.int .i64 c) := HBX.out.cell rfl; have e4 : wx.cell? ⟨W.heap.size, 4, none⟩ = some (.int .u32 st) := HBX.out.cell rfl; have e5 : wx.cell? ⟨W.heap.size, 5, none⟩ = some (.slice ia il ic) := HBX.out.cell rfl; have e6 : wx.cell? ⟨W.heap.size, 6, none⟩ = some (.int .i64 wri) := HBX.out.cell rfl; have e7 : wx.cell? ⟨W.heap.size, 7, none⟩ = some (.slice ra rl rc) := HBX.out.cell rfl) | (go_at_call 27; refine (HLY.out _).mono ?_; rintro e wx ⟨v9, rfl, ho9, hcx⟩; obtain ⟨a9, c9, rfl, _⟩ := reads_slice (Reads.of_own ho9 (by decide)); have HCC := Lib.hid (HCC.out.trans hcx); have HBX := Lib.hid (HBX.out.keep hcx (by simp)); clear hcx ho9 e0 e1 e2 e3 e4 e5 e6 e7; have e0 : wx.cell? ⟨W.heap.size, 0, none⟩ = some (.int .i64 k) := HBX.out.cell rfl; have e1 : wx.cell? ⟨W.heap.size, 1, none⟩ = some (.int .i64 w) := HBX.out.cell rfl; have e2 : wx.cell? ⟨W.heap.size, 2, none⟩ = some (.int .i64 s) := HBX.out.cell rfl; have e3 : wx.cell? ⟨W.heap.size, 3, none⟩ = some (.int .i64 c) := HBX.out.cell rfl; have e4 : wx.cell? ⟨W.heap.size, 4, none⟩ = some (.int .u32 st) := HBX.out.cell rfl; have e5 : wx.cell? ⟨W.heap.size, 5, none⟩ = some (.slice ia il ic) := HBX.out.cell rfl; have e6 : wx.cell? ⟨W.heap.size, 6, none⟩ = some (.int .i64 wri) := HBX.out.cell rfl; have e7 : wx.cell? ⟨W.heap.size, 7, none⟩ = some (.slice ra rl rc) := HBX.out.cell rfl) | (go_at_call 28; refine (HBN.out _).mono ?_; rintro e wx ⟨rfl, hcx⟩; have HCC := Lib.hid (HCC.out.trans hcx); have HBX := Lib.hid (HBX.out.keep hcx (by simp)); clear hcx e0 e1 e2 e3 e4 e5 e6 e7; have e0 : wx.cell? ⟨W.heap.size, 0, none⟩ = some (.int .i64 k) := HBX.out.cell rfl; have e1 : wx.cell? ⟨W.heap.size, 1, none⟩ = some (.int .i64 w) := HBX.out.cell rfl; have e2 : wx.cell? ⟨W.heap.size, 2, none⟩ = some (.int .i64 s) := HBX.out.cell rfl; have e3 : wx.cell? ⟨W.heap.size, 3, none⟩ = some (.int .i64 c) := HBX.out.cell rfl; have e4 : wx.cell? ⟨W.heap.size, 4, none⟩ = some (.int .u32 st) := HBX.out.cell rfl; have e5 : wx.cell? ⟨W.heap.size, 5, none⟩ = some (.slice ia il ic) := HBX.out.cell rfl; have e6 : wx.cell? ⟨W.heap.size, 6, none⟩ = some (.int .i64 wri) := HBX.out.cell rfl; have e7 : wx.cell? ⟨W.heap.size, 7, none⟩ = some (.slice ra rl rc) := HBX.out.cell rfl) | (go_at_call 24; refine (chen.awake_any _ (HT.out.keep HCC.out)).mono ?_; rintro e wx ⟨rfl, hcx⟩; have HCC := Lib.hid (HCC.out.trans hcx); have HBX := Lib.hid (HBX.out.keep hcx (by simp)); clear hcx e0 e1 e2 e3 e4 e5 e6 e7; have e0 : wx.cell? ⟨W.heap.size, 0, none⟩ = some (.int .i64 k) := HBX.out.cell rfl; have e1 : wx.cell? ⟨W.heap.size, 1, none⟩ = some (.int .i64 w) := HBX.out.cell rfl; have e2 : wx.cell? ⟨W.heap.size, 2, none⟩ = some (.int .i64 s) := HBX.out.cell rfl; have e3 : wx.cell? ⟨W.heap.size, 3, none⟩ = some (.int .i64 c) := HBX.out.cell rfl; have e4 : wx.cell? ⟨W.heap.size, 4, none⟩ = some (.int .u32 st) := HBX.out.cell rfl; have e5 : wx.cell? ⟨W.heap.size, 5, none⟩ = some (.slice ia il ic) := HBX.out.cell rfl; have e6 : wx.cell? ⟨W.heap.size, 6, none⟩ = some (.int .i64 wri) := HBX.out.cell rfl; have e7 : wx.cell? ⟨W.heap.size, 7, none⟩ = some (.slice ra rl rc) := HBX.out.cell rfl))
      go_ret
      exact ⟨rfl, HCC.out.below⟩
    · have hbr := hbr rfl
      rw [hbr] at HRR
      clear hbr
      go_enter Tryd.func4, Tryd.ntmps4
      go_wp2_with (first | (go_at_call 13; refine (small_any k w s c st ia il ic wri ra rl rc _).mono ?_; rintro e wx ⟨rfl, hcx⟩; rw [HSM.out]; have HCC := Lib.hid (HCC.out.trans hcx); have HBX := Lib.hid (HBX.out.keep hcx (by simp)); clear hcx; have e0 : wx.cell? ⟨W.heap.size, 0, none⟩ = some (.int .i64 k) := HBX.out.cell rfl; have e1 : wx.cell? ⟨W.heap.size, 1, none⟩ = some (.int .i64 w) := HBX.out.cell rfl; have e2 : wx.cell? ⟨W.heap.size, 2, none⟩ = some (.int .i64 s) := HBX.out.cell rfl; have e3 : wx.cell? ⟨W.heap.size, 3, none⟩ = some (.int .i64 c) := HBX.out.cell rfl; have e4 : wx.cell? ⟨W.heap.size, 4, none⟩ = some (.int .u32 st) := HBX.out.cell rfl; have e5 : wx.cell? ⟨W.heap.size, 5, none⟩ = some (.slice ia il ic) := HBX.out.cell rfl; have e6 : wx.cell? ⟨W.heap.size, 6, none⟩ = some (.int .i64 wri) := HBX.out.cell rfl; have e7 : wx.cell? ⟨W.heap.size, 7, none⟩ = some (.slice ra rl rc) := HBX.out.cell rfl) | (go_at_call 15; refine (HRR.out _).mono ?_; rintro e wx ⟨rfl, hcx⟩; have HCC := Lib.hid (HCC.out.trans hcx); have HBX := Lib.hid (HBX.out.keep hcx (by simp)); clear hcx e0 e1 e2 e3 e4 e5 e6 e7; have e0 : wx.cell? ⟨W.heap.size, 0, none⟩ = some (.int .i64 k) := HBX.out.cell rfl; have e1 : wx.cell? ⟨W.heap.size, 1, none⟩ = some (.int .i64 w) := HBX.out.cell rfl; have e2 : wx.cell? ⟨W.heap.size, 2, none⟩ = some (.int .i64 s) := HBX.out.cell rfl; have e3 : wx.cell? ⟨W.heap.size, 3, none⟩ = some (.int .i64 c) := HBX.out.cell rfl; have e4 : wx.cell? ⟨W.heap.size, 4, none⟩ = some (.int .u32 st) := HBX.out.cell rfl; have e5 : wx.cell? ⟨W.heap.size, 5, none⟩ = some (.slice ia il ic) := HBX.out.cell rfl; have e6 : wx.cell? ⟨W.heap.size, 6, none⟩ = some (.int .i64 wri) := HBX.out.cell rfl; have e7 : wx.cell? ⟨W.heap.size, 7, none⟩ = some (.slice ra rl rc) := HBX.out.cell rfl) | (go_at_call 25; refine (HRT.out _).mono ?_; rintro e wx ⟨rfl, hcx⟩; have HCC := Lib.hid (HCC.out.trans hcx); have HBX := Lib.hid (HBX.out.keep hcx (by simp)); clear hcx e0 e1 e2 e3 e4 e5 e6 e7; have e0 : wx.cell? ⟨W.heap.size, 0, none⟩ = some (.int .i64 k) := HBX.out.cell rfl; have e1 : wx.cell? ⟨W.heap.size, 1, none⟩ = some (.int .i64 w) := HBX.out.cell rfl; have e2 : wx.cell? ⟨W.heap.size, 2, none⟩ = some (.int .i64 s) := HBX.out.cell rfl; have e3 : wx.cell? ⟨W.heap.size, 3, none⟩ = some (.int .i64 c) := HBX.out.cell rfl; have e4 : wx.cell? ⟨W.heap.size, 4, none⟩ = some (.int .u32 st) := HBX.out.cell rfl; have e5 : wx.cell? ⟨W.heap.size, 5, none⟩ = some (.slice ia il ic) := HBX.out.cell rfl; have e6 : wx.cell? ⟨W.heap.size, 6, none⟩ = some (.int .i64 wri) := HBX.out.cell rfl; have e7 : wx.cell? ⟨W.heap.size, 7, none⟩ = some (.slice ra rl rc) := HBX.out.cell rfl) | (go_at_call 26; refine (HSZ.out _).mono ?_; rintro e wx ⟨rfl, hcx⟩; have HCC := Lib.hid (HCC.out.trans hcx); have HBX := Lib.hid (HBX.out.keep hcx (by simp)); clear hcx e0 e1 e2 e3 e4 e5 e6 e7; have e0 : wx.cell? ⟨W.heap.size, 0, none⟩ = some (.int .i64 k) := HBX.out.cell rfl; have e1 : wx.cell? ⟨W.heap.size, 1, none⟩ = some (.int .i64 w) := HBX.out.cell rfl; have e2 : wx.cell? ⟨W.heap.size, 2, none⟩ = some (.int .i64 s) := HBX.out.cell rfl; have e3 : wx.cell? ⟨W.heap.size, 3, none⟩ = some (.int .i64 c) := HBX.out.cell rfl; have e4 : wx.cell? ⟨W.heap.size, 4, none⟩ = some (.int .u32 st) := HBX.out.cell rfl; have e5 : wx.cell? ⟨W.heap.size, 5, none⟩ = some (.slice ia il ic) := HBX.out.cell rfl; have e6 : wx.cell? ⟨W.heap.size, 6, none⟩ = some (.int .i64 wri) := HBX.out.cell rfl; have e7 : wx.cell? ⟨W.heap.size, 7, none⟩ = some (.slice ra rl rc) := HBX.out.cell rfl) | (go_at_call 27; refine (HLY.out _).mono ?_; rintro e wx ⟨v9, rfl, ho9, hcx⟩; obtain ⟨a9, c9, rfl, _⟩ := reads_slice (Reads.of_own ho9 (by decide)); have HCC := Lib.hid (HCC.out.trans hcx); have HBX := Lib.hid (HBX.out.keep hcx (by simp)); clear hcx ho9 e0 e1 e2 e3 e4 e5 e6 e7; have e0 : wx.cell? ⟨W.heap.size, 0, none⟩ = some (.int .i64 k) := HBX.out.cell rfl; have e1 : wx.cell? ⟨W.heap.size, 1, none⟩ = some (.int .i64 w) := HBX.out.cell rfl; have e2 : wx.cell? ⟨W.heap.size, 2, none⟩ = some (.int .i64 s) := HBX.out.cell rfl; have e3 : wx.cell? ⟨W.heap.size, 3, none⟩ = some (.int .i64 c) := HBX.out.cell rfl; have e4 : wx.cell? ⟨W.heap.size, 4, none⟩ = some (.int .u32 st) := HBX.out.cell rfl; have e5 : wx.cell? ⟨W.heap.size, 5, none⟩ = some (.slice ia il ic) := HBX.out.cell rfl; have e6 : wx.cell? ⟨W.heap.size, 6, none⟩ = some (.int .i64 wri) := HBX.out.cell rfl; have e7 : wx.cell? ⟨W.heap.size, 7, none⟩ = some (.slice ra rl rc) := HBX.out.cell rfl) | (go_at_call 28; refine (HBN.out _).mono ?_; rintro e wx ⟨rfl, hcx⟩; have HCC := Lib.hid (HCC.out.trans hcx); have HBX := Lib.hid (HBX.out.keep hcx (by simp)); clear hcx e0 e1 e2 e3 e4 e5 e6 e7; have e0 : wx.cell? ⟨W.heap.size, 0, none⟩ = some (.int .i64 k) := HBX.out.cell rfl; have e1 : wx.cell? ⟨W.heap.size, 1, none⟩ = some (.int .i64 w) := HBX.out.cell rfl; have e2 : wx.cell? ⟨W.heap.size, 2, none⟩ = some (.int .i64 s) := HBX.out.cell rfl; have e3 : wx.cell? ⟨W.heap.size, 3, none⟩ = some (.int .i64 c) := HBX.out.cell rfl; have e4 : wx.cell? ⟨W.heap.size, 4, none⟩ = some (.int .u32 st) := HBX.out.cell rfl; have e5 : wx.cell? ⟨W.heap.size, 5, none⟩ = some (.slice ia il ic) := HBX.out.cell rfl; have e6 : wx.cell? ⟨W.heap.size, 6, none⟩ = some (.int .i64 wri) := HBX.out.cell rfl; have e7 : wx.cell? ⟨W.heap.size, 7, none⟩ = some (.slice ra rl rc) := HBX.out.cell rfl) | (go_at_call 24; refine (chen.awake_any _ (HT.out.keep HCC.out)).mono ?_; rintro e wx ⟨rfl, hcx⟩; have HCC := Lib.hid (HCC.out.trans hcx); have HBX := Lib.hid (HBX.out.keep hcx (by simp)); clear hcx e0 e1 e2 e3 e4 e5 e6 e7; have e0 : wx.cell? ⟨W.heap.size, 0, none⟩ = some (.int .i64 k) := HBX.out.cell rfl; have e1 : wx.cell? ⟨W.heap.size, 1, none⟩ = some (.int .i64 w) := HBX.out.cell rfl; have e2 : wx.cell? ⟨W.heap.size, 2, none⟩ = some (.int .i64 s) := HBX.out.cell rfl; have e3 : wx.cell? ⟨W.heap.size, 3, none⟩ = some (.int .i64 c) := HBX.out.cell rfl; have e4 : wx.cell? ⟨W.heap.size, 4, none⟩ = some (.int .u32 st) := HBX.out.cell rfl; have e5 : wx.cell? ⟨W.heap.size, 5, none⟩ = some (.slice ia il ic) := HBX.out.cell rfl; have e6 : wx.cell? ⟨W.heap.size, 6, none⟩ = some (.int .i64 wri) := HBX.out.cell rfl; have e7 : wx.cell? ⟨W.heap.size, 7, none⟩ = some (.slice ra rl rc) := HBX.out.cell rfl))
      go_ret
      exact ⟨rfl, HCC.out.below⟩
  refine key _ rfl fun hb => ?_
  have hk : k = 2 := by simpa using hb
  simpa [hk] using hr

set_option maxHeartbeats 8000000 in
theorem good (k w s c st : Int) (ia : Option Addr) (il ic : Nat) (wri : Int) (ra : Option Addr) (rl rc : Nat) (op : Int) (ini : List Int) (h : ObjW k w s c st il rl) (hr : (decide (k = 2) && rightB k w s c st il rl) = true) (W : World) (hT : bitm.Tab W) (hi : ReadsW W (.slice ia il ic) ini) :
    Calls Tryd.prog 4 #[.agg #[.int .i64 k, .int .i64 w, .int .i64 s, .int .i64 c, .int .u32 st, .slice ia il ic, .int .i64 wri, .slice ra rl rc], .int .i64 op] W fun e W' => e = .returned (.bool true) ∧ Below W.heap.size W W' := by
  have HSM : Hid (decide (il ≤ 100 ∧ rl ≤ 100) = true) := Lib.hid (decide_eq_true ⟨h.ilen, h.rlen⟩)
  have HT := Lib.hid hT
  clear hT
  have hk : k = 2 := by simp only [Bool.and_eq_true, decide_eq_true_eq] at hr; exact hr.1
  have hrb : rightB k w s c st il rl = true := by simp only [Bool.and_eq_true] at hr; exact hr.2
  have hbd := rightB_bd hrb
  obtain ⟨wN, hw⟩ : ∃ wN : Nat, w = (wN : Int) := ⟨w.toNat, by omega⟩
  have hmb := chen.mul_bd (c := (rl : Int) + 2) (w := w) (m := 16) ⟨by omega, by omega⟩ ⟨by omega, by omega⟩ (by omega)
  have hsi : rop.sizeI k w s c st il rl = ((1 + rl + (((rl : Int) + 2) * w).toNat : Nat) : Int) := by
    unfold rop.sizeI
    rw [if_pos hrb]
    have e1 : rop.headI k rl = 1 + rl := by simp [rop.headI, hk]
    have e2 : rop.recordsI k s rl = (rl : Int) + 2 := by simp [rop.recordsI, hk]
    rw [e1, e2]
    omega
  have hhd : rop.headI k rl = (((1 + rl) : Nat) : Int) := by simp [rop.headI, hk]
  have hil : ini.length = wN ∧ st = 0 := by
    have h1 : il = ini.length := by obtain ⟨_, _, he, _⟩ := reads_slice hi.1; simp at he; exact he.2.1
    simp only [rightB, decide_eq_true_eq] at hrb
    omega
  have hbn := fun u => chenBound_any k w s c st ia il ic wri ra rl rc op h u
  have hrt := fun u => chenRight_any k w s c st ia il ic wri ra rl rc h u
  have hrr := fun u => rRight_any k w s c st ia il ic wri ra rl rc h u
  have hrs := fun u => rop.Size_any k w s c st ia il ic wri ra rl rc h u
  have hrbn := fun u => rBound_any k w s c st ia il ic wri ra rl rc op h u
  have hbeq : boundI k w s c st il rl op = boundK 2 w c rl op := by unfold boundI; rw [if_pos hrb, hk]
  simp only [hr, if_true] at hbn hrt
  simp only [hrb] at hrr
  simp only [hsi] at hrs
  simp only [hbeq] at hrbn
  have hly := fun u (hu : ReadsW u (.slice ia il ic) ini) => chen.Lay_yes k w s c st ia il ic wri ra rl rc wN hw ini h hr u hu
  have hrl := fun u (hu : ReadsW u (.slice ia il ic) ini) => rop.RLay_yes k w s c st ia il ic wri ra rl rc (1 + rl) (1 + rl + (((rl : Int) + 2) * w).toNat) ini h hrb (by omega) (by omega) hhd hsi u hu
  have hleq : rop.rlayL w st (1 + rl) (1 + rl + (((rl : Int) + 2) * w).toNat) ini = (chen.layL w rl ini) := by
    rw [hil.2]
    unfold rop.rlayL chen.layL
    have e0 : ∀ M, (List.replicate M (0 : Int)).set 0 0 = List.replicate M 0 := fun M => by cases M <;> simp [List.replicate_succ]
    rw [e0]
  rw [hleq] at hrl
  have HSZ := Lib.hid (fun u => chen.Size_yes k w s c st ia il ic wri ra rl rc wN hw h hr u)
  have HRS := Lib.hid hrs
  have HBN := Lib.hid hbn
  have HRBN := Lib.hid hrbn
  have HRT := Lib.hid hrt
  have HRR := Lib.hid hrr
  have HLY := Lib.hid hly
  have HRL := Lib.hid hrl
  have hkb : (k == 2) = true := by simpa using hk
  have HI := Lib.hid hi
  have HLL : Hid (((chen.layL w rl ini)).length ≤ 1000000) := Lib.hid (by have := hil.1; simp [chen.layL, mem.fillL]; omega)
  have HLW : Hid (∀ z ∈ (chen.layL w rl ini), (Lit.int .u32 z).wf = true) := Lib.hid (by
    have h2 := hi.2
    have h3 := h.st32
    intro z hz
    rcases fill0_mem hz with rfl | hz
    · decide
    · exact h2 z hz)
  generalize (((1 + rl + (((rl : Int) + 2) * w).toNat : Nat)) : Int) = N at *
  generalize boundK 2 w c rl op = bv at *
  generalize (chen.layL w rl ini) = ly at *
  clear hmb h hr hk hrb hbd hw hsi hhd hil hbn hrt hrr hrs hrbn hbeq hly hrl hleq hi
  have HBX : Hid (Blk (W.alloc (.cells #[.int .i64 k, .int .i64 w, .int .i64 s, .int .i64 c, .int .u32 st, .slice ia il ic, .int .i64 wri, .slice ra rl rc] 26)) W.heap.size #[.int .i64 k, .int .i64 w, .int .i64 s, .int .i64 c, .int .u32 st, .slice ia il ic, .int .i64 wri, .slice ra rl rc] 26) := Lib.hid (Blk.new W _ _)
  have HCC : Hid (Chg [] W (W.alloc (.cells #[.int .i64 k, .int .i64 w, .int .i64 s, .int .i64 c, .int .u32 st, .slice ia il ic, .int .i64 wri, .slice ra rl rc] 26))) := Lib.hid ((Chg.refl _ _).alloc _)
  go_enter Tryd.func4, Tryd.ntmps4
  go_wp2_with (first | (go_at_call 13; refine (small_any k w s c st ia il ic wri ra rl rc _).mono ?_; rintro e wx ⟨rfl, hcx⟩; rw [HSM.out]; have HCC := Lib.hid (HCC.out.trans hcx); have HBX := Lib.hid (HBX.out.keep hcx (by simp)); clear hcx; have e0 : wx.cell? ⟨W.heap.size, 0, none⟩ = some (.int .i64 k) := HBX.out.cell rfl; have e1 : wx.cell? ⟨W.heap.size, 1, none⟩ = some (.int .i64 w) := HBX.out.cell rfl; have e2 : wx.cell? ⟨W.heap.size, 2, none⟩ = some (.int .i64 s) := HBX.out.cell rfl; have e3 : wx.cell? ⟨W.heap.size, 3, none⟩ = some (.int .i64 c) := HBX.out.cell rfl; have e4 : wx.cell? ⟨W.heap.size, 4, none⟩ = some (.int .u32 st) := HBX.out.cell rfl; have e5 : wx.cell? ⟨W.heap.size, 5, none⟩ = some (.slice ia il ic) := HBX.out.cell rfl; have e6 : wx.cell? ⟨W.heap.size, 6, none⟩ = some (.int .i64 wri) := HBX.out.cell rfl; have e7 : wx.cell? ⟨W.heap.size, 7, none⟩ = some (.slice ra rl rc) := HBX.out.cell rfl) | (go_at_call 15; refine (HRR.out _).mono ?_; rintro e wx ⟨rfl, hcx⟩; have HCC := Lib.hid (HCC.out.trans hcx); have HBX := Lib.hid (HBX.out.keep hcx (by simp)); clear hcx e0 e1 e2 e3 e4 e5 e6 e7; have e0 : wx.cell? ⟨W.heap.size, 0, none⟩ = some (.int .i64 k) := HBX.out.cell rfl; have e1 : wx.cell? ⟨W.heap.size, 1, none⟩ = some (.int .i64 w) := HBX.out.cell rfl; have e2 : wx.cell? ⟨W.heap.size, 2, none⟩ = some (.int .i64 s) := HBX.out.cell rfl; have e3 : wx.cell? ⟨W.heap.size, 3, none⟩ = some (.int .i64 c) := HBX.out.cell rfl; have e4 : wx.cell? ⟨W.heap.size, 4, none⟩ = some (.int .u32 st) := HBX.out.cell rfl; have e5 : wx.cell? ⟨W.heap.size, 5, none⟩ = some (.slice ia il ic) := HBX.out.cell rfl; have e6 : wx.cell? ⟨W.heap.size, 6, none⟩ = some (.int .i64 wri) := HBX.out.cell rfl; have e7 : wx.cell? ⟨W.heap.size, 7, none⟩ = some (.slice ra rl rc) := HBX.out.cell rfl) | (go_at_call 25; refine (HRT.out _).mono ?_; rintro e wx ⟨rfl, hcx⟩; have HCC := Lib.hid (HCC.out.trans hcx); have HBX := Lib.hid (HBX.out.keep hcx (by simp)); clear hcx e0 e1 e2 e3 e4 e5 e6 e7; have e0 : wx.cell? ⟨W.heap.size, 0, none⟩ = some (.int .i64 k) := HBX.out.cell rfl; have e1 : wx.cell? ⟨W.heap.size, 1, none⟩ = some (.int .i64 w) := HBX.out.cell rfl; have e2 : wx.cell? ⟨W.heap.size, 2, none⟩ = some (.int .i64 s) := HBX.out.cell rfl; have e3 : wx.cell? ⟨W.heap.size, 3, none⟩ = some (.int .i64 c) := HBX.out.cell rfl; have e4 : wx.cell? ⟨W.heap.size, 4, none⟩ = some (.int .u32 st) := HBX.out.cell rfl; have e5 : wx.cell? ⟨W.heap.size, 5, none⟩ = some (.slice ia il ic) := HBX.out.cell rfl; have e6 : wx.cell? ⟨W.heap.size, 6, none⟩ = some (.int .i64 wri) := HBX.out.cell rfl; have e7 : wx.cell? ⟨W.heap.size, 7, none⟩ = some (.slice ra rl rc) := HBX.out.cell rfl))
  clear e0 e1 e2 e3 e4 e5 e6 e7
  refine rop.code_gen (R := fun V => Hid (Blk V W.heap.size #[.int .i64 k, .int .i64 w, .int .i64 s, .int .i64 c, .int .u32 st, .slice ia il ic, .int .i64 wri, .slice ra rl rc] 26) ∧ Hid (Chg [] W V)) ⟨HBX, HCC⟩ ?_
  clear HBX HCC
  rintro W1 ⟨HO1, HC1⟩
  have eS0 : W1.cell? ⟨W.heap.size, 0, none⟩ = some (.int .i64 k) := HO1.out.cell rfl
  have eS1 : W1.cell? ⟨W.heap.size, 1, none⟩ = some (.int .i64 w) := HO1.out.cell rfl
  have eS2 : W1.cell? ⟨W.heap.size, 2, none⟩ = some (.int .i64 s) := HO1.out.cell rfl
  have eS3 : W1.cell? ⟨W.heap.size, 3, none⟩ = some (.int .i64 c) := HO1.out.cell rfl
  have eS4 : W1.cell? ⟨W.heap.size, 4, none⟩ = some (.int .u32 st) := HO1.out.cell rfl
  have eS5 : W1.cell? ⟨W.heap.size, 5, none⟩ = some (.slice ia il ic) := HO1.out.cell rfl
  have eS6 : W1.cell? ⟨W.heap.size, 6, none⟩ = some (.int .i64 wri) := HO1.out.cell rfl
  have eS7 : W1.cell? ⟨W.heap.size, 7, none⟩ = some (.slice ra rl rc) := HO1.out.cell rfl
  have KEEP := Lib.hid (fun (V : World) (h : Chg [] W1 V) => (⟨h.keep eS0 (by simp), h.keep eS1 (by simp), h.keep eS2 (by simp), h.keep eS3 (by simp), h.keep eS4 (by simp), h.keep eS5 (by simp), h.keep eS6 (by simp), h.keep eS7 (by simp), Lib.hid h⟩ : (fun V : World => V.cell? ⟨W.heap.size, 0, none⟩ = some (.int .i64 k) ∧ V.cell? ⟨W.heap.size, 1, none⟩ = some (.int .i64 w) ∧ V.cell? ⟨W.heap.size, 2, none⟩ = some (.int .i64 s) ∧ V.cell? ⟨W.heap.size, 3, none⟩ = some (.int .i64 c) ∧ V.cell? ⟨W.heap.size, 4, none⟩ = some (.int .u32 st) ∧ V.cell? ⟨W.heap.size, 5, none⟩ = some (.slice ia il ic) ∧ V.cell? ⟨W.heap.size, 6, none⟩ = some (.int .i64 wri) ∧ V.cell? ⟨W.heap.size, 7, none⟩ = some (.slice ra rl rc) ∧ Hid (Chg [] W1 V)) V))
  clear eS0 eS1 eS2 eS3 eS4 eS5 eS6 eS7
  have hHeld : (fun V : World => V.cell? ⟨W.heap.size, 0, none⟩ = some (.int .i64 k) ∧ V.cell? ⟨W.heap.size, 1, none⟩ = some (.int .i64 w) ∧ V.cell? ⟨W.heap.size, 2, none⟩ = some (.int .i64 s) ∧ V.cell? ⟨W.heap.size, 3, none⟩ = some (.int .i64 c) ∧ V.cell? ⟨W.heap.size, 4, none⟩ = some (.int .u32 st) ∧ V.cell? ⟨W.heap.size, 5, none⟩ = some (.slice ia il ic) ∧ V.cell? ⟨W.heap.size, 6, none⟩ = some (.int .i64 wri) ∧ V.cell? ⟨W.heap.size, 7, none⟩ = some (.slice ra rl rc) ∧ Hid (Chg [] W1 V)) (World.drew W1) := KEEP.out _ (Chg.refl _ _).drew
  refine wp_region_plan (fun V : World => V.cell? ⟨W.heap.size, 0, none⟩ = some (.int .i64 k) ∧ V.cell? ⟨W.heap.size, 1, none⟩ = some (.int .i64 w) ∧ V.cell? ⟨W.heap.size, 2, none⟩ = some (.int .i64 s) ∧ V.cell? ⟨W.heap.size, 3, none⟩ = some (.int .i64 c) ∧ V.cell? ⟨W.heap.size, 4, none⟩ = some (.int .u32 st) ∧ V.cell? ⟨W.heap.size, 5, none⟩ = some (.slice ia il ic) ∧ V.cell? ⟨W.heap.size, 6, none⟩ = some (.int .i64 wri) ∧ V.cell? ⟨W.heap.size, 7, none⟩ = some (.slice ra rl rc) ∧ Hid (Chg [] W1 V)) [(0, true, some 41), (2, true, some 43), (1, false, some 42), (3, false, some 44), (4, true, some 45), (5, true, some 46), (6, true, some 47), (8, true, some 49), (7, false, some 48), (9, false, some 50), (10, false, some 51), (11, true, some 52), (12, true, some 53), (13, true, some 54), (14, true, some 55), (16, true, some 57), (17, true, some 58), (15, false, some 56), (18, false, some 59), (19, true, some 60), (20, true, some 61), (21, true, some 62), (22, false, some 63), (23, true, some 64), (24, true, some 4)] (by kernel_rfl) (by kernel_rfl) (by kernel_rfl) (by kernel_rfl) (fun d c a v w h => by cases d <;> exact h) hHeld ?_
  repeat (first
    | (refine planWp_read (v := ?_) rfl rfl ?_ ?_ ?_; rotate_left; (focus rfl); (focus (intro u hSw; (try dsimp only at hSw); go_simp; (try with_reducible rfl))); (try simp only [Act.put, List.setIfInBounds_toArray, List.set_cons_zero, List.set_cons_succ]))
    | (refine planWp_skip rfl rfl ?_ ?_; (focus rfl); (try simp only [Act.put, List.setIfInBounds_toArray, List.set_cons_zero, List.set_cons_succ]))
    | (refine planWp_leave rfl rfl ?_ hHeld ?_; (focus rfl); (try simp only [Act.put, List.setIfInBounds_toArray, List.set_cons_zero, List.set_cons_succ]))
    | (refine planWp_do rfl rfl ?_ (fun K hK => ?_); (focus rfl); go_simp; (try go_wp2_with (first | (go_at_call 26; refine (HSZ.out _).mono ?_; rintro e wx ⟨rfl, hcx⟩; have HCX := Lib.hid hcx; clear hcx) | (go_at_call 20; refine (HRS.out _).mono ?_; rintro e wx ⟨rfl, hcx⟩; have HCX := Lib.hid hcx; clear hcx) | (go_at_call 27; refine (HLY.out _ (HI.out.chg (HC1.out.trans hHeld.2.2.2.2.2.2.2.2.out))).mono ?_; rintro e wl ⟨v1, rfl, ho1, hcx⟩; have HCX := Lib.hid hcx; clear hcx; have HV1 := Lib.hid (OwnW.reads ho1 HLW.out); clear ho1; obtain ⟨a1, c1, rfl, _⟩ := reads_slice HV1.out.1) | (go_at_call 22; refine (HRL.out _ (HI.out.chg (HC1.out.trans hHeld.2.2.2.2.2.2.2.2.out))).mono ?_; rintro e wr2 ⟨v2, rfl, ho2, hcx⟩; have HCX := Lib.hid hcx; have HV1 := Lib.hid (HV1.out.chg hcx); clear hcx; have HV2 := Lib.hid (OwnW.reads ho2 HLW.out); clear ho2; obtain ⟨a2, c2, rfl, _⟩ := reads_slice HV2.out.1) | (go_at_call 21; refine (Words_any _ _ ly ly _ HV1.out HV2.out HLL.out HLL.out).mono ?_; rintro e wq ⟨rfl, hq⟩; have HCX : Hid (Chg [] _ wq) := Lib.hid ((Chg.refl _ _).quiet hq); clear hq; rw [show wordsB ly ly = true from by simp [wordsB]]) | (go_at_call 28; refine (HBN.out _).mono ?_; rintro e wx ⟨rfl, hcx⟩; have HCX := Lib.hid hcx; clear hcx) | (go_at_call 23; refine (HRBN.out _).mono ?_; rintro e wx ⟨rfl, hcx⟩; have HCX := Lib.hid hcx; clear hcx) | (go_at_call 24; refine (chen.awake_any _ (HT.out.keep (HC1.out.trans hHeld.2.2.2.2.2.2.2.2.out))).mono ?_; rintro e wx ⟨rfl, hcx⟩; have HCX := Lib.hid hcx; clear hcx))); refine hK.out _ _ ?_ (fun hHeld2 => ?_); (focus (exact KEEP.out _ (Chg.trans hHeld.2.2.2.2.2.2.2.2.out HCX.out))); clear hK K hHeld; have hHeld := hHeld2; clear hHeld2; (try simp only [Act.put, List.setIfInBounds_toArray, List.set_cons_zero, List.set_cons_succ])))
  refine planWp_nil ?_
  have HF := Lib.hid (HC1.out.trans hHeld.2.2.2.2.2.2.2.2.out)
  clear hHeld KEEP
  go_wp2_with fail
  go_ret
  exact ⟨rfl, HF.out.below⟩
theorem own : ownKnob Tryd.prog.godebug = none := by kernel_rfl
theorem laidOut : laidOutB Tryd.prog = true := by kernel_rfl

/-- The walk: the law returns true, and nothing that was there has turned. -/
theorem walk (w : World) (hT : bitm.Tab w) (cs0 : Array Value) (hs0 : cs0.size = Tryd.prog.cellsOf 26) (o0 : kit.Opens Tryd.prog w 9 26 cs0.toList) (x1 : Int) (w1 : (Lit.int .i64 x1).wf = true) :
    Calls Tryd.prog 4 #[.agg cs0, .int .i64 x1] w fun e w' => e = .returned (.bool true) ∧ Below w.heap.size w w' := by
  set_option maxRecDepth 100000 in
  obtain ⟨k, w', s, c, st, ia, il, ic, wr, ra, rl, rc, hcs, hb⟩ := obj_open (n := 6) o0
  have hcs2 : cs0 = #[.int .i64 k, .int .i64 w', .int .i64 s, .int .i64 c, .int .u32 st, .slice ia il ic, .int .i64 wr, .slice ra rl rc] := by
    apply Array.toList_inj.1; rw [hcs]
  subst hcs2
  by_cases h : il ≤ 100 ∧ rl ≤ 100
  · have hO := hb h.1 h.2
    cases hr : (decide (k = 2) && rightB k w' s c st il rl)
    · exact wrong k w' s c st ia il ic wr ra rl rc x1 hO hr w hT
    · obtain ⟨ini, hini⟩ : ∃ ini, ReadsW w (.slice ia il ic) ini := init_open o0
      exact good k w' s c st ia il ic wr ra rl rc x1 ini hO hr w hT hini
  · exact big k w' s c st ia il ic wr ra rl rc x1 h w hT

set_option maxRecDepth 100000 in
theorem lifted (os : Os) (started : os.Started) (H : Type) (enc : TypeId × Value → H) :
    ReturnsInHanded {} Tryd.checked os 4 .any (fun w args => (Rows.chenShapesSpec.pre enc Tryd.prog Tryd.f4 [] false w args ∧ laidMetH Tryd.prog bitm.laids w) ∧ sizedMet enc Tryd.prog Tryd.f4 (OpenSpec.ofChange Rows.chenShapesSpec) false w args) (Rows.chenShapesSpec.post enc Tryd.prog Tryd.f4 false true false false) := by
  refine returnsInHanded_of_change_and (C := Tryd.checked) (X := fun w _ => laidMetH Tryd.prog bitm.laids w) (fun _ _ _ hh h => h.of_heap hh) own started (by kernel_rfl) Tryd.func4
    (ChangeSpec.witness_shaped (enc := enc) (C := Tryd.checked) (os := os) (X := fun w _ => laidMetH Tryd.prog bitm.laids w) false (World.doorLaid Tryd.prog 14 os) #[.agg #[.int .i64 0, .int .i64 0, .int .i64 0, .int .i64 0, .int .u32 0, .slice none 0 0, .int .i64 0, .slice none 0 0], .int .i64 0] 8 rfl (World.shaped_of_RefB (by kernel_rfl) (by kernel_rfl)) (by kernel_rfl) (by kernel_rfl) (by kernel_rfl) (bitm.door_met os _)) ?_
  intro W base args ds gs before hval0 hW hcnd _ hL _
  have hval : ∀ (j : Nat) t v, Tryd.f4.params[j]? = some t → args[j]? = some v → Value.okWide Tryd.prog W .any base t v := hval0
  have hW' := hW
  obtain ⟨p, q, hA0, hV, rfl, hfz, hnd⟩ := hW
  have hA : DataW.TrodAll enc Tryd.prog W 0 (fun _ => true) true Tryd.f4.params.toList args.toList ds p := hA0
  rw [Tryd.params4] at hA hval
  obtain ⟨v0, vs0, d0, ds0, p0, q0, hargs, rfl, rfl, h0, r0⟩ := trodAll_cons hA
  obtain ⟨v1, vs1, d1, ds1, p1, q1, rfl, rfl, rfl, h1, r1⟩ := trodAll_cons r0
  obtain ⟨rfl, rfl, rfl⟩ := trodAll_nil r1
  obtain rfl : args = #[v0, v1] := by cases args; simp_all
  obtain ⟨rfl, rfl⟩ := trodVars_none hV
  have k0 := h0
  have lt0 : ∀ x ∈ p0, x.block < W.heap.size := by obtain ⟨m, hm⟩ := k0; exact DataW.trod_lt m _ _ _ hm
  have k1 := h1
  have lt1 : ∀ x ∈ p1, x.block < W.heap.size := by obtain ⟨m, hm⟩ := k1; exact DataW.trod_lt m _ _ _ hm
  obtain ⟨cs0, rfl, hs0⟩ := okWide_struct Tryd.underlying26 (hval 0 26 v0 rfl rfl)
  have o0 : kit.Opens Tryd.prog W 9 26 cs0.toList := by simpa [Value.cells] using kit.Trod_opens 9 k0
  obtain ⟨x1, rfl, _, _, w1⟩ := open_int Tryd.underlying3 (hval 1 3 v1 rfl rfl) h1
  clear hA0 hval0
  refine (walk W (bitm.tab_of_laid hL) cs0 hs0 o0 x1 w1).mono fun e W' ⟨he, bel⟩ => ?_
  subst he
  exact ⟨_, rfl, _, _, _, [], _, [], hW', trodAll_mk1 (shut_bool Tryd.underlying4 _), (trodAll_cons_mk (Below.trod laidOut (by kernel_rfl) (of_decide_eq_true (by kernel_rfl)) k0 bel lt0) (trodAll_cons_mk (Below.trod laidOut (by kernel_rfl) (of_decide_eq_true (by kernel_rfl)) k1 bel lt1) trodAll_mk0)), rfl, bel.frame _, fun h => by cases h⟩

theorem over : Rows.chenShapesRow.holds Tryd.pinned (OpenSpec.ofChange Rows.chenShapesSpec) :=
  OpenClaim.holds_of_wide 4 Tryd.f4 rfl rfl rfl rfl rfl rfl rfl ⟨rfl, rfl, rfl, rfl, rfl⟩ rfl rfl rfl rfl rfl (by kernel_rfl) Tryd.func4 (by kernel_rfl)
    (of_decide_eq_true (by kernel_rfl)) (by unfold Func.isWrapper; first | (rw [if_pos (by decide +kernel)]; kernel_rfl) | (rw [if_neg (by decide +kernel)]; exact ⟨rfl, rfl⟩))
    (fun os started H enc _ => lifted os started H enc)

/-- The statement: the tied card. -/
theorem proved : Rows.ChenShapesCardSaid :=
  Claim7.holds_tied_plain_at .later [] [.data] true (true, "2e2be42b2330c043c67e7858dff84d72ae4a187c610b75565135d5b7ac40942f") false
    over (fun _ h => by cases h) (by kernel_rfl) (fun _ h => by cases h) chenShapes_row_tie rfl ⟨rfl, rfl⟩ (by kernel_rfl) rfl
    (fun f fn hf hfn => by
      obtain rfl : f = 4 := Option.some.inj ((show Tryd.prog.funcNamed "coxswain/coxswainlaw15.ChenShapes" = some 4 by kernel_rfl).symm.trans hf) |>.symm
      obtain rfl : fn = Tryd.f4 := (Option.some.inj (Tryd.func4.symm.trans hfn)).symm
      exact ⟨by kernel_rfl, fun j t ht => by
        rw [Tryd.params4] at ht
        have hm : t ∈ [26, 3] := by simpa using Array.mem_of_getElem? ht
        have hall : ([26, 3].all fun u => !Tryd.prog.wantsStandIn u) = true := by kernel_rfl
        exact (show Tryd.prog.wantsStandIn t = false by simpa using List.all_eq_true.1 hall t hm)⟩)
    (by kernel_rfl)
end Go.Proofs.YtapaolaemkhbdaaDoor.chenShapes
