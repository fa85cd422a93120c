/- Scripts: the chapter's example: awake. -/
import Derived.Test.YtldbaommeflooaaDoorScrO
namespace Go.Proofs.YtldbaommeflooaaDoor.scr
open Go Go.RowKit Go.Proofs.YtldbaommeflooaaDoor.kit Go.Proofs.YtldbaommeflooaaDoor.word Go.Shelf
set_option linter.unusedVariables false
set_option linter.unusedSimpArgs false
set_option maxRecDepth 20000
def exA : List Ac := [⟨1, 3⟩, ⟨2, 1⟩, ⟨1, 2⟩]
def exT : List UInt8 := [114, 117, 110, 32, 51, 10, 97, 115, 107, 32, 49, 10, 114, 117, 110, 32, 50, 10]
theorem exA_right : rightA exA = true := by decide
theorem exA_text : textL exA = exT := by
  simp [textL, exA, lineL, runW, askW, itoa_dec, Lib.decDigits_one, exT]
theorem exA_parse : parseR exT = (exA, 0, 0) := by
  rw [← exA_text]
  exact parse_print exA_right
theorem Chg.of_quiet {w w' : World} (h : Go.Proofs.YtldbaommeflooaaDoor.kit.Quiet w w') : Chg [] w w' := (Chg.refl _ _).quiet h
set_option maxHeartbeats 2000000 in
theorem awake_any (W : World) (hT : TabS W) : Calls Tryd.prog 7 #[] W fun e W' => e = .returned (.bool true) ∧ Chg [] W W' := by
  have hp := Parse_small exT (by decide) W hT
  rw [exA_parse] at hp
  have HP := Lib.hid hp
  have hl : exA.length = 3 := rfl
  have HTK := Lib.hid (fun a c w (h : ReadsA w (.slice a 3 c) exA) => Ticks_any a c exA w h)
  have HRT := Lib.hid (fun a c w (h : ReadsA w (.slice a 3 c) exA) => Right_any a c exA w h)
  have HAT := Lib.hid (fun a c w (h : ReadsA w (.slice a 3 c) exA) => At_any a c exA 3 w h (by decide))
  rw [show ticks exA = 5 from by decide] at HTK
  rw [exA_right] at HRT
  rw [show atL (asksL exA) 3 = [1] from by decide] at HAT
  unfold exT at HP
  clear hp hT
  go_enter Tryd.func7, Tryd.ntmps7
  go_wp2_with (first | (go_at_call 19; refine HP.out.mono ?_; rintro e w1 ⟨v, rfl, hown, hc1⟩; obtain ⟨a, c, rfl⟩ := own_open hown; have HRA : Hid (ReadsA w1 (.slice a 3 c) exA) := Lib.hid ⟨Reads.of_own hown (by decide), fun x hx => oneB_ok (List.all_eq_true.1 (rightA_parts exA_right).1 x hx)⟩; clear hown) | (go_at_call 9; refine (HTK.out _ _ _ HRA.out).mono ?_; rintro e w2 ⟨rfl, hc2⟩) | (go_at_call 16; refine (HAT.out _ _ _ (HRA.out.fresh hc2)).mono ?_; rintro e w3 ⟨v, rfl, hown, hc3⟩; obtain ⟨a2, c2, rfl⟩ := own_open hown; have HR2 := Lib.hid (Reads.of_own hown (by decide)); clear hown) | (go_at_call 15; refine (Ints_any _ _ [1] [1] _ (Reads.alloc HR2.out _) (reads_one _ _ _) (by decide) (by decide)).mono ?_; rintro e w4 ⟨rfl, hc4⟩) | (go_at_call 11; refine (HRT.out _ _ _ (HRA.out.fresh (((hc2.trans hc3).alloc _).quiet hc4))).mono ?_; rintro e w5 ⟨rfl, hc5⟩))
  go_ret
  exact ⟨rfl, hc1.trans ((((hc2.trans hc3).alloc _).quiet hc4).trans hc5)⟩
end Go.Proofs.YtldbaommeflooaaDoor.scr
