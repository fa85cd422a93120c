/-
  coxswaintop.TopShifts returns true for every c and by: if all periodic tasks begin later, and all is asked for later, all comes later by as much, and nobody has the ticks ahead of it. No conditions.
-/
import Derived.Test.YtfkokbeloenfdaaDoorRows
import Derived.WalkKit
import Derived.ProofKit
import Derived.OpenShut
import Derived.ShutString
import Derived.ChangeOld
import Derived.Below
import Derived.Test.YtfkokbeloenfdaaDoorOpen
import Derived.Test.YtfkokbeloenfdaaDoorTab2
import Derived.Test.YtfkokbeloenfdaaDoorCards
import Derived.Test.YtfkokbeloenfdaaDoorTie
import Derived.SevenTiedAt
import Derived.Stop.Joined
import Derived.Test.YtfkokbeloenfdaaDoorKrnTf
namespace Go.Proofs.YtfkokbeloenfdaaDoor.topShifts
open Go.ChangeShapes Go.WideShapes Go.ChangeAt Go.RowKit
open Go.ChangeMaps (open_string shut_string)
set_option linter.unusedVariables false
open Go.Proofs.YtfkokbeloenfdaaDoor.kit Go.Proofs.YtfkokbeloenfdaaDoor.krn
set_option linter.unusedSimpArgs false
set_option maxRecDepth 100000
theorem own : ownKnob Tryd.prog.godebug = none := by kernel_rfl
theorem laidOut : laidOutB Tryd.prog = true := by kernel_rfl

/-- The walk: the law returns true, and nothing that was there has turned. -/
theorem walk (w : World) (hT : bitm.Tab w) (cs0 : Array Value) (hs0 : cs0.size = Tryd.prog.cellsOf 26) (o0 : kit.Opens Tryd.prog w 9 26 cs0.toList) (x1 : Int) (w1 : (Lit.int .u8 x1).wf = true) :
    Calls Tryd.prog 3 #[.agg cs0, .int .u8 x1] w fun e w' => e = .returned (.bool true) ∧ Below w.heap.size w w' := by
  obtain ⟨c⟩ := case_open (n := 4) o0
  obtain ⟨a0, c0, l, a1, c1, asks, a2, c2, dem, tk, he, rl, code, ra, a64, rd⟩ := c
  obtain rfl : cs0 = #[.slice a0 l.length c0, .slice a1 asks.length c1, .slice a2 dem.length c2, .int .i64 tk] := by
    apply Array.toList_inj.1
    exact he
  have hx := wf_u8 w1
  by_cases h : lightB l asks.length dem tk = true ∧ goodB l = true ∧ 0 ≤ tk ∧ tk ≤ 500
  · obtain ⟨h1, h2, h3, h4⟩ := h
    obtain ⟨ticks, rfl⟩ : ∃ z : Nat, tk = (z : Int) := ⟨tk.toNat, by omega⟩
    exact (asked a0 c0 l a1 c1 asks a2 c2 dem ticks x1 hx w hT rl code ra a64 rd h1 h2 (by omega)).mono (fun e w' hh => ⟨hh.1, hh.2.below⟩)
  · exact (refused a0 c0 l a1 asks.length c1 a2 c2 dem tk x1 hx w hT rl code rd h).mono (fun e w' hh => ⟨hh.1, hh.2.below⟩)

set_option maxRecDepth 100000 in
theorem lifted (os : Os) (started : os.Started) (H : Type) (enc : TypeId × Value → H) :
    ReturnsInHanded {} Tryd.checked os 3 .any (fun w args => (Rows.topShiftsSpec.pre enc Tryd.prog Tryd.f3 [] false w args ∧ laidMetH Tryd.prog bitm.laids w) ∧ sizedMet enc Tryd.prog Tryd.f3 (OpenSpec.ofChange Rows.topShiftsSpec) false w args) (Rows.topShiftsSpec.post enc Tryd.prog Tryd.f3 false true false false) := by
  refine returnsInHanded_of_change_and (C := Tryd.checked) (X := fun w _ => laidMetH Tryd.prog bitm.laids w) (fun _ _ _ hh h => h.of_heap hh) own started (by kernel_rfl) Tryd.func3
    (ChangeSpec.witness_shaped (enc := enc) (C := Tryd.checked) (os := os) (X := fun w _ => laidMetH Tryd.prog bitm.laids w) false (World.doorLaid Tryd.prog 14 os) #[.agg #[.slice none 0 0, .slice none 0 0, .slice none 0 0, .int .i64 0], .int .u8 0] 8 rfl (World.shaped_of_RefB (by kernel_rfl) (by kernel_rfl)) (by kernel_rfl) (by kernel_rfl) (by kernel_rfl) (bitm.door_met os _)) ?_
  intro W base args ds gs before hval0 hW hcnd _ hL _
  have hval : ∀ (j : Nat) t v, Tryd.f3.params[j]? = some t → args[j]? = some v → Value.okWide Tryd.prog W .any base t v := hval0
  have hW' := hW
  obtain ⟨p, q, hA0, hV, rfl, hfz, hnd⟩ := hW
  have hA : DataW.TrodAll enc Tryd.prog W 0 (fun _ => true) true Tryd.f3.params.toList args.toList ds p := hA0
  rw [Tryd.params3] at hA hval
  obtain ⟨v0, vs0, d0, ds0, p0, q0, hargs, rfl, rfl, h0, r0⟩ := trodAll_cons hA
  obtain ⟨v1, vs1, d1, ds1, p1, q1, rfl, rfl, rfl, h1, r1⟩ := trodAll_cons r0
  obtain ⟨rfl, rfl, rfl⟩ := trodAll_nil r1
  obtain rfl : args = #[v0, v1] := by cases args; simp_all
  obtain ⟨rfl, rfl⟩ := trodVars_none hV
  have k0 := h0
  have lt0 : ∀ x ∈ p0, x.block < W.heap.size := by obtain ⟨m, hm⟩ := k0; exact DataW.trod_lt m _ _ _ hm
  have k1 := h1
  have lt1 : ∀ x ∈ p1, x.block < W.heap.size := by obtain ⟨m, hm⟩ := k1; exact DataW.trod_lt m _ _ _ hm
  obtain ⟨cs0, rfl, hs0⟩ := okWide_struct Tryd.underlying26 (hval 0 26 v0 rfl rfl)
  have o0 : kit.Opens Tryd.prog W 9 26 cs0.toList := by simpa [Value.cells] using kit.Trod_opens 9 k0
  obtain ⟨x1, rfl, _, _, w1⟩ := open_int Tryd.underlying5 (hval 1 5 v1 rfl rfl) h1
  clear hA0 hval0
  refine (walk W (bitm.tab_of_laid hL) cs0 hs0 o0 x1 w1).mono fun e W' ⟨he, bel⟩ => ?_
  subst he
  exact ⟨_, rfl, _, _, _, [], _, [], hW', trodAll_mk1 (shut_bool Tryd.underlying4 _), (trodAll_cons_mk (Below.trod laidOut (by kernel_rfl) (of_decide_eq_true (by kernel_rfl)) k0 bel lt0) (trodAll_cons_mk (Below.trod laidOut (by kernel_rfl) (of_decide_eq_true (by kernel_rfl)) k1 bel lt1) trodAll_mk0)), rfl, bel.frame _, fun h => by cases h⟩

theorem over : Rows.topShiftsRow.holds Tryd.pinned (OpenSpec.ofChange Rows.topShiftsSpec) :=
  OpenClaim.holds_of_wide 3 Tryd.f3 rfl rfl rfl rfl rfl rfl rfl ⟨rfl, rfl, rfl, rfl, rfl⟩ rfl rfl rfl rfl rfl (by kernel_rfl) Tryd.func3 (by kernel_rfl)
    (of_decide_eq_true (by kernel_rfl)) (by unfold Func.isWrapper; first | (rw [if_pos (by decide +kernel)]; kernel_rfl) | (rw [if_neg (by decide +kernel)]; exact ⟨rfl, rfl⟩))
    (fun os started H enc _ => lifted os started H enc)

/-- The statement: the tied card. -/
theorem proved : Rows.TopShiftsCardSaid :=
  Claim7.holds_tied_plain_at .later [] [.data] true (true, "4282fb79c90d4ae295eced772b54536d76c35df305208ec00b62f7ba1a72ae62") false
    over (fun _ h => by cases h) (by kernel_rfl) (fun _ h => by cases h) topShifts_row_tie rfl ⟨rfl, rfl⟩ (by kernel_rfl) rfl
    (fun f fn hf hfn => by
      obtain rfl : f = 3 := Option.some.inj ((show Tryd.prog.funcNamed "coxswain/coxswaintop.TopShifts" = some 3 by kernel_rfl).symm.trans hf) |>.symm
      obtain rfl : fn = Tryd.f3 := (Option.some.inj (Tryd.func3.symm.trans hfn)).symm
      exact ⟨by kernel_rfl, fun j t ht => by
        rw [Tryd.params3] at ht
        have hm : t ∈ [26, 5] := by simpa using Array.mem_of_getElem? ht
        have hall : ([26, 5].all fun u => !Tryd.prog.wantsStandIn u) = true := by kernel_rfl
        exact (show Tryd.prog.wantsStandIn t = false by simpa using List.all_eq_true.1 hall t hm)⟩)
    (by kernel_rfl)
end Go.Proofs.YtfkokbeloenfdaaDoor.topShifts
