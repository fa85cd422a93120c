/- A memory of words, and a memory's words. -/
import Derived.Test.YtbbpnpokccfhjaaMem5
namespace Go.Proofs.Ytbbpnpokccfhjaa.mem
open Go Go.RowKit Go.Proofs.Ytbbpnpokccfhjaa.kit
set_option linter.unusedVariables false
set_option maxRecDepth 20000

theorem fill_all (l : List Int) : fillL (List.replicate l.length 0) 0 l = l := by simp [fillL]
theorem Memory_ok (v : Value) (l : List Int) (w : World) (hr : ReadsW w v l) (hl : l.length ≤ 4096) :
    Calls Try.prog 27 #[v] w fun e w' => ∃ mb sv, e = .returned (.pointer (some ⟨mb, 0, none⟩)) ∧ MemAt w' mb sv l 0 ∧ Chg [] w w' ∧ w.heap.size ≤ mb ∧ ∀ y, sv.ownBlock = some y → w.heap.size ≤ y := by
  have HR := Lib.hid hr
  have HL := Lib.hid hl
  obtain ⟨a, c, rfl, _⟩ := reads_slice hr.1
  clear hr hl
  go_enter Try.func27, Try.ntmps27
  go_wp2_with (first
    | (go_at_call 60; refine (New_at l.length _ HL.out).mono ?_; rintro e w1 ⟨mb, g, rfl, hm, hc, hb, hg⟩; have HM := Lib.hid hm; have HC := Lib.hid hc; have HB := Lib.hid hb; have HG := Lib.hid hg; clear hm hc hb hg)
    | (go_at_call 61; refine (Fill_ok mb g l.length (List.replicate l.length 0) l 0 0 _ _ (by rw [List.length_replicate]; exact HM.out) (HR.out.chg HC.out) (by rw [List.length_replicate]; omega)).mono ?_; rintro e w2 ⟨rfl, hm2, hc2⟩; have HM2 := Lib.hid hm2; have HC2 := Lib.hid hc2; clear hm2 hc2))
  go_ret
  refine ⟨mb, _, rfl, by have := HM2.out; rwa [fill_all] at this, HC.out.into HC2.out (fun y hy => by simp at hy; subst hy; exact .inr HG.out), HB.out, fun y hy => by simp [Value.ownBlock] at hy; subst hy; exact HG.out⟩
theorem Words_ok (b : Nat) (sv : Value) (ws : List Int) (n : Int) (w : World) (h : MemAt w b sv ws n) :
    Calls Try.prog 47 #[.pointer (some ⟨b, 0, none⟩)] w fun e w' => ∃ v, e = .returned v ∧ OwnW w' w.heap.size v ws ∧ Chg [] w w' := by
  have H := Lib.hid h
  clear h
  go_enter Try.func47, Try.ntmps47
  go_wp2_with (first
    | (go_at_call 83; refine (Len_any b sv ws n _ H.out).mono ?_; rintro e w1 ⟨rfl, rfl⟩)
    | (go_at_call 82; refine (Look_ok b sv ws n 0 ws.length _ H.out (by omega)).mono ?_; rintro e w2 ⟨v2, rfl, ho, hc⟩; have HO := Lib.hid ho; have HC := Lib.hid hc; clear ho hc))
  go_ret
  refine ⟨_, rfl, by have := HO.out; rwa [List.drop_zero, List.take_length] at this, HC.out⟩
end Go.Proofs.Ytbbpnpokccfhjaa.mem
