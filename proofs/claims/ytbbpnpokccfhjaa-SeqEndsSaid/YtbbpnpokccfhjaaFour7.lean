/- Package four, plain: steps, one behind the other. -/
import Derived.Test.YtbbpnpokccfhjaaFour3
import Derived.Test.YtbbpnpokccfhjaaKind
namespace Go.Proofs.Ytbbpnpokccfhjaa.four
open Go Go.RowKit Go.Proofs.Ytbbpnpokccfhjaa.kit Go.Proofs.Ytbbpnpokccfhjaa.mem Go.Proofs.Ytbbpnpokccfhjaa.rop Go.Proofs.Ytbbpnpokccfhjaa.core
set_option linter.unusedVariables false
set_option maxRecDepth 20000

/-- how many steps are left -/
def left (x : Core) : Int :=
  if x.over then 0 else if x.op = 2 then (if x.phase = 0 then x.w + 4 else if x.phase = 1 then x.w + 3 else if x.phase = 2 then x.w + 2 - x.i else if x.phase = 3 then 2 else 1)
  else (if x.phase = 0 then x.w + 3 else if x.phase = 1 then x.w + 2 else if x.phase = 2 then x.w + 1 else x.w - x.i)
theorem left_pos {x : Core} {rec : List Int} (h : Shape x rec) (ho : x.over = false) : 1 ≤ left x := by
  have hw := h.w; have hi := h.i ho
  rcases h.op with ⟨o, p, _⟩ | ⟨o, p, _⟩ <;> simp only [left, ho, o] <;> simp <;> (repeat' split) <;> omega
theorem left_over {x : Core} (ho : x.over = true) : left x = 0 := by simp [left, ho]
theorem getD_wf {ws : List Int} (hw : ∀ z ∈ ws, 0 ≤ z ∧ z ≤ 4294967295) (i : Nat) : 0 ≤ ws.getD i 0 := by
  by_cases h : i < ws.length
  · simp [List.getD, h]; exact (hw _ (List.getElem_mem h)).1
  · simp [List.getD, h]
theorem step_len (x : Core) (mv : Value) (rec ws : List Int) : (step x mv rec ws).2.2.length = ws.length := by
  simp only [step, stepW, stepR]
  (repeat' split) <;> simp
/-- a step leaves the form, and takes one of what is left -/
theorem step_ok {x : Core} {rec ws : List Int} (mv : Value) (h : Shape x rec) (ho : x.over = false) (hws : ∀ z ∈ ws, 0 ≤ z ∧ z ≤ 4294967295) :
    Shape (step x mv rec ws).1 (step x mv rec ws).2.1 ∧ left (step x mv rec ws).1 + 1 = left x ∧ (step x mv rec ws).1.steps = x.steps + 1 ∧ (step x mv rec ws).1.m = mv ∧
    (step x mv rec ws).1.w = x.w ∧ (step x mv rec ws).1.op = x.op ∧ (step x mv rec ws).1.base = x.base ∧ (step x mv rec ws).1.size = x.size := by
  obtain ⟨hw, ha, hb, hba, hs, hi, hop⟩ := h
  have hi := hi ho
  have g1 := getD_wf hws (x.base.toNat + 1)
  have g2 := getD_wf hws (x.base.toNat + 0)
  have g3 := getD_wf hws (x.base.toNat + (2 + x.a.toNat))
  rcases hop with ⟨o, p, r⟩ | ⟨o, p, r⟩
  · have r := r ho
    rcases (by omega : x.phase = 0 ∨ x.phase = 1 ∨ x.phase = 2 ∨ x.phase = 3 ∨ x.phase = 4) with q | q | q | q | q
    · simp only [step, stepW, o, q, if_true]
      refine ⟨⟨hw, by simp only []; omega, hb, hba, hs, fun _ => by simp only []; omega, .inl ⟨rfl, by simp, fun _ => r⟩⟩, by simp [left, ho, o, q] <;> omega, by simp [o]⟩
    · have e1 : ¬ ((1 : Int) = 0) := by omega
      simp only [step, stepW, o, q, if_true, if_neg e1]
      refine ⟨⟨hw, ha, by simp only []; omega, hba, hs, fun _ => by simp only []; omega, .inl ⟨rfl, by simp, fun _ => r⟩⟩, by simp [left, ho, o, q] <;> omega, by simp [o]⟩
    · have e1 : ¬ ((2 : Int) = 0) := by omega
      have e2 : ¬ ((2 : Int) = 1) := by omega
      simp only [step, stepW, o, q, if_true, if_neg e1, if_neg e2]
      split
      · refine ⟨⟨hw, ha, hb, hba, hs, fun _ => by simp only []; omega, .inl ⟨rfl, by simp, fun _ => r⟩⟩, by simp [left, ho, o, q] <;> omega, by simp [o]⟩
      · refine ⟨⟨hw, ha, hb, hba, hs, fun _ => by simp only []; omega, .inl ⟨rfl, by simp [q], fun _ => r⟩⟩, by simp [left, ho, o, q] <;> omega, by simp [o]⟩
    · have e1 : ¬ ((3 : Int) = 0) := by omega
      have e2 : ¬ ((3 : Int) = 1) := by omega
      have e3 : ¬ ((3 : Int) = 2) := by omega
      simp only [step, stepW, o, q, if_true, if_neg e1, if_neg e2, if_neg e3]
      refine ⟨⟨hw, ha, hb, hba, hs, fun _ => by simp only []; omega, .inl ⟨rfl, by simp, fun _ => r⟩⟩, by simp [left, ho, o, q], by simp [o]⟩
    · have e1 : ¬ ((4 : Int) = 0) := by omega
      have e2 : ¬ ((4 : Int) = 1) := by omega
      have e3 : ¬ ((4 : Int) = 2) := by omega
      have e4 : ¬ ((4 : Int) = 3) := by omega
      simp only [step, stepW, o, q, if_true, if_neg e1, if_neg e2, if_neg e3, if_neg e4]
      refine ⟨⟨hw, ha, hb, hba, hs, by simp, .inl ⟨rfl, by simp [q], by simp⟩⟩, by simp [left, ho, o, q], by simp [o]⟩
  · have r := r ho
    have e0 : ¬ ((1 : Int) = 2) := by omega
    rcases (by omega : x.phase = 0 ∨ x.phase = 1 ∨ x.phase = 2 ∨ x.phase = 3) with q | q | q | q
    · simp only [step, stepR, o, q, if_true, if_neg e0]
      refine ⟨⟨hw, by simp only []; omega, hb, hba, hs, fun _ => by simp only []; omega, .inr ⟨rfl, by simp, fun _ => by simp [q] at r ⊢; exact r⟩⟩, by simp [left, ho, o, q] <;> omega, by simp [o]⟩
    · have e1 : ¬ ((1 : Int) = 0) := by omega
      simp only [step, stepR, o, q, if_true, if_neg e0, if_neg e1]
      refine ⟨⟨hw, ha, hb, hba, hs, fun _ => by simp only []; omega, .inr ⟨rfl, by simp, fun _ => by simp [q] at r ⊢; exact r⟩⟩, by simp [left, ho, o, q] <;> omega, by simp [o]⟩
    · have e1 : ¬ ((2 : Int) = 0) := by omega
      have e2 : ¬ ((2 : Int) = 1) := by omega
      simp only [step, stepR, o, q, if_true, if_neg e0, if_neg e1, if_neg e2]
      refine ⟨⟨hw, ha, by simp only []; omega, hba, hs, fun _ => by simp only []; omega, .inr ⟨rfl, by simp, fun _ => by simp [q] at r ⊢; exact r⟩⟩, by simp [left, ho, o, q] <;> omega, by simp [o]⟩
    · have e1 : ¬ ((3 : Int) = 0) := by omega
      have e2 : ¬ ((3 : Int) = 1) := by omega
      have e3 : ¬ ((3 : Int) = 2) := by omega
      simp only [step, stepR, o, q, if_true, if_neg e0, if_neg e1, if_neg e2, if_neg e3]
      split
      · refine ⟨⟨hw, ha, hb, hba, hs, by simp, .inr ⟨rfl, by simp [q], by simp⟩⟩, by simp [left, ho, o, q] <;> omega, by simp [o]⟩
      · refine ⟨⟨hw, ha, hb, hba, hs, fun _ => by simp only []; omega, .inr ⟨rfl, by simp [q], fun _ => by simp [q] at r ⊢; omega⟩⟩, by simp [left, ho, o, q] <;> omega, by simp [o]⟩
def K : Kind where
  step := step
  Shape := Shape
  left := left
  ok mv h ho hws := by
    obtain ⟨h1, h2, h3, h4, h5, h6, h7, h8⟩ := step_ok mv h ho hws
    exact ⟨h1, by omega, h3, h4, h7, h8⟩
  len := step_len
  pos := left_pos
  zero := left_over
end Go.Proofs.Ytbbpnpokccfhjaa.four
