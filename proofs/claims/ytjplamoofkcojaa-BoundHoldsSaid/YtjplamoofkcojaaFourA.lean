/- Parts joined: Four1, Four2, Four3, Four7. -/
import Derived.Test.YtjplamoofkcojaaCore
import Derived.Test.YtjplamoofkcojaaRopB
/- Package four: the steps of a write and of a read. -/
namespace Go.Proofs.Ytjplamoofkcojaa.four
open Go Go.RowKit Go.Proofs.Ytjplamoofkcojaa.kit Go.Proofs.Ytjplamoofkcojaa.mem Go.Proofs.Ytjplamoofkcojaa.rop Go.Proofs.Ytjplamoofkcojaa.core
set_option linter.unusedVariables false
set_option linter.unusedSimpArgs false
set_option maxRecDepth 20000

theorem and_one_u32 (E : Int) (h0 : 0 ≤ E) (h1 : E ≤ 4294967295) : bits BinOp.and IntKind.u32 E 1 = E % 2 := by
  have h1 : (BitVec.ofInt 32 ((E.toNat : Nat) : Int)).toNat = E.toNat := by
    rw [BitVec.ofInt_natCast, BitVec.toNat_ofNat]; exact Nat.mod_eq_of_lt (by omega)
  have h2 : (BitVec.ofInt 32 (((1 : Nat)) : Int)).toNat = 1 := by
    rw [BitVec.ofInt_natCast, BitVec.toNat_ofNat]
  rw [Int.toNat_of_nonneg h0] at h1
  show IntKind.u32.wrap ((BitVec.ofInt 32 E &&& BitVec.ofInt 32 1).toNat : Int) = _
  have h3 : (BitVec.ofInt 32 (1 : Int)).toNat = 1 := h2
  rw [BitVec.toNat_and, h1, h3, Nat.and_one_is_mod, IntKind.wrap_u32]
  omega
theorem _root_.Go.Proofs.Ytjplamoofkcojaa.mem.MemAt.word {W : World} {b : Nat} {sv : Value} {ws : List Int} {n : Int} {i : Nat} (h : MemAt W b sv ws n) (hi : i < ws.length) : 0 ≤ ws.getD i 0 ∧ ws.getD i 0 ≤ 4294967295 := by
  have hget : ws.getD i 0 = ws[i] := by simp [List.getD, hi]
  rw [hget]
  exact wf_u32 (h.wf _ (List.getElem_mem hi))
end Go.Proofs.Ytjplamoofkcojaa.four

/- Package four: the word of a record; a step. -/
namespace Go.Proofs.Ytjplamoofkcojaa.four
open Go Go.RowKit Go.Proofs.Ytjplamoofkcojaa.kit Go.Proofs.Ytjplamoofkcojaa.mem Go.Proofs.Ytjplamoofkcojaa.rop Go.Proofs.Ytjplamoofkcojaa.core
set_option linter.unusedVariables false
set_option linter.unusedSimpArgs false
set_option maxRecDepth 20000

end Go.Proofs.Ytjplamoofkcojaa.four

/- Package four: a step, whatever it is. -/
namespace Go.Proofs.Ytjplamoofkcojaa.four
open Go Go.RowKit Go.Proofs.Ytjplamoofkcojaa.kit Go.Proofs.Ytjplamoofkcojaa.mem Go.Proofs.Ytjplamoofkcojaa.rop Go.Proofs.Ytjplamoofkcojaa.core
set_option linter.unusedVariables false
set_option linter.unusedSimpArgs false
set_option maxRecDepth 20000

/-- a step of a write, in plain lists -/
def stepW (x : Core) (rec ws : List Int) : Core × List Int × List Int :=
  if x.phase = 0 then ({ x with a := (ws.getD (x.base.toNat + 1) 0 + 1) % 2, phase := 1, i := 0 }, rec, ws)
  else if x.phase = 1 then ({ x with b := (ws.getD (x.base.toNat + (2 + x.a.toNat)) 0 + 1) % 2, phase := 2, i := 0 }, rec, ws)
  else if x.phase = 2 then (if x.w.toNat ≤ x.i.toNat + 1 then { x with phase := 3, i := 0 } else { x with i := (x.i.toNat : Int) + 1 }, rec, ws.set (x.base.toNat + ((4 + (2 * x.a.toNat + x.b.toNat) * x.w.toNat) + x.i.toNat)) (rec.getD x.i.toNat 0))
  else if x.phase = 3 then ({ x with phase := 4, i := 0 }, rec, ws.set (x.base.toNat + (2 + x.a.toNat)) (x.b.toNat : Int))
  else ({ x with over := true, code := 0 }, endRec x.op 0 rec, ws.set x.base.toNat (x.a.toNat : Int))
/-- a step of a read, in plain lists -/
def stepR (x : Core) (rec ws : List Int) : Core × List Int × List Int :=
  if x.phase = 0 then ({ x with a := ws.getD (x.base.toNat + 0) 0 % 2, phase := 1, i := 0 }, rec, ws)
  else if x.phase = 1 then ({ x with phase := 2, i := 0 }, rec, ws.set (x.base.toNat + 1) (x.a.toNat : Int))
  else if x.phase = 2 then ({ x with b := ws.getD (x.base.toNat + (2 + x.a.toNat)) 0 % 2, phase := 3, i := 0 }, rec, ws)
  else (if x.w.toNat ≤ x.i.toNat + 1 then { x with i := (x.i.toNat : Int) + 1, over := true, code := 0 } else { x with i := (x.i.toNat : Int) + 1 },
    if x.w.toNat ≤ x.i.toNat + 1 then endRec x.op 0 (rec ++ [ws.getD (x.base.toNat + ((4 + (2 * x.a.toNat + x.b.toNat) * x.w.toNat) + x.i.toNat)) 0]) else rec ++ [ws.getD (x.base.toNat + ((4 + (2 * x.a.toNat + x.b.toNat) * x.w.toNat) + x.i.toNat)) 0], ws)
/-- a step, in plain lists -/
def step (x : Core) (mv : Value) (rec ws : List Int) : Core × List Int × List Int :=
  if x.op = 2 then stepW { x with m := mv, steps := x.steps + 1 } rec ws else stepR { x with m := mv, steps := x.steps + 1 } rec ws

/-- what an operation keeps -/
structure Shape (x : Core) (rec : List Int) : Prop where
  w : 1 ≤ x.w ∧ x.w ≤ 8
  a : x.a = 0 ∨ x.a = 1
  b : x.b = 0 ∨ x.b = 1
  base : 0 ≤ x.base
  size : x.size = 4 + 4 * x.w
  i : x.over = false → 0 ≤ x.i ∧ x.i < x.w
  op : (x.op = 2 ∧ (0 ≤ x.phase ∧ x.phase ≤ 4) ∧ (x.over = false → (rec.length : Int) = x.w)) ∨ (x.op = 1 ∧ (0 ≤ x.phase ∧ x.phase ≤ 3) ∧ (x.over = false → (rec.length : Int) = if x.phase = 3 then x.i else 0))

theorem e8of {T : TypeId} {bx mb : Nat} {sv r0 : Value} {W0 W : World} {x : Core} {rec ws : List Int} {n o : Int} {mv : Value} {k : Int} (ho : x.op = o) (h : St T bx mb sv W0 r0 W { x with m := mv, steps := k } rec ws n) : W.cell? ⟨bx, 8, none⟩ = some (.int .i64 o) := by
  rw [← ho]; exact h.cell 8 _ (fun _ => rfl)
theorem Shape.up {x : Core} {rec : List Int} (h : Shape x rec) (mv : Value) (k : Int) : Shape { x with m := mv, steps := k } rec := ⟨h.w, h.a, h.b, h.base, h.size, h.i, h.op⟩
theorem opens_spec {x : Core} {l : Nat} (h : opens x l = true) : x.over = false ∧ 0 ≤ x.base ∧ 0 ≤ x.size ∧ x.base + x.size ≤ l := by
  simp only [opens, insB, Bool.and_eq_true, Bool.not_eq_true', decide_eq_true_eq] at h
  exact ⟨h.1, h.2.1, h.2.2.1, by omega⟩
end Go.Proofs.Ytjplamoofkcojaa.four

/- Package four, plain: steps, one behind the other. -/
namespace Go.Proofs.Ytjplamoofkcojaa.four
open Go Go.RowKit Go.Proofs.Ytjplamoofkcojaa.kit Go.Proofs.Ytjplamoofkcojaa.mem Go.Proofs.Ytjplamoofkcojaa.rop Go.Proofs.Ytjplamoofkcojaa.core
set_option linter.unusedVariables false
set_option linter.unusedSimpArgs false
set_option maxRecDepth 20000

/-- how many steps are left -/
def left (x : Core) : Int :=
  if x.over then 0 else if x.op = 2 then (if x.phase = 0 then x.w + 4 else if x.phase = 1 then x.w + 3 else if x.phase = 2 then x.w + 2 - x.i else if x.phase = 3 then 2 else 1)
  else (if x.phase = 0 then x.w + 3 else if x.phase = 1 then x.w + 2 else if x.phase = 2 then x.w + 1 else x.w - x.i)
theorem left_pos {x : Core} {rec : List Int} (h : Shape x rec) (ho : x.over = false) : 1 ≤ left x := by
  have hw := h.w; have hi := h.i ho
  rcases h.op with ⟨o, p, _⟩ | ⟨o, p, _⟩ <;> simp only [left, ho, o] <;> simp <;> (repeat' split) <;> omega
theorem left_over {x : Core} (ho : x.over = true) : left x = 0 := by simp [left, ho]
theorem getD_wf {ws : List Int} (hw : ∀ z ∈ ws, 0 ≤ z ∧ z ≤ 4294967295) (i : Nat) : 0 ≤ ws.getD i 0 := by
  by_cases h : i < ws.length
  · simp [List.getD, h]; exact (hw _ (List.getElem_mem h)).1
  · simp [List.getD, h]
theorem step_len (x : Core) (mv : Value) (rec ws : List Int) : (step x mv rec ws).2.2.length = ws.length := by
  simp only [step, stepW, stepR]
  (repeat' split) <;> simp
/-- a step leaves the form, and takes one of what is left -/
theorem step_ok {x : Core} {rec ws : List Int} (mv : Value) (h : Shape x rec) (ho : x.over = false) (hws : ∀ z ∈ ws, 0 ≤ z ∧ z ≤ 4294967295) :
    Shape (step x mv rec ws).1 (step x mv rec ws).2.1 ∧ left (step x mv rec ws).1 + 1 = left x ∧ (step x mv rec ws).1.steps = x.steps + 1 ∧ (step x mv rec ws).1.m = mv ∧
    (step x mv rec ws).1.w = x.w ∧ (step x mv rec ws).1.op = x.op ∧ (step x mv rec ws).1.base = x.base ∧ (step x mv rec ws).1.size = x.size := by
  obtain ⟨hw, ha, hb, hba, hs, hi, hop⟩ := h
  have hi := hi ho
  have g1 := getD_wf hws (x.base.toNat + 1)
  have g2 := getD_wf hws (x.base.toNat + 0)
  have g3 := getD_wf hws (x.base.toNat + (2 + x.a.toNat))
  rcases hop with ⟨o, p, r⟩ | ⟨o, p, r⟩
  · have r := r ho
    rcases (by omega : x.phase = 0 ∨ x.phase = 1 ∨ x.phase = 2 ∨ x.phase = 3 ∨ x.phase = 4) with q | q | q | q | q
    · simp only [step, stepW, o, q, if_true]
      refine ⟨⟨hw, by simp only []; omega, hb, hba, hs, fun _ => by simp only []; omega, .inl ⟨rfl, by simp, fun _ => r⟩⟩, by simp [left, ho, o, q] <;> omega, by simp [o]⟩
    · have e1 : ¬ ((1 : Int) = 0) := by omega
      simp only [step, stepW, o, q, if_true, if_neg e1]
      refine ⟨⟨hw, ha, by simp only []; omega, hba, hs, fun _ => by simp only []; omega, .inl ⟨rfl, by simp, fun _ => r⟩⟩, by simp [left, ho, o, q] <;> omega, by simp [o]⟩
    · have e1 : ¬ ((2 : Int) = 0) := by omega
      have e2 : ¬ ((2 : Int) = 1) := by omega
      simp only [step, stepW, o, q, if_true, if_neg e1, if_neg e2]
      split
      · refine ⟨⟨hw, ha, hb, hba, hs, fun _ => by simp only []; omega, .inl ⟨rfl, by simp, fun _ => r⟩⟩, by simp [left, ho, o, q] <;> omega, by simp [o]⟩
      · refine ⟨⟨hw, ha, hb, hba, hs, fun _ => by simp only []; omega, .inl ⟨rfl, by simp [q], fun _ => r⟩⟩, by simp [left, ho, o, q] <;> omega, by simp [o]⟩
    · have e1 : ¬ ((3 : Int) = 0) := by omega
      have e2 : ¬ ((3 : Int) = 1) := by omega
      have e3 : ¬ ((3 : Int) = 2) := by omega
      simp only [step, stepW, o, q, if_true, if_neg e1, if_neg e2, if_neg e3]
      refine ⟨⟨hw, ha, hb, hba, hs, fun _ => by simp only []; omega, .inl ⟨rfl, by simp, fun _ => r⟩⟩, by simp [left, ho, o, q], by simp [o]⟩
    · have e1 : ¬ ((4 : Int) = 0) := by omega
      have e2 : ¬ ((4 : Int) = 1) := by omega
      have e3 : ¬ ((4 : Int) = 2) := by omega
      have e4 : ¬ ((4 : Int) = 3) := by omega
      simp only [step, stepW, o, q, if_true, if_neg e1, if_neg e2, if_neg e3, if_neg e4]
      refine ⟨⟨hw, ha, hb, hba, hs, by simp, .inl ⟨rfl, by simp [q], by simp⟩⟩, by simp [left, ho, o, q], by simp [o]⟩
  · have r := r ho
    have e0 : ¬ ((1 : Int) = 2) := by omega
    rcases (by omega : x.phase = 0 ∨ x.phase = 1 ∨ x.phase = 2 ∨ x.phase = 3) with q | q | q | q
    · simp only [step, stepR, o, q, if_true, if_neg e0]
      refine ⟨⟨hw, by simp only []; omega, hb, hba, hs, fun _ => by simp only []; omega, .inr ⟨rfl, by simp, fun _ => by simp [q] at r ⊢; exact r⟩⟩, by simp [left, ho, o, q] <;> omega, by simp [o]⟩
    · have e1 : ¬ ((1 : Int) = 0) := by omega
      simp only [step, stepR, o, q, if_true, if_neg e0, if_neg e1]
      refine ⟨⟨hw, ha, hb, hba, hs, fun _ => by simp only []; omega, .inr ⟨rfl, by simp, fun _ => by simp [q] at r ⊢; exact r⟩⟩, by simp [left, ho, o, q] <;> omega, by simp [o]⟩
    · have e1 : ¬ ((2 : Int) = 0) := by omega
      have e2 : ¬ ((2 : Int) = 1) := by omega
      simp only [step, stepR, o, q, if_true, if_neg e0, if_neg e1, if_neg e2]
      refine ⟨⟨hw, ha, by simp only []; omega, hba, hs, fun _ => by simp only []; omega, .inr ⟨rfl, by simp, fun _ => by simp [q] at r ⊢; exact r⟩⟩, by simp [left, ho, o, q] <;> omega, by simp [o]⟩
    · have e1 : ¬ ((3 : Int) = 0) := by omega
      have e2 : ¬ ((3 : Int) = 1) := by omega
      have e3 : ¬ ((3 : Int) = 2) := by omega
      simp only [step, stepR, o, q, if_true, if_neg e0, if_neg e1, if_neg e2, if_neg e3]
      split
      · refine ⟨⟨hw, ha, hb, hba, hs, by simp, .inr ⟨rfl, by simp [q], by simp⟩⟩, by simp [left, ho, o, q] <;> omega, by simp [o]⟩
      · refine ⟨⟨hw, ha, hb, hba, hs, fun _ => by simp only []; omega, .inr ⟨rfl, by simp [q], fun _ => by simp [q] at r ⊢; omega⟩⟩, by simp [left, ho, o, q] <;> omega, by simp [o]⟩
def K : Kind where
  step := step
  Shape := Shape
  left := left
  ok mv h ho hws := by
    obtain ⟨h1, h2, h3, h4, h5, h6, h7, h8⟩ := step_ok mv h ho hws
    exact ⟨h1, by omega, h3, h4, h7, h8⟩
  len := step_len
  pos := left_pos
  zero := left_over
end Go.Proofs.Ytjplamoofkcojaa.four
