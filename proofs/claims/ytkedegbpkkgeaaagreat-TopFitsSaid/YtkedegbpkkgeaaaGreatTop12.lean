import Derived.Test.YtkedegbpkkgeaaaGreatTop6
import Derived.Test.YtkedegbpkkgeaaaGreatWordWalks
import Derived.Test.YtkedegbpkkgeaaaGreatTop4
/- Parts joined: Fifo1, Fifo2. -/
/- Package fifo: the counter, where a record stands, the steps of a put and of a take. -/
namespace Go.Proofs.YtkedegbpkkgeaaaGreat.fifo
open Go Go.RowKit Go.Proofs.YtkedegbpkkgeaaaGreat.kit Go.Proofs.YtkedegbpkkgeaaaGreat.mem Go.Proofs.YtkedegbpkkgeaaaGreat.rop Go.Proofs.YtkedegbpkkgeaaaGreat.core Go.Proofs.YtkedegbpkkgeaaaGreat.obj
set_option linter.unusedVariables false
set_option linter.unusedSimpArgs false
set_option maxRecDepth 20000

/-- where the record of a count begins -/
def fromN (x : Core) : Nat := (2 + (x.a % x.s) * x.w).toNat
theorem mul_bd {c w m : Int} (hc : 0 ≤ c ∧ c ≤ m) (hw : 0 ≤ w ∧ w ≤ 8) (hm : m ≤ 16) : 0 ≤ c * w ∧ c * w ≤ m * w ∧ c * w ≤ 128 := by
  have h1 := Int.mul_nonneg hc.1 hw.1
  have h2 := Int.mul_le_mul_of_nonneg_right hc.2 hw.1
  have h3 := Int.mul_le_mul_of_nonneg_left hw.2 (show 0 ≤ m by omega)
  omega
end Go.Proofs.YtkedegbpkkgeaaaGreat.fifo

/- Package fifo: a step, whatever it is. -/
namespace Go.Proofs.YtkedegbpkkgeaaaGreat.fifo
open Go Go.RowKit Go.Proofs.YtkedegbpkkgeaaaGreat.kit Go.Proofs.YtkedegbpkkgeaaaGreat.mem Go.Proofs.YtkedegbpkkgeaaaGreat.rop Go.Proofs.YtkedegbpkkgeaaaGreat.core
set_option linter.unusedVariables false
set_option linter.unusedSimpArgs false
set_option maxRecDepth 20000

/-- a step of a put, in plain lists -/
def stepW (x : Core) (rec ws : List Int) : Core × List Int × List Int :=
  if x.phase = 0 then ({ x with a := (ws.getD (x.base.toNat + 1) 0 % (2 * x.s)), phase := 1, i := 0 }, rec, ws)
  else if x.phase = 1 then (if x.s ≤ word.gapU (ws.getD (x.base.toNat + 0) 0 % (2 * x.s)) x.a (2 * x.s) then { x with over := true, code := 2 } else { x with phase := 2, i := 0 }, if x.s ≤ word.gapU (ws.getD (x.base.toNat + 0) 0 % (2 * x.s)) x.a (2 * x.s) then endRec x.op 2 rec else rec, ws)
  else if x.phase = 2 then (if x.w.toNat ≤ x.i.toNat + 1 then { x with phase := 3, i := 0 } else { x with i := (x.i.toNat : Int) + 1 }, rec, ws.set (x.base.toNat + (fromN x + x.i.toNat)) (rec.getD x.i.toNat 0))
  else ({ x with over := true, code := 0 }, endRec x.op 0 rec, ws.set (x.base.toNat + 1) ((x.a + 1) % (2 * x.s)))
/-- a step of a take, in plain lists -/
def stepR (x : Core) (rec ws : List Int) : Core × List Int × List Int :=
  if x.phase = 0 then ({ x with a := (ws.getD (x.base.toNat + 0) 0 % (2 * x.s)), phase := 1, i := 0 }, rec, ws)
  else if x.phase = 1 then (if (ws.getD (x.base.toNat + 1) 0 % (2 * x.s)) = x.a then { x with over := true, code := 3 } else { x with phase := 2, i := 0 }, if (ws.getD (x.base.toNat + 1) 0 % (2 * x.s)) = x.a then endRec x.op 3 rec else rec, ws)
  else if x.phase = 2 then (if x.w.toNat ≤ x.i.toNat + 1 then { x with phase := 3, i := 0 } else { x with i := (x.i.toNat : Int) + 1 }, rec ++ [ws.getD (x.base.toNat + (fromN x + x.i.toNat)) 0], ws)
  else ({ x with over := true, code := 0 }, endRec x.op 0 rec, ws.set (x.base.toNat + 0) ((x.a + 1) % (2 * x.s)))
/-- a step, in plain lists -/
def step (x : Core) (mv : Value) (rec ws : List Int) : Core × List Int × List Int :=
  if x.op = 3 then stepW { x with m := mv, steps := x.steps + 1 } rec ws else stepR { x with m := mv, steps := x.steps + 1 } rec ws

/-- what an operation keeps -/
structure Shape (x : Core) (rec : List Int) : Prop where
  w : 1 ≤ x.w ∧ x.w ≤ 8
  s : 1 ≤ x.s ∧ x.s ≤ 16
  a : 0 ≤ x.a ∧ x.a ≤ 4294967295
  base : 0 ≤ x.base
  size : x.size = 2 + x.s * x.w
  i : x.over = false → 0 ≤ x.i ∧ x.i < x.w
  op : (x.op = 3 ∧ (0 ≤ x.phase ∧ x.phase ≤ 3) ∧ (x.over = false → (rec.length : Int) = x.w)) ∨ (x.op = 4 ∧ (0 ≤ x.phase ∧ x.phase ≤ 3) ∧ (x.over = false → (rec.length : Int) = if x.phase = 2 then x.i else if x.phase = 3 then x.w else 0))

theorem Shape.up {x : Core} {rec : List Int} (h : Shape x rec) (mv : Value) (k : Int) : Shape { x with m := mv, steps := k } rec := ⟨h.w, h.s, h.a, h.base, h.size, h.i, h.op⟩
/-- how many steps are left at most -/
def left (x : Core) : Int :=
  if x.over then 0 else (if x.phase = 0 then x.w + 3 else if x.phase = 1 then x.w + 2 else if x.phase = 2 then x.w + 1 - x.i else 1)
theorem left_over {x : Core} (ho : x.over = true) : left x = 0 := by simp [left, ho]
theorem left_pos {x : Core} {rec : List Int} (h : Shape x rec) (ho : x.over = false) : 1 ≤ left x := by
  have hw := h.w; have hi := h.i ho
  simp only [left, ho]; simp; (repeat' split) <;> omega
theorem step_len (x : Core) (mv : Value) (rec ws : List Int) : (step x mv rec ws).2.2.length = ws.length := by
  simp only [step, stepW, stepR]
  (repeat' split) <;> simp
theorem mod_bd {s v : Int} (hs : 1 ≤ s ∧ s ≤ 16) : 0 ≤ v % (2 * s) ∧ v % (2 * s) ≤ 4294967295 := by
  have h1 := Int.emod_nonneg v (show 2 * s ≠ 0 by omega)
  have h2 := Int.emod_lt_of_pos v (show 0 < 2 * s by omega)
  omega
theorem step_ok {x : Core} {rec ws : List Int} (mv : Value) (h : Shape x rec) (ho : x.over = false) (hws : ∀ z ∈ ws, 0 ≤ z ∧ z ≤ 4294967295) :
    Shape (step x mv rec ws).1 (step x mv rec ws).2.1 ∧ left (step x mv rec ws).1 + 1 ≤ left x ∧ (step x mv rec ws).1.steps = x.steps + 1 ∧ (step x mv rec ws).1.m = mv ∧ (step x mv rec ws).1.base = x.base ∧ (step x mv rec ws).1.size = x.size := by
  obtain ⟨hw, hs2, ha, hba, hs, hi, hop⟩ := h
  have hi := hi ho
  have g1 := fun v => mod_bd (v := v) hs2
  have hl : left x = (if x.phase = 0 then x.w + 3 else if x.phase = 1 then x.w + 2 else if x.phase = 2 then x.w + 1 - x.i else 1) := by unfold left; rw [if_neg (by simp [ho])]
  rcases hop with ⟨o, p, r⟩ | ⟨o, p, r⟩
  · have r := r ho
    have hst : step x mv rec ws = stepW { x with m := mv, steps := x.steps + 1 } rec ws := by unfold step; rw [if_pos o]
    rw [hst]
    rcases (by omega : x.phase = 0 ∨ x.phase = 1 ∨ x.phase = 2 ∨ x.phase = 3) with q | q | q | q
    · unfold stepW
      rw [if_pos (show ({ x with m := mv, steps := x.steps + 1 } : Core).phase = 0 from q)]
      dsimp only
      refine ⟨⟨hw, hs2, g1 _, hba, hs, fun _ => by simp only []; omega, .inl ⟨o, by simp, fun _ => r⟩⟩, ?_, rfl, rfl, rfl, rfl⟩
      rw [hl, if_pos q]
      simp [left, ho]
      omega
    · unfold stepW
      rw [if_neg (show ¬ ({ x with m := mv, steps := x.steps + 1 } : Core).phase = 0 by show ¬ x.phase = 0; omega), if_pos (show ({ x with m := mv, steps := x.steps + 1 } : Core).phase = 1 from q)]
      dsimp only
      split
      · refine ⟨⟨hw, hs2, ha, hba, hs, by simp, .inl ⟨o, by simp [q], by simp⟩⟩, ?_, rfl, rfl, rfl, rfl⟩
        rw [hl, if_neg (by omega), if_pos q]
        simp [left]
        omega
      · refine ⟨⟨hw, hs2, ha, hba, hs, fun _ => by simp only []; omega, .inl ⟨o, by simp, fun _ => r⟩⟩, ?_, rfl, rfl, rfl, rfl⟩
        rw [hl, if_neg (by omega), if_pos q]
        simp [left, ho]
        omega
    · unfold stepW
      rw [if_neg (show ¬ ({ x with m := mv, steps := x.steps + 1 } : Core).phase = 0 by show ¬ x.phase = 0; omega), if_neg (show ¬ ({ x with m := mv, steps := x.steps + 1 } : Core).phase = 1 by show ¬ x.phase = 1; omega), if_pos (show ({ x with m := mv, steps := x.steps + 1 } : Core).phase = 2 from q)]
      dsimp only
      split
      · refine ⟨⟨hw, hs2, ha, hba, hs, fun _ => by simp only []; omega, .inl ⟨o, by simp, fun _ => r⟩⟩, ?_, rfl, rfl, rfl, rfl⟩
        rw [hl, if_neg (by omega), if_neg (by omega), if_pos q]
        simp [left, ho]
        omega
      · refine ⟨⟨hw, hs2, ha, hba, hs, fun _ => by simp only []; omega, .inl ⟨o, by simp [q], fun _ => r⟩⟩, ?_, rfl, rfl, rfl, rfl⟩
        rw [hl, if_neg (by omega), if_neg (by omega), if_pos q]
        simp [left, ho, q]
        omega
    · unfold stepW
      rw [if_neg (show ¬ ({ x with m := mv, steps := x.steps + 1 } : Core).phase = 0 by show ¬ x.phase = 0; omega), if_neg (show ¬ ({ x with m := mv, steps := x.steps + 1 } : Core).phase = 1 by show ¬ x.phase = 1; omega), if_neg (show ¬ ({ x with m := mv, steps := x.steps + 1 } : Core).phase = 2 by show ¬ x.phase = 2; omega)]
      dsimp only
      refine ⟨⟨hw, hs2, ha, hba, hs, by simp, .inl ⟨o, by simp [q], by simp⟩⟩, ?_, rfl, rfl, rfl, rfl⟩
      rw [hl, if_neg (by omega), if_neg (by omega), if_neg (by omega)]
      simp [left]
  · have r := r ho
    have hst : step x mv rec ws = stepR { x with m := mv, steps := x.steps + 1 } rec ws := by unfold step; rw [if_neg (by omega)]
    rw [hst]
    rcases (by omega : x.phase = 0 ∨ x.phase = 1 ∨ x.phase = 2 ∨ x.phase = 3) with q | q | q | q
    · unfold stepR
      rw [if_pos (show ({ x with m := mv, steps := x.steps + 1 } : Core).phase = 0 from q)]
      dsimp only
      refine ⟨⟨hw, hs2, g1 _, hba, hs, fun _ => by simp only []; omega, .inr ⟨o, by simp, fun _ => by simp [q] at r ⊢; exact r⟩⟩, ?_, rfl, rfl, rfl, rfl⟩
      rw [hl, if_pos q]
      simp [left, ho]
      omega
    · unfold stepR
      rw [if_neg (show ¬ ({ x with m := mv, steps := x.steps + 1 } : Core).phase = 0 by show ¬ x.phase = 0; omega), if_pos (show ({ x with m := mv, steps := x.steps + 1 } : Core).phase = 1 from q)]
      dsimp only
      split
      · refine ⟨⟨hw, hs2, ha, hba, hs, by simp, .inr ⟨o, by simp [q], by simp⟩⟩, ?_, rfl, rfl, rfl, rfl⟩
        rw [hl, if_neg (by omega), if_pos q]
        simp [left]
        omega
      · refine ⟨⟨hw, hs2, ha, hba, hs, fun _ => by simp only []; omega, .inr ⟨o, by simp, fun _ => by simp [q] at r ⊢; exact r⟩⟩, ?_, rfl, rfl, rfl, rfl⟩
        rw [hl, if_neg (by omega), if_pos q]
        simp [left, ho]
        omega
    · unfold stepR
      rw [if_neg (show ¬ ({ x with m := mv, steps := x.steps + 1 } : Core).phase = 0 by show ¬ x.phase = 0; omega), if_neg (show ¬ ({ x with m := mv, steps := x.steps + 1 } : Core).phase = 1 by show ¬ x.phase = 1; omega), if_pos (show ({ x with m := mv, steps := x.steps + 1 } : Core).phase = 2 from q)]
      dsimp only
      split
      · refine ⟨⟨hw, hs2, ha, hba, hs, fun _ => by simp only []; omega, .inr ⟨o, by simp, fun _ => by simp [q] at r ⊢; omega⟩⟩, ?_, rfl, rfl, rfl, rfl⟩
        rw [hl, if_neg (by omega), if_neg (by omega), if_pos q]
        simp [left, ho]
        omega
      · refine ⟨⟨hw, hs2, ha, hba, hs, fun _ => by simp only []; omega, .inr ⟨o, by simp [q], fun _ => by simp [q] at r ⊢; omega⟩⟩, ?_, rfl, rfl, rfl, rfl⟩
        rw [hl, if_neg (by omega), if_neg (by omega), if_pos q]
        simp [left, ho, q]
        omega
    · unfold stepR
      rw [if_neg (show ¬ ({ x with m := mv, steps := x.steps + 1 } : Core).phase = 0 by show ¬ x.phase = 0; omega), if_neg (show ¬ ({ x with m := mv, steps := x.steps + 1 } : Core).phase = 1 by show ¬ x.phase = 1; omega), if_neg (show ¬ ({ x with m := mv, steps := x.steps + 1 } : Core).phase = 2 by show ¬ x.phase = 2; omega)]
      dsimp only
      refine ⟨⟨hw, hs2, ha, hba, hs, by simp, .inr ⟨o, by simp [q], by simp⟩⟩, ?_, rfl, rfl, rfl, rfl⟩
      rw [hl, if_neg (by omega), if_neg (by omega), if_neg (by omega)]
      simp [left]
def K : Kind where
  step := step
  Shape := Shape
  left := left
  ok mv h ho hws := step_ok mv h ho hws
  len := step_len
  pos := left_pos
  zero := left_over
theorem free : K.Free where
  free x a mv rec ws := rfl
  relabel x mv mv' rec ws := by
    show step x mv' rec ws = ({ (step x mv rec ws).1 with m := mv' }, (step x mv rec ws).2.1, (step x mv rec ws).2.2)
    simp only [step, stepW, stepR, fromN]
    (repeat' split) <;> rfl
end Go.Proofs.YtkedegbpkkgeaaaGreat.fifo
/- Parts joined: Ring1, Ring2. -/
/- Package ring: the counter, where a record stands, the steps of a write and of a read. -/
namespace Go.Proofs.YtkedegbpkkgeaaaGreat.ring
open Go Go.RowKit Go.Proofs.YtkedegbpkkgeaaaGreat.kit Go.Proofs.YtkedegbpkkgeaaaGreat.mem Go.Proofs.YtkedegbpkkgeaaaGreat.rop Go.Proofs.YtkedegbpkkgeaaaGreat.core Go.Proofs.YtkedegbpkkgeaaaGreat.obj
set_option linter.unusedVariables false
set_option linter.unusedSimpArgs false
set_option maxRecDepth 20000

/-- where the record of a count begins -/
def fromN (x : Core) : Nat := (1 + (x.a % x.s) * x.w).toNat
theorem mul_bd {c w m : Int} (hc : 0 ≤ c ∧ c ≤ m) (hw : 0 ≤ w ∧ w ≤ 8) (hm : m ≤ 16) : 0 ≤ c * w ∧ c * w ≤ m * w ∧ c * w ≤ 128 := by
  have h1 := Int.mul_nonneg hc.1 hw.1
  have h2 := Int.mul_le_mul_of_nonneg_right hc.2 hw.1
  have h3 := Int.mul_le_mul_of_nonneg_left hw.2 (show 0 ≤ m by omega)
  omega
/-- an attempt has failed -/
def failC (x : Core) : Core := if x.c ≤ x.tries + 1 then { x with tries := x.tries + 1, phase := 0, i := 0, over := true, code := 1 } else { x with tries := x.tries + 1, phase := 0, i := 0 }
end Go.Proofs.YtkedegbpkkgeaaaGreat.ring

/- Package ring: a step, whatever it is. -/
namespace Go.Proofs.YtkedegbpkkgeaaaGreat.ring
open Go Go.RowKit Go.Proofs.YtkedegbpkkgeaaaGreat.kit Go.Proofs.YtkedegbpkkgeaaaGreat.mem Go.Proofs.YtkedegbpkkgeaaaGreat.rop Go.Proofs.YtkedegbpkkgeaaaGreat.core
set_option linter.unusedVariables false
set_option linter.unusedSimpArgs false
set_option maxRecDepth 20000

/-- a step of a write, in plain lists -/
def stepW (x : Core) (rec ws : List Int) : Core × List Int × List Int :=
  if x.phase = 0 then ({ x with a := ((ws.getD (x.base.toNat + 0) 0 % (x.s * 1048576)) + 1) % (x.s * 1048576), phase := 1, i := 0 }, rec, ws)
  else if x.phase = 1 then (if x.w.toNat ≤ x.i.toNat + 1 then { x with phase := 2, i := 0 } else { x with i := (x.i.toNat : Int) + 1 }, rec, ws.set (x.base.toNat + (fromN x + x.i.toNat)) (rec.getD x.i.toNat 0))
  else ({ x with over := true, code := 0 }, endRec x.op 0 rec, ws.set (x.base.toNat + 0) x.a)
/-- a step of a read, in plain lists -/
def stepR (x : Core) (rec ws : List Int) : Core × List Int × List Int :=
  if x.phase = 0 then ({ x with a := (ws.getD (x.base.toNat + 0) 0 % (x.s * 1048576)), phase := 1, i := 0 }, rec, ws)
  else if x.phase = 1 then (if x.w.toNat ≤ x.i.toNat + 1 then { x with phase := 2, i := 0 } else { x with i := (x.i.toNat : Int) + 1 }, rec ++ [ws.getD (x.base.toNat + (fromN x + x.i.toNat)) 0], ws)
  else (if word.gapU x.a (ws.getD (x.base.toNat + 0) 0 % (x.s * 1048576)) (x.s * 1048576) < x.s - 1 then { x with over := true, code := 0 } else failC x, if word.gapU x.a (ws.getD (x.base.toNat + 0) 0 % (x.s * 1048576)) (x.s * 1048576) < x.s - 1 then endRec x.op 0 rec else [], ws)
/-- a step, in plain lists -/
def step (x : Core) (mv : Value) (rec ws : List Int) : Core × List Int × List Int :=
  if x.op = 2 then stepW { x with m := mv, steps := x.steps + 1 } rec ws else stepR { x with m := mv, steps := x.steps + 1 } rec ws

/-- what an operation keeps -/
structure Shape (x : Core) (rec : List Int) : Prop where
  w : 1 ≤ x.w ∧ x.w ≤ 8
  s : 2 ≤ x.s ∧ x.s ≤ 16
  a : 0 ≤ x.a ∧ x.a ≤ 4294967295
  c : 1 ≤ x.c ∧ x.c ≤ 16
  tries : 0 ≤ x.tries ∧ (x.over = false → x.tries < x.c)
  base : 0 ≤ x.base
  size : x.size = 1 + x.s * x.w
  i : x.over = false → 0 ≤ x.i ∧ x.i < x.w
  op : (x.op = 2 ∧ (0 ≤ x.phase ∧ x.phase ≤ 2) ∧ (x.over = false → (rec.length : Int) = x.w)) ∨ (x.op = 1 ∧ (0 ≤ x.phase ∧ x.phase ≤ 2) ∧ (x.over = false → (rec.length : Int) = if x.phase = 1 then x.i else if x.phase = 2 then x.w else 0))

theorem Shape.up {x : Core} {rec : List Int} (h : Shape x rec) (mv : Value) (k : Int) : Shape { x with m := mv, steps := k } rec := ⟨h.w, h.s, h.a, h.c, h.tries, h.base, h.size, h.i, h.op⟩
/-- how many steps are left at most -/
def left (x : Core) : Int :=
  if x.over then 0 else if x.op = 2 then (if x.phase = 0 then x.w + 2 else if x.phase = 1 then x.w + 1 - x.i else 1)
  else (x.c - x.tries - 1) * (x.w + 2) + (if x.phase = 0 then x.w + 2 else if x.phase = 1 then x.w + 1 - x.i else 1)
theorem left_over {x : Core} (ho : x.over = true) : left x = 0 := by simp [left, ho]
theorem mul_nn {d m : Int} (h : 0 ≤ d) (hm : 0 ≤ m) : 0 ≤ d * m := Int.mul_nonneg h hm
theorem left_pos {x : Core} {rec : List Int} (h : Shape x rec) (ho : x.over = false) : 1 ≤ left x := by
  have hw := h.w; have hi := h.i ho; have ht := h.tries.2 ho
  have hp := mul_nn (d := x.c - x.tries - 1) (m := x.w + 2) (by omega) (by omega)
  rcases h.op with ⟨o, p, _⟩ | ⟨o, p, _⟩
  · simp only [left, ho, o]; simp; (repeat' split) <;> omega
  · simp only [left, ho, o]
    generalize (x.c - x.tries - 1) * (x.w + 2) = z at *
    simp; (repeat' split) <;> omega
theorem step_len (x : Core) (mv : Value) (rec ws : List Int) : (step x mv rec ws).2.2.length = ws.length := by
  simp only [step, stepW, stepR]
  (repeat' split) <;> simp
theorem mod_bd {s v : Int} (hs : 2 ≤ s ∧ s ≤ 16) : 0 ≤ v % (s * 1048576) ∧ v % (s * 1048576) ≤ 4294967295 := by
  have h1 := Int.emod_nonneg v (show s * 1048576 ≠ 0 by omega)
  have h2 := Int.emod_lt_of_pos v (show 0 < s * 1048576 by omega)
  omega
theorem failC_ok {x : Core} (hc : 1 ≤ x.c) (hs2 : 2 ≤ x.s ∧ x.s ≤ 16) (ht : 0 ≤ x.tries ∧ x.tries < x.c) (hw : 1 ≤ x.w ∧ x.w ≤ 8) (ha : 0 ≤ x.a ∧ x.a ≤ 4294967295) (hc2 : x.c ≤ 16) (hb : 0 ≤ x.base) (hs : x.size = 1 + x.s * x.w) (ho : x.op = 1) (hv : x.over = false) :
    Shape (failC x) [] ∧ left (failC x) = (x.c - x.tries - 1) * (x.w + 2) ∧ (failC x).steps = x.steps ∧ (failC x).m = x.m ∧ (failC x).base = x.base ∧ (failC x).size = x.size := by
  unfold failC
  split
  · refine ⟨⟨hw, hs2, ha, by simp only []; omega, by simp; omega, hb, hs, by simp, .inr ⟨ho, by simp, by simp⟩⟩, ?_, rfl, rfl, rfl, rfl⟩
    have e : x.c - x.tries - 1 = 0 := by omega
    rw [e]; simp [left]
  · refine ⟨⟨hw, hs2, ha, by simp only []; omega, by simp only []; exact ⟨by omega, fun _ => by omega⟩, hb, hs, fun _ => by simp only []; omega, .inr ⟨ho, by simp, fun _ => by simp⟩⟩, ?_, rfl, rfl, rfl, rfl⟩
    have e : x.c - (x.tries + 1) - 1 = (x.c - x.tries - 1) - 1 := by omega
    simp [left, hv, ho, e, Int.sub_mul] <;> omega
theorem step_ok {x : Core} {rec ws : List Int} (mv : Value) (h : Shape x rec) (ho : x.over = false) (hws : ∀ z ∈ ws, 0 ≤ z ∧ z ≤ 4294967295) :
    Shape (step x mv rec ws).1 (step x mv rec ws).2.1 ∧ left (step x mv rec ws).1 + 1 ≤ left x ∧ (step x mv rec ws).1.steps = x.steps + 1 ∧ (step x mv rec ws).1.m = mv ∧ (step x mv rec ws).1.base = x.base ∧ (step x mv rec ws).1.size = x.size := by
  obtain ⟨hw, hs2, ha, hc, ht, hba, hs, hi, hop⟩ := h
  have hi := hi ho
  have ht2 := ht.2 ho
  have g1 := fun v => mod_bd (v := v) hs2
  have hp := mul_nn (d := x.c - x.tries - 1) (m := x.w + 2) (by omega) (by omega)
  rcases hop with ⟨o, p, r⟩ | ⟨o, p, r⟩
  · have r := r ho
    have hst : step x mv rec ws = stepW { x with m := mv, steps := x.steps + 1 } rec ws := by unfold step; rw [if_pos o]
    rw [hst]
    have hl : left x = (if x.phase = 0 then x.w + 2 else if x.phase = 1 then x.w + 1 - x.i else 1) := by unfold left; rw [if_neg (by simp [ho]), if_pos o]
    rcases (by omega : x.phase = 0 ∨ x.phase = 1 ∨ x.phase = 2) with q | q | q
    · unfold stepW
      rw [if_pos (show ({ x with m := mv, steps := x.steps + 1 } : Core).phase = 0 from q)]
      dsimp only
      refine ⟨⟨hw, hs2, g1 _, hc, ht, hba, hs, fun _ => by simp only []; omega, .inl ⟨o, by simp, fun _ => r⟩⟩, ?_, rfl, rfl, rfl, rfl⟩
      rw [hl, if_pos q]
      simp [left, ho, o]
      omega
    · unfold stepW
      rw [if_neg (show ¬ ({ x with m := mv, steps := x.steps + 1 } : Core).phase = 0 by show ¬ x.phase = 0; omega), if_pos (show ({ x with m := mv, steps := x.steps + 1 } : Core).phase = 1 from q)]
      dsimp only
      split
      · refine ⟨⟨hw, hs2, ha, hc, ht, hba, hs, fun _ => by simp only []; omega, .inl ⟨o, by simp, fun _ => r⟩⟩, ?_, rfl, rfl, rfl, rfl⟩
        rw [hl, if_neg (by omega), if_pos q]
        simp [left, ho, o]
        omega
      · refine ⟨⟨hw, hs2, ha, hc, ht, hba, hs, fun _ => by simp only []; omega, .inl ⟨o, by simp [q], fun _ => r⟩⟩, ?_, rfl, rfl, rfl, rfl⟩
        rw [hl, if_neg (by omega), if_pos q]
        simp [left, ho, o, q]
        omega
    · unfold stepW
      rw [if_neg (show ¬ ({ x with m := mv, steps := x.steps + 1 } : Core).phase = 0 by show ¬ x.phase = 0; omega), if_neg (show ¬ ({ x with m := mv, steps := x.steps + 1 } : Core).phase = 1 by show ¬ x.phase = 1; omega)]
      dsimp only
      refine ⟨⟨hw, hs2, ha, hc, by simp; omega, hba, hs, by simp, .inl ⟨o, by simp [q], by simp⟩⟩, ?_, rfl, rfl, rfl, rfl⟩
      rw [hl, if_neg (by omega), if_neg (by omega)]
      simp [left]
  · have r := r ho
    have e0 : ¬ ((1 : Int) = 2) := by omega
    have hst : step x mv rec ws = stepR { x with m := mv, steps := x.steps + 1 } rec ws := by unfold step; rw [if_neg (by omega)]
    rw [hst]
    have hl : left x = (x.c - x.tries - 1) * (x.w + 2) + (if x.phase = 0 then x.w + 2 else if x.phase = 1 then x.w + 1 - x.i else 1) := by unfold left; rw [if_neg (by simp [ho]), if_neg (by omega)]
    rcases (by omega : x.phase = 0 ∨ x.phase = 1 ∨ x.phase = 2) with q | q | q
    · unfold stepR
      rw [if_pos (show ({ x with m := mv, steps := x.steps + 1 } : Core).phase = 0 from q)]
      dsimp only
      refine ⟨⟨hw, hs2, g1 _, hc, ht, hba, hs, fun _ => by simp only []; omega, .inr ⟨o, by simp, fun _ => by simp [q] at r ⊢; exact r⟩⟩, ?_, rfl, rfl, rfl, rfl⟩
      rw [hl, if_pos q]
      simp [left, ho, o]
      omega
    · unfold stepR
      rw [if_neg (show ¬ ({ x with m := mv, steps := x.steps + 1 } : Core).phase = 0 by show ¬ x.phase = 0; omega), if_pos (show ({ x with m := mv, steps := x.steps + 1 } : Core).phase = 1 from q)]
      dsimp only
      split
      · refine ⟨⟨hw, hs2, ha, hc, ht, hba, hs, fun _ => by simp only []; omega, .inr ⟨o, by simp, fun _ => by simp [q] at r ⊢; omega⟩⟩, ?_, rfl, rfl, rfl, rfl⟩
        rw [hl, if_neg (by omega), if_pos q]
        simp [left, ho, o]
        omega
      · refine ⟨⟨hw, hs2, ha, hc, ht, hba, hs, fun _ => by simp only []; omega, .inr ⟨o, by simp [q], fun _ => by simp [q] at r ⊢; omega⟩⟩, ?_, rfl, rfl, rfl, rfl⟩
        rw [hl, if_neg (by omega), if_pos q]
        simp [left, ho, o, q]
        omega
    · unfold stepR
      rw [if_neg (show ¬ ({ x with m := mv, steps := x.steps + 1 } : Core).phase = 0 by show ¬ x.phase = 0; omega), if_neg (show ¬ ({ x with m := mv, steps := x.steps + 1 } : Core).phase = 1 by show ¬ x.phase = 1; omega)]
      dsimp only
      split
      · refine ⟨⟨hw, hs2, ha, hc, by simp; omega, hba, hs, by simp, .inr ⟨o, by simp [q], by simp⟩⟩, ?_, rfl, rfl, rfl, rfl⟩
        rw [hl, if_neg (by omega), if_neg (by omega)]
        simp [left]
        omega
      · have hf := failC_ok (x := { x with m := mv, steps := x.steps + 1 }) hc.1 hs2 ⟨ht.1, ht2⟩ hw ha hc.2 hba hs o ho
        refine ⟨hf.1, ?_, hf.2.2.1, hf.2.2.2.1, hf.2.2.2.2.1, hf.2.2.2.2.2⟩
        rw [hf.2.1, hl, if_neg (by omega), if_neg (by omega)]
        dsimp only
        omega
def K : Kind where
  step := step
  Shape := Shape
  left := left
  ok mv h ho hws := step_ok mv h ho hws
  len := step_len
  pos := left_pos
  zero := left_over
theorem free : K.Free where
  free x a mv rec ws := rfl
  relabel x mv mv' rec ws := by
    show step x mv' rec ws = ({ (step x mv rec ws).1 with m := mv' }, (step x mv rec ws).2.1, (step x mv rec ws).2.2)
    simp only [step, stepW, stepR, failC, fromN]
    (repeat' split) <;> rfl
end Go.Proofs.YtkedegbpkkgeaaaGreat.ring
