/- Parts joined: Seq1, Seq2. -/
import Derived.Test.YtjplamoofkcojaaCore
import Derived.Test.YtjplamoofkcojaaRopA
/- Package seq: the steps of a write and of a read. -/
namespace Go.Proofs.Ytjplamoofkcojaa.seq
open Go Go.RowKit Go.Proofs.Ytjplamoofkcojaa.kit Go.Proofs.Ytjplamoofkcojaa.mem Go.Proofs.Ytjplamoofkcojaa.rop Go.Proofs.Ytjplamoofkcojaa.core
set_option linter.unusedVariables false
set_option linter.unusedSimpArgs false
set_option maxRecDepth 20000

theorem word_bd {W : World} {b : Nat} {sv : Value} {ws : List Int} {n : Int} {i : Nat} (h : MemAt W b sv ws n) (hi : i < ws.length) : 0 ≤ ws.getD i 0 ∧ ws.getD i 0 ≤ 4294967295 := by
  have hget : ws.getD i 0 = ws[i] := by simp [List.getD, hi]
  rw [hget]
  exact wf_u32 (h.wf _ (List.getElem_mem hi))
/-- an attempt has failed -/
def failC (x : Core) : Core := if x.c ≤ x.tries + 1 then { x with tries := x.tries + 1, phase := 0, i := 0, over := true, code := 1 } else { x with tries := x.tries + 1, phase := 0, i := 0 }
end Go.Proofs.Ytjplamoofkcojaa.seq

/- Package seq: a step, whatever it is. -/
namespace Go.Proofs.Ytjplamoofkcojaa.seq
open Go Go.RowKit Go.Proofs.Ytjplamoofkcojaa.kit Go.Proofs.Ytjplamoofkcojaa.mem Go.Proofs.Ytjplamoofkcojaa.rop Go.Proofs.Ytjplamoofkcojaa.core
set_option linter.unusedVariables false
set_option linter.unusedSimpArgs false
set_option maxRecDepth 20000

/-- a step of a write, in plain lists -/
def stepW (x : Core) (rec ws : List Int) : Core × List Int × List Int :=
  if x.phase = 0 then ({ x with a := ws.getD (x.base.toNat + 0) 0, phase := 1, i := 0 }, rec, ws)
  else if x.phase = 1 then ({ x with phase := 2, i := 0 }, rec, ws.set (x.base.toNat + 0) ((x.a + 1) % 4294967296))
  else if x.phase = 2 then (if x.w.toNat ≤ x.i.toNat + 1 then { x with phase := 3, i := 0 } else { x with i := (x.i.toNat : Int) + 1 }, rec, ws.set (x.base.toNat + (1 + x.i.toNat)) (rec.getD x.i.toNat 0))
  else ({ x with over := true, code := 0 }, endRec x.op 0 rec, ws.set (x.base.toNat + 0) ((x.a + 2) % 4294967296))
/-- a step of a read, in plain lists -/
def stepR (x : Core) (rec ws : List Int) : Core × List Int × List Int :=
  if x.phase = 0 then (if ws.getD (x.base.toNat + 0) 0 % 2 = 1 then failC { x with a := ws.getD (x.base.toNat + 0) 0 } else { x with a := ws.getD (x.base.toNat + 0) 0, phase := 1, i := 0 }, if ws.getD (x.base.toNat + 0) 0 % 2 = 1 then [] else rec, ws)
  else if x.phase = 1 then (if x.w.toNat ≤ x.i.toNat + 1 then { x with phase := 2, i := 0 } else { x with i := (x.i.toNat : Int) + 1 }, rec ++ [ws.getD (x.base.toNat + (1 + x.i.toNat)) 0], ws)
  else (if ws.getD (x.base.toNat + 0) 0 = x.a then { x with over := true, code := 0 } else failC x, if ws.getD (x.base.toNat + 0) 0 = x.a then endRec x.op 0 rec else [], ws)
/-- a step, in plain lists -/
def step (x : Core) (mv : Value) (rec ws : List Int) : Core × List Int × List Int :=
  if x.op = 2 then stepW { x with m := mv, steps := x.steps + 1 } rec ws else stepR { x with m := mv, steps := x.steps + 1 } rec ws

/-- what an operation keeps -/
structure Shape (x : Core) (rec : List Int) : Prop where
  w : 1 ≤ x.w ∧ x.w ≤ 8
  a : 0 ≤ x.a ∧ x.a ≤ 4294967295
  c : 1 ≤ x.c ∧ x.c ≤ 16
  tries : 0 ≤ x.tries ∧ (x.over = false → x.tries < x.c)
  base : 0 ≤ x.base
  size : x.size = 1 + x.w
  i : x.over = false → 0 ≤ x.i ∧ x.i < x.w
  op : (x.op = 2 ∧ (0 ≤ x.phase ∧ x.phase ≤ 3) ∧ (x.over = false → (rec.length : Int) = x.w)) ∨ (x.op = 1 ∧ (0 ≤ x.phase ∧ x.phase ≤ 2) ∧ (x.over = false → (rec.length : Int) = if x.phase = 1 then x.i else if x.phase = 2 then x.w else 0))

theorem e8of {T : TypeId} {bx mb : Nat} {sv r0 : Value} {W0 W : World} {x : Core} {rec ws : List Int} {n o : Int} {mv : Value} {k : Int} (ho : x.op = o) (h : St T bx mb sv W0 r0 W { x with m := mv, steps := k } rec ws n) : W.cell? ⟨bx, 8, none⟩ = some (.int .i64 o) := by
  rw [← ho]; exact h.cell 8 _ (fun _ => rfl)
theorem Shape.up {x : Core} {rec : List Int} (h : Shape x rec) (mv : Value) (k : Int) : Shape { x with m := mv, steps := k } rec := ⟨h.w, h.a, h.c, h.tries, h.base, h.size, h.i, h.op⟩
theorem opens_spec {x : Core} {l : Nat} (h : opens x l = true) : x.over = false ∧ 0 ≤ x.base ∧ 0 ≤ x.size ∧ x.base + x.size ≤ l := by
  simp only [opens, insB, Bool.and_eq_true, Bool.not_eq_true', decide_eq_true_eq] at h
  exact ⟨h.1, h.2.1, h.2.2.1, by omega⟩
/-- how many steps are left at most -/
def left (x : Core) : Int :=
  if x.over then 0 else if x.op = 2 then (if x.phase = 0 then x.w + 3 else if x.phase = 1 then x.w + 2 else if x.phase = 2 then x.w + 1 - x.i else 1)
  else (x.c - x.tries - 1) * (x.w + 2) + (if x.phase = 0 then x.w + 2 else if x.phase = 1 then x.w + 1 - x.i else 1)
theorem left_over {x : Core} (ho : x.over = true) : left x = 0 := by simp [left, ho]
theorem mul_nn {d m : Int} (h : 0 ≤ d) (hm : 0 ≤ m) : 0 ≤ d * m := Int.mul_nonneg h hm
theorem left_pos {x : Core} {rec : List Int} (h : Shape x rec) (ho : x.over = false) : 1 ≤ left x := by
  have hw := h.w; have hi := h.i ho; have ht := h.tries.2 ho
  have hp := mul_nn (d := x.c - x.tries - 1) (m := x.w + 2) (by omega) (by omega)
  rcases h.op with ⟨o, p, _⟩ | ⟨o, p, _⟩
  · simp only [left, ho, o]; simp; (repeat' split) <;> omega
  · simp only [left, ho, o]
    generalize (x.c - x.tries - 1) * (x.w + 2) = z at *
    simp; (repeat' split) <;> omega
theorem getD_bd {ws : List Int} (hw : ∀ z ∈ ws, 0 ≤ z ∧ z ≤ 4294967295) (i : Nat) : 0 ≤ ws.getD i 0 ∧ ws.getD i 0 ≤ 4294967295 := by
  by_cases h : i < ws.length
  · simp [List.getD, h]; exact hw _ (List.getElem_mem h)
  · simp [List.getD, h]
theorem step_len (x : Core) (mv : Value) (rec ws : List Int) : (step x mv rec ws).2.2.length = ws.length := by
  simp only [step, stepW, stepR]
  (repeat' split) <;> simp
theorem fail_ok {x : Core} (hc : 1 ≤ x.c) (ht : 0 ≤ x.tries ∧ x.tries < x.c) (hw : 1 ≤ x.w ∧ x.w ≤ 8) (ha : 0 ≤ x.a ∧ x.a ≤ 4294967295) (hc2 : x.c ≤ 16) (hb : 0 ≤ x.base) (hs : x.size = 1 + x.w) (ho : x.op = 1) (hv : x.over = false) :
    Shape (failC x) [] ∧ left (failC x) = (x.c - x.tries - 1) * (x.w + 2) ∧ (failC x).steps = x.steps ∧ (failC x).m = x.m ∧ (failC x).base = x.base ∧ (failC x).size = x.size := by
  unfold failC
  split
  · refine ⟨⟨hw, ha, by simp only []; omega, by simp; omega, hb, hs, by simp, .inr ⟨ho, by simp, by simp⟩⟩, ?_, rfl, rfl, rfl, rfl⟩
    have e : x.c - x.tries - 1 = 0 := by omega
    rw [e]; simp [left]
  · refine ⟨⟨hw, ha, by simp only []; omega, by simp only []; exact ⟨by omega, fun _ => by omega⟩, hb, hs, fun _ => by simp only []; omega, .inr ⟨ho, by simp, fun _ => by simp⟩⟩, ?_, rfl, rfl, rfl, rfl⟩
    have e : x.c - (x.tries + 1) - 1 = (x.c - x.tries - 1) - 1 := by omega
    simp [left, hv, ho, e, Int.sub_mul] <;> omega
theorem step_ok {x : Core} {rec ws : List Int} (mv : Value) (h : Shape x rec) (ho : x.over = false) (hws : ∀ z ∈ ws, 0 ≤ z ∧ z ≤ 4294967295) :
    Shape (step x mv rec ws).1 (step x mv rec ws).2.1 ∧ left (step x mv rec ws).1 + 1 ≤ left x ∧ (step x mv rec ws).1.steps = x.steps + 1 ∧ (step x mv rec ws).1.m = mv ∧ (step x mv rec ws).1.base = x.base ∧ (step x mv rec ws).1.size = x.size := by
  obtain ⟨hw, ha, hc, ht, hba, hs, hi, hop⟩ := h
  have hi := hi ho
  have ht2 := ht.2 ho
  have g2 := getD_bd hws (x.base.toNat + 0)
  have hp := mul_nn (d := x.c - x.tries - 1) (m := x.w + 2) (by omega) (by omega)
  rcases hop with ⟨o, p, r⟩ | ⟨o, p, r⟩
  · have r := r ho
    rcases (by omega : x.phase = 0 ∨ x.phase = 1 ∨ x.phase = 2 ∨ x.phase = 3) with q | q | q | q
    · simp only [step, stepW, o, q, if_true]
      refine ⟨⟨hw, g2, hc, ht, hba, hs, fun _ => by simp only []; omega, .inl ⟨rfl, by simp, fun _ => r⟩⟩, by simp [left, ho, o, q] <;> omega, by simp [o]⟩
    · have e1 : ¬ ((1 : Int) = 0) := by omega
      simp only [step, stepW, o, q, if_true, if_neg e1]
      refine ⟨⟨hw, ha, hc, ht, hba, hs, fun _ => by simp only []; omega, .inl ⟨rfl, by simp, fun _ => r⟩⟩, by simp [left, ho, o, q] <;> omega, by simp [o]⟩
    · have e1 : ¬ ((2 : Int) = 0) := by omega
      have e2 : ¬ ((2 : Int) = 1) := by omega
      simp only [step, stepW, o, q, if_true, if_neg e1, if_neg e2]
      split
      · refine ⟨⟨hw, ha, hc, ht, hba, hs, fun _ => by simp only []; omega, .inl ⟨rfl, by simp, fun _ => r⟩⟩, by simp [left, ho, o, q] <;> omega, by simp [o]⟩
      · refine ⟨⟨hw, ha, hc, ht, hba, hs, fun _ => by simp only []; omega, .inl ⟨rfl, by simp [q], fun _ => r⟩⟩, by simp [left, ho, o, q] <;> omega, by simp [o]⟩
    · have e1 : ¬ ((3 : Int) = 0) := by omega
      have e2 : ¬ ((3 : Int) = 1) := by omega
      have e3 : ¬ ((3 : Int) = 2) := by omega
      simp only [step, stepW, o, q, if_true, if_neg e1, if_neg e2, if_neg e3]
      refine ⟨⟨hw, ha, hc, by simp; omega, hba, hs, by simp, .inl ⟨rfl, by simp [q], by simp⟩⟩, by simp [left, ho, o, q] <;> omega, by simp [o]⟩
  · have r := r ho
    have e0 : ¬ ((1 : Int) = 2) := by omega
    have hst : step x mv rec ws = stepR { x with m := mv, steps := x.steps + 1 } rec ws := by unfold step; rw [if_neg (by omega)]
    rw [hst]
    have hl : left x = (x.c - x.tries - 1) * (x.w + 2) + (if x.phase = 0 then x.w + 2 else if x.phase = 1 then x.w + 1 - x.i else 1) := by unfold left; rw [if_neg (by simp [ho]), if_neg (by omega)]
    rcases (by omega : x.phase = 0 ∨ x.phase = 1 ∨ x.phase = 2) with q | q | q
    · unfold stepR
      rw [if_pos (show ({ x with m := mv, steps := x.steps + 1 } : Core).phase = 0 from q)]
      dsimp only
      split
      · have hf := fail_ok (x := { x with m := mv, steps := x.steps + 1, a := ws.getD (x.base.toNat + 0) 0 }) hc.1 ⟨ht.1, ht2⟩ hw g2 hc.2 hba hs o ho
        refine ⟨hf.1, ?_, hf.2.2.1, hf.2.2.2.1, hf.2.2.2.2.1, hf.2.2.2.2.2⟩
        rw [hf.2.1, hl, if_pos q]
        dsimp only
        omega
      · refine ⟨⟨hw, g2, hc, ht, hba, hs, fun _ => by simp only []; omega, .inr ⟨o, by simp, fun _ => by simp [q] at r ⊢; exact r⟩⟩, ?_, rfl, rfl, rfl, rfl⟩
        rw [hl, if_pos q]
        simp [left, ho, o]
        omega
    · unfold stepR
      rw [if_neg (show ¬ ({ x with m := mv, steps := x.steps + 1 } : Core).phase = 0 by show ¬ x.phase = 0; omega), if_pos (show ({ x with m := mv, steps := x.steps + 1 } : Core).phase = 1 from q)]
      dsimp only
      split
      · refine ⟨⟨hw, ha, hc, ht, hba, hs, fun _ => by simp only []; omega, .inr ⟨o, by simp, fun _ => by simp [q] at r ⊢; omega⟩⟩, ?_, rfl, rfl, rfl, rfl⟩
        rw [hl, if_neg (by omega), if_pos q]
        simp [left, ho, o]
        omega
      · refine ⟨⟨hw, ha, hc, ht, hba, hs, fun _ => by simp only []; omega, .inr ⟨o, by simp [q], fun _ => by simp [q] at r ⊢; omega⟩⟩, ?_, rfl, rfl, rfl, rfl⟩
        rw [hl, if_neg (by omega), if_pos q]
        simp [left, ho, o, q]
        omega
    · unfold stepR
      rw [if_neg (show ¬ ({ x with m := mv, steps := x.steps + 1 } : Core).phase = 0 by show ¬ x.phase = 0; omega), if_neg (show ¬ ({ x with m := mv, steps := x.steps + 1 } : Core).phase = 1 by show ¬ x.phase = 1; omega)]
      dsimp only
      split
      · refine ⟨⟨hw, ha, hc, by simp; omega, hba, hs, by simp, .inr ⟨o, by simp [q], by simp⟩⟩, ?_, rfl, rfl, rfl, rfl⟩
        rw [hl, if_neg (by omega), if_neg (by omega)]
        simp [left]
        omega
      · have hf := fail_ok (x := { x with m := mv, steps := x.steps + 1 }) hc.1 ⟨ht.1, ht2⟩ hw ha hc.2 hba hs o ho
        refine ⟨hf.1, ?_, hf.2.2.1, hf.2.2.2.1, hf.2.2.2.2.1, hf.2.2.2.2.2⟩
        rw [hf.2.1, hl, if_neg (by omega), if_neg (by omega)]
        dsimp only
        omega
def K : Kind where
  step := step
  Shape := Shape
  left := left
  ok mv h ho hws := step_ok mv h ho hws
  len := step_len
  pos := left_pos
  zero := left_over
theorem free : K.Free where
  free x a mv rec ws := rfl
  relabel x mv mv' rec ws := by
    show step x mv' rec ws = ({ (step x mv rec ws).1 with m := mv' }, (step x mv rec ws).2.1, (step x mv rec ws).2.2)
    simp only [step, stepW, stepR, failC]
    (repeat' split) <;> rfl
end Go.Proofs.Ytjplamoofkcojaa.seq
