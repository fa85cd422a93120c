/- Parts joined: Ring1, Ring2. -/
import Derived.Test.YtjplamoofkcojaaLoad
import Derived.Test.YtjplamoofkcojaaWordWalks
import Derived.Test.YtjplamoofkcojaaObjA
/- Package ring: the counter, where a record stands, the steps of a write and of a read. -/
namespace Go.Proofs.Ytjplamoofkcojaa.ring
open Go Go.RowKit Go.Proofs.Ytjplamoofkcojaa.kit Go.Proofs.Ytjplamoofkcojaa.mem Go.Proofs.Ytjplamoofkcojaa.rop Go.Proofs.Ytjplamoofkcojaa.core Go.Proofs.Ytjplamoofkcojaa.obj
set_option linter.unusedVariables false
set_option linter.unusedSimpArgs false
set_option maxRecDepth 20000

/-- where the record of a count begins -/
def fromN (x : Core) : Nat := (1 + (x.a % x.s) * x.w).toNat
theorem mul_bd {c w m : Int} (hc : 0 ≤ c ∧ c ≤ m) (hw : 0 ≤ w ∧ w ≤ 8) (hm : m ≤ 16) : 0 ≤ c * w ∧ c * w ≤ m * w ∧ c * w ≤ 128 := by
  have h1 := Int.mul_nonneg hc.1 hw.1
  have h2 := Int.mul_le_mul_of_nonneg_right hc.2 hw.1
  have h3 := Int.mul_le_mul_of_nonneg_left hw.2 (show 0 ≤ m by omega)
  omega
set_option maxHeartbeats 2000000 in
theorem from_any (k w s c st : Int) (ia : Option Addr) (il ic : Nat) (wr : Int) (ra : Option Addr) (rl rc : Nat) (cv : Int) (hc : 0 ≤ cv ∧ cv ≤ 4294967295) (hs : 1 ≤ s ∧ s ≤ 16) (hw : 1 ≤ w ∧ w ≤ 8) (W : World) :
    Calls Try.prog 105 #[.agg #[.int .i64 k, .int .i64 w, .int .i64 s, .int .i64 c, .int .u32 st, .slice ia il ic, .int .i64 wr, .slice ra rl rc], .int .u32 cv] W fun e W' => e = .returned (.int .i64 ((1 + (cv % s) * w).toNat : Int)) ∧ Chg [] W W' := by
  have h1 := Int.emod_lt_of_pos cv (show 0 < s by omega)
  have h2 := Int.emod_nonneg cv (show s ≠ 0 by omega)
  have hb := mul_bd (c := cv % s) (w := w) (m := 15) ⟨h2, by omega⟩ (by omega) (by omega)
  have kt : Int.tmod cv s = cv % s := tmod_nn hc.1
  have k1 : IntKind.u32.wrap s = s := by rw [IntKind.wrap_u32]; omega
  have k2 : IntKind.u32.wrap (cv % s) = cv % s := by rw [IntKind.wrap_u32]; omega
  have k3 : IntKind.i64.wrap (cv % s) = cv % s := by rw [IntKind.wrap_i64]; omega
  have k4 : IntKind.i64.wrap (cv % s * w) = cv % s * w := by rw [IntKind.wrap_i64]; omega
  have k5 : IntKind.i64.wrap (1 + cv % s * w) = 1 + cv % s * w := by rw [IntKind.wrap_i64]; omega
  have h0 : (s == 0) = false := by simp; omega
  have HR : Hid (((1 + (cv % s) * w).toNat : Int) = 1 + cv % s * w) := Lib.hid (by omega)
  have hs0 : s ≠ 0 := by omega
  clear hb h1 h2 hc hs hw
  go_enter Try.func105, Try.ntmps105
  go_wp2
  go_quiet (fail)
  go_wp2
  go_ret
  exact ⟨by rw [HR.out]; rfl, ((Chg.refl _ _).alloc _).drewN _⟩
/-- an attempt has failed -/
def failC (x : Core) : Core := if x.c ≤ x.tries + 1 then { x with tries := x.tries + 1, phase := 0, i := 0, over := true, code := 1 } else { x with tries := x.tries + 1, phase := 0, i := 0 }
end Go.Proofs.Ytjplamoofkcojaa.ring

/- Package ring: a step, whatever it is. -/
namespace Go.Proofs.Ytjplamoofkcojaa.ring
open Go Go.RowKit Go.Proofs.Ytjplamoofkcojaa.kit Go.Proofs.Ytjplamoofkcojaa.mem Go.Proofs.Ytjplamoofkcojaa.rop Go.Proofs.Ytjplamoofkcojaa.core
set_option linter.unusedVariables false
set_option linter.unusedSimpArgs false
set_option maxRecDepth 20000

/-- a step of a write, in plain lists -/
def stepW (x : Core) (rec ws : List Int) : Core × List Int × List Int :=
  if x.phase = 0 then ({ x with a := ((ws.getD (x.base.toNat + 0) 0 % (x.s * 1048576)) + 1) % (x.s * 1048576), phase := 1, i := 0 }, rec, ws)
  else if x.phase = 1 then (if x.w.toNat ≤ x.i.toNat + 1 then { x with phase := 2, i := 0 } else { x with i := (x.i.toNat : Int) + 1 }, rec, ws.set (x.base.toNat + (fromN x + x.i.toNat)) (rec.getD x.i.toNat 0))
  else ({ x with over := true, code := 0 }, endRec x.op 0 rec, ws.set (x.base.toNat + 0) x.a)
/-- a step of a read, in plain lists -/
def stepR (x : Core) (rec ws : List Int) : Core × List Int × List Int :=
  if x.phase = 0 then ({ x with a := (ws.getD (x.base.toNat + 0) 0 % (x.s * 1048576)), phase := 1, i := 0 }, rec, ws)
  else if x.phase = 1 then (if x.w.toNat ≤ x.i.toNat + 1 then { x with phase := 2, i := 0 } else { x with i := (x.i.toNat : Int) + 1 }, rec ++ [ws.getD (x.base.toNat + (fromN x + x.i.toNat)) 0], ws)
  else (if word.gapU x.a (ws.getD (x.base.toNat + 0) 0 % (x.s * 1048576)) (x.s * 1048576) < x.s - 1 then { x with over := true, code := 0 } else failC x, if word.gapU x.a (ws.getD (x.base.toNat + 0) 0 % (x.s * 1048576)) (x.s * 1048576) < x.s - 1 then endRec x.op 0 rec else [], ws)
/-- a step, in plain lists -/
def step (x : Core) (mv : Value) (rec ws : List Int) : Core × List Int × List Int :=
  if x.op = 2 then stepW { x with m := mv, steps := x.steps + 1 } rec ws else stepR { x with m := mv, steps := x.steps + 1 } rec ws

/-- what an operation keeps -/
structure Shape (x : Core) (rec : List Int) : Prop where
  w : 1 ≤ x.w ∧ x.w ≤ 8
  s : 2 ≤ x.s ∧ x.s ≤ 16
  a : 0 ≤ x.a ∧ x.a ≤ 4294967295
  c : 1 ≤ x.c ∧ x.c ≤ 16
  tries : 0 ≤ x.tries ∧ (x.over = false → x.tries < x.c)
  base : 0 ≤ x.base
  size : x.size = 1 + x.s * x.w
  i : x.over = false → 0 ≤ x.i ∧ x.i < x.w
  op : (x.op = 2 ∧ (0 ≤ x.phase ∧ x.phase ≤ 2) ∧ (x.over = false → (rec.length : Int) = x.w)) ∨ (x.op = 1 ∧ (0 ≤ x.phase ∧ x.phase ≤ 2) ∧ (x.over = false → (rec.length : Int) = if x.phase = 1 then x.i else if x.phase = 2 then x.w else 0))

theorem from_fit {x : Core} (hs : 2 ≤ x.s ∧ x.s ≤ 16) (hw : 1 ≤ x.w ∧ x.w ≤ 8) (ha : 0 ≤ x.a) : 1 ≤ fromN x ∧ (fromN x : Int) + x.w ≤ 1 + x.s * x.w := by
  have h1 := Int.emod_lt_of_pos x.a (show 0 < x.s by omega)
  have h2 := Int.emod_nonneg x.a (show x.s ≠ 0 by omega)
  have h3 := mul_bd (c := x.a % x.s) (w := x.w) (m := x.s - 1) ⟨h2, by omega⟩ (by omega) (by omega)
  have h4 : (x.s - 1) * x.w = x.s * x.w - x.w := by rw [Int.sub_mul, Int.one_mul]
  unfold fromN
  omega

theorem e8of {T : TypeId} {bx mb : Nat} {sv r0 : Value} {W0 W : World} {x : Core} {rec ws : List Int} {n o : Int} {mv : Value} {k : Int} (ho : x.op = o) (h : St T bx mb sv W0 r0 W { x with m := mv, steps := k } rec ws n) : W.cell? ⟨bx, 8, none⟩ = some (.int .i64 o) := by
  rw [← ho]; exact h.cell 8 _ (fun _ => rfl)
theorem Shape.up {x : Core} {rec : List Int} (h : Shape x rec) (mv : Value) (k : Int) : Shape { x with m := mv, steps := k } rec := ⟨h.w, h.s, h.a, h.c, h.tries, h.base, h.size, h.i, h.op⟩
theorem opens_spec {x : Core} {l : Nat} (h : opens x l = true) : x.over = false ∧ 0 ≤ x.base ∧ 0 ≤ x.size ∧ x.base + x.size ≤ l := by
  simp only [opens, insB, Bool.and_eq_true, Bool.not_eq_true', decide_eq_true_eq] at h
  exact ⟨h.1, h.2.1, h.2.2.1, by omega⟩
/-- how many steps are left at most -/
def left (x : Core) : Int :=
  if x.over then 0 else if x.op = 2 then (if x.phase = 0 then x.w + 2 else if x.phase = 1 then x.w + 1 - x.i else 1)
  else (x.c - x.tries - 1) * (x.w + 2) + (if x.phase = 0 then x.w + 2 else if x.phase = 1 then x.w + 1 - x.i else 1)
theorem left_over {x : Core} (ho : x.over = true) : left x = 0 := by simp [left, ho]
theorem mul_nn {d m : Int} (h : 0 ≤ d) (hm : 0 ≤ m) : 0 ≤ d * m := Int.mul_nonneg h hm
theorem left_pos {x : Core} {rec : List Int} (h : Shape x rec) (ho : x.over = false) : 1 ≤ left x := by
  have hw := h.w; have hi := h.i ho; have ht := h.tries.2 ho
  have hp := mul_nn (d := x.c - x.tries - 1) (m := x.w + 2) (by omega) (by omega)
  rcases h.op with ⟨o, p, _⟩ | ⟨o, p, _⟩
  · simp only [left, ho, o]; simp; (repeat' split) <;> omega
  · simp only [left, ho, o]
    generalize (x.c - x.tries - 1) * (x.w + 2) = z at *
    simp; (repeat' split) <;> omega
theorem step_len (x : Core) (mv : Value) (rec ws : List Int) : (step x mv rec ws).2.2.length = ws.length := by
  simp only [step, stepW, stepR]
  (repeat' split) <;> simp
theorem mod_bd {s v : Int} (hs : 2 ≤ s ∧ s ≤ 16) : 0 ≤ v % (s * 1048576) ∧ v % (s * 1048576) ≤ 4294967295 := by
  have h1 := Int.emod_nonneg v (show s * 1048576 ≠ 0 by omega)
  have h2 := Int.emod_lt_of_pos v (show 0 < s * 1048576 by omega)
  omega
theorem failC_ok {x : Core} (hc : 1 ≤ x.c) (hs2 : 2 ≤ x.s ∧ x.s ≤ 16) (ht : 0 ≤ x.tries ∧ x.tries < x.c) (hw : 1 ≤ x.w ∧ x.w ≤ 8) (ha : 0 ≤ x.a ∧ x.a ≤ 4294967295) (hc2 : x.c ≤ 16) (hb : 0 ≤ x.base) (hs : x.size = 1 + x.s * x.w) (ho : x.op = 1) (hv : x.over = false) :
    Shape (failC x) [] ∧ left (failC x) = (x.c - x.tries - 1) * (x.w + 2) ∧ (failC x).steps = x.steps ∧ (failC x).m = x.m ∧ (failC x).base = x.base ∧ (failC x).size = x.size := by
  unfold failC
  split
  · refine ⟨⟨hw, hs2, ha, by simp only []; omega, by simp; omega, hb, hs, by simp, .inr ⟨ho, by simp, by simp⟩⟩, ?_, rfl, rfl, rfl, rfl⟩
    have e : x.c - x.tries - 1 = 0 := by omega
    rw [e]; simp [left]
  · refine ⟨⟨hw, hs2, ha, by simp only []; omega, by simp only []; exact ⟨by omega, fun _ => by omega⟩, hb, hs, fun _ => by simp only []; omega, .inr ⟨ho, by simp, fun _ => by simp⟩⟩, ?_, rfl, rfl, rfl, rfl⟩
    have e : x.c - (x.tries + 1) - 1 = (x.c - x.tries - 1) - 1 := by omega
    simp [left, hv, ho, e, Int.sub_mul] <;> omega
theorem step_ok {x : Core} {rec ws : List Int} (mv : Value) (h : Shape x rec) (ho : x.over = false) (hws : ∀ z ∈ ws, 0 ≤ z ∧ z ≤ 4294967295) :
    Shape (step x mv rec ws).1 (step x mv rec ws).2.1 ∧ left (step x mv rec ws).1 + 1 ≤ left x ∧ (step x mv rec ws).1.steps = x.steps + 1 ∧ (step x mv rec ws).1.m = mv ∧ (step x mv rec ws).1.base = x.base ∧ (step x mv rec ws).1.size = x.size := by
  obtain ⟨hw, hs2, ha, hc, ht, hba, hs, hi, hop⟩ := h
  have hi := hi ho
  have ht2 := ht.2 ho
  have g1 := fun v => mod_bd (v := v) hs2
  have hp := mul_nn (d := x.c - x.tries - 1) (m := x.w + 2) (by omega) (by omega)
  rcases hop with ⟨o, p, r⟩ | ⟨o, p, r⟩
  · have r := r ho
    have hst : step x mv rec ws = stepW { x with m := mv, steps := x.steps + 1 } rec ws := by unfold step; rw [if_pos o]
    rw [hst]
    have hl : left x = (if x.phase = 0 then x.w + 2 else if x.phase = 1 then x.w + 1 - x.i else 1) := by unfold left; rw [if_neg (by simp [ho]), if_pos o]
    rcases (by omega : x.phase = 0 ∨ x.phase = 1 ∨ x.phase = 2) with q | q | q
    · unfold stepW
      rw [if_pos (show ({ x with m := mv, steps := x.steps + 1 } : Core).phase = 0 from q)]
      dsimp only
      refine ⟨⟨hw, hs2, g1 _, hc, ht, hba, hs, fun _ => by simp only []; omega, .inl ⟨o, by simp, fun _ => r⟩⟩, ?_, rfl, rfl, rfl, rfl⟩
      rw [hl, if_pos q]
      simp [left, ho, o]
      omega
    · unfold stepW
      rw [if_neg (show ¬ ({ x with m := mv, steps := x.steps + 1 } : Core).phase = 0 by show ¬ x.phase = 0; omega), if_pos (show ({ x with m := mv, steps := x.steps + 1 } : Core).phase = 1 from q)]
      dsimp only
      split
      · refine ⟨⟨hw, hs2, ha, hc, ht, hba, hs, fun _ => by simp only []; omega, .inl ⟨o, by simp, fun _ => r⟩⟩, ?_, rfl, rfl, rfl, rfl⟩
        rw [hl, if_neg (by omega), if_pos q]
        simp [left, ho, o]
        omega
      · refine ⟨⟨hw, hs2, ha, hc, ht, hba, hs, fun _ => by simp only []; omega, .inl ⟨o, by simp [q], fun _ => r⟩⟩, ?_, rfl, rfl, rfl, rfl⟩
        rw [hl, if_neg (by omega), if_pos q]
        simp [left, ho, o, q]
        omega
    · unfold stepW
      rw [if_neg (show ¬ ({ x with m := mv, steps := x.steps + 1 } : Core).phase = 0 by show ¬ x.phase = 0; omega), if_neg (show ¬ ({ x with m := mv, steps := x.steps + 1 } : Core).phase = 1 by show ¬ x.phase = 1; omega)]
      dsimp only
      refine ⟨⟨hw, hs2, ha, hc, by simp; omega, hba, hs, by simp, .inl ⟨o, by simp [q], by simp⟩⟩, ?_, rfl, rfl, rfl, rfl⟩
      rw [hl, if_neg (by omega), if_neg (by omega)]
      simp [left]
  · have r := r ho
    have e0 : ¬ ((1 : Int) = 2) := by omega
    have hst : step x mv rec ws = stepR { x with m := mv, steps := x.steps + 1 } rec ws := by unfold step; rw [if_neg (by omega)]
    rw [hst]
    have hl : left x = (x.c - x.tries - 1) * (x.w + 2) + (if x.phase = 0 then x.w + 2 else if x.phase = 1 then x.w + 1 - x.i else 1) := by unfold left; rw [if_neg (by simp [ho]), if_neg (by omega)]
    rcases (by omega : x.phase = 0 ∨ x.phase = 1 ∨ x.phase = 2) with q | q | q
    · unfold stepR
      rw [if_pos (show ({ x with m := mv, steps := x.steps + 1 } : Core).phase = 0 from q)]
      dsimp only
      refine ⟨⟨hw, hs2, g1 _, hc, ht, hba, hs, fun _ => by simp only []; omega, .inr ⟨o, by simp, fun _ => by simp [q] at r ⊢; exact r⟩⟩, ?_, rfl, rfl, rfl, rfl⟩
      rw [hl, if_pos q]
      simp [left, ho, o]
      omega
    · unfold stepR
      rw [if_neg (show ¬ ({ x with m := mv, steps := x.steps + 1 } : Core).phase = 0 by show ¬ x.phase = 0; omega), if_pos (show ({ x with m := mv, steps := x.steps + 1 } : Core).phase = 1 from q)]
      dsimp only
      split
      · refine ⟨⟨hw, hs2, ha, hc, ht, hba, hs, fun _ => by simp only []; omega, .inr ⟨o, by simp, fun _ => by simp [q] at r ⊢; omega⟩⟩, ?_, rfl, rfl, rfl, rfl⟩
        rw [hl, if_neg (by omega), if_pos q]
        simp [left, ho, o]
        omega
      · refine ⟨⟨hw, hs2, ha, hc, ht, hba, hs, fun _ => by simp only []; omega, .inr ⟨o, by simp [q], fun _ => by simp [q] at r ⊢; omega⟩⟩, ?_, rfl, rfl, rfl, rfl⟩
        rw [hl, if_neg (by omega), if_pos q]
        simp [left, ho, o, q]
        omega
    · unfold stepR
      rw [if_neg (show ¬ ({ x with m := mv, steps := x.steps + 1 } : Core).phase = 0 by show ¬ x.phase = 0; omega), if_neg (show ¬ ({ x with m := mv, steps := x.steps + 1 } : Core).phase = 1 by show ¬ x.phase = 1; omega)]
      dsimp only
      split
      · refine ⟨⟨hw, hs2, ha, hc, by simp; omega, hba, hs, by simp, .inr ⟨o, by simp [q], by simp⟩⟩, ?_, rfl, rfl, rfl, rfl⟩
        rw [hl, if_neg (by omega), if_neg (by omega)]
        simp [left]
        omega
      · have hf := failC_ok (x := { x with m := mv, steps := x.steps + 1 }) hc.1 hs2 ⟨ht.1, ht2⟩ hw ha hc.2 hba hs o ho
        refine ⟨hf.1, ?_, hf.2.2.1, hf.2.2.2.1, hf.2.2.2.2.1, hf.2.2.2.2.2⟩
        rw [hf.2.1, hl, if_neg (by omega), if_neg (by omega)]
        dsimp only
        omega
def K : Kind where
  step := step
  Shape := Shape
  left := left
  ok mv h ho hws := step_ok mv h ho hws
  len := step_len
  pos := left_pos
  zero := left_over
theorem free : K.Free where
  free x a mv rec ws := rfl
  relabel x mv mv' rec ws := by
    show step x mv' rec ws = ({ (step x mv rec ws).1 with m := mv' }, (step x mv rec ws).2.1, (step x mv rec ws).2.2)
    simp only [step, stepW, stepR, failC, fromN]
    (repeat' split) <;> rfl
end Go.Proofs.Ytjplamoofkcojaa.ring
