/- Parts joined: Chen0, Chen1, Chen2. -/
import Derived.Test.YtjplamoofkcojaaSets
import Derived.Test.YtjplamoofkcojaaObjA
import Derived.Deep.Cut
/- Package chen: what lies where, which slot is free. -/
namespace Go.Proofs.Ytjplamoofkcojaa.chen
open Go Go.RowKit Go.Proofs.Ytjplamoofkcojaa.kit Go.Proofs.Ytjplamoofkcojaa.mem Go.Proofs.Ytjplamoofkcojaa.rop Go.Proofs.Ytjplamoofkcojaa.core Go.Proofs.Ytjplamoofkcojaa.obj
set_option linter.unusedVariables false
set_option linter.unusedSimpArgs false
set_option maxRecDepth 20000

theorem mul_bd {c w m : Int} (hc : 0 ≤ c ∧ c ≤ m) (hw : 0 ≤ w ∧ w ≤ 8) (hm : m ≤ 16) : 0 ≤ c * w ∧ c * w ≤ m * w ∧ c * w ≤ 128 := by
  have h1 := Int.mul_nonneg hc.1 hw.1
  have h2 := Int.mul_le_mul_of_nonneg_right hc.2 hw.1
  have h3 := Int.mul_le_mul_of_nonneg_left hw.2 (show 0 ≤ m by omega)
  omega
theorem data_any (k w s c st : Int) (ia : Option Addr) (il ic : Nat) (wr : Int) (ra : Option Addr) (rl rc : Nat) (hrl : rl ≤ 100) (W : World) :
    Calls Try.prog 104 #[.agg #[.int .i64 k, .int .i64 w, .int .i64 s, .int .i64 c, .int .u32 st, .slice ia il ic, .int .i64 wr, .slice ra rl rc]] W fun e W' => e = .returned (.int .i64 ((1 + rl : Nat) : Int)) ∧ Chg [] W W' := by
  have k1 : IntKind.i64.wrap (1 + (rl : Int)) = ((1 + rl : Nat) : Int) := by rw [IntKind.wrap_i64]; omega
  clear hrl
  go_enter Try.func104, Try.ntmps104
  go_wp2
  go_ret
  exact ⟨rfl, (Chg.refl _ _).alloc _⟩
theorem slots_any (k w s c st : Int) (ia : Option Addr) (il ic : Nat) (wr : Int) (ra : Option Addr) (rl rc : Nat) (hrl : rl ≤ 100) (W : World) :
    Calls Try.prog 117 #[.agg #[.int .i64 k, .int .i64 w, .int .i64 s, .int .i64 c, .int .u32 st, .slice ia il ic, .int .i64 wr, .slice ra rl rc]] W fun e W' => e = .returned (.int .i64 ((rl : Int) + 2)) ∧ Chg [] W W' := by
  have k1 : IntKind.i64.wrap ((rl : Int) + 2) = (rl : Int) + 2 := by rw [IntKind.wrap_i64]; omega
  clear hrl
  go_enter Try.func117, Try.ntmps117
  go_wp2
  go_ret
  exact ⟨rfl, (Chg.refl _ _).alloc _⟩
/-- where the record of a slot begins -/
def place (x : Core) (sl : Int) : Nat := 1 + x.rl + (sl * x.w).toNat
end Go.Proofs.Ytjplamoofkcojaa.chen

/- Package chen: the steps of a write and of a read. -/
namespace Go.Proofs.Ytjplamoofkcojaa.chen
open Go Go.RowKit Go.Proofs.Ytjplamoofkcojaa.kit Go.Proofs.Ytjplamoofkcojaa.mem Go.Proofs.Ytjplamoofkcojaa.rop Go.Proofs.Ytjplamoofkcojaa.core Go.Proofs.Ytjplamoofkcojaa.obj
set_option linter.unusedVariables false
set_option linter.unusedSimpArgs false
set_option maxRecDepth 20000

def scanC (x : Core) (u : Int) : Core := if x.rl ≤ x.i.toNat + 1 then { x with used := bitm.markU (bitm.markU x.used u) x.a, b := bitm.freeU (bitm.markU (bitm.markU x.used u) x.a), phase := 2, i := 0 } else { x with used := bitm.markU x.used u, i := (x.i.toNat : Int) + 1 }
end Go.Proofs.Ytjplamoofkcojaa.chen

/- Package chen: a step, whatever it is. -/
namespace Go.Proofs.Ytjplamoofkcojaa.chen
open Go Go.RowKit Go.Proofs.Ytjplamoofkcojaa.kit Go.Proofs.Ytjplamoofkcojaa.mem Go.Proofs.Ytjplamoofkcojaa.rop Go.Proofs.Ytjplamoofkcojaa.core
set_option linter.unusedVariables false
set_option linter.unusedSimpArgs false
set_option maxRecDepth 20000

/-- a step of a write, in plain lists -/
def stepW (x : Core) (rec ws : List Int) : Core × List Int × List Int :=
  if x.phase = 0 then ({ x with a := ws.getD (x.base.toNat + 0) 0, phase := 1, i := 0 }, rec, ws)
  else if x.phase = 1 then (scanC x (ws.getD (x.base.toNat + (1 + x.i.toNat)) 0), rec, ws)
  else if x.phase = 2 then (if x.w.toNat ≤ x.i.toNat + 1 then { x with phase := 3, i := 0 } else { x with i := (x.i.toNat : Int) + 1 }, rec, ws.set (x.base.toNat + (place x x.b + x.i.toNat)) (rec.getD x.i.toNat 0))
  else if x.phase = 3 then ({ x with phase := 4, i := 0 }, rec, ws.set (x.base.toNat + 0) x.b)
  else (if x.rl ≤ x.i.toNat + 1 then { x with i := (x.i.toNat : Int) + 1, over := true, code := 0 } else { x with i := (x.i.toNat : Int) + 1 }, if x.rl ≤ x.i.toNat + 1 then endRec x.op 0 rec else rec, swapL ws (x.base.toNat + (1 + x.i.toNat)) ((x.rl : Int) + 2) x.b)
/-- a step of a read, in plain lists -/
def stepR (x : Core) (rec ws : List Int) : Core × List Int × List Int :=
  if x.phase = 0 then ({ x with phase := 1, i := 0 }, rec, ws.set (x.base.toNat + (1 + x.reader.toNat)) ((x.rl : Int) + 2))
  else if x.phase = 1 then ({ x with a := ws.getD (x.base.toNat + 0) 0, phase := 2, i := 0 }, rec, ws)
  else if x.phase = 2 then ({ x with phase := 3, i := 0 }, rec, swapL ws (x.base.toNat + (1 + x.reader.toNat)) ((x.rl : Int) + 2) x.a)
  else if x.phase = 3 then ({ x with b := ws.getD (x.base.toNat + (1 + x.reader.toNat)) 0 % ((x.rl : Int) + 2), phase := 4, i := 0 }, rec, ws)
  else (if x.w.toNat ≤ x.i.toNat + 1 then { x with i := (x.i.toNat : Int) + 1, over := true, code := 0 } else { x with i := (x.i.toNat : Int) + 1 }, if x.w.toNat ≤ x.i.toNat + 1 then endRec x.op 0 (rec ++ [ws.getD (x.base.toNat + (place x x.b + x.i.toNat)) 0]) else rec ++ [ws.getD (x.base.toNat + (place x x.b + x.i.toNat)) 0], ws)
/-- a step, in plain lists -/
def step (x : Core) (mv : Value) (rec ws : List Int) : Core × List Int × List Int :=
  if x.op = 2 then stepW { x with m := mv, steps := x.steps + 1 } rec ws else stepR { x with m := mv, steps := x.steps + 1 } rec ws

/-- what an operation keeps -/
structure Shape (x : Core) (rec : List Int) : Prop where
  w : 1 ≤ x.w ∧ x.w ≤ 8
  rl : 1 ≤ x.rl ∧ x.rl ≤ 4
  a : 0 ≤ x.a ∧ x.a ≤ 4294967295
  b : 0 ≤ x.b ∧ x.b < (x.rl : Int) + 2
  reader : 0 ≤ x.reader ∧ x.reader < x.rl
  base : 0 ≤ x.base
  size : x.size = 1 + x.rl + ((x.rl : Int) + 2) * x.w
  marks : x.over = false → x.op = 2 → x.phase ≤ 1 → bitm.Marks x.used (if x.phase = 1 then x.i else 0)
  i : x.over = false → 0 ≤ x.i ∧ (if x.op = 2 ∧ (x.phase = 1 ∨ x.phase = 4) then x.i < x.rl else x.i < x.w)
  op : (x.op = 2 ∧ (0 ≤ x.phase ∧ x.phase ≤ 4) ∧ (x.over = false → (rec.length : Int) = x.w)) ∨ (x.op = 1 ∧ (0 ≤ x.phase ∧ x.phase ≤ 4) ∧ (x.over = false → (rec.length : Int) = if x.phase = 4 then x.i else 0))

theorem place_fit {x : Core} {sl : Int} (hs : 1 ≤ x.rl ∧ x.rl ≤ 4) (hw : 1 ≤ x.w ∧ x.w ≤ 8) (h : 0 ≤ sl ∧ sl < (x.rl : Int) + 2) : 1 + x.rl ≤ place x sl ∧ (place x sl : Int) + x.w ≤ 1 + x.rl + ((x.rl : Int) + 2) * x.w := by
  have h3 := mul_bd (c := sl) (w := x.w) (m := (x.rl : Int) + 1) ⟨h.1, by omega⟩ (by omega) (by omega)
  have h4 : ((x.rl : Int) + 2) * x.w = ((x.rl : Int) + 1) * x.w + x.w := by rw [Int.add_mul, Int.add_mul, Int.one_mul]; omega
  unfold place
  omega

theorem e8of {T : TypeId} {bx mb : Nat} {sv r0 : Value} {W0 W : World} {x : Core} {rec ws : List Int} {n o : Int} {mv : Value} {k : Int} (ho : x.op = o) (h : St T bx mb sv W0 r0 W { x with m := mv, steps := k } rec ws n) : W.cell? ⟨bx, 8, none⟩ = some (.int .i64 o) := by
  rw [← ho]; exact h.cell 8 _ (fun _ => rfl)
theorem Shape.up {x : Core} {rec : List Int} (h : Shape x rec) (mv : Value) (k : Int) : Shape { x with m := mv, steps := k } rec := ⟨h.w, h.rl, h.a, h.b, h.reader, h.base, h.size, h.marks, h.i, h.op⟩
theorem opens_spec {x : Core} {l : Nat} (h : opens x l = true) : x.over = false ∧ 0 ≤ x.base ∧ 0 ≤ x.size ∧ x.base + x.size ≤ l := by
  simp only [opens, insB, Bool.and_eq_true, Bool.not_eq_true', decide_eq_true_eq] at h
  exact ⟨h.1, h.2.1, h.2.2.1, by omega⟩
/-- how many steps are left at most -/
def left (x : Core) : Int :=
  if x.over then 0 else if x.op = 2 then (if x.phase = 0 then x.w + 2 * x.rl + 2 else if x.phase = 1 then x.w + 2 * x.rl + 1 - x.i else if x.phase = 2 then x.w + x.rl + 1 - x.i else if x.phase = 3 then x.rl + 1 else x.rl - x.i) else (if x.phase = 0 then x.w + 4 else if x.phase = 1 then x.w + 3 else if x.phase = 2 then x.w + 2 else if x.phase = 3 then x.w + 1 else x.w - x.i)
theorem left_over {x : Core} (ho : x.over = true) : left x = 0 := by simp [left, ho]
theorem left_pos {x : Core} {rec : List Int} (h : Shape x rec) (ho : x.over = false) : 1 ≤ left x := by
  have hw := h.w; have hi := h.i ho; have hrl := h.rl
  rcases h.op with ⟨o, p, _⟩ | ⟨o, p, _⟩
  · simp only [left, ho, o]; simp
    rcases (by omega : x.phase = 0 ∨ x.phase = 1 ∨ x.phase = 2 ∨ x.phase = 3 ∨ x.phase = 4) with q | q | q | q | q
    all_goals (simp [o, q] at hi ⊢; omega)
  · simp only [left, ho, o]; simp
    rw [if_neg (by omega)] at hi
    (repeat' split) <;> omega
theorem step_len (x : Core) (mv : Value) (rec ws : List Int) : (step x mv rec ws).2.2.length = ws.length := by
  simp only [step, stepW, stepR]
  (repeat' split) <;> simp [swapL_length]
theorem mod_bd {s v : Int} (hs : 1 ≤ s) : 0 ≤ v % s ∧ v % s < s := ⟨Int.emod_nonneg v (by omega), Int.emod_lt_of_pos v (by omega)⟩
theorem getD_bd {ws : List Int} (hw : ∀ z ∈ ws, 0 ≤ z ∧ z ≤ 4294967295) (i : Nat) : 0 ≤ ws.getD i 0 ∧ ws.getD i 0 ≤ 4294967295 := by
  by_cases h : i < ws.length
  · simp [List.getD, h]; exact hw _ (List.getElem_mem h)
  · simp [List.getD, h]
theorem step_ok {x : Core} {rec ws : List Int} (mv : Value) (h : Shape x rec) (ho : x.over = false) (hws : ∀ z ∈ ws, 0 ≤ z ∧ z ≤ 4294967295) :
    Shape (step x mv rec ws).1 (step x mv rec ws).2.1 ∧ left (step x mv rec ws).1 + 1 ≤ left x ∧ (step x mv rec ws).1.steps = x.steps + 1 ∧ (step x mv rec ws).1.m = mv ∧ (step x mv rec ws).1.base = x.base ∧ (step x mv rec ws).1.size = x.size := by
  obtain ⟨hw, hrl, ha, hb, hrd, hba, hsz, hmk, hi, hop⟩ := h
  have hi := hi ho
  have g0 := getD_bd hws
  rcases hop with ⟨o, p, r⟩ | ⟨o, p, r⟩
  · have r := r ho
    have hmk := hmk ho o
    have hst : step x mv rec ws = stepW { x with m := mv, steps := x.steps + 1 } rec ws := by unfold step; rw [if_pos o]
    rw [hst]
    have hl : left x = (if x.phase = 0 then x.w + 2 * x.rl + 2 else if x.phase = 1 then x.w + 2 * x.rl + 1 - x.i else if x.phase = 2 then x.w + x.rl + 1 - x.i else if x.phase = 3 then x.rl + 1 else x.rl - x.i) := by unfold left; rw [if_neg (by simp [ho]), if_pos o]
    rcases (by omega : x.phase = 0 ∨ x.phase = 1 ∨ x.phase = 2 ∨ x.phase = 3 ∨ x.phase = 4) with q | q | q | q | q
    · have hmk := hmk (by omega)
      rw [if_neg (by omega)] at hmk
      rw [if_neg (by omega)] at hi
      unfold stepW
      rw [if_pos (show ({ x with m := mv, steps := x.steps + 1 } : Core).phase = 0 from q)]
      dsimp only
      refine ⟨⟨hw, hrl, g0 _, hb, hrd, hba, hsz, fun _ _ _ => by simp only [if_true]; exact hmk, fun _ => by simp [o]; omega, .inl ⟨o, by simp, fun _ => r⟩⟩, ?_, rfl, rfl, rfl, rfl⟩
      rw [hl, if_pos q]
      simp [left, ho, o] <;> omega
    · have hmk := hmk (by omega)
      rw [if_pos q] at hmk
      rw [if_pos ⟨o, .inl q⟩] at hi
      obtain ⟨u, hu⟩ : ∃ u, ws.getD (x.base.toNat + (1 + x.i.toNat)) 0 = u := ⟨_, rfl⟩
      have hu0 : 0 ≤ u := by rw [← hu]; exact (g0 _).1
      have hm1 : bitm.Marks (bitm.markU x.used u) (x.i + 1) := hmk.mark hu0
      unfold stepW
      rw [if_neg (show ¬ ({ x with m := mv, steps := x.steps + 1 } : Core).phase = 0 by show ¬ x.phase = 0; omega), if_pos (show ({ x with m := mv, steps := x.steps + 1 } : Core).phase = 1 from q)]
      dsimp only
      rw [hu]
      unfold scanC
      dsimp only
      obtain ⟨U1, hU1⟩ : ∃ U1, bitm.markU x.used u = U1 := ⟨_, rfl⟩
      rw [hU1] at hm1
      simp only [hU1]
      split
      · have hm2 := hm1.mark (s := x.a) ha.1
        have hf := hm2.free
        refine ⟨⟨hw, hrl, ha, by simp only []; omega, hrd, hba, hsz, fun _ _ h9 => by simp at h9, fun _ => by simp [o]; omega, .inl ⟨o, by simp, fun _ => r⟩⟩, ?_, rfl, rfl, rfl, rfl⟩
        rw [hl, if_neg (by omega), if_pos q]
        simp [left, ho, o] <;> omega
      · refine ⟨⟨hw, hrl, ha, hb, hrd, hba, hsz, fun _ _ _ => by
          simp only [q, if_true]
          rw [show (x.i.toNat : Int) + 1 = x.i + 1 by omega]; exact hm1, fun _ => by simp [o, q]; omega, .inl ⟨o, by simp [q], fun _ => r⟩⟩, ?_, rfl, rfl, rfl, rfl⟩
        rw [hl, if_neg (by omega), if_pos q]
        simp [left, ho, o, q] <;> omega
    · rw [if_neg (by omega)] at hi
      unfold stepW
      rw [if_neg (show ¬ ({ x with m := mv, steps := x.steps + 1 } : Core).phase = 0 by show ¬ x.phase = 0; omega), if_neg (show ¬ ({ x with m := mv, steps := x.steps + 1 } : Core).phase = 1 by show ¬ x.phase = 1; omega), if_pos (show ({ x with m := mv, steps := x.steps + 1 } : Core).phase = 2 from q)]
      dsimp only
      split
      · refine ⟨⟨hw, hrl, ha, hb, hrd, hba, hsz, fun _ _ h9 => by simp at h9, fun _ => by simp [o]; omega, .inl ⟨o, by simp, fun _ => r⟩⟩, ?_, rfl, rfl, rfl, rfl⟩
        rw [hl, if_neg (by omega), if_neg (by omega), if_pos q]
        simp [left, ho, o] <;> omega
      · refine ⟨⟨hw, hrl, ha, hb, hrd, hba, hsz, fun _ _ h9 => by simp [q] at h9, fun _ => by simp [o, q]; omega, .inl ⟨o, by simp [q], fun _ => r⟩⟩, ?_, rfl, rfl, rfl, rfl⟩
        rw [hl, if_neg (by omega), if_neg (by omega), if_pos q]
        simp [left, ho, o, q] <;> omega
    · rw [if_neg (by omega)] at hi
      unfold stepW
      rw [if_neg (show ¬ ({ x with m := mv, steps := x.steps + 1 } : Core).phase = 0 by show ¬ x.phase = 0; omega), if_neg (show ¬ ({ x with m := mv, steps := x.steps + 1 } : Core).phase = 1 by show ¬ x.phase = 1; omega), if_neg (show ¬ ({ x with m := mv, steps := x.steps + 1 } : Core).phase = 2 by show ¬ x.phase = 2; omega), if_pos (show ({ x with m := mv, steps := x.steps + 1 } : Core).phase = 3 from q)]
      dsimp only
      refine ⟨⟨hw, hrl, ha, hb, hrd, hba, hsz, fun _ _ h9 => by simp at h9, fun _ => by simp [o]; omega, .inl ⟨o, by simp, fun _ => r⟩⟩, ?_, rfl, rfl, rfl, rfl⟩
      rw [hl, if_neg (by omega), if_neg (by omega), if_neg (by omega), if_pos q]
      simp [left, ho, o] <;> omega
    · rw [if_pos ⟨o, .inr q⟩] at hi
      unfold stepW
      rw [if_neg (show ¬ ({ x with m := mv, steps := x.steps + 1 } : Core).phase = 0 by show ¬ x.phase = 0; omega), if_neg (show ¬ ({ x with m := mv, steps := x.steps + 1 } : Core).phase = 1 by show ¬ x.phase = 1; omega), if_neg (show ¬ ({ x with m := mv, steps := x.steps + 1 } : Core).phase = 2 by show ¬ x.phase = 2; omega), if_neg (show ¬ ({ x with m := mv, steps := x.steps + 1 } : Core).phase = 3 by show ¬ x.phase = 3; omega)]
      dsimp only
      split
      · refine ⟨⟨hw, hrl, ha, hb, hrd, hba, hsz, fun h9 => by simp at h9, fun h9 => by simp at h9, .inl ⟨o, by simp [q], fun h9 => by simp at h9⟩⟩, ?_, rfl, rfl, rfl, rfl⟩
        rw [hl, if_neg (by omega), if_neg (by omega), if_neg (by omega), if_neg (by omega)]
        simp [left] <;> omega
      · refine ⟨⟨hw, hrl, ha, hb, hrd, hba, hsz, fun _ _ h9 => by simp [q] at h9, fun _ => by simp [o, q]; omega, .inl ⟨o, by simp [q], fun _ => r⟩⟩, ?_, rfl, rfl, rfl, rfl⟩
        rw [hl, if_neg (by omega), if_neg (by omega), if_neg (by omega), if_neg (by omega)]
        simp [left, ho, o, q] <;> omega
  · have r := r ho
    rw [if_neg (by omega)] at hi
    have hst : step x mv rec ws = stepR { x with m := mv, steps := x.steps + 1 } rec ws := by unfold step; rw [if_neg (by omega)]
    rw [hst]
    have hl : left x = (if x.phase = 0 then x.w + 4 else if x.phase = 1 then x.w + 3 else if x.phase = 2 then x.w + 2 else if x.phase = 3 then x.w + 1 else x.w - x.i) := by unfold left; rw [if_neg (by simp [ho]), if_neg (by omega)]
    have hnm : ∀ (y : Core), y.op = x.op → y.over = false → y.op = 2 → y.phase ≤ 1 → bitm.Marks y.used (if y.phase = 1 then y.i else 0) := fun y h1 _ h2 => by rw [h1, o] at h2; omega
    rcases (by omega : x.phase = 0 ∨ x.phase = 1 ∨ x.phase = 2 ∨ x.phase = 3 ∨ x.phase = 4) with q | q | q | q | q
    · unfold stepR
      rw [if_pos (show ({ x with m := mv, steps := x.steps + 1 } : Core).phase = 0 from q)]
      dsimp only
      refine ⟨⟨hw, hrl, ha, hb, hrd, hba, hsz, hnm _ rfl, fun _ => by simp [o]; omega, .inr ⟨o, by simp, fun _ => by simp [q] at r ⊢; exact r⟩⟩, ?_, rfl, rfl, rfl, rfl⟩
      rw [hl, if_pos q]
      simp [left, ho, o] <;> omega
    · unfold stepR
      rw [if_neg (show ¬ ({ x with m := mv, steps := x.steps + 1 } : Core).phase = 0 by show ¬ x.phase = 0; omega), if_pos (show ({ x with m := mv, steps := x.steps + 1 } : Core).phase = 1 from q)]
      dsimp only
      refine ⟨⟨hw, hrl, g0 _, hb, hrd, hba, hsz, hnm _ rfl, fun _ => by simp [o]; omega, .inr ⟨o, by simp, fun _ => by simp [q] at r ⊢; exact r⟩⟩, ?_, rfl, rfl, rfl, rfl⟩
      rw [hl, if_neg (by omega), if_pos q]
      simp [left, ho, o] <;> omega
    · unfold stepR
      rw [if_neg (show ¬ ({ x with m := mv, steps := x.steps + 1 } : Core).phase = 0 by show ¬ x.phase = 0; omega), if_neg (show ¬ ({ x with m := mv, steps := x.steps + 1 } : Core).phase = 1 by show ¬ x.phase = 1; omega), if_pos (show ({ x with m := mv, steps := x.steps + 1 } : Core).phase = 2 from q)]
      dsimp only
      refine ⟨⟨hw, hrl, ha, hb, hrd, hba, hsz, hnm _ rfl, fun _ => by simp [o]; omega, .inr ⟨o, by simp, fun _ => by simp [q] at r ⊢; exact r⟩⟩, ?_, rfl, rfl, rfl, rfl⟩
      rw [hl, if_neg (by omega), if_neg (by omega), if_pos q]
      simp [left, ho, o] <;> omega
    · unfold stepR
      rw [if_neg (show ¬ ({ x with m := mv, steps := x.steps + 1 } : Core).phase = 0 by show ¬ x.phase = 0; omega), if_neg (show ¬ ({ x with m := mv, steps := x.steps + 1 } : Core).phase = 1 by show ¬ x.phase = 1; omega), if_neg (show ¬ ({ x with m := mv, steps := x.steps + 1 } : Core).phase = 2 by show ¬ x.phase = 2; omega), if_pos (show ({ x with m := mv, steps := x.steps + 1 } : Core).phase = 3 from q)]
      dsimp only
      refine ⟨⟨hw, hrl, ha, by simp only []; exact mod_bd (by omega), hrd, hba, hsz, hnm _ rfl, fun _ => by simp [o]; omega, .inr ⟨o, by simp, fun _ => by simp [q] at r ⊢; exact r⟩⟩, ?_, rfl, rfl, rfl, rfl⟩
      rw [hl, if_neg (by omega), if_neg (by omega), if_neg (by omega), if_pos q]
      simp [left, ho, o] <;> omega
    · unfold stepR
      rw [if_neg (show ¬ ({ x with m := mv, steps := x.steps + 1 } : Core).phase = 0 by show ¬ x.phase = 0; omega), if_neg (show ¬ ({ x with m := mv, steps := x.steps + 1 } : Core).phase = 1 by show ¬ x.phase = 1; omega), if_neg (show ¬ ({ x with m := mv, steps := x.steps + 1 } : Core).phase = 2 by show ¬ x.phase = 2; omega), if_neg (show ¬ ({ x with m := mv, steps := x.steps + 1 } : Core).phase = 3 by show ¬ x.phase = 3; omega)]
      dsimp only
      rw [if_pos q] at r
      split
      · refine ⟨⟨hw, hrl, ha, hb, hrd, hba, hsz, fun h9 => by simp at h9, fun h9 => by simp at h9, .inr ⟨o, by simp [q], fun h9 => by simp at h9⟩⟩, ?_, rfl, rfl, rfl, rfl⟩
        rw [hl, if_neg (by omega), if_neg (by omega), if_neg (by omega), if_neg (by omega)]
        simp [left] <;> omega
      · refine ⟨⟨hw, hrl, ha, hb, hrd, hba, hsz, hnm _ rfl, fun _ => by simp [o, q]; omega, .inr ⟨o, by simp [q], fun _ => by simp [q]; omega⟩⟩, ?_, rfl, rfl, rfl, rfl⟩
        rw [hl, if_neg (by omega), if_neg (by omega), if_neg (by omega), if_neg (by omega)]
        simp [left, ho, o, q] <;> omega
def K : Kind where
  step := step
  Shape := Shape
  left := left
  ok mv h ho hws := step_ok mv h ho hws
  len := step_len
  pos := left_pos
  zero := left_over
theorem free : K.Free where
  free x a mv rec ws := rfl
  relabel x mv mv' rec ws := by
    show step x mv' rec ws = ({ (step x mv rec ws).1 with m := mv' }, (step x mv rec ws).2.1, (step x mv rec ws).2.2)
    simp only [step, stepW, stepR, scanC, place]
    (repeat' split) <;> rfl
end Go.Proofs.Ytjplamoofkcojaa.chen
