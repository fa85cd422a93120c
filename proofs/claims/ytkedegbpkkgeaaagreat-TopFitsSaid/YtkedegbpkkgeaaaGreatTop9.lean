import Derived.Test.YtkedegbpkkgeaaaGreatSets
import Derived.Test.YtkedegbpkkgeaaaGreatTop4
import Derived.Deep.Cut
import Derived.Test.YtkedegbpkkgeaaaGreatTop5
import Derived.Test.YtkedegbpkkgeaaaGreatTop7
/- Parts joined: Cab0, Cab1, Cab2. -/
/- Package cab: what lies where, which slot is the newest, which is free. -/
namespace Go.Proofs.YtkedegbpkkgeaaaGreat.cab
open Go Go.RowKit Go.Proofs.YtkedegbpkkgeaaaGreat.kit Go.Proofs.YtkedegbpkkgeaaaGreat.mem Go.Proofs.YtkedegbpkkgeaaaGreat.rop Go.Proofs.YtkedegbpkkgeaaaGreat.core Go.Proofs.YtkedegbpkkgeaaaGreat.obj
set_option linter.unusedVariables false
set_option linter.unusedSimpArgs false
set_option maxRecDepth 20000

theorem mul_bd {c w m : Int} (hc : 0 ≤ c ∧ c ≤ m) (hw : 0 ≤ w ∧ w ≤ 8) (hm : m ≤ 16) : 0 ≤ c * w ∧ c * w ≤ m * w ∧ c * w ≤ 128 := by
  have h1 := Int.mul_nonneg hc.1 hw.1
  have h2 := Int.mul_le_mul_of_nonneg_right hc.2 hw.1
  have h3 := Int.mul_le_mul_of_nonneg_left hw.2 (show 0 ≤ m by omega)
  omega
theorem data_any (k w s c st : Int) (ia : Option Addr) (il ic : Nat) (wr : Int) (ra : Option Addr) (rl rc : Nat) (hrl : rl ≤ 100) (W : World) :
    Calls Tryz.prog 175 #[.agg #[.int .i64 k, .int .i64 w, .int .i64 s, .int .i64 c, .int .u32 st, .slice ia il ic, .int .i64 wr, .slice ra rl rc]] W fun e W' => e = .returned (.int .i64 ((1 + rl : Nat) : Int)) ∧ Chg [] W W' := by
  have k1 : IntKind.i64.wrap (1 + (rl : Int)) = ((1 + rl : Nat) : Int) := by rw [IntKind.wrap_i64]; omega
  clear hrl
  go_enter Tryz.func175, Tryz.ntmps175
  go_wp2
  go_ret
  exact ⟨rfl, (Chg.refl _ _).alloc _⟩
/-- where the record of a slot begins -/
def place (x : Core) (sl : Int) : Nat := 1 + x.rl + (sl * x.w).toNat
end Go.Proofs.YtkedegbpkkgeaaaGreat.cab

/- Package cab: the steps of a write and of a read. -/
namespace Go.Proofs.YtkedegbpkkgeaaaGreat.cab
open Go Go.RowKit Go.Proofs.YtkedegbpkkgeaaaGreat.kit Go.Proofs.YtkedegbpkkgeaaaGreat.mem Go.Proofs.YtkedegbpkkgeaaaGreat.rop Go.Proofs.YtkedegbpkkgeaaaGreat.core Go.Proofs.YtkedegbpkkgeaaaGreat.obj
set_option linter.unusedVariables false
set_option linter.unusedSimpArgs false
set_option maxRecDepth 20000

/-- a reader's mark is looked at -/
def markM (x : Core) (u : Int) : Int := if 0 < u then bitm.markU x.used (u - 1) else x.used
def scanC (x : Core) (u : Int) : Core := if x.rl ≤ x.i.toNat + 1 then { x with used := bitm.markU (if 0 < u then bitm.markU x.used (u - 1) else x.used) x.a, b := bitm.freeU (bitm.markU (if 0 < u then bitm.markU x.used (u - 1) else x.used) x.a), phase := 2, i := 0 } else { x with used := (if 0 < u then bitm.markU x.used (u - 1) else x.used), i := (x.i.toNat : Int) + 1 }
/-- an attempt has failed -/
def failC (x : Core) : Core := if x.c ≤ x.tries + 1 then { x with tries := x.tries + 1, phase := 4, i := 0, b := 1 } else { x with tries := x.tries + 1, phase := 0, i := 0 }
end Go.Proofs.YtkedegbpkkgeaaaGreat.cab

/- Package cab: a step, whatever it is. -/
namespace Go.Proofs.YtkedegbpkkgeaaaGreat.cab
open Go Go.RowKit Go.Proofs.YtkedegbpkkgeaaaGreat.kit Go.Proofs.YtkedegbpkkgeaaaGreat.mem Go.Proofs.YtkedegbpkkgeaaaGreat.rop Go.Proofs.YtkedegbpkkgeaaaGreat.core
set_option linter.unusedVariables false
set_option linter.unusedSimpArgs false
set_option maxRecDepth 20000

/-- a step of a write, in plain lists -/
def stepW (x : Core) (rec ws : List Int) : Core × List Int × List Int :=
  if x.phase = 0 then ({ x with a := (ws.getD (x.base.toNat + 0) 0 % x.s), phase := 1, i := 0 }, rec, ws)
  else if x.phase = 1 then (scanC x (ws.getD (x.base.toNat + (1 + x.i.toNat)) 0), rec, ws)
  else if x.phase = 2 then (if x.w.toNat ≤ x.i.toNat + 1 then { x with phase := 3, i := 0 } else { x with i := (x.i.toNat : Int) + 1 }, rec, ws.set (x.base.toNat + (place x x.b + x.i.toNat)) (rec.getD x.i.toNat 0))
  else ({ x with over := true, code := 0 }, endRec x.op 0 rec, ws.set (x.base.toNat + 0) x.b)
/-- a step of a read, in plain lists -/
def stepR (x : Core) (rec ws : List Int) : Core × List Int × List Int :=
  if x.phase = 0 then ({ x with a := (ws.getD (x.base.toNat + 0) 0 % x.s), phase := 1, i := 0 }, rec, ws)
  else if x.phase = 1 then ({ x with phase := 2, i := 0 }, rec, ws.set (x.base.toNat + (1 + x.reader.toNat)) ((x.a + 1) % 4294967296))
  else if x.phase = 2 then (if (ws.getD (x.base.toNat + 0) 0 % x.s) = x.a then { x with phase := 3, i := 0 } else failC x, if (ws.getD (x.base.toNat + 0) 0 % x.s) = x.a then rec else [], ws)
  else if x.phase = 3 then (if x.w.toNat ≤ x.i.toNat + 1 then { x with phase := 4, i := 0 } else { x with i := (x.i.toNat : Int) + 1 }, rec ++ [ws.getD (x.base.toNat + (place x x.a + x.i.toNat)) 0], ws)
  else ({ x with over := true, code := x.b }, endRec x.op x.b rec, ws.set (x.base.toNat + (1 + x.reader.toNat)) 0)
/-- a step, in plain lists -/
def step (x : Core) (mv : Value) (rec ws : List Int) : Core × List Int × List Int :=
  if x.op = 2 then stepW { x with m := mv, steps := x.steps + 1 } rec ws else stepR { x with m := mv, steps := x.steps + 1 } rec ws

/-- what an operation keeps -/
structure Shape (x : Core) (rec : List Int) : Prop where
  w : 1 ≤ x.w ∧ x.w ≤ 8
  rl : 1 ≤ x.rl ∧ x.rl ≤ 4
  s : (x.rl : Int) + 2 ≤ x.s ∧ x.s ≤ 16
  a : 0 ≤ x.a ∧ x.a < x.s
  b : 0 ≤ x.b ∧ x.b < x.s
  c : 1 ≤ x.c ∧ x.c ≤ 16
  reader : 0 ≤ x.reader ∧ x.reader < x.rl
  tries : 0 ≤ x.tries ∧ x.tries ≤ 1000 ∧ (x.over = false → x.phase ≠ 4 → x.tries < x.c)
  base : 0 ≤ x.base
  size : x.size = 1 + x.rl + x.s * x.w
  marks : x.over = false → x.op = 2 → x.phase ≤ 1 → bitm.Marks x.used (if x.phase = 1 then x.i else 0)
  i : x.over = false → 0 ≤ x.i ∧ (if x.op = 2 ∧ x.phase = 1 then x.i < x.rl else x.i < x.w)
  op : (x.op = 2 ∧ (0 ≤ x.phase ∧ x.phase ≤ 3) ∧ (x.over = false → (rec.length : Int) = x.w)) ∨ (x.op = 1 ∧ (0 ≤ x.phase ∧ x.phase ≤ 4) ∧ (x.over = false → (rec.length : Int) = if x.phase = 3 then x.i else if x.phase = 4 then (rec.length : Int) else 0))

theorem Shape.up {x : Core} {rec : List Int} (h : Shape x rec) (mv : Value) (k : Int) : Shape { x with m := mv, steps := k } rec := ⟨h.w, h.rl, h.s, h.a, h.b, h.c, h.reader, h.tries, h.base, h.size, h.marks, h.i, h.op⟩
/-- how many steps are left at most -/
def left (x : Core) : Int :=
  if x.over then 0 else if x.op = 2 then (if x.phase = 0 then x.w + x.rl + 2 else if x.phase = 1 then x.w + x.rl + 1 - x.i else if x.phase = 2 then x.w + 1 - x.i else 1) else (if x.phase = 0 then 3 * (x.c - x.tries) + x.w + 1 else if x.phase = 1 then 3 * (x.c - x.tries) + x.w else if x.phase = 2 then 3 * (x.c - x.tries) + x.w - 1 else if x.phase = 3 then x.w + 1 - x.i else 1)
theorem left_over {x : Core} (ho : x.over = true) : left x = 0 := by simp [left, ho]
theorem left_pos {x : Core} {rec : List Int} (h : Shape x rec) (ho : x.over = false) : 1 ≤ left x := by
  have hw := h.w; have hi := h.i ho; have ht := h.tries; have hrl := h.rl
  rcases h.op with ⟨o, p, _⟩ | ⟨o, p, _⟩
  · simp only [left, ho, o]; simp
    (repeat' split) <;> (simp [o, *] at hi; omega)
  · simp only [left, ho, o]; simp
    rw [if_neg (by omega)] at hi
    have ht2 := ht.2.2 ho
    (repeat' split) <;> omega
theorem step_len (x : Core) (mv : Value) (rec ws : List Int) : (step x mv rec ws).2.2.length = ws.length := by
  simp only [step, stepW, stepR]
  (repeat' split) <;> simp
theorem mod_bd {s v : Int} (hs : 1 ≤ s) : 0 ≤ v % s ∧ v % s < s := ⟨Int.emod_nonneg v (by omega), Int.emod_lt_of_pos v (by omega)⟩
theorem step_ok {x : Core} {rec ws : List Int} (mv : Value) (h : Shape x rec) (ho : x.over = false) (hws : ∀ z ∈ ws, 0 ≤ z ∧ z ≤ 4294967295) :
    Shape (step x mv rec ws).1 (step x mv rec ws).2.1 ∧ left (step x mv rec ws).1 + 1 ≤ left x ∧ (step x mv rec ws).1.steps = x.steps + 1 ∧ (step x mv rec ws).1.m = mv ∧ (step x mv rec ws).1.base = x.base ∧ (step x mv rec ws).1.size = x.size := by
  obtain ⟨hw, hrl, hs, ha, hb, hc, hrd, ht, hba, hsz, hmk, hi, hop⟩ := h
  have hi := hi ho
  have ht2 := ht.2.2 ho
  have g1 := fun v => mod_bd (v := v) (show 1 ≤ x.s by omega)
  rcases hop with ⟨o, p, r⟩ | ⟨o, p, r⟩
  · have r := r ho
    have hmk := hmk ho o
    have hst : step x mv rec ws = stepW { x with m := mv, steps := x.steps + 1 } rec ws := by unfold step; rw [if_pos o]
    rw [hst]
    have hl : left x = (if x.phase = 0 then x.w + x.rl + 2 else if x.phase = 1 then x.w + x.rl + 1 - x.i else if x.phase = 2 then x.w + 1 - x.i else 1) := by unfold left; rw [if_neg (by simp [ho]), if_pos o]
    rcases (by omega : x.phase = 0 ∨ x.phase = 1 ∨ x.phase = 2 ∨ x.phase = 3) with q | q | q | q
    · have hmk := hmk (by omega)
      rw [if_neg (by omega)] at hmk
      unfold stepW
      rw [if_pos (show ({ x with m := mv, steps := x.steps + 1 } : Core).phase = 0 from q)]
      dsimp only
      refine ⟨⟨hw, hrl, hs, g1 _, hb, hc, hrd, ⟨ht.1, ht.2.1, fun _ _ => ht2 (by omega)⟩, hba, hsz, fun _ _ _ => by simp only [if_true]; exact hmk, fun _ => by simp [o]; omega, .inl ⟨o, by simp, fun _ => r⟩⟩, ?_, rfl, rfl, rfl, rfl⟩
      rw [hl, if_pos q]
      simp [left, ho, o] <;> omega
    · have hmk := hmk (by omega)
      rw [if_pos q] at hmk
      rw [if_pos ⟨o, q⟩] at hi
      obtain ⟨u, hu⟩ : ∃ u, ws.getD (x.base.toNat + (1 + x.i.toNat)) 0 = u := ⟨_, rfl⟩
      have hm1 : bitm.Marks (if 0 < u then bitm.markU x.used (u - 1) else x.used) (x.i + 1) := by
        split
        · exact hmk.mark (by omega)
        · exact hmk.more (by omega)
      unfold stepW
      rw [if_neg (show ¬ ({ x with m := mv, steps := x.steps + 1 } : Core).phase = 0 by show ¬ x.phase = 0; omega), if_pos (show ({ x with m := mv, steps := x.steps + 1 } : Core).phase = 1 from q)]
      dsimp only
      rw [hu]
      unfold scanC
      dsimp only
      obtain ⟨U1, hU1⟩ : ∃ U1, (if 0 < u then bitm.markU x.used (u - 1) else x.used) = U1 := ⟨_, rfl⟩
      rw [hU1] at hm1
      simp only [hU1]
      split
      · have hm2 := hm1.mark (s := x.a) ha.1
        have hf := hm2.free
        refine ⟨⟨hw, hrl, hs, ha, by simp only []; omega, hc, hrd, ⟨ht.1, ht.2.1, fun _ _ => ht2 (by omega)⟩, hba, hsz, fun _ _ h9 => by simp at h9, fun _ => by simp [o]; omega, .inl ⟨o, by simp, fun _ => r⟩⟩, ?_, rfl, rfl, rfl, rfl⟩
        rw [hl, if_neg (by omega), if_pos q]
        simp [left, ho, o] <;> omega
      · refine ⟨⟨hw, hrl, hs, ha, hb, hc, hrd, ⟨ht.1, ht.2.1, fun _ _ => ht2 (by omega)⟩, hba, hsz, fun _ _ _ => by
          simp only [q, if_true]
          rw [show (x.i.toNat : Int) + 1 = x.i + 1 by omega]; exact hm1, fun _ => by simp [o, q]; omega, .inl ⟨o, by simp [q], fun _ => r⟩⟩, ?_, rfl, rfl, rfl, rfl⟩
        rw [hl, if_neg (by omega), if_pos q]
        simp [left, ho, o, q] <;> omega
    · rw [if_neg (by omega)] at hi
      unfold stepW
      rw [if_neg (show ¬ ({ x with m := mv, steps := x.steps + 1 } : Core).phase = 0 by show ¬ x.phase = 0; omega), if_neg (show ¬ ({ x with m := mv, steps := x.steps + 1 } : Core).phase = 1 by show ¬ x.phase = 1; omega), if_pos (show ({ x with m := mv, steps := x.steps + 1 } : Core).phase = 2 from q)]
      dsimp only
      split
      · refine ⟨⟨hw, hrl, hs, ha, hb, hc, hrd, ⟨ht.1, ht.2.1, fun _ _ => ht2 (by omega)⟩, hba, hsz, fun _ _ h9 => by simp at h9, fun _ => by simp [o]; omega, .inl ⟨o, by simp, fun _ => r⟩⟩, ?_, rfl, rfl, rfl, rfl⟩
        rw [hl, if_neg (by omega), if_neg (by omega), if_pos q]
        simp [left, ho, o] <;> omega
      · refine ⟨⟨hw, hrl, hs, ha, hb, hc, hrd, ⟨ht.1, ht.2.1, fun _ _ => ht2 (by omega)⟩, hba, hsz, fun _ _ h9 => by simp [q] at h9, fun _ => by simp [o, q]; omega, .inl ⟨o, by simp [q], fun _ => r⟩⟩, ?_, rfl, rfl, rfl, rfl⟩
        rw [hl, if_neg (by omega), if_neg (by omega), if_pos q]
        simp [left, ho, o, q] <;> omega
    · unfold stepW
      rw [if_neg (show ¬ ({ x with m := mv, steps := x.steps + 1 } : Core).phase = 0 by show ¬ x.phase = 0; omega), if_neg (show ¬ ({ x with m := mv, steps := x.steps + 1 } : Core).phase = 1 by show ¬ x.phase = 1; omega), if_neg (show ¬ ({ x with m := mv, steps := x.steps + 1 } : Core).phase = 2 by show ¬ x.phase = 2; omega)]
      dsimp only
      refine ⟨⟨hw, hrl, hs, ha, hb, hc, hrd, ⟨ht.1, ht.2.1, fun h9 => by simp at h9⟩, hba, hsz, fun h9 => by simp at h9, fun h9 => by simp at h9, .inl ⟨o, by simp [q], fun h9 => by simp at h9⟩⟩, ?_, rfl, rfl, rfl, rfl⟩
      rw [hl, if_neg (by omega), if_neg (by omega), if_neg (by omega)]
      simp [left]
  · have r := r ho
    rw [if_neg (by omega)] at hi
    have hst : step x mv rec ws = stepR { x with m := mv, steps := x.steps + 1 } rec ws := by unfold step; rw [if_neg (by omega)]
    rw [hst]
    have hl : left x = (if x.phase = 0 then 3 * (x.c - x.tries) + x.w + 1 else if x.phase = 1 then 3 * (x.c - x.tries) + x.w else if x.phase = 2 then 3 * (x.c - x.tries) + x.w - 1 else if x.phase = 3 then x.w + 1 - x.i else 1) := by unfold left; rw [if_neg (by simp [ho]), if_neg (by omega)]
    have hnm : ∀ (y : Core), y.op = x.op → y.over = false → y.op = 2 → y.phase ≤ 1 → bitm.Marks y.used (if y.phase = 1 then y.i else 0) := fun y h1 _ h2 => by rw [h1, o] at h2; omega
    rcases (by omega : x.phase = 0 ∨ x.phase = 1 ∨ x.phase = 2 ∨ x.phase = 3 ∨ x.phase = 4) with q | q | q | q | q
    · unfold stepR
      rw [if_pos (show ({ x with m := mv, steps := x.steps + 1 } : Core).phase = 0 from q)]
      dsimp only
      refine ⟨⟨hw, hrl, hs, g1 _, hb, hc, hrd, ⟨ht.1, ht.2.1, fun _ _ => ht2 (by omega)⟩, hba, hsz, hnm _ rfl, fun _ => by simp [o]; omega, .inr ⟨o, by simp, fun _ => by simp [q] at r ⊢; exact r⟩⟩, ?_, rfl, rfl, rfl, rfl⟩
      rw [hl, if_pos q]
      simp [left, ho, o] <;> omega
    · unfold stepR
      rw [if_neg (show ¬ ({ x with m := mv, steps := x.steps + 1 } : Core).phase = 0 by show ¬ x.phase = 0; omega), if_pos (show ({ x with m := mv, steps := x.steps + 1 } : Core).phase = 1 from q)]
      dsimp only
      refine ⟨⟨hw, hrl, hs, ha, hb, hc, hrd, ⟨ht.1, ht.2.1, fun _ _ => ht2 (by omega)⟩, hba, hsz, hnm _ rfl, fun _ => by simp [o]; omega, .inr ⟨o, by simp, fun _ => by simp [q] at r ⊢; exact r⟩⟩, ?_, rfl, rfl, rfl, rfl⟩
      rw [hl, if_neg (by omega), if_pos q]
      simp [left, ho, o] <;> omega
    · unfold stepR
      rw [if_neg (show ¬ ({ x with m := mv, steps := x.steps + 1 } : Core).phase = 0 by show ¬ x.phase = 0; omega), if_neg (show ¬ ({ x with m := mv, steps := x.steps + 1 } : Core).phase = 1 by show ¬ x.phase = 1; omega), if_pos (show ({ x with m := mv, steps := x.steps + 1 } : Core).phase = 2 from q)]
      dsimp only
      have htt := ht2 (by omega)
      split
      · refine ⟨⟨hw, hrl, hs, ha, hb, hc, hrd, ⟨ht.1, ht.2.1, fun _ _ => htt⟩, hba, hsz, hnm _ rfl, fun _ => by simp [o]; omega, .inr ⟨o, by simp, fun _ => by simp [q] at r ⊢; exact r⟩⟩, ?_, rfl, rfl, rfl, rfl⟩
        rw [hl, if_neg (by omega), if_neg (by omega), if_pos q]
        simp [left, ho, o] <;> omega
      · unfold failC
        dsimp only
        split
        · refine ⟨⟨hw, hrl, hs, ha, by simp only []; omega, hc, hrd, ⟨by simp only []; omega, by simp only []; omega, fun _ h9 => by simp at h9⟩, hba, hsz, hnm _ rfl, fun _ => by simp [o]; omega, .inr ⟨o, by simp, fun _ => by simp⟩⟩, ?_, rfl, rfl, rfl, rfl⟩
          rw [hl, if_neg (by omega), if_neg (by omega), if_pos q]
          simp [left, ho, o] <;> omega
        · refine ⟨⟨hw, hrl, hs, ha, hb, hc, hrd, ⟨by simp only []; omega, by simp only []; omega, fun _ _ => by simp only []; omega⟩, hba, hsz, hnm _ rfl, fun _ => by simp [o]; omega, .inr ⟨o, by simp, fun _ => by simp⟩⟩, ?_, rfl, rfl, rfl, rfl⟩
          rw [hl, if_neg (by omega), if_neg (by omega), if_pos q]
          simp [left, ho, o] <;> omega
    · unfold stepR
      rw [if_neg (show ¬ ({ x with m := mv, steps := x.steps + 1 } : Core).phase = 0 by show ¬ x.phase = 0; omega), if_neg (show ¬ ({ x with m := mv, steps := x.steps + 1 } : Core).phase = 1 by show ¬ x.phase = 1; omega), if_neg (show ¬ ({ x with m := mv, steps := x.steps + 1 } : Core).phase = 2 by show ¬ x.phase = 2; omega), if_pos (show ({ x with m := mv, steps := x.steps + 1 } : Core).phase = 3 from q)]
      dsimp only
      rw [if_pos q] at r
      split
      · refine ⟨⟨hw, hrl, hs, ha, hb, hc, hrd, ⟨ht.1, ht.2.1, fun _ h9 => by simp at h9⟩, hba, hsz, hnm _ rfl, fun _ => by simp [o]; omega, .inr ⟨o, by simp, fun _ => by simp⟩⟩, ?_, rfl, rfl, rfl, rfl⟩
        rw [hl, if_neg (by omega), if_neg (by omega), if_neg (by omega), if_pos q]
        simp [left, ho, o] <;> omega
      · refine ⟨⟨hw, hrl, hs, ha, hb, hc, hrd, ⟨ht.1, ht.2.1, fun _ _ => ht2 (by omega)⟩, hba, hsz, hnm _ rfl, fun _ => by simp [o, q]; omega, .inr ⟨o, by simp [q], fun _ => by simp [q]; omega⟩⟩, ?_, rfl, rfl, rfl, rfl⟩
        rw [hl, if_neg (by omega), if_neg (by omega), if_neg (by omega), if_pos q]
        simp [left, ho, o, q] <;> omega
    · unfold stepR
      rw [if_neg (show ¬ ({ x with m := mv, steps := x.steps + 1 } : Core).phase = 0 by show ¬ x.phase = 0; omega), if_neg (show ¬ ({ x with m := mv, steps := x.steps + 1 } : Core).phase = 1 by show ¬ x.phase = 1; omega), if_neg (show ¬ ({ x with m := mv, steps := x.steps + 1 } : Core).phase = 2 by show ¬ x.phase = 2; omega), if_neg (show ¬ ({ x with m := mv, steps := x.steps + 1 } : Core).phase = 3 by show ¬ x.phase = 3; omega)]
      dsimp only
      refine ⟨⟨hw, hrl, hs, ha, hb, hc, hrd, ⟨ht.1, ht.2.1, fun h9 => by simp at h9⟩, hba, hsz, fun h9 => by simp at h9, fun h9 => by simp at h9, .inr ⟨o, by simp [q], fun h9 => by simp at h9⟩⟩, ?_, rfl, rfl, rfl, rfl⟩
      rw [hl, if_neg (by omega), if_neg (by omega), if_neg (by omega), if_neg (by omega)]
      simp [left]
def K : Kind where
  step := step
  Shape := Shape
  left := left
  ok mv h ho hws := step_ok mv h ho hws
  len := step_len
  pos := left_pos
  zero := left_over
theorem free : K.Free where
  free x a mv rec ws := rfl
  relabel x mv mv' rec ws := by
    show step x mv' rec ws = ({ (step x mv rec ws).1 with m := mv' }, (step x mv rec ws).2.1, (step x mv rec ws).2.2)
    simp only [step, stepW, stepR, failC, scanC, place]
    (repeat' split) <;> rfl
end Go.Proofs.YtkedegbpkkgeaaaGreat.cab
/- Parts joined: Chen0, Chen1, Chen2. -/
/- Package chen: what lies where, which slot is free. -/
namespace Go.Proofs.YtkedegbpkkgeaaaGreat.chen
open Go Go.RowKit Go.Proofs.YtkedegbpkkgeaaaGreat.kit Go.Proofs.YtkedegbpkkgeaaaGreat.mem Go.Proofs.YtkedegbpkkgeaaaGreat.rop Go.Proofs.YtkedegbpkkgeaaaGreat.core Go.Proofs.YtkedegbpkkgeaaaGreat.obj
set_option linter.unusedVariables false
set_option linter.unusedSimpArgs false
set_option maxRecDepth 20000

theorem mul_bd {c w m : Int} (hc : 0 ≤ c ∧ c ≤ m) (hw : 0 ≤ w ∧ w ≤ 8) (hm : m ≤ 16) : 0 ≤ c * w ∧ c * w ≤ m * w ∧ c * w ≤ 128 := by
  have h1 := Int.mul_nonneg hc.1 hw.1
  have h2 := Int.mul_le_mul_of_nonneg_right hc.2 hw.1
  have h3 := Int.mul_le_mul_of_nonneg_left hw.2 (show 0 ≤ m by omega)
  omega
theorem data_any (k w s c st : Int) (ia : Option Addr) (il ic : Nat) (wr : Int) (ra : Option Addr) (rl rc : Nat) (hrl : rl ≤ 100) (W : World) :
    Calls Tryz.prog 173 #[.agg #[.int .i64 k, .int .i64 w, .int .i64 s, .int .i64 c, .int .u32 st, .slice ia il ic, .int .i64 wr, .slice ra rl rc]] W fun e W' => e = .returned (.int .i64 ((1 + rl : Nat) : Int)) ∧ Chg [] W W' := by
  have k1 : IntKind.i64.wrap (1 + (rl : Int)) = ((1 + rl : Nat) : Int) := by rw [IntKind.wrap_i64]; omega
  clear hrl
  go_enter Tryz.func173, Tryz.ntmps173
  go_wp2
  go_ret
  exact ⟨rfl, (Chg.refl _ _).alloc _⟩
theorem slots_any (k w s c st : Int) (ia : Option Addr) (il ic : Nat) (wr : Int) (ra : Option Addr) (rl rc : Nat) (hrl : rl ≤ 100) (W : World) :
    Calls Tryz.prog 174 #[.agg #[.int .i64 k, .int .i64 w, .int .i64 s, .int .i64 c, .int .u32 st, .slice ia il ic, .int .i64 wr, .slice ra rl rc]] W fun e W' => e = .returned (.int .i64 ((rl : Int) + 2)) ∧ Chg [] W W' := by
  have k1 : IntKind.i64.wrap ((rl : Int) + 2) = (rl : Int) + 2 := by rw [IntKind.wrap_i64]; omega
  clear hrl
  go_enter Tryz.func174, Tryz.ntmps174
  go_wp2
  go_ret
  exact ⟨rfl, (Chg.refl _ _).alloc _⟩
/-- where the record of a slot begins -/
def place (x : Core) (sl : Int) : Nat := 1 + x.rl + (sl * x.w).toNat
end Go.Proofs.YtkedegbpkkgeaaaGreat.chen

/- Package chen: the steps of a write and of a read. -/
namespace Go.Proofs.YtkedegbpkkgeaaaGreat.chen
open Go Go.RowKit Go.Proofs.YtkedegbpkkgeaaaGreat.kit Go.Proofs.YtkedegbpkkgeaaaGreat.mem Go.Proofs.YtkedegbpkkgeaaaGreat.rop Go.Proofs.YtkedegbpkkgeaaaGreat.core Go.Proofs.YtkedegbpkkgeaaaGreat.obj
set_option linter.unusedVariables false
set_option linter.unusedSimpArgs false
set_option maxRecDepth 20000

def scanC (x : Core) (u : Int) : Core := if x.rl ≤ x.i.toNat + 1 then { x with used := bitm.markU (bitm.markU x.used u) x.a, b := bitm.freeU (bitm.markU (bitm.markU x.used u) x.a), phase := 2, i := 0 } else { x with used := bitm.markU x.used u, i := (x.i.toNat : Int) + 1 }
end Go.Proofs.YtkedegbpkkgeaaaGreat.chen

/- Package chen: a step, whatever it is. -/
namespace Go.Proofs.YtkedegbpkkgeaaaGreat.chen
open Go Go.RowKit Go.Proofs.YtkedegbpkkgeaaaGreat.kit Go.Proofs.YtkedegbpkkgeaaaGreat.mem Go.Proofs.YtkedegbpkkgeaaaGreat.rop Go.Proofs.YtkedegbpkkgeaaaGreat.core
set_option linter.unusedVariables false
set_option linter.unusedSimpArgs false
set_option maxRecDepth 20000

/-- a step of a write, in plain lists -/
def stepW (x : Core) (rec ws : List Int) : Core × List Int × List Int :=
  if x.phase = 0 then ({ x with a := ws.getD (x.base.toNat + 0) 0, phase := 1, i := 0 }, rec, ws)
  else if x.phase = 1 then (scanC x (ws.getD (x.base.toNat + (1 + x.i.toNat)) 0), rec, ws)
  else if x.phase = 2 then (if x.w.toNat ≤ x.i.toNat + 1 then { x with phase := 3, i := 0 } else { x with i := (x.i.toNat : Int) + 1 }, rec, ws.set (x.base.toNat + (place x x.b + x.i.toNat)) (rec.getD x.i.toNat 0))
  else if x.phase = 3 then ({ x with phase := 4, i := 0 }, rec, ws.set (x.base.toNat + 0) x.b)
  else (if x.rl ≤ x.i.toNat + 1 then { x with i := (x.i.toNat : Int) + 1, over := true, code := 0 } else { x with i := (x.i.toNat : Int) + 1 }, if x.rl ≤ x.i.toNat + 1 then endRec x.op 0 rec else rec, swapL ws (x.base.toNat + (1 + x.i.toNat)) ((x.rl : Int) + 2) x.b)
/-- a step of a read, in plain lists -/
def stepR (x : Core) (rec ws : List Int) : Core × List Int × List Int :=
  if x.phase = 0 then ({ x with phase := 1, i := 0 }, rec, ws.set (x.base.toNat + (1 + x.reader.toNat)) ((x.rl : Int) + 2))
  else if x.phase = 1 then ({ x with a := ws.getD (x.base.toNat + 0) 0, phase := 2, i := 0 }, rec, ws)
  else if x.phase = 2 then ({ x with phase := 3, i := 0 }, rec, swapL ws (x.base.toNat + (1 + x.reader.toNat)) ((x.rl : Int) + 2) x.a)
  else if x.phase = 3 then ({ x with b := ws.getD (x.base.toNat + (1 + x.reader.toNat)) 0 % ((x.rl : Int) + 2), phase := 4, i := 0 }, rec, ws)
  else (if x.w.toNat ≤ x.i.toNat + 1 then { x with i := (x.i.toNat : Int) + 1, over := true, code := 0 } else { x with i := (x.i.toNat : Int) + 1 }, if x.w.toNat ≤ x.i.toNat + 1 then endRec x.op 0 (rec ++ [ws.getD (x.base.toNat + (place x x.b + x.i.toNat)) 0]) else rec ++ [ws.getD (x.base.toNat + (place x x.b + x.i.toNat)) 0], ws)
/-- a step, in plain lists -/
def step (x : Core) (mv : Value) (rec ws : List Int) : Core × List Int × List Int :=
  if x.op = 2 then stepW { x with m := mv, steps := x.steps + 1 } rec ws else stepR { x with m := mv, steps := x.steps + 1 } rec ws

/-- what an operation keeps -/
structure Shape (x : Core) (rec : List Int) : Prop where
  w : 1 ≤ x.w ∧ x.w ≤ 8
  rl : 1 ≤ x.rl ∧ x.rl ≤ 4
  a : 0 ≤ x.a ∧ x.a ≤ 4294967295
  b : 0 ≤ x.b ∧ x.b < (x.rl : Int) + 2
  reader : 0 ≤ x.reader ∧ x.reader < x.rl
  base : 0 ≤ x.base
  size : x.size = 1 + x.rl + ((x.rl : Int) + 2) * x.w
  marks : x.over = false → x.op = 2 → x.phase ≤ 1 → bitm.Marks x.used (if x.phase = 1 then x.i else 0)
  i : x.over = false → 0 ≤ x.i ∧ (if x.op = 2 ∧ (x.phase = 1 ∨ x.phase = 4) then x.i < x.rl else x.i < x.w)
  op : (x.op = 2 ∧ (0 ≤ x.phase ∧ x.phase ≤ 4) ∧ (x.over = false → (rec.length : Int) = x.w)) ∨ (x.op = 1 ∧ (0 ≤ x.phase ∧ x.phase ≤ 4) ∧ (x.over = false → (rec.length : Int) = if x.phase = 4 then x.i else 0))

theorem Shape.up {x : Core} {rec : List Int} (h : Shape x rec) (mv : Value) (k : Int) : Shape { x with m := mv, steps := k } rec := ⟨h.w, h.rl, h.a, h.b, h.reader, h.base, h.size, h.marks, h.i, h.op⟩
/-- how many steps are left at most -/
def left (x : Core) : Int :=
  if x.over then 0 else if x.op = 2 then (if x.phase = 0 then x.w + 2 * x.rl + 2 else if x.phase = 1 then x.w + 2 * x.rl + 1 - x.i else if x.phase = 2 then x.w + x.rl + 1 - x.i else if x.phase = 3 then x.rl + 1 else x.rl - x.i) else (if x.phase = 0 then x.w + 4 else if x.phase = 1 then x.w + 3 else if x.phase = 2 then x.w + 2 else if x.phase = 3 then x.w + 1 else x.w - x.i)
theorem left_over {x : Core} (ho : x.over = true) : left x = 0 := by simp [left, ho]
theorem left_pos {x : Core} {rec : List Int} (h : Shape x rec) (ho : x.over = false) : 1 ≤ left x := by
  have hw := h.w; have hi := h.i ho; have hrl := h.rl
  rcases h.op with ⟨o, p, _⟩ | ⟨o, p, _⟩
  · simp only [left, ho, o]; simp
    rcases (by omega : x.phase = 0 ∨ x.phase = 1 ∨ x.phase = 2 ∨ x.phase = 3 ∨ x.phase = 4) with q | q | q | q | q
    all_goals (simp [o, q] at hi ⊢; omega)
  · simp only [left, ho, o]; simp
    rw [if_neg (by omega)] at hi
    (repeat' split) <;> omega
theorem step_len (x : Core) (mv : Value) (rec ws : List Int) : (step x mv rec ws).2.2.length = ws.length := by
  simp only [step, stepW, stepR]
  (repeat' split) <;> simp [swapL_length]
theorem mod_bd {s v : Int} (hs : 1 ≤ s) : 0 ≤ v % s ∧ v % s < s := ⟨Int.emod_nonneg v (by omega), Int.emod_lt_of_pos v (by omega)⟩
theorem getD_bd {ws : List Int} (hw : ∀ z ∈ ws, 0 ≤ z ∧ z ≤ 4294967295) (i : Nat) : 0 ≤ ws.getD i 0 ∧ ws.getD i 0 ≤ 4294967295 := by
  by_cases h : i < ws.length
  · simp [List.getD, h]; exact hw _ (List.getElem_mem h)
  · simp [List.getD, h]
theorem step_ok {x : Core} {rec ws : List Int} (mv : Value) (h : Shape x rec) (ho : x.over = false) (hws : ∀ z ∈ ws, 0 ≤ z ∧ z ≤ 4294967295) :
    Shape (step x mv rec ws).1 (step x mv rec ws).2.1 ∧ left (step x mv rec ws).1 + 1 ≤ left x ∧ (step x mv rec ws).1.steps = x.steps + 1 ∧ (step x mv rec ws).1.m = mv ∧ (step x mv rec ws).1.base = x.base ∧ (step x mv rec ws).1.size = x.size := by
  obtain ⟨hw, hrl, ha, hb, hrd, hba, hsz, hmk, hi, hop⟩ := h
  have hi := hi ho
  have g0 := getD_bd hws
  rcases hop with ⟨o, p, r⟩ | ⟨o, p, r⟩
  · have r := r ho
    have hmk := hmk ho o
    have hst : step x mv rec ws = stepW { x with m := mv, steps := x.steps + 1 } rec ws := by unfold step; rw [if_pos o]
    rw [hst]
    have hl : left x = (if x.phase = 0 then x.w + 2 * x.rl + 2 else if x.phase = 1 then x.w + 2 * x.rl + 1 - x.i else if x.phase = 2 then x.w + x.rl + 1 - x.i else if x.phase = 3 then x.rl + 1 else x.rl - x.i) := by unfold left; rw [if_neg (by simp [ho]), if_pos o]
    rcases (by omega : x.phase = 0 ∨ x.phase = 1 ∨ x.phase = 2 ∨ x.phase = 3 ∨ x.phase = 4) with q | q | q | q | q
    · have hmk := hmk (by omega)
      rw [if_neg (by omega)] at hmk
      rw [if_neg (by omega)] at hi
      unfold stepW
      rw [if_pos (show ({ x with m := mv, steps := x.steps + 1 } : Core).phase = 0 from q)]
      dsimp only
      refine ⟨⟨hw, hrl, g0 _, hb, hrd, hba, hsz, fun _ _ _ => by simp only [if_true]; exact hmk, fun _ => by simp [o]; omega, .inl ⟨o, by simp, fun _ => r⟩⟩, ?_, rfl, rfl, rfl, rfl⟩
      rw [hl, if_pos q]
      simp [left, ho, o] <;> omega
    · have hmk := hmk (by omega)
      rw [if_pos q] at hmk
      rw [if_pos ⟨o, .inl q⟩] at hi
      obtain ⟨u, hu⟩ : ∃ u, ws.getD (x.base.toNat + (1 + x.i.toNat)) 0 = u := ⟨_, rfl⟩
      have hu0 : 0 ≤ u := by rw [← hu]; exact (g0 _).1
      have hm1 : bitm.Marks (bitm.markU x.used u) (x.i + 1) := hmk.mark hu0
      unfold stepW
      rw [if_neg (show ¬ ({ x with m := mv, steps := x.steps + 1 } : Core).phase = 0 by show ¬ x.phase = 0; omega), if_pos (show ({ x with m := mv, steps := x.steps + 1 } : Core).phase = 1 from q)]
      dsimp only
      rw [hu]
      unfold scanC
      dsimp only
      obtain ⟨U1, hU1⟩ : ∃ U1, bitm.markU x.used u = U1 := ⟨_, rfl⟩
      rw [hU1] at hm1
      simp only [hU1]
      split
      · have hm2 := hm1.mark (s := x.a) ha.1
        have hf := hm2.free
        refine ⟨⟨hw, hrl, ha, by simp only []; omega, hrd, hba, hsz, fun _ _ h9 => by simp at h9, fun _ => by simp [o]; omega, .inl ⟨o, by simp, fun _ => r⟩⟩, ?_, rfl, rfl, rfl, rfl⟩
        rw [hl, if_neg (by omega), if_pos q]
        simp [left, ho, o] <;> omega
      · refine ⟨⟨hw, hrl, ha, hb, hrd, hba, hsz, fun _ _ _ => by
          simp only [q, if_true]
          rw [show (x.i.toNat : Int) + 1 = x.i + 1 by omega]; exact hm1, fun _ => by simp [o, q]; omega, .inl ⟨o, by simp [q], fun _ => r⟩⟩, ?_, rfl, rfl, rfl, rfl⟩
        rw [hl, if_neg (by omega), if_pos q]
        simp [left, ho, o, q] <;> omega
    · rw [if_neg (by omega)] at hi
      unfold stepW
      rw [if_neg (show ¬ ({ x with m := mv, steps := x.steps + 1 } : Core).phase = 0 by show ¬ x.phase = 0; omega), if_neg (show ¬ ({ x with m := mv, steps := x.steps + 1 } : Core).phase = 1 by show ¬ x.phase = 1; omega), if_pos (show ({ x with m := mv, steps := x.steps + 1 } : Core).phase = 2 from q)]
      dsimp only
      split
      · refine ⟨⟨hw, hrl, ha, hb, hrd, hba, hsz, fun _ _ h9 => by simp at h9, fun _ => by simp [o]; omega, .inl ⟨o, by simp, fun _ => r⟩⟩, ?_, rfl, rfl, rfl, rfl⟩
        rw [hl, if_neg (by omega), if_neg (by omega), if_pos q]
        simp [left, ho, o] <;> omega
      · refine ⟨⟨hw, hrl, ha, hb, hrd, hba, hsz, fun _ _ h9 => by simp [q] at h9, fun _ => by simp [o, q]; omega, .inl ⟨o, by simp [q], fun _ => r⟩⟩, ?_, rfl, rfl, rfl, rfl⟩
        rw [hl, if_neg (by omega), if_neg (by omega), if_pos q]
        simp [left, ho, o, q] <;> omega
    · rw [if_neg (by omega)] at hi
      unfold stepW
      rw [if_neg (show ¬ ({ x with m := mv, steps := x.steps + 1 } : Core).phase = 0 by show ¬ x.phase = 0; omega), if_neg (show ¬ ({ x with m := mv, steps := x.steps + 1 } : Core).phase = 1 by show ¬ x.phase = 1; omega), if_neg (show ¬ ({ x with m := mv, steps := x.steps + 1 } : Core).phase = 2 by show ¬ x.phase = 2; omega), if_pos (show ({ x with m := mv, steps := x.steps + 1 } : Core).phase = 3 from q)]
      dsimp only
      refine ⟨⟨hw, hrl, ha, hb, hrd, hba, hsz, fun _ _ h9 => by simp at h9, fun _ => by simp [o]; omega, .inl ⟨o, by simp, fun _ => r⟩⟩, ?_, rfl, rfl, rfl, rfl⟩
      rw [hl, if_neg (by omega), if_neg (by omega), if_neg (by omega), if_pos q]
      simp [left, ho, o] <;> omega
    · rw [if_pos ⟨o, .inr q⟩] at hi
      unfold stepW
      rw [if_neg (show ¬ ({ x with m := mv, steps := x.steps + 1 } : Core).phase = 0 by show ¬ x.phase = 0; omega), if_neg (show ¬ ({ x with m := mv, steps := x.steps + 1 } : Core).phase = 1 by show ¬ x.phase = 1; omega), if_neg (show ¬ ({ x with m := mv, steps := x.steps + 1 } : Core).phase = 2 by show ¬ x.phase = 2; omega), if_neg (show ¬ ({ x with m := mv, steps := x.steps + 1 } : Core).phase = 3 by show ¬ x.phase = 3; omega)]
      dsimp only
      split
      · refine ⟨⟨hw, hrl, ha, hb, hrd, hba, hsz, fun h9 => by simp at h9, fun h9 => by simp at h9, .inl ⟨o, by simp [q], fun h9 => by simp at h9⟩⟩, ?_, rfl, rfl, rfl, rfl⟩
        rw [hl, if_neg (by omega), if_neg (by omega), if_neg (by omega), if_neg (by omega)]
        simp [left] <;> omega
      · refine ⟨⟨hw, hrl, ha, hb, hrd, hba, hsz, fun _ _ h9 => by simp [q] at h9, fun _ => by simp [o, q]; omega, .inl ⟨o, by simp [q], fun _ => r⟩⟩, ?_, rfl, rfl, rfl, rfl⟩
        rw [hl, if_neg (by omega), if_neg (by omega), if_neg (by omega), if_neg (by omega)]
        simp [left, ho, o, q] <;> omega
  · have r := r ho
    rw [if_neg (by omega)] at hi
    have hst : step x mv rec ws = stepR { x with m := mv, steps := x.steps + 1 } rec ws := by unfold step; rw [if_neg (by omega)]
    rw [hst]
    have hl : left x = (if x.phase = 0 then x.w + 4 else if x.phase = 1 then x.w + 3 else if x.phase = 2 then x.w + 2 else if x.phase = 3 then x.w + 1 else x.w - x.i) := by unfold left; rw [if_neg (by simp [ho]), if_neg (by omega)]
    have hnm : ∀ (y : Core), y.op = x.op → y.over = false → y.op = 2 → y.phase ≤ 1 → bitm.Marks y.used (if y.phase = 1 then y.i else 0) := fun y h1 _ h2 => by rw [h1, o] at h2; omega
    rcases (by omega : x.phase = 0 ∨ x.phase = 1 ∨ x.phase = 2 ∨ x.phase = 3 ∨ x.phase = 4) with q | q | q | q | q
    · unfold stepR
      rw [if_pos (show ({ x with m := mv, steps := x.steps + 1 } : Core).phase = 0 from q)]
      dsimp only
      refine ⟨⟨hw, hrl, ha, hb, hrd, hba, hsz, hnm _ rfl, fun _ => by simp [o]; omega, .inr ⟨o, by simp, fun _ => by simp [q] at r ⊢; exact r⟩⟩, ?_, rfl, rfl, rfl, rfl⟩
      rw [hl, if_pos q]
      simp [left, ho, o] <;> omega
    · unfold stepR
      rw [if_neg (show ¬ ({ x with m := mv, steps := x.steps + 1 } : Core).phase = 0 by show ¬ x.phase = 0; omega), if_pos (show ({ x with m := mv, steps := x.steps + 1 } : Core).phase = 1 from q)]
      dsimp only
      refine ⟨⟨hw, hrl, g0 _, hb, hrd, hba, hsz, hnm _ rfl, fun _ => by simp [o]; omega, .inr ⟨o, by simp, fun _ => by simp [q] at r ⊢; exact r⟩⟩, ?_, rfl, rfl, rfl, rfl⟩
      rw [hl, if_neg (by omega), if_pos q]
      simp [left, ho, o] <;> omega
    · unfold stepR
      rw [if_neg (show ¬ ({ x with m := mv, steps := x.steps + 1 } : Core).phase = 0 by show ¬ x.phase = 0; omega), if_neg (show ¬ ({ x with m := mv, steps := x.steps + 1 } : Core).phase = 1 by show ¬ x.phase = 1; omega), if_pos (show ({ x with m := mv, steps := x.steps + 1 } : Core).phase = 2 from q)]
      dsimp only
      refine ⟨⟨hw, hrl, ha, hb, hrd, hba, hsz, hnm _ rfl, fun _ => by simp [o]; omega, .inr ⟨o, by simp, fun _ => by simp [q] at r ⊢; exact r⟩⟩, ?_, rfl, rfl, rfl, rfl⟩
      rw [hl, if_neg (by omega), if_neg (by omega), if_pos q]
      simp [left, ho, o] <;> omega
    · unfold stepR
      rw [if_neg (show ¬ ({ x with m := mv, steps := x.steps + 1 } : Core).phase = 0 by show ¬ x.phase = 0; omega), if_neg (show ¬ ({ x with m := mv, steps := x.steps + 1 } : Core).phase = 1 by show ¬ x.phase = 1; omega), if_neg (show ¬ ({ x with m := mv, steps := x.steps + 1 } : Core).phase = 2 by show ¬ x.phase = 2; omega), if_pos (show ({ x with m := mv, steps := x.steps + 1 } : Core).phase = 3 from q)]
      dsimp only
      refine ⟨⟨hw, hrl, ha, by simp only []; exact mod_bd (by omega), hrd, hba, hsz, hnm _ rfl, fun _ => by simp [o]; omega, .inr ⟨o, by simp, fun _ => by simp [q] at r ⊢; exact r⟩⟩, ?_, rfl, rfl, rfl, rfl⟩
      rw [hl, if_neg (by omega), if_neg (by omega), if_neg (by omega), if_pos q]
      simp [left, ho, o] <;> omega
    · unfold stepR
      rw [if_neg (show ¬ ({ x with m := mv, steps := x.steps + 1 } : Core).phase = 0 by show ¬ x.phase = 0; omega), if_neg (show ¬ ({ x with m := mv, steps := x.steps + 1 } : Core).phase = 1 by show ¬ x.phase = 1; omega), if_neg (show ¬ ({ x with m := mv, steps := x.steps + 1 } : Core).phase = 2 by show ¬ x.phase = 2; omega), if_neg (show ¬ ({ x with m := mv, steps := x.steps + 1 } : Core).phase = 3 by show ¬ x.phase = 3; omega)]
      dsimp only
      rw [if_pos q] at r
      split
      · refine ⟨⟨hw, hrl, ha, hb, hrd, hba, hsz, fun h9 => by simp at h9, fun h9 => by simp at h9, .inr ⟨o, by simp [q], fun h9 => by simp at h9⟩⟩, ?_, rfl, rfl, rfl, rfl⟩
        rw [hl, if_neg (by omega), if_neg (by omega), if_neg (by omega), if_neg (by omega)]
        simp [left] <;> omega
      · refine ⟨⟨hw, hrl, ha, hb, hrd, hba, hsz, hnm _ rfl, fun _ => by simp [o, q]; omega, .inr ⟨o, by simp [q], fun _ => by simp [q]; omega⟩⟩, ?_, rfl, rfl, rfl, rfl⟩
        rw [hl, if_neg (by omega), if_neg (by omega), if_neg (by omega), if_neg (by omega)]
        simp [left, ho, o, q] <;> omega
def K : Kind where
  step := step
  Shape := Shape
  left := left
  ok mv h ho hws := step_ok mv h ho hws
  len := step_len
  pos := left_pos
  zero := left_over
theorem free : K.Free where
  free x a mv rec ws := rfl
  relabel x mv mv' rec ws := by
    show step x mv' rec ws = ({ (step x mv rec ws).1 with m := mv' }, (step x mv rec ws).2.1, (step x mv rec ws).2.2)
    simp only [step, stepW, stepR, scanC, place]
    (repeat' split) <;> rfl
end Go.Proofs.YtkedegbpkkgeaaaGreat.chen
/- Package chen: how many words there are, and which; answers. -/
namespace Go.Proofs.YtkedegbpkkgeaaaGreat.chen
open Go Go.RowKit Go.Proofs.YtkedegbpkkgeaaaGreat.kit Go.Proofs.YtkedegbpkkgeaaaGreat.mem Go.Proofs.YtkedegbpkkgeaaaGreat.rop Go.Proofs.YtkedegbpkkgeaaaGreat.core Go.Proofs.YtkedegbpkkgeaaaGreat.obj
set_option linter.unusedVariables false
set_option linter.unusedSimpArgs false
set_option maxRecDepth 20000

/-- a parameter that is an object, as one value -/
theorem loadP {W V : World} {b : Nat} {cs : List Value} {T : TypeId} (h : Blk W b cs.toArray T) (h8 : cs.length = 8) {L : List Nat} (hc : Chg L W V) (hb : b ∉ L) :
    (Instr.loadAt 46 (.pointer (some ⟨b, 0, none⟩))).run Tryz.prog V = .ok (.agg cs.toArray) V :=
  run_loadAt_mid V b 0 46 cs _ (fun j u hj => by rw [Nat.zero_add]; exact hc.keep (h.cell (by simpa using hj)) hb) Tryz.underlying46 rfl (by rw [h8]; exact objSize)
set_option maxHeartbeats 2000000 in
theorem size_at (k w s c st : Int) (ia : Option Addr) (il ic : Nat) (wr : Int) (ra : Option Addr) (rl rc : Nat) (hw : 0 ≤ w ∧ w ≤ 8) (hrl : rl ≤ 4) (W : World) :
    Calls Tryz.prog 160 #[.agg #[.int .i64 k, .int .i64 w, .int .i64 s, .int .i64 c, .int .u32 st, .slice ia il ic, .int .i64 wr, .slice ra rl rc]] W fun e W' => e = .returned (.int .i64 ((1 + rl + (((rl : Int) + 2) * w).toNat : Nat) : Int)) ∧ Chg [] W W' := by
  have hb := mul_bd (c := (rl : Int) + 2) (w := w) (m := 16) ⟨by omega, by omega⟩ ⟨by omega, hw.2⟩ (by omega)
  obtain ⟨N0, hN0⟩ : ∃ N0 : Nat, 1 + rl + (((rl : Int) + 2) * w).toNat = N0 := ⟨_, rfl⟩
  rw [hN0]
  have k1 : IntKind.i64.wrap (((rl : Int) + 2) * w) = ((rl : Int) + 2) * w := by rw [IntKind.wrap_i64]; omega
  have k2 : IntKind.i64.wrap (((1 + rl : Nat) : Int) + ((rl : Int) + 2) * w) = (N0 : Int) := by rw [IntKind.wrap_i64]; omega
  have k3 : IntKind.i64.wrap ((1 + (rl : Int)) + ((rl : Int) + 2) * w) = (N0 : Int) := by rw [IntKind.wrap_i64]; omega
  have HDT := Lib.hid (fun V => data_any k w s c st ia il ic wr ra rl rc (by omega) V)
  have HSLT := Lib.hid (fun V => slots_any k w s c st ia il ic wr ra rl rc (by omega) V)
  clear hb hw hN0 hrl
  go_enter Tryz.func160, Tryz.ntmps160
  go_upto_region 1 with fail
  refine code_gen (R := fun V => Hid (Blk V W.heap.size #[.int .i64 k, .int .i64 w, .int .i64 s, .int .i64 c, .int .u32 st, .slice ia il ic, .int .i64 wr, .slice ra rl rc] 46) ∧ Hid (Chg [] W V)) ⟨Lib.hid (Blk.new W _ _), Lib.hid ((Chg.refl [] W).alloc _)⟩ ?_
  rintro W1 ⟨HO1, HC1⟩
  have KEEP := Lib.hid (fun (V : World) (h : Chg [] W1 V) => (⟨loadP HO1.out rfl h (by simp), h.keep (HO1.out.cell (o := 1) (v := .int .i64 w) rfl) (by simp), Lib.hid h⟩ : (fun V : World => (Instr.loadAt 46 (.pointer (some ⟨W.heap.size, 0, none⟩))).run Tryz.prog V = .ok (.agg #[.int .i64 k, .int .i64 w, .int .i64 s, .int .i64 c, .int .u32 st, .slice ia il ic, .int .i64 wr, .slice ra rl rc]) V ∧ V.cell? ⟨W.heap.size, 1, none⟩ = some (.int .i64 w) ∧ Hid (Chg [] W1 V)) V))
  have hHeld : (fun V : World => (Instr.loadAt 46 (.pointer (some ⟨W.heap.size, 0, none⟩))).run Tryz.prog V = .ok (.agg #[.int .i64 k, .int .i64 w, .int .i64 s, .int .i64 c, .int .u32 st, .slice ia il ic, .int .i64 wr, .slice ra rl rc]) V ∧ V.cell? ⟨W.heap.size, 1, none⟩ = some (.int .i64 w) ∧ Hid (Chg [] W1 V)) W1.drew := KEEP.out _ (Chg.refl _ _).drew
  refine wp_region_plan (fun V : World => (Instr.loadAt 46 (.pointer (some ⟨W.heap.size, 0, none⟩))).run Tryz.prog V = .ok (.agg #[.int .i64 k, .int .i64 w, .int .i64 s, .int .i64 c, .int .u32 st, .slice ia il ic, .int .i64 wr, .slice ra rl rc]) V ∧ V.cell? ⟨W.heap.size, 1, none⟩ = some (.int .i64 w) ∧ Hid (Chg [] W1 V)) [(0, true, some 3), (2, true, some 5), (4, true, some 7), (5, true, some 8), (1, false, some 4), (3, false, some 6), (6, true, some 9), (7, true, some 10), (8, true, some 2)] (by kernel_rfl) (by kernel_rfl) (by kernel_rfl) (by kernel_rfl) (fun d c a v w h => by cases d <;> exact h) hHeld ?_
  repeat (first | (refine planWp_load (v := .agg #[.int .i64 k, .int .i64 w, .int .i64 s, .int .i64 c, .int .u32 st, .slice ia il ic, .int .i64 wr, .slice ra rl rc]) rfl rfl rfl 46 _ rfl _ rfl (fun u hSw => hSw.1) ?_; (try simp only [Act.put, List.setIfInBounds_toArray, List.set_cons_zero, List.set_cons_succ])) | (refine planWp_read (v := ?_) rfl rfl ?_ ?_ ?_; rotate_left; (focus rfl); (focus (intro u hSw; (try dsimp only at hSw); go_simp; (try with_reducible rfl); done)); (try simp only [Act.put, List.setIfInBounds_toArray, List.set_cons_zero, List.set_cons_succ])))
  refine planWp_do rfl rfl ?_ (fun K hK => ?_)
  · rfl
  go_simp
  go_wp2_with (go_at_call 173; refine (HDT.out _).mono ?_; rintro e w2 ⟨rfl, hx⟩; have HC2 := Lib.hid ((Chg.refl [] W1).drew.trans hx); clear hx)
  refine hK.out _ _ (KEEP.out _ HC2.out) (fun hHeld2 => ?_)
  clear hK K hHeld
  have hHeld := hHeld2
  clear hHeld2
  try simp only [Act.put, List.setIfInBounds_toArray, List.set_cons_zero, List.set_cons_succ]
  repeat (first | (refine planWp_load (v := .agg #[.int .i64 k, .int .i64 w, .int .i64 s, .int .i64 c, .int .u32 st, .slice ia il ic, .int .i64 wr, .slice ra rl rc]) rfl rfl rfl 46 _ rfl _ rfl (fun u hSw => hSw.1) ?_; (try simp only [Act.put, List.setIfInBounds_toArray, List.set_cons_zero, List.set_cons_succ])) | (refine planWp_read (v := ?_) rfl rfl ?_ ?_ ?_; rotate_left; (focus rfl); (focus (intro u hSw; (try dsimp only at hSw); go_simp; (try with_reducible rfl); done)); (try simp only [Act.put, List.setIfInBounds_toArray, List.set_cons_zero, List.set_cons_succ])))
  refine planWp_do rfl rfl ?_ (fun K hK => ?_)
  · rfl
  go_simp
  go_wp2_with (go_at_call 174; refine (HSLT.out _).mono ?_; rintro e w3 ⟨rfl, hx⟩; have HCE := Lib.hid (HC2.out.trans hx); clear hx)
  refine hK.out _ _ (KEEP.out _ HCE.out) (fun hHeld2 => ?_)
  clear hK K hHeld
  have hHeld := hHeld2
  clear hHeld2
  try simp only [Act.put, List.setIfInBounds_toArray, List.set_cons_zero, List.set_cons_succ]
  repeat (first | (refine planWp_load (v := .agg #[.int .i64 k, .int .i64 w, .int .i64 s, .int .i64 c, .int .u32 st, .slice ia il ic, .int .i64 wr, .slice ra rl rc]) rfl rfl rfl 46 _ rfl _ rfl (fun u hSw => hSw.1) ?_; (try simp only [Act.put, List.setIfInBounds_toArray, List.set_cons_zero, List.set_cons_succ])) | (refine planWp_read (v := ?_) rfl rfl ?_ ?_ ?_; rotate_left; (focus rfl); (focus (intro u hSw; (try dsimp only at hSw); go_simp; (try with_reducible rfl); done)); (try simp only [Act.put, List.setIfInBounds_toArray, List.set_cons_zero, List.set_cons_succ])))
  refine planWp_nil ?_
  clear hHeld KEEP
  go_wp2_with fail
  go_ret
  exact ⟨rfl, HC1.out.trans HCE.out⟩
theorem Size_yes (k w s c st : Int) (ia : Option Addr) (il ic : Nat) (wr : Int) (ra : Option Addr) (rl rc : Nat) (wN : Nat) (hw : w = (wN : Int)) (h : ObjW k w s c st il rl) (hr : (decide (k = 2) && rightB k w s c st il rl) = true) (W : World) :
    Calls Tryz.prog 142 #[.agg #[.int .i64 k, .int .i64 w, .int .i64 s, .int .i64 c, .int .u32 st, .slice ia il ic, .int .i64 wr, .slice ra rl rc]] W fun e W' => e = .returned (.int .i64 ((1 + rl + (((rl : Int) + 2) * w).toNat : Nat) : Int)) ∧ Chg [] W W' := by
  have hk : k = 2 := by simp only [Bool.and_eq_true, decide_eq_true_eq] at hr; exact hr.1
  have hb := rightB_bd (by simp only [Bool.and_eq_true] at hr; exact hr.2)
  have hr2 : rightB k w s c st il rl = true := by simp only [Bool.and_eq_true] at hr; exact hr.2
  have ha := fun V => size_at k w s c st ia il ic wr ra rl rc (by omega) (by omega) V
  obtain ⟨N0, hN0⟩ : ∃ N0 : Nat, 1 + rl + (((rl : Int) + 2) * w).toNat = N0 := ⟨_, rfl⟩
  simp only [hN0] at ha
  rw [hN0]
  have HA := Lib.hid ha
  clear ha hN0
  have HO := Lib.hid h
  have HR := Lib.hid hr
  clear h hr hb hw hk hr2
  go_enter Tryz.func142, Tryz.ntmps142
  go_wp2_with (first | (go_at_call 56; refine (chenRight_any k w s c st ia il ic wr ra rl rc HO.out _).mono ?_; rintro e w1 ⟨rfl, hc⟩; rw [HR.out]; have HC := Lib.hid (((Chg.refl [] W).alloc _).trans hc); have HB := Lib.hid ((Blk.new W #[.int .i64 k, .int .i64 w, .int .i64 s, .int .i64 c, .int .u32 st, .slice ia il ic, .int .i64 wr, .slice ra rl rc] 46).keep hc (by simp)); clear hc; have e0 : w1.cell? ⟨W.heap.size, 0, none⟩ = some (.int .i64 k) := HB.out.cell rfl; have e1 : w1.cell? ⟨W.heap.size, 1, none⟩ = some (.int .i64 w) := HB.out.cell rfl; have e2 : w1.cell? ⟨W.heap.size, 2, none⟩ = some (.int .i64 s) := HB.out.cell rfl; have e3 : w1.cell? ⟨W.heap.size, 3, none⟩ = some (.int .i64 c) := HB.out.cell rfl; have e4 : w1.cell? ⟨W.heap.size, 4, none⟩ = some (.int .u32 st) := HB.out.cell rfl; have e5 : w1.cell? ⟨W.heap.size, 5, none⟩ = some (.slice ia il ic) := HB.out.cell rfl; have e6 : w1.cell? ⟨W.heap.size, 6, none⟩ = some (.int .i64 wr) := HB.out.cell rfl; have e7 : w1.cell? ⟨W.heap.size, 7, none⟩ = some (.slice ra rl rc) := HB.out.cell rfl) | (go_at_call 160; refine (HA.out _).mono ?_; rintro e w2 ⟨rfl, hc⟩; have HC2 := Lib.hid (HC.out.trans hc); clear hc))
  go_ret
  exact ⟨rfl, HC2.out⟩
theorem Size_no (k w s c st : Int) (ia : Option Addr) (il ic : Nat) (wr : Int) (ra : Option Addr) (rl rc : Nat) (h : ObjW k w s c st il rl) (hr : (decide (k = 2) && rightB k w s c st il rl) = false) (W : World) :
    Calls Tryz.prog 142 #[.agg #[.int .i64 k, .int .i64 w, .int .i64 s, .int .i64 c, .int .u32 st, .slice ia il ic, .int .i64 wr, .slice ra rl rc]] W fun e W' => e = .returned (.int .i64 0) ∧ Chg [] W W' := by
  have HO := Lib.hid h
  have HR := Lib.hid hr
  clear h hr
  go_enter Tryz.func142, Tryz.ntmps142
  go_wp2_with (go_at_call 56; refine (chenRight_any k w s c st ia il ic wr ra rl rc HO.out _).mono ?_; rintro e w1 ⟨rfl, hc⟩; rw [HR.out]; have HC := Lib.hid (((Chg.refl [] W).alloc _).trans hc); clear hc)
  go_ret
  exact ⟨rfl, HC.out⟩
/-- the words at the beginning -/
def layL (w : Int) (rl : Nat) (ini : List Int) : List Int := fillL (List.replicate (1 + rl + (((rl : Int) + 2) * w).toNat) 0) (1 + rl) ini
end Go.Proofs.YtkedegbpkkgeaaaGreat.chen
/- Package cab: how many words there are, and which; answers. -/
namespace Go.Proofs.YtkedegbpkkgeaaaGreat.cab
open Go Go.RowKit Go.Proofs.YtkedegbpkkgeaaaGreat.kit Go.Proofs.YtkedegbpkkgeaaaGreat.mem Go.Proofs.YtkedegbpkkgeaaaGreat.rop Go.Proofs.YtkedegbpkkgeaaaGreat.core Go.Proofs.YtkedegbpkkgeaaaGreat.obj
set_option linter.unusedVariables false
set_option linter.unusedSimpArgs false
set_option maxRecDepth 20000

/-- a parameter that is an object, as one value -/
theorem loadP {W V : World} {b : Nat} {cs : List Value} {T : TypeId} (h : Blk W b cs.toArray T) (h8 : cs.length = 8) {L : List Nat} (hc : Chg L W V) (hb : b ∉ L) :
    (Instr.loadAt 46 (.pointer (some ⟨b, 0, none⟩))).run Tryz.prog V = .ok (.agg cs.toArray) V :=
  run_loadAt_mid V b 0 46 cs _ (fun j u hj => by rw [Nat.zero_add]; exact hc.keep (h.cell (by simpa using hj)) hb) Tryz.underlying46 rfl (by rw [h8]; exact objSize)
set_option maxHeartbeats 2000000 in
theorem size_at (k w s c st : Int) (ia : Option Addr) (il ic : Nat) (wr : Int) (ra : Option Addr) (rl rc : Nat) (hs : 0 ≤ s ∧ s ≤ 16) (hw : 0 ≤ w ∧ w ≤ 8) (hrl : rl ≤ 100) (W : World) :
    Calls Tryz.prog 163 #[.agg #[.int .i64 k, .int .i64 w, .int .i64 s, .int .i64 c, .int .u32 st, .slice ia il ic, .int .i64 wr, .slice ra rl rc]] W fun e W' => e = .returned (.int .i64 ((1 + rl + (s * w).toNat : Nat) : Int)) ∧ Chg [] W W' := by
  have hb := mul_bd (c := s) (w := w) (m := 16) ⟨by omega, hs.2⟩ ⟨by omega, hw.2⟩ (by omega)
  obtain ⟨N0, hN0⟩ : ∃ N0 : Nat, 1 + rl + (s * w).toNat = N0 := ⟨_, rfl⟩
  rw [hN0]
  have k1 : IntKind.i64.wrap (s * w) = s * w := by rw [IntKind.wrap_i64]; omega
  have k2 : IntKind.i64.wrap (((1 + rl : Nat) : Int) + s * w) = (N0 : Int) := by rw [IntKind.wrap_i64]; omega
  have k3 : IntKind.i64.wrap ((1 + (rl : Int)) + s * w) = (N0 : Int) := by rw [IntKind.wrap_i64]; omega
  have HDT := Lib.hid (fun V => data_any k w s c st ia il ic wr ra rl rc hrl V)
  clear hb hs hw hN0 hrl
  go_enter Tryz.func163, Tryz.ntmps163
  go_upto_region 1 with fail
  refine code_gen (R := fun V => Hid (Blk V W.heap.size #[.int .i64 k, .int .i64 w, .int .i64 s, .int .i64 c, .int .u32 st, .slice ia il ic, .int .i64 wr, .slice ra rl rc] 46) ∧ Hid (Chg [] W V)) ⟨Lib.hid (Blk.new W _ _), Lib.hid ((Chg.refl [] W).alloc _)⟩ ?_
  rintro W1 ⟨HO1, HC1⟩
  have KEEP := Lib.hid (fun (V : World) (h : Chg [] W1 V) => (⟨loadP HO1.out rfl h (by simp), h.keep (HO1.out.cell (o := 1) (v := .int .i64 w) rfl) (by simp), h.keep (HO1.out.cell (o := 2) (v := .int .i64 s) rfl) (by simp), Lib.hid h⟩ : (fun V : World => (Instr.loadAt 46 (.pointer (some ⟨W.heap.size, 0, none⟩))).run Tryz.prog V = .ok (.agg #[.int .i64 k, .int .i64 w, .int .i64 s, .int .i64 c, .int .u32 st, .slice ia il ic, .int .i64 wr, .slice ra rl rc]) V ∧ V.cell? ⟨W.heap.size, 1, none⟩ = some (.int .i64 w) ∧ V.cell? ⟨W.heap.size, 2, none⟩ = some (.int .i64 s) ∧ Hid (Chg [] W1 V)) V))
  have hHeld : (fun V : World => (Instr.loadAt 46 (.pointer (some ⟨W.heap.size, 0, none⟩))).run Tryz.prog V = .ok (.agg #[.int .i64 k, .int .i64 w, .int .i64 s, .int .i64 c, .int .u32 st, .slice ia il ic, .int .i64 wr, .slice ra rl rc]) V ∧ V.cell? ⟨W.heap.size, 1, none⟩ = some (.int .i64 w) ∧ V.cell? ⟨W.heap.size, 2, none⟩ = some (.int .i64 s) ∧ Hid (Chg [] W1 V)) W1.drew := KEEP.out _ (Chg.refl _ _).drew
  refine wp_region_plan (fun V : World => (Instr.loadAt 46 (.pointer (some ⟨W.heap.size, 0, none⟩))).run Tryz.prog V = .ok (.agg #[.int .i64 k, .int .i64 w, .int .i64 s, .int .i64 c, .int .u32 st, .slice ia il ic, .int .i64 wr, .slice ra rl rc]) V ∧ V.cell? ⟨W.heap.size, 1, none⟩ = some (.int .i64 w) ∧ V.cell? ⟨W.heap.size, 2, none⟩ = some (.int .i64 s) ∧ Hid (Chg [] W1 V)) [(0, true, some 3), (2, true, some 5), (3, true, some 6), (4, true, some 7), (5, true, some 8), (6, true, some 9), (1, false, some 4), (7, true, some 10), (8, true, some 2)] (by kernel_rfl) (by kernel_rfl) (by kernel_rfl) (by kernel_rfl) (fun d c a v w h => by cases d <;> exact h) hHeld ?_
  repeat (first | (refine planWp_load (v := .agg #[.int .i64 k, .int .i64 w, .int .i64 s, .int .i64 c, .int .u32 st, .slice ia il ic, .int .i64 wr, .slice ra rl rc]) rfl rfl rfl 46 _ rfl _ rfl (fun u hSw => hSw.1) ?_; (try simp only [Act.put, List.setIfInBounds_toArray, List.set_cons_zero, List.set_cons_succ])) | (refine planWp_read (v := ?_) rfl rfl ?_ ?_ ?_; rotate_left; (focus rfl); (focus (intro u hSw; (try dsimp only at hSw); go_simp; (try with_reducible rfl); done)); (try simp only [Act.put, List.setIfInBounds_toArray, List.set_cons_zero, List.set_cons_succ])))
  refine planWp_do rfl rfl ?_ (fun K hK => ?_)
  · rfl
  go_simp
  go_wp2_with (go_at_call 175; refine (HDT.out _).mono ?_; rintro e w2 ⟨rfl, hx⟩; have HCE := Lib.hid ((Chg.refl [] W1).drew.trans hx); clear hx)
  refine hK.out _ _ (KEEP.out _ HCE.out) (fun hHeld2 => ?_)
  clear hK K hHeld
  have hHeld := hHeld2
  clear hHeld2
  try simp only [Act.put, List.setIfInBounds_toArray, List.set_cons_zero, List.set_cons_succ]
  repeat (first | (refine planWp_load (v := .agg #[.int .i64 k, .int .i64 w, .int .i64 s, .int .i64 c, .int .u32 st, .slice ia il ic, .int .i64 wr, .slice ra rl rc]) rfl rfl rfl 46 _ rfl _ rfl (fun u hSw => hSw.1) ?_; (try simp only [Act.put, List.setIfInBounds_toArray, List.set_cons_zero, List.set_cons_succ])) | (refine planWp_read (v := ?_) rfl rfl ?_ ?_ ?_; rotate_left; (focus rfl); (focus (intro u hSw; (try dsimp only at hSw); go_simp; (try with_reducible rfl); done)); (try simp only [Act.put, List.setIfInBounds_toArray, List.set_cons_zero, List.set_cons_succ])))
  refine planWp_nil ?_
  clear hHeld KEEP
  go_wp2_with fail
  go_ret
  exact ⟨rfl, HC1.out.trans HCE.out⟩
theorem Size_yes (k w s c st : Int) (ia : Option Addr) (il ic : Nat) (wr : Int) (ra : Option Addr) (rl rc : Nat) (wN : Nat) (hw : w = (wN : Int)) (h : ObjW k w s c st il rl) (hr : (decide (k = 5) && rightB k w s c st il rl) = true) (W : World) :
    Calls Tryz.prog 145 #[.agg #[.int .i64 k, .int .i64 w, .int .i64 s, .int .i64 c, .int .u32 st, .slice ia il ic, .int .i64 wr, .slice ra rl rc]] W fun e W' => e = .returned (.int .i64 ((1 + rl + (s * w).toNat : Nat) : Int)) ∧ Chg [] W W' := by
  have hk : k = 5 := by simp only [Bool.and_eq_true, decide_eq_true_eq] at hr; exact hr.1
  have hb := rightB_bd (by simp only [Bool.and_eq_true] at hr; exact hr.2)
  have hr2 : rightB k w s c st il rl = true := by simp only [Bool.and_eq_true] at hr; exact hr.2
  have ha := fun V => size_at k w s c st ia il ic wr ra rl rc (by subst hk; simp only [rightB, decide_eq_true_eq] at hr2; omega) (by omega) h.rlen V
  obtain ⟨N0, hN0⟩ : ∃ N0 : Nat, 1 + rl + (s * w).toNat = N0 := ⟨_, rfl⟩
  simp only [hN0] at ha
  rw [hN0]
  have HA := Lib.hid ha
  clear ha hN0
  have HO := Lib.hid h
  have HR := Lib.hid hr
  clear h hr hb hw hk hr2
  go_enter Tryz.func145, Tryz.ntmps145
  go_wp2_with (first | (go_at_call 59; refine (cabRight_any k w s c st ia il ic wr ra rl rc HO.out _).mono ?_; rintro e w1 ⟨rfl, hc⟩; rw [HR.out]; have HC := Lib.hid (((Chg.refl [] W).alloc _).trans hc); have HB := Lib.hid ((Blk.new W #[.int .i64 k, .int .i64 w, .int .i64 s, .int .i64 c, .int .u32 st, .slice ia il ic, .int .i64 wr, .slice ra rl rc] 46).keep hc (by simp)); clear hc; have e0 : w1.cell? ⟨W.heap.size, 0, none⟩ = some (.int .i64 k) := HB.out.cell rfl; have e1 : w1.cell? ⟨W.heap.size, 1, none⟩ = some (.int .i64 w) := HB.out.cell rfl; have e2 : w1.cell? ⟨W.heap.size, 2, none⟩ = some (.int .i64 s) := HB.out.cell rfl; have e3 : w1.cell? ⟨W.heap.size, 3, none⟩ = some (.int .i64 c) := HB.out.cell rfl; have e4 : w1.cell? ⟨W.heap.size, 4, none⟩ = some (.int .u32 st) := HB.out.cell rfl; have e5 : w1.cell? ⟨W.heap.size, 5, none⟩ = some (.slice ia il ic) := HB.out.cell rfl; have e6 : w1.cell? ⟨W.heap.size, 6, none⟩ = some (.int .i64 wr) := HB.out.cell rfl; have e7 : w1.cell? ⟨W.heap.size, 7, none⟩ = some (.slice ra rl rc) := HB.out.cell rfl) | (go_at_call 163; refine (HA.out _).mono ?_; rintro e w2 ⟨rfl, hc⟩; have HC2 := Lib.hid (HC.out.trans hc); clear hc))
  go_ret
  exact ⟨rfl, HC2.out⟩
theorem Size_no (k w s c st : Int) (ia : Option Addr) (il ic : Nat) (wr : Int) (ra : Option Addr) (rl rc : Nat) (h : ObjW k w s c st il rl) (hr : (decide (k = 5) && rightB k w s c st il rl) = false) (W : World) :
    Calls Tryz.prog 145 #[.agg #[.int .i64 k, .int .i64 w, .int .i64 s, .int .i64 c, .int .u32 st, .slice ia il ic, .int .i64 wr, .slice ra rl rc]] W fun e W' => e = .returned (.int .i64 0) ∧ Chg [] W W' := by
  have HO := Lib.hid h
  have HR := Lib.hid hr
  clear h hr
  go_enter Tryz.func145, Tryz.ntmps145
  go_wp2_with (go_at_call 59; refine (cabRight_any k w s c st ia il ic wr ra rl rc HO.out _).mono ?_; rintro e w1 ⟨rfl, hc⟩; rw [HR.out]; have HC := Lib.hid (((Chg.refl [] W).alloc _).trans hc); clear hc)
  go_ret
  exact ⟨rfl, HC.out⟩
/-- the words at the beginning -/
def layL (s w : Int) (rl : Nat) (ini : List Int) : List Int := fillL (List.replicate (1 + rl + (s * w).toNat) 0) (1 + rl) ini
end Go.Proofs.YtkedegbpkkgeaaaGreat.cab
