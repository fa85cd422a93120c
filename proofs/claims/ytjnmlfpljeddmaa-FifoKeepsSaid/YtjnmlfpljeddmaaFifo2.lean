/- Package fifo: a step, whatever it is. -/
import Derived.Test.YtjnmlfpljeddmaaFifo1
namespace Go.Proofs.Ytjnmlfpljeddmaa.fifo
open Go Go.RowKit Go.Proofs.Ytjnmlfpljeddmaa.kit Go.Proofs.Ytjnmlfpljeddmaa.mem Go.Proofs.Ytjnmlfpljeddmaa.rop Go.Proofs.Ytjnmlfpljeddmaa.core
set_option linter.unusedVariables false
set_option linter.unusedSimpArgs false
set_option maxRecDepth 20000

/-- a step of a put, in plain lists -/
def stepW (x : Core) (rec ws : List Int) : Core × List Int × List Int :=
  if x.phase = 0 then ({ x with a := (ws.getD (x.base.toNat + 1) 0 % (2 * x.s)), phase := 1, i := 0 }, rec, ws)
  else if x.phase = 1 then (if x.s ≤ word.gapU (ws.getD (x.base.toNat + 0) 0 % (2 * x.s)) x.a (2 * x.s) then { x with over := true, code := 2 } else { x with phase := 2, i := 0 }, if x.s ≤ word.gapU (ws.getD (x.base.toNat + 0) 0 % (2 * x.s)) x.a (2 * x.s) then endRec x.op 2 rec else rec, ws)
  else if x.phase = 2 then (if x.w.toNat ≤ x.i.toNat + 1 then { x with phase := 3, i := 0 } else { x with i := (x.i.toNat : Int) + 1 }, rec, ws.set (x.base.toNat + (fromN x + x.i.toNat)) (rec.getD x.i.toNat 0))
  else ({ x with over := true, code := 0 }, endRec x.op 0 rec, ws.set (x.base.toNat + 1) ((x.a + 1) % (2 * x.s)))
/-- a step of a take, in plain lists -/
def stepR (x : Core) (rec ws : List Int) : Core × List Int × List Int :=
  if x.phase = 0 then ({ x with a := (ws.getD (x.base.toNat + 0) 0 % (2 * x.s)), phase := 1, i := 0 }, rec, ws)
  else if x.phase = 1 then (if (ws.getD (x.base.toNat + 1) 0 % (2 * x.s)) = x.a then { x with over := true, code := 3 } else { x with phase := 2, i := 0 }, if (ws.getD (x.base.toNat + 1) 0 % (2 * x.s)) = x.a then endRec x.op 3 rec else rec, ws)
  else if x.phase = 2 then (if x.w.toNat ≤ x.i.toNat + 1 then { x with phase := 3, i := 0 } else { x with i := (x.i.toNat : Int) + 1 }, rec ++ [ws.getD (x.base.toNat + (fromN x + x.i.toNat)) 0], ws)
  else ({ x with over := true, code := 0 }, endRec x.op 0 rec, ws.set (x.base.toNat + 0) ((x.a + 1) % (2 * x.s)))
/-- a step, in plain lists -/
def step (x : Core) (mv : Value) (rec ws : List Int) : Core × List Int × List Int :=
  if x.op = 3 then stepW { x with m := mv, steps := x.steps + 1 } rec ws else stepR { x with m := mv, steps := x.steps + 1 } rec ws

/-- what an operation keeps -/
structure Shape (x : Core) (rec : List Int) : Prop where
  w : 1 ≤ x.w ∧ x.w ≤ 8
  s : 1 ≤ x.s ∧ x.s ≤ 16
  a : 0 ≤ x.a ∧ x.a ≤ 4294967295
  base : 0 ≤ x.base
  size : x.size = 2 + x.s * x.w
  i : x.over = false → 0 ≤ x.i ∧ x.i < x.w
  op : (x.op = 3 ∧ (0 ≤ x.phase ∧ x.phase ≤ 3) ∧ (x.over = false → (rec.length : Int) = x.w)) ∨ (x.op = 4 ∧ (0 ≤ x.phase ∧ x.phase ≤ 3) ∧ (x.over = false → (rec.length : Int) = if x.phase = 2 then x.i else if x.phase = 3 then x.w else 0))

theorem from_fit {x : Core} (hs : 1 ≤ x.s ∧ x.s ≤ 16) (hw : 1 ≤ x.w ∧ x.w ≤ 8) (ha : 0 ≤ x.a) : 2 ≤ fromN x ∧ (fromN x : Int) + x.w ≤ 2 + x.s * x.w := by
  have h1 := Int.emod_lt_of_pos x.a (show 0 < x.s by omega)
  have h2 := Int.emod_nonneg x.a (show x.s ≠ 0 by omega)
  have h3 := mul_bd (c := x.a % x.s) (w := x.w) (m := x.s - 1) ⟨h2, by omega⟩ (by omega) (by omega)
  have h4 : (x.s - 1) * x.w = x.s * x.w - x.w := by rw [Int.sub_mul, Int.one_mul]
  unfold fromN
  omega

set_option maxHeartbeats 2000000 in
theorem write_any {T : TypeId} {bx mb : Nat} {sv r0 : Value} {W0 W : World} {x : Core} {rec ws : List Int} {n : Int} (hI : Shape x rec) (hov : x.over = false) (hop : x.op = 3) (hm : x.m = .pointer (some ⟨mb, 0, none⟩)) (hfit : x.base + x.size ≤ ws.length) (hn : 0 ≤ n ∧ n ≤ 1000000) (h : St T bx mb sv W0 r0 W x rec ws n) :
    Calls Try.prog 59 #[.pointer (some ⟨bx, 0, none⟩)] W fun e W' => e = .returned (.tuple #[]) ∧ St T bx mb sv W0 r0 W' (stepW x rec ws).1 (stepW x rec ws).2.1 (stepW x rec ws).2.2 (n + 1) := by
  have hw := hI.w; have ha := hI.a; have hba := hI.base; have hsz := hI.size; have hi := hI.i hov; have hs := hI.s
  have hff := from_fit hs hw ha.1
  have hph : (0 ≤ x.phase ∧ x.phase ≤ 3) ∧ (rec.length : Int) = x.w := by rcases hI.op with ⟨_, h1, h2⟩ | ⟨h1, _⟩; exact ⟨h1, h2 hov⟩; omega
  have eb : x.base = (x.base.toNat : Int) := by omega
  have ei : x.i = (x.i.toNat : Int) := by omega
  have ew : x.w = (x.w.toNat : Int) := by omega
  have hnn := Int.mul_nonneg (show 0 ≤ x.s by omega) (show 0 ≤ x.w by omega)
  have hj0 : x.base.toNat + 0 < ws.length := by omega
  have hj1 : x.base.toNat + 1 < ws.length := by omega
  have h11 : x.base.toNat + (fromN x + x.i.toNat) < ws.length := by omega
  rcases (by omega : x.phase = 0 ∨ x.phase = 1 ∨ x.phase = 2 ∨ x.phase = 3) with p | p | p | p
  · have hst : stepW x rec ws = ({ x with a := (ws.getD (x.base.toNat + 1) 0 % (2 * x.s)), phase := 1, i := 0 }, rec, ws) := by simp [stepW, p]
    rw [hst]
    exact put_0 x.base.toNat hm eb hn hs hj1 p h
  · have hst : stepW x rec ws = (if x.s ≤ word.gapU (ws.getD (x.base.toNat + 0) 0 % (2 * x.s)) x.a (2 * x.s) then { x with over := true, code := 2 } else { x with phase := 2, i := 0 }, if x.s ≤ word.gapU (ws.getD (x.base.toNat + 0) 0 % (2 * x.s)) x.a (2 * x.s) then endRec x.op 2 rec else rec, ws) := by simp [stepW, p]
    rw [hst]
    exact put_1 x.base.toNat hm eb hn ha hs hj0 p h
  · have hst : stepW x rec ws = (if x.w.toNat ≤ x.i.toNat + 1 then { x with phase := 3, i := 0 } else { x with i := (x.i.toNat : Int) + 1 }, rec, ws.set (x.base.toNat + (fromN x + x.i.toNat)) (rec.getD x.i.toNat 0)) := by simp [stepW, p]
    rw [hst]
    have h9 := hph.2
    have h10 : x.i.toNat < rec.length := by omega
    exact put_2 x.base.toNat hm eb hn x.w.toNat x.i.toNat (fromN x) hs hw ha rfl ew ei (by omega) (.inr hop) h10 h11 p h
  · have hst : stepW x rec ws = ({ x with over := true, code := 0 }, endRec x.op 0 rec, ws.set (x.base.toNat + 1) ((x.a + 1) % (2 * x.s))) := by simp [stepW, p]
    rw [hst]
    exact put_3 x.base.toNat hm eb hn hs ha hj1 p h

set_option maxHeartbeats 2000000 in
theorem read_any {T : TypeId} {bx mb : Nat} {sv r0 : Value} {W0 W : World} {x : Core} {rec ws : List Int} {n : Int} (hI : Shape x rec) (hov : x.over = false) (hop : x.op = 4) (hm : x.m = .pointer (some ⟨mb, 0, none⟩)) (hfit : x.base + x.size ≤ ws.length) (hn : 0 ≤ n ∧ n ≤ 1000000) (h : St T bx mb sv W0 r0 W x rec ws n) :
    Calls Try.prog 60 #[.pointer (some ⟨bx, 0, none⟩)] W fun e W' => e = .returned (.tuple #[]) ∧ St T bx mb sv W0 r0 W' (stepR x rec ws).1 (stepR x rec ws).2.1 (stepR x rec ws).2.2 (n + 1) := by
  have hw := hI.w; have ha := hI.a; have hba := hI.base; have hsz := hI.size; have hi := hI.i hov; have hs := hI.s
  have hff := from_fit hs hw ha.1
  have hph : (0 ≤ x.phase ∧ x.phase ≤ 3) ∧ (rec.length : Int) = if x.phase = 2 then x.i else if x.phase = 3 then x.w else 0 := by rcases hI.op with ⟨h1, _⟩ | ⟨_, h1, h2⟩; omega; exact ⟨h1, h2 hov⟩
  have hrl : rec.length < 1000 := by have := hph.2; (repeat' split at this) <;> omega
  have eb : x.base = (x.base.toNat : Int) := by omega
  have ei : x.i = (x.i.toNat : Int) := by omega
  have ew : x.w = (x.w.toNat : Int) := by omega
  have hnn := Int.mul_nonneg (show 0 ≤ x.s by omega) (show 0 ≤ x.w by omega)
  have hj0 : x.base.toNat + 0 < ws.length := by omega
  have hj1 : x.base.toNat + 1 < ws.length := by omega
  have h11 : x.base.toNat + (fromN x + x.i.toNat) < ws.length := by omega
  rcases (by omega : x.phase = 0 ∨ x.phase = 1 ∨ x.phase = 2 ∨ x.phase = 3) with p | p | p | p
  · have hst : stepR x rec ws = ({ x with a := (ws.getD (x.base.toNat + 0) 0 % (2 * x.s)), phase := 1, i := 0 }, rec, ws) := by simp [stepR, p]
    rw [hst]
    exact take_0 x.base.toNat hm eb hn hs hj0 p h
  · have hst : stepR x rec ws = (if (ws.getD (x.base.toNat + 1) 0 % (2 * x.s)) = x.a then { x with over := true, code := 3 } else { x with phase := 2, i := 0 }, if (ws.getD (x.base.toNat + 1) 0 % (2 * x.s)) = x.a then endRec x.op 3 rec else rec, ws) := by simp [stepR, p]
    rw [hst]
    exact take_1 x.base.toNat hm eb hn ha hs hj1 p h
  · have hst : stepR x rec ws = (if x.w.toNat ≤ x.i.toNat + 1 then { x with phase := 3, i := 0 } else { x with i := (x.i.toNat : Int) + 1 }, rec ++ [ws.getD (x.base.toNat + (fromN x + x.i.toNat)) 0], ws) := by simp [stepR, p]
    rw [hst]
    exact take_2 x.base.toNat hm eb hn x.w.toNat x.i.toNat (fromN x) hs hw ha rfl ew ei (by omega) (by omega) hrl h11 p h
  · have hst : stepR x rec ws = ({ x with over := true, code := 0 }, endRec x.op 0 rec, ws.set (x.base.toNat + 0) ((x.a + 1) % (2 * x.s))) := by simp [stepR, p]
    rw [hst]
    exact take_3 x.base.toNat hm eb hn hs ha hj0 p h
theorem e8of {T : TypeId} {bx mb : Nat} {sv r0 : Value} {W0 W : World} {x : Core} {rec ws : List Int} {n o : Int} {mv : Value} {k : Int} (ho : x.op = o) (h : St T bx mb sv W0 r0 W { x with m := mv, steps := k } rec ws n) : W.cell? ⟨bx, 8, none⟩ = some (.int .i64 o) := by
  rw [← ho]; exact h.cell 8 _ (fun _ => rfl)
theorem Shape.up {x : Core} {rec : List Int} (h : Shape x rec) (mv : Value) (k : Int) : Shape { x with m := mv, steps := k } rec := ⟨h.w, h.s, h.a, h.base, h.size, h.i, h.op⟩
theorem opens_spec {x : Core} {l : Nat} (h : opens x l = true) : x.over = false ∧ 0 ≤ x.base ∧ 0 ≤ x.size ∧ x.base + x.size ≤ l := by
  simp only [opens, insB, Bool.and_eq_true, Bool.not_eq_true', decide_eq_true_eq] at h
  exact ⟨h.1, h.2.1, h.2.2.1, by omega⟩
set_option maxHeartbeats 2000000 in
theorem Step_yes {T : TypeId} {bx mb : Nat} {sv r0 : Value} {W0 W : World} {x : Core} {rec ws : List Int} {n : Int} (hI : Shape x rec) (hs : 0 ≤ x.steps ∧ x.steps ≤ 1000000) (ho : opens x ws.length = true) (hn : 0 ≤ n ∧ n ≤ 1000000) (h : St T bx mb sv W0 r0 W x rec ws n) :
    Calls Try.prog 26 #[.pointer (some ⟨bx, 0, none⟩), .pointer (some ⟨mb, 0, none⟩)] W fun e W' => e = .returned (.bool true) ∧
      St T bx mb sv W0 r0 W' (step x (.pointer (some ⟨mb, 0, none⟩)) rec ws).1 (step x (.pointer (some ⟨mb, 0, none⟩)) rec ws).2.1 (step x (.pointer (some ⟨mb, 0, none⟩)) rec ws).2.2 (n + 1) := by
  have H := Lib.hid h
  obtain ⟨hov, _, _, hfit⟩ := opens_spec ho
  have HS := Lib.hid hs
  have HO := Lib.hid ho
  have hop : (x.op = 3 ∨ x.op = 4) := by rcases hI.op with h1 | h1 <;> simp [h1.1]
  rcases hop with hop | hop
  · have hst : step x (.pointer (some ⟨mb, 0, none⟩)) rec ws = stepW { x with m := .pointer (some ⟨mb, 0, none⟩), steps := x.steps + 1 } rec ws := by simp [step, hop]
    rw [hst]
    have K := Lib.hid (fun W1 (hx : St T bx mb sv W0 r0 W1 { x with m := .pointer (some ⟨mb, 0, none⟩), steps := x.steps + 1 } rec ws n) => write_any (hI.up (.pointer (some ⟨mb, 0, none⟩)) (x.steps + 1)) hov hop rfl hfit hn hx)
    have HOP := Lib.hid hop
    clear h hst hI hov hfit hop hs ho hn
    go_enter Try.func26, Try.ntmps26
    go_wp2_with (first | (go_at_call 58; refine (Open_yes HS.out HO.out H.out).mono ?_; rintro e w1 ⟨rfl, hx⟩; have e8 : w1.cell? ⟨bx, 8, none⟩ = some (.int .i64 3) := e8of HOP.out hx; have H1 := Lib.hid hx; clear hx) | (go_at_call 59; refine (K.out _ H1.out).mono ?_; rintro e w2 ⟨rfl, hx⟩; have H2 := Lib.hid hx; clear hx))
    go_ret
    exact ⟨rfl, H2.out⟩
  · have hst : step x (.pointer (some ⟨mb, 0, none⟩)) rec ws = stepR { x with m := .pointer (some ⟨mb, 0, none⟩), steps := x.steps + 1 } rec ws := by simp [step, hop]
    rw [hst]
    have K := Lib.hid (fun W1 (hx : St T bx mb sv W0 r0 W1 { x with m := .pointer (some ⟨mb, 0, none⟩), steps := x.steps + 1 } rec ws n) => read_any (hI.up (.pointer (some ⟨mb, 0, none⟩)) (x.steps + 1)) hov hop rfl hfit hn hx)
    have HOP := Lib.hid hop
    clear h hst hI hov hfit hop hs ho hn
    go_enter Try.func26, Try.ntmps26
    go_wp2_with (first | (go_at_call 58; refine (Open_yes HS.out HO.out H.out).mono ?_; rintro e w1 ⟨rfl, hx⟩; have e8 : w1.cell? ⟨bx, 8, none⟩ = some (.int .i64 4) := e8of HOP.out hx; have H1 := Lib.hid hx; clear hx) | (go_at_call 60; refine (K.out _ H1.out).mono ?_; rintro e w2 ⟨rfl, hx⟩; have H2 := Lib.hid hx; clear hx))
    go_ret
    exact ⟨rfl, H2.out⟩
set_option maxHeartbeats 2000000 in
theorem Step_no {T : TypeId} {bx mb : Nat} {sv r0 : Value} {W0 W : World} {x : Core} {rec ws : List Int} {n : Int} (ho : opens x ws.length = false) (h : St T bx mb sv W0 r0 W x rec ws n) :
    Calls Try.prog 26 #[.pointer (some ⟨bx, 0, none⟩), .pointer (some ⟨mb, 0, none⟩)] W fun e W' => e = .returned (.bool false) ∧ Chg [] W W' := by
  have H := Lib.hid h
  have HO := Lib.hid ho
  clear h ho
  go_enter Try.func26, Try.ntmps26
  go_wp2_with (go_at_call 58; refine (Open_no HO.out H.out).mono ?_; rintro e w1 ⟨rfl, hx⟩; have H1 := Lib.hid hx; clear hx)
  go_ret
  exact ⟨rfl, H1.out⟩
theorem Step_nil (mv : Value) (W : World) : Calls Try.prog 26 #[.pointer none, mv] W fun e W' => e = .returned (.bool false) ∧ W = W' := by
  go_enter Try.func26, Try.ntmps26
  go_wp2_with fail
  go_ret
  exact ⟨rfl, rfl⟩

/-- how many steps are left at most -/
def left (x : Core) : Int :=
  if x.over then 0 else (if x.phase = 0 then x.w + 3 else if x.phase = 1 then x.w + 2 else if x.phase = 2 then x.w + 1 - x.i else 1)
theorem left_over {x : Core} (ho : x.over = true) : left x = 0 := by simp [left, ho]
theorem left_pos {x : Core} {rec : List Int} (h : Shape x rec) (ho : x.over = false) : 1 ≤ left x := by
  have hw := h.w; have hi := h.i ho
  simp only [left, ho]; simp; (repeat' split) <;> omega
theorem step_len (x : Core) (mv : Value) (rec ws : List Int) : (step x mv rec ws).2.2.length = ws.length := by
  simp only [step, stepW, stepR]
  (repeat' split) <;> simp
theorem mod_bd {s v : Int} (hs : 1 ≤ s ∧ s ≤ 16) : 0 ≤ v % (2 * s) ∧ v % (2 * s) ≤ 4294967295 := by
  have h1 := Int.emod_nonneg v (show 2 * s ≠ 0 by omega)
  have h2 := Int.emod_lt_of_pos v (show 0 < 2 * s by omega)
  omega
theorem step_ok {x : Core} {rec ws : List Int} (mv : Value) (h : Shape x rec) (ho : x.over = false) (hws : ∀ z ∈ ws, 0 ≤ z ∧ z ≤ 4294967295) :
    Shape (step x mv rec ws).1 (step x mv rec ws).2.1 ∧ left (step x mv rec ws).1 + 1 ≤ left x ∧ (step x mv rec ws).1.steps = x.steps + 1 ∧ (step x mv rec ws).1.m = mv ∧ (step x mv rec ws).1.base = x.base ∧ (step x mv rec ws).1.size = x.size := by
  obtain ⟨hw, hs2, ha, hba, hs, hi, hop⟩ := h
  have hi := hi ho
  have g1 := fun v => mod_bd (v := v) hs2
  have hl : left x = (if x.phase = 0 then x.w + 3 else if x.phase = 1 then x.w + 2 else if x.phase = 2 then x.w + 1 - x.i else 1) := by unfold left; rw [if_neg (by simp [ho])]
  rcases hop with ⟨o, p, r⟩ | ⟨o, p, r⟩
  · have r := r ho
    have hst : step x mv rec ws = stepW { x with m := mv, steps := x.steps + 1 } rec ws := by unfold step; rw [if_pos o]
    rw [hst]
    rcases (by omega : x.phase = 0 ∨ x.phase = 1 ∨ x.phase = 2 ∨ x.phase = 3) with q | q | q | q
    · unfold stepW
      rw [if_pos (show ({ x with m := mv, steps := x.steps + 1 } : Core).phase = 0 from q)]
      dsimp only
      refine ⟨⟨hw, hs2, g1 _, hba, hs, fun _ => by simp only []; omega, .inl ⟨o, by simp, fun _ => r⟩⟩, ?_, rfl, rfl, rfl, rfl⟩
      rw [hl, if_pos q]
      simp [left, ho]
      omega
    · unfold stepW
      rw [if_neg (show ¬ ({ x with m := mv, steps := x.steps + 1 } : Core).phase = 0 by show ¬ x.phase = 0; omega), if_pos (show ({ x with m := mv, steps := x.steps + 1 } : Core).phase = 1 from q)]
      dsimp only
      split
      · refine ⟨⟨hw, hs2, ha, hba, hs, by simp, .inl ⟨o, by simp [q], by simp⟩⟩, ?_, rfl, rfl, rfl, rfl⟩
        rw [hl, if_neg (by omega), if_pos q]
        simp [left]
        omega
      · refine ⟨⟨hw, hs2, ha, hba, hs, fun _ => by simp only []; omega, .inl ⟨o, by simp, fun _ => r⟩⟩, ?_, rfl, rfl, rfl, rfl⟩
        rw [hl, if_neg (by omega), if_pos q]
        simp [left, ho]
        omega
    · unfold stepW
      rw [if_neg (show ¬ ({ x with m := mv, steps := x.steps + 1 } : Core).phase = 0 by show ¬ x.phase = 0; omega), if_neg (show ¬ ({ x with m := mv, steps := x.steps + 1 } : Core).phase = 1 by show ¬ x.phase = 1; omega), if_pos (show ({ x with m := mv, steps := x.steps + 1 } : Core).phase = 2 from q)]
      dsimp only
      split
      · refine ⟨⟨hw, hs2, ha, hba, hs, fun _ => by simp only []; omega, .inl ⟨o, by simp, fun _ => r⟩⟩, ?_, rfl, rfl, rfl, rfl⟩
        rw [hl, if_neg (by omega), if_neg (by omega), if_pos q]
        simp [left, ho]
        omega
      · refine ⟨⟨hw, hs2, ha, hba, hs, fun _ => by simp only []; omega, .inl ⟨o, by simp [q], fun _ => r⟩⟩, ?_, rfl, rfl, rfl, rfl⟩
        rw [hl, if_neg (by omega), if_neg (by omega), if_pos q]
        simp [left, ho, q]
        omega
    · unfold stepW
      rw [if_neg (show ¬ ({ x with m := mv, steps := x.steps + 1 } : Core).phase = 0 by show ¬ x.phase = 0; omega), if_neg (show ¬ ({ x with m := mv, steps := x.steps + 1 } : Core).phase = 1 by show ¬ x.phase = 1; omega), if_neg (show ¬ ({ x with m := mv, steps := x.steps + 1 } : Core).phase = 2 by show ¬ x.phase = 2; omega)]
      dsimp only
      refine ⟨⟨hw, hs2, ha, hba, hs, by simp, .inl ⟨o, by simp [q], by simp⟩⟩, ?_, rfl, rfl, rfl, rfl⟩
      rw [hl, if_neg (by omega), if_neg (by omega), if_neg (by omega)]
      simp [left]
  · have r := r ho
    have hst : step x mv rec ws = stepR { x with m := mv, steps := x.steps + 1 } rec ws := by unfold step; rw [if_neg (by omega)]
    rw [hst]
    rcases (by omega : x.phase = 0 ∨ x.phase = 1 ∨ x.phase = 2 ∨ x.phase = 3) with q | q | q | q
    · unfold stepR
      rw [if_pos (show ({ x with m := mv, steps := x.steps + 1 } : Core).phase = 0 from q)]
      dsimp only
      refine ⟨⟨hw, hs2, g1 _, hba, hs, fun _ => by simp only []; omega, .inr ⟨o, by simp, fun _ => by simp [q] at r ⊢; exact r⟩⟩, ?_, rfl, rfl, rfl, rfl⟩
      rw [hl, if_pos q]
      simp [left, ho]
      omega
    · unfold stepR
      rw [if_neg (show ¬ ({ x with m := mv, steps := x.steps + 1 } : Core).phase = 0 by show ¬ x.phase = 0; omega), if_pos (show ({ x with m := mv, steps := x.steps + 1 } : Core).phase = 1 from q)]
      dsimp only
      split
      · refine ⟨⟨hw, hs2, ha, hba, hs, by simp, .inr ⟨o, by simp [q], by simp⟩⟩, ?_, rfl, rfl, rfl, rfl⟩
        rw [hl, if_neg (by omega), if_pos q]
        simp [left]
        omega
      · refine ⟨⟨hw, hs2, ha, hba, hs, fun _ => by simp only []; omega, .inr ⟨o, by simp, fun _ => by simp [q] at r ⊢; exact r⟩⟩, ?_, rfl, rfl, rfl, rfl⟩
        rw [hl, if_neg (by omega), if_pos q]
        simp [left, ho]
        omega
    · unfold stepR
      rw [if_neg (show ¬ ({ x with m := mv, steps := x.steps + 1 } : Core).phase = 0 by show ¬ x.phase = 0; omega), if_neg (show ¬ ({ x with m := mv, steps := x.steps + 1 } : Core).phase = 1 by show ¬ x.phase = 1; omega), if_pos (show ({ x with m := mv, steps := x.steps + 1 } : Core).phase = 2 from q)]
      dsimp only
      split
      · refine ⟨⟨hw, hs2, ha, hba, hs, fun _ => by simp only []; omega, .inr ⟨o, by simp, fun _ => by simp [q] at r ⊢; omega⟩⟩, ?_, rfl, rfl, rfl, rfl⟩
        rw [hl, if_neg (by omega), if_neg (by omega), if_pos q]
        simp [left, ho]
        omega
      · refine ⟨⟨hw, hs2, ha, hba, hs, fun _ => by simp only []; omega, .inr ⟨o, by simp [q], fun _ => by simp [q] at r ⊢; omega⟩⟩, ?_, rfl, rfl, rfl, rfl⟩
        rw [hl, if_neg (by omega), if_neg (by omega), if_pos q]
        simp [left, ho, q]
        omega
    · unfold stepR
      rw [if_neg (show ¬ ({ x with m := mv, steps := x.steps + 1 } : Core).phase = 0 by show ¬ x.phase = 0; omega), if_neg (show ¬ ({ x with m := mv, steps := x.steps + 1 } : Core).phase = 1 by show ¬ x.phase = 1; omega), if_neg (show ¬ ({ x with m := mv, steps := x.steps + 1 } : Core).phase = 2 by show ¬ x.phase = 2; omega)]
      dsimp only
      refine ⟨⟨hw, hs2, ha, hba, hs, by simp, .inr ⟨o, by simp [q], by simp⟩⟩, ?_, rfl, rfl, rfl, rfl⟩
      rw [hl, if_neg (by omega), if_neg (by omega), if_neg (by omega)]
      simp [left]
def K : Kind where
  step := step
  Shape := Shape
  left := left
  ok mv h ho hws := step_ok mv h ho hws
  len := step_len
  pos := left_pos
  zero := left_over
theorem free : K.Free where
  free x a mv rec ws := rfl
  relabel x mv mv' rec ws := by
    show step x mv' rec ws = ({ (step x mv rec ws).1 with m := mv' }, (step x mv rec ws).2.1, (step x mv rec ws).2.2)
    simp only [step, stepW, stepR, fromN]
    (repeat' split) <;> rfl
end Go.Proofs.Ytjnmlfpljeddmaa.fifo
