/- Package four, plain: what is written is what is read. -/
import Derived.Test.YtbbpnpokccfhjaaFourC
import Derived.Test.YtbbpnpokccfhjaaKeep
namespace Go.Proofs.Ytbbpnpokccfhjaa.four
open Go Go.RowKit Go.Proofs.Ytbbpnpokccfhjaa.kit Go.Proofs.Ytbbpnpokccfhjaa.mem Go.Proofs.Ytbbpnpokccfhjaa.rop Go.Proofs.Ytbbpnpokccfhjaa.core
set_option linter.unusedVariables false
set_option linter.unusedSimpArgs false
set_option maxRecDepth 20000

theorem mul4 {q w : Nat} (h : q ≤ 3) : q * w + w ≤ 4 * w := by
  have := Nat.mul_le_mul_right w (by omega : q + 1 ≤ 4)
  rw [Nat.add_mul, Nat.one_mul] at this
  exact this
/-- an object's words tell the pair that was written last: its index, its half, its record -/
structure Holds (ws : List Int) (b w : Nat) (new : List Int) (p h : Nat) : Prop where
  len : b + 4 + 4 * w ≤ ws.length
  nl : new.length = w
  pp : p ≤ 1
  hh : h ≤ 1
  latest : ws.getD (b + 0) 0 = (p : Int)
  half : ws.getD (b + (2 + p)) 0 = (h : Int)
  data : ∀ j, j < w → ws.getD (b + ((4 + (2 * p + h) * w) + j)) 0 = new.getD j 0
/-- a write, so far -/
structure WI (x : Core) (rec ws : List Int) (b w : Nat) (new : List Int) : Prop where
  base : x.base = (b : Int)
  hw : x.w = (w : Int)
  op : x.op = 2
  code : x.code = 0
  nl : new.length = w
  len : b + 4 + 4 * w ≤ ws.length
  rc : x.over = false → rec = new
  half : x.over = false → x.phase = 2 → ∀ j, j < x.i.toNat → ws.getD (b + ((4 + (2 * x.a.toNat + x.b.toNat) * w) + j)) 0 = new.getD j 0
  full : x.over = false → 3 ≤ x.phase → ∀ j, j < w → ws.getD (b + ((4 + (2 * x.a.toNat + x.b.toNat) * w) + j)) 0 = new.getD j 0
  told : x.over = false → x.phase = 4 → ws.getD (b + (2 + x.a.toNat)) 0 = (x.b.toNat : Int)
  done : x.over = true → ∃ p h, Holds ws b w new p h
theorem write_step {x : Core} {rec ws : List Int} {b w : Nat} {new : List Int} (mv : Value) (hS : Shape x rec) (ho : x.over = false) (h : WI x rec ws b w new) :
    WI (step x mv rec ws).1 (step x mv rec ws).2.1 (step x mv rec ws).2.2 b w new := by
  obtain ⟨sw, sa, sb, sba, ss, si, sop⟩ := hS
  obtain ⟨hb, hw, hop, hc, hn, hl, hr, h2, h3, h4, h5⟩ := h
  have si := si ho
  have hr := hr ho
  subst hr
  have hph : 0 ≤ x.phase ∧ x.phase ≤ 4 := by rcases sop with ⟨_, h, _⟩ | ⟨h, _⟩ <;> omega
  have eb : x.base.toNat = b := by omega
  have ew : x.w.toNat = w := by omega
  have la : x.a.toNat ≤ 1 := by omega
  have lb : x.b.toNat ≤ 1 := by omega
  have hq := mul4 (q := 2 * x.a.toNat + x.b.toNat) (w := w) (by omega)
  have hst : step x mv rec ws = stepW { x with m := mv, steps := x.steps + 1 } rec ws := by unfold step; rw [if_pos hop]
  rw [hst]
  rcases (by omega : x.phase = 0 ∨ x.phase = 1 ∨ x.phase = 2 ∨ x.phase = 3 ∨ x.phase = 4) with q | q | q | q | q
  · unfold stepW
    rw [if_pos (show ({ x with m := mv, steps := x.steps + 1 } : Core).phase = 0 from q)]
    exact ⟨hb, hw, hop, hc, hn, hl, fun _ => rfl, fun _ h => (by simp at h), fun _ h => (by simp at h), fun _ h => (by simp at h), fun h => by simp [ho] at h⟩
  · unfold stepW
    rw [if_neg (show ¬ ({ x with m := mv, steps := x.steps + 1 } : Core).phase = 0 by show ¬ x.phase = 0; omega), if_pos (show ({ x with m := mv, steps := x.steps + 1 } : Core).phase = 1 from q)]
    exact ⟨hb, hw, hop, hc, hn, hl, fun _ => rfl, fun _ _ j hj => (by simp at hj), fun _ h => (by simp at h), fun _ h => (by simp at h), fun h => by simp [ho] at h⟩
  · unfold stepW
    rw [if_neg (show ¬ ({ x with m := mv, steps := x.steps + 1 } : Core).phase = 0 by show ¬ x.phase = 0; omega), if_neg (show ¬ ({ x with m := mv, steps := x.steps + 1 } : Core).phase = 1 by show ¬ x.phase = 1; omega), if_pos (show ({ x with m := mv, steps := x.steps + 1 } : Core).phase = 2 from q)]
    dsimp only
    rw [eb, ew]
    have hset : ∀ j, j < x.i.toNat + 1 → (ws.set (b + (4 + (2 * x.a.toNat + x.b.toNat) * w + x.i.toNat)) (rec.getD x.i.toNat 0)).getD (b + ((4 + (2 * x.a.toNat + x.b.toNat) * w) + j)) 0 = rec.getD j 0 := by
      intro j hj
      by_cases e : j = x.i.toNat
      · subst e; exact gets_same _ _ _ (by omega)
      · rw [gets_ne _ _ _ _ (by omega)]; exact h2 ho q j (by omega)
    by_cases hle : w ≤ x.i.toNat + 1
    · rw [if_pos hle]
      exact ⟨hb, hw, hop, hc, hn, by rw [List.length_set]; exact hl, fun _ => rfl, fun _ h => (by simp at h), fun _ _ j hj => hset j (by omega), fun _ h => (by simp at h), fun h => by simp [ho] at h⟩
    · rw [if_neg hle]
      exact ⟨hb, hw, hop, hc, hn, by rw [List.length_set]; exact hl, fun _ => rfl, fun _ _ j hj => hset j (by have h9 : j < ((x.i.toNat : Int) + 1).toNat := hj; omega), fun _ h => by have h9 : (3 : Int) ≤ x.phase := h; omega, fun _ h => by have h9 : x.phase = 4 := h; omega, fun h => by simp [ho] at h⟩
  · unfold stepW
    rw [if_neg (show ¬ ({ x with m := mv, steps := x.steps + 1 } : Core).phase = 0 by show ¬ x.phase = 0; omega), if_neg (show ¬ ({ x with m := mv, steps := x.steps + 1 } : Core).phase = 1 by show ¬ x.phase = 1; omega), if_neg (show ¬ ({ x with m := mv, steps := x.steps + 1 } : Core).phase = 2 by show ¬ x.phase = 2; omega), if_pos (show ({ x with m := mv, steps := x.steps + 1 } : Core).phase = 3 from q)]
    dsimp only
    rw [eb]
    refine ⟨hb, hw, hop, hc, hn, by rw [List.length_set]; exact hl, fun _ => rfl, fun _ h => (by simp at h), fun _ _ j hj => ?_, fun _ _ => gets_same _ _ _ (by omega), fun h => by simp [ho] at h⟩
    rw [gets_ne _ _ _ _ (by omega)]
    exact h3 ho (by omega) j hj
  · unfold stepW
    rw [if_neg (show ¬ ({ x with m := mv, steps := x.steps + 1 } : Core).phase = 0 by show ¬ x.phase = 0; omega), if_neg (show ¬ ({ x with m := mv, steps := x.steps + 1 } : Core).phase = 1 by show ¬ x.phase = 1; omega), if_neg (show ¬ ({ x with m := mv, steps := x.steps + 1 } : Core).phase = 2 by show ¬ x.phase = 2; omega), if_neg (show ¬ ({ x with m := mv, steps := x.steps + 1 } : Core).phase = 3 by show ¬ x.phase = 3; omega)]
    dsimp only
    rw [eb]
    refine ⟨hb, hw, hop, rfl, hn, by rw [List.length_set]; exact hl, fun h => (by simp at h), fun h => (by simp at h), fun h => (by simp at h), fun h => (by simp at h), fun _ => ⟨x.a.toNat, x.b.toNat, by rw [List.length_set]; exact hl, hn, la, lb, ?_, ?_, fun j hj => ?_⟩⟩
    · exact gets_same _ _ _ (by omega)
    · rw [gets_ne _ _ _ _ (by omega)]; exact h4 ho q
    · rw [gets_ne _ _ _ _ (by omega)]; exact h3 ho (by omega) j hj
/-- a read, so far -/
structure RI (x : Core) (rec ws : List Int) (b w : Nat) (last : List Int) (p h : Nat) : Prop where
  base : x.base = (b : Int)
  hw : x.w = (w : Int)
  op : x.op = 1
  code : x.code = 0
  holds : Holds ws b w last p h
  pa : x.over = false → 1 ≤ x.phase → x.a = (p : Int)
  pb : x.over = false → x.phase = 3 → x.b = (h : Int)
  rc : x.over = false → rec = last.take (if x.phase = 3 then x.i.toNat else 0)
  done : x.over = true → rec = last
theorem Holds.reading {ws : List Int} {b w : Nat} {new : List Int} {p h : Nat} (k : Holds ws b w new p h) (v : Int) : Holds (ws.set (b + 1) v) b w new p h := by
  obtain ⟨h1, h2, h3, h4, h5, h6, h7⟩ := k
  exact ⟨by rw [List.length_set]; exact h1, h2, h3, h4, by rw [gets_ne _ _ _ _ (by omega)]; exact h5, by rw [gets_ne _ _ _ _ (by omega)]; exact h6, fun j hj => by rw [gets_ne _ _ _ _ (by omega)]; exact h7 j hj⟩
theorem read_step {x : Core} {rec ws : List Int} {b w : Nat} {last : List Int} {p h : Nat} (mv : Value) (hS : Shape x rec) (ho : x.over = false) (hR : RI x rec ws b w last p h) :
    RI (step x mv rec ws).1 (step x mv rec ws).2.1 (step x mv rec ws).2.2 b w last p h := by
  obtain ⟨sw, sa, sb, sba, ss, si, sop⟩ := hS
  obtain ⟨hb, hw, hop, hc, hh, h1, h2, h3, h4⟩ := hR
  have si := si ho
  have h3 := h3 ho
  have hph : 0 ≤ x.phase ∧ x.phase ≤ 3 := by rcases sop with ⟨h, _⟩ | ⟨_, h, _⟩ <;> omega
  have eb : x.base.toNat = b := by omega
  have ew : x.w.toNat = w := by omega
  have hp := hh.pp; have hk := hh.hh
  have hst : step x mv rec ws = stepR { x with m := mv, steps := x.steps + 1 } rec ws := by unfold step; rw [if_neg (by omega)]
  rw [hst]
  rcases (by omega : x.phase = 0 ∨ x.phase = 1 ∨ x.phase = 2 ∨ x.phase = 3) with q | q | q | q
  · unfold stepR
    rw [if_pos (show ({ x with m := mv, steps := x.steps + 1 } : Core).phase = 0 from q)]
    dsimp only
    rw [if_neg (by omega)] at h3
    exact ⟨hb, hw, hop, hc, hh, fun _ _ => by show ws.getD (x.base.toNat + 0) 0 % 2 = _; rw [eb, hh.latest]; omega, fun _ h => (by simp at h), fun _ => by rw [h3]; rfl, fun h => by simp [ho] at h⟩
  · unfold stepR
    rw [if_neg (show ¬ ({ x with m := mv, steps := x.steps + 1 } : Core).phase = 0 by show ¬ x.phase = 0; omega), if_pos (show ({ x with m := mv, steps := x.steps + 1 } : Core).phase = 1 from q)]
    dsimp only
    rw [if_neg (by omega)] at h3
    rw [eb]
    exact ⟨hb, hw, hop, hc, hh.reading _, fun _ _ => h1 ho (by omega), fun _ h => (by simp at h), fun _ => by rw [h3]; rfl, fun h => by simp [ho] at h⟩
  · unfold stepR
    rw [if_neg (show ¬ ({ x with m := mv, steps := x.steps + 1 } : Core).phase = 0 by show ¬ x.phase = 0; omega), if_neg (show ¬ ({ x with m := mv, steps := x.steps + 1 } : Core).phase = 1 by show ¬ x.phase = 1; omega), if_pos (show ({ x with m := mv, steps := x.steps + 1 } : Core).phase = 2 from q)]
    dsimp only
    rw [if_neg (by omega)] at h3
    have ea : x.a.toNat = p := by have := h1 ho (by omega); omega
    exact ⟨hb, hw, hop, hc, hh, fun _ _ => h1 ho (by omega), fun _ _ => by show ws.getD (x.base.toNat + (2 + x.a.toNat)) 0 % 2 = _; rw [eb, ea, hh.half]; omega, fun _ => by rw [h3]; rfl, fun h => by simp [ho] at h⟩
  · unfold stepR
    rw [if_neg (show ¬ ({ x with m := mv, steps := x.steps + 1 } : Core).phase = 0 by show ¬ x.phase = 0; omega), if_neg (show ¬ ({ x with m := mv, steps := x.steps + 1 } : Core).phase = 1 by show ¬ x.phase = 1; omega), if_neg (show ¬ ({ x with m := mv, steps := x.steps + 1 } : Core).phase = 2 by show ¬ x.phase = 2; omega)]
    dsimp only
    rw [if_pos q] at h3
    have ea : x.a.toNat = p := by have := h1 ho (by omega); omega
    have ec : x.b.toNat = h := by have := h2 ho q; omega
    have hlt : x.i.toNat < last.length := by have := hh.nl; omega
    have hw1 : ws.getD (x.base.toNat + (4 + (2 * x.a.toNat + x.b.toNat) * x.w.toNat + x.i.toNat)) 0 = last[x.i.toNat] := by
      rw [eb, ea, ec, ew, hh.data _ (by have := hh.nl; omega)]
      simp [List.getD, hlt]
    have hnext : rec ++ [ws.getD (x.base.toNat + (4 + (2 * x.a.toNat + x.b.toNat) * x.w.toNat + x.i.toNat)) 0] = last.take (x.i.toNat + 1) := by
      rw [hw1, h3, List.take_succ_eq_append_getElem hlt]
    rw [hnext]
    by_cases hle : x.w.toNat ≤ x.i.toNat + 1
    · rw [if_pos hle, if_pos hle]
      refine ⟨hb, hw, hop, rfl, hh, fun h => (by simp at h), fun h => (by simp at h), fun h => (by simp at h), fun _ => ?_⟩
      rw [List.take_of_length_le (by have := hh.nl; omega)]
      simp [endRec, hop]
    · rw [if_neg hle, if_neg hle]
      refine ⟨hb, hw, hop, hc, hh, fun _ _ => h1 ho (by omega), fun _ _ => h2 ho q, fun _ => ?_, fun h => by simp [ho] at h⟩
      show List.take _ last = List.take (if x.phase = 3 then (((x.i.toNat : Nat) : Int) + 1).toNat else 0) last
      rw [if_pos q]
      congr 1
def keep : Keep K where
  Ok w s rl ws last := ∃ p h, Holds ws 1 w.toNat last p h
  WI w s rl q new := WI q.1 q.2.1 q.2.2 1 w.toNat new
  RI w s rl q last := ∃ p h, RI q.1 q.2.1 q.2.2 1 w.toNat last p h
  wstep mv hS ho h := write_step mv hS ho h
  rstep mv hS ho h := by obtain ⟨p, k, h⟩ := h; exact ⟨p, k, read_step mv hS ho h⟩
  wend h ho := ⟨h.code, h.done ho⟩
  rend h ho := by obtain ⟨p, k, h⟩ := h; exact ⟨h.code, h.done ho, p, k, h.holds⟩
theorem ok_start (w s : Int) (rl : Nat) (N wN : Nat) (ini : List Int) (hw : w = (wN : Int)) (hN : 4 + 4 * wN = N) (hi : ini.length = wN) : keep.Ok w s rl (readyL N (layL wN ini)) ini := by
  have hl : (layL wN ini).length = N := by simp [layL]; omega
  have hg := ready_get N _ hl
  have ew : w.toNat = wN := by omega
  refine ⟨0, 0, ⟨by rw [ready_len N _ hl]; omega, by omega, by omega, by omega, ?_, ?_, fun j hj => ?_⟩⟩
  · rw [hg 0 (by omega)]; rfl
  · rw [hg 2 (by omega)]; rfl
  · rw [ew] at hj ⊢
    rw [show (4 + (2 * 0 + 0) * wN) + j = 4 + j by omega, hg (4 + j) (by omega)]
    simp only [layL, List.getD]
    rw [List.getElem?_append_right (by simp), List.getElem?_append_left (by simp; omega)]
    simp
theorem wi_start {w s : Int} {rl : Nat} {x : Core} {ws new last : List Int} (hw1 : 1 ≤ w) (hb : x.base = 1) (hw : x.w = w) (hs : x.s = s) (hop : x.op = 2) (hph : x.phase = 0) (hi : x.i = 0) (ht : x.tries = 0) (hv : x.over = false) (hc : x.code = 0) (hn : (new.length : Int) = w) (h : keep.Ok w s rl ws last) : keep.WI w s rl (x, new, ws) new := by
  obtain ⟨p, k, h⟩ := h
  exact ⟨hb, by rw [hw]; omega, hop, hc, by omega, h.len, fun _ => rfl, fun _ h9 => by rw [hph] at h9; omega, fun _ h9 => by rw [hph] at h9; omega, fun _ h9 => by rw [hph] at h9; omega, fun h9 => by rw [hv] at h9; cases h9⟩
theorem ri_start {w s : Int} {rl : Nat} {x : Core} {ws last : List Int} (hw1 : 1 ≤ w) (hb : x.base = 1) (hw : x.w = w) (hs : x.s = s) (hop : x.op = 1) (hph : x.phase = 0) (hi : x.i = 0) (ht : x.tries = 0) (hv : x.over = false) (hc : x.code = 0) (h : keep.Ok w s rl ws last) : keep.RI w s rl (x, [], ws) last := by
  obtain ⟨p, k, h⟩ := h
  exact ⟨p, k, hb, by rw [hw]; omega, hop, hc, h, fun _ h9 => by rw [hph] at h9; omega, fun _ h9 => by rw [hph] at h9; omega, fun _ => by rw [hph]; rfl, fun h9 => by rw [hv] at h9; cases h9⟩
end Go.Proofs.Ytbbpnpokccfhjaa.four
