/- Package seq, plain: what is written is what is read. -/
import Derived.Test.YtbbpnpokccfhjaaSeq8
import Derived.Test.YtbbpnpokccfhjaaKeep
namespace Go.Proofs.Ytbbpnpokccfhjaa.seq
open Go Go.RowKit Go.Proofs.Ytbbpnpokccfhjaa.kit Go.Proofs.Ytbbpnpokccfhjaa.mem Go.Proofs.Ytbbpnpokccfhjaa.rop Go.Proofs.Ytbbpnpokccfhjaa.core
set_option linter.unusedVariables false
set_option linter.unusedSimpArgs false
set_option maxRecDepth 20000

/-- an object's words tell the record that was written last -/
structure Holds (ws : List Int) (w : Nat) (new : List Int) : Prop where
  len : 2 + w ≤ ws.length
  nl : new.length = w
  even : ws.getD 1 0 % 2 = 0
  data : ∀ j, j < w → ws.getD (1 + (1 + j)) 0 = new.getD j 0
/-- a write, so far -/
structure WI (x : Core) (rec ws : List Int) (w : Nat) (new : List Int) : Prop where
  base : x.base = 1
  hw : x.w = (w : Int)
  op : x.op = 2
  code : x.code = 0
  nl : new.length = w
  len : 2 + w ≤ ws.length
  rc : x.over = false → rec = new
  ev0 : x.over = false → x.phase = 0 → ws.getD 1 0 % 2 = 0
  ev : x.over = false → 1 ≤ x.phase → x.a % 2 = 0
  half : x.over = false → x.phase = 2 → ∀ j, j < x.i.toNat → ws.getD (1 + (1 + j)) 0 = new.getD j 0
  full : x.over = false → x.phase = 3 → ∀ j, j < w → ws.getD (1 + (1 + j)) 0 = new.getD j 0
  done : x.over = true → Holds ws w new
theorem write_step {x : Core} {rec ws : List Int} {w : Nat} {new : List Int} (mv : Value) (hS : Shape x rec) (ho : x.over = false) (h : WI x rec ws w new) :
    WI (step x mv rec ws).1 (step x mv rec ws).2.1 (step x mv rec ws).2.2 w new := by
  obtain ⟨sw, sa, sc, st, sba, ss, si, sop⟩ := hS
  obtain ⟨hb, hw, hop, hc, hn, hl, hr, h0, h1, h2, h3, h4⟩ := h
  have si := si ho
  have hr := hr ho
  subst hr
  have hph : 0 ≤ x.phase ∧ x.phase ≤ 3 := by rcases sop with ⟨_, h, _⟩ | ⟨h, _⟩ <;> omega
  have eb : x.base.toNat = 1 := by omega
  have ew : x.w.toNat = w := by omega
  have hst : step x mv rec ws = stepW { x with m := mv, steps := x.steps + 1 } rec ws := by unfold step; rw [if_pos hop]
  rw [hst]
  rcases (by omega : x.phase = 0 ∨ x.phase = 1 ∨ x.phase = 2 ∨ x.phase = 3) with q | q | q | q
  · unfold stepW
    rw [if_pos (show ({ x with m := mv, steps := x.steps + 1 } : Core).phase = 0 from q)]
    dsimp only
    rw [eb]
    exact ⟨hb, hw, hop, hc, hn, hl, fun _ => rfl, fun _ h => by simp at h, fun _ _ => h0 ho q, fun _ h => by simp at h, fun _ h => by simp at h, fun h => by simp [ho] at h⟩
  · unfold stepW
    rw [if_neg (show ¬ ({ x with m := mv, steps := x.steps + 1 } : Core).phase = 0 by show ¬ x.phase = 0; omega), if_pos (show ({ x with m := mv, steps := x.steps + 1 } : Core).phase = 1 from q)]
    dsimp only
    rw [eb]
    exact ⟨hb, hw, hop, hc, hn, by rw [List.length_set]; exact hl, fun _ => rfl, fun _ h => by simp at h, fun _ _ => h1 ho (by omega), fun _ _ j hj => by simp at hj, fun _ h => by simp at h, fun h => by simp [ho] at h⟩
  · unfold stepW
    rw [if_neg (show ¬ ({ x with m := mv, steps := x.steps + 1 } : Core).phase = 0 by show ¬ x.phase = 0; omega), if_neg (show ¬ ({ x with m := mv, steps := x.steps + 1 } : Core).phase = 1 by show ¬ x.phase = 1; omega), if_pos (show ({ x with m := mv, steps := x.steps + 1 } : Core).phase = 2 from q)]
    dsimp only
    rw [eb, ew]
    have hset : ∀ j, j < x.i.toNat + 1 → (ws.set (1 + (1 + x.i.toNat)) (rec.getD x.i.toNat 0)).getD (1 + (1 + j)) 0 = rec.getD j 0 := by
      intro j hj
      by_cases e : j = x.i.toNat
      · subst e; exact gets_same _ _ _ (by omega)
      · rw [gets_ne _ _ _ _ (by omega)]; exact h2 ho q j (by omega)
    by_cases hle : w ≤ x.i.toNat + 1
    · rw [if_pos hle]
      exact ⟨hb, hw, hop, hc, hn, by rw [List.length_set]; exact hl, fun _ => rfl, fun _ h => by simp at h, fun _ _ => h1 ho (by omega), fun _ h => by simp at h, fun _ _ j hj => hset j (by omega), fun h => by simp [ho] at h⟩
    · rw [if_neg hle]
      exact ⟨hb, hw, hop, hc, hn, by rw [List.length_set]; exact hl, fun _ => rfl, fun _ h => by have h9 : x.phase = 0 := h; omega, fun _ _ => h1 ho (by omega), fun _ _ j hj => hset j (by have h9 : j < ((x.i.toNat : Int) + 1).toNat := hj; omega), fun _ h => by have h9 : x.phase = 3 := h; omega, fun h => by simp [ho] at h⟩
  · unfold stepW
    rw [if_neg (show ¬ ({ x with m := mv, steps := x.steps + 1 } : Core).phase = 0 by show ¬ x.phase = 0; omega), if_neg (show ¬ ({ x with m := mv, steps := x.steps + 1 } : Core).phase = 1 by show ¬ x.phase = 1; omega), if_neg (show ¬ ({ x with m := mv, steps := x.steps + 1 } : Core).phase = 2 by show ¬ x.phase = 2; omega)]
    dsimp only
    rw [eb]
    refine ⟨hb, hw, hop, rfl, hn, by rw [List.length_set]; exact hl, fun h => by simp at h, fun h => by simp at h, fun h => by simp at h, fun h => by simp at h, fun h => by simp at h, fun _ => ⟨by rw [List.length_set]; exact hl, hn, ?_, fun j hj => ?_⟩⟩
    · rw [gets_same _ _ _ (by omega)]
      have := h1 ho (by omega)
      omega
    · rw [gets_ne _ _ _ _ (by omega)]; exact h3 ho q j hj
/-- a read, so far -/
structure RI (x : Core) (rec ws : List Int) (w : Nat) (last : List Int) : Prop where
  base : x.base = 1
  hw : x.w = (w : Int)
  op : x.op = 1
  code : x.code = 0
  holds : Holds ws w last
  pa : x.over = false → 1 ≤ x.phase → x.a = ws.getD 1 0
  rc : x.over = false → rec = last.take (if x.phase = 1 then x.i.toNat else if x.phase = 2 then w else 0)
  done : x.over = true → rec = last
theorem read_step {x : Core} {rec ws : List Int} {w : Nat} {last : List Int} (mv : Value) (hS : Shape x rec) (ho : x.over = false) (hR : RI x rec ws w last) :
    RI (step x mv rec ws).1 (step x mv rec ws).2.1 (step x mv rec ws).2.2 w last := by
  obtain ⟨sw, sa, sc, st, sba, ss, si, sop⟩ := hS
  obtain ⟨hb, hw, hop, hc, hh, h1, h3, h4⟩ := hR
  have si := si ho
  have h3 := h3 ho
  have hph : 0 ≤ x.phase ∧ x.phase ≤ 2 := by rcases sop with ⟨h, _⟩ | ⟨_, h, _⟩ <;> omega
  have eb : x.base.toNat = 1 := by omega
  have ew : x.w.toNat = w := by omega
  have hst : step x mv rec ws = stepR { x with m := mv, steps := x.steps + 1 } rec ws := by unfold step; rw [if_neg (by omega)]
  rw [hst]
  rcases (by omega : x.phase = 0 ∨ x.phase = 1 ∨ x.phase = 2) with q | q | q
  · unfold stepR
    rw [if_pos (show ({ x with m := mv, steps := x.steps + 1 } : Core).phase = 0 from q)]
    dsimp only
    rw [eb]
    have he : ¬ ws.getD (1 + 0) 0 % 2 = 1 := by have h9 : ws.getD (1 + 0) 0 % 2 = 0 := hh.even; omega
    rw [if_neg he, if_neg he]
    have h3 : rec = [] := by rw [h3, if_neg (show ¬ x.phase = 1 by omega), if_neg (show ¬ x.phase = 2 by omega)]; rfl
    exact ⟨hb, hw, hop, hc, hh, fun _ _ => rfl, fun _ => by rw [h3]; rfl, fun h => by simp [ho] at h⟩
  · unfold stepR
    rw [if_neg (show ¬ ({ x with m := mv, steps := x.steps + 1 } : Core).phase = 0 by show ¬ x.phase = 0; omega), if_pos (show ({ x with m := mv, steps := x.steps + 1 } : Core).phase = 1 from q)]
    dsimp only
    rw [if_pos q] at h3
    have hlt : x.i.toNat < last.length := by have := hh.nl; omega
    have hnext : rec ++ [ws.getD (x.base.toNat + (1 + x.i.toNat)) 0] = last.take (x.i.toNat + 1) := by
      rw [eb, hh.data _ (by have := hh.nl; omega), h3]; exact take_next hlt
    rw [hnext]
    by_cases hle : x.w.toNat ≤ x.i.toNat + 1
    · rw [if_pos hle]
      exact ⟨hb, hw, hop, hc, hh, fun _ _ => h1 ho (by omega), fun _ => by
        show List.take _ last = List.take (if (2 : Int) = 1 then _ else if (2 : Int) = 2 then w else 0) last
        rw [if_neg (by omega), if_pos rfl, take_all (by have := hh.nl; omega), take_all (by have := hh.nl; omega)], fun h => by simp [ho] at h⟩
    · rw [if_neg hle]
      exact ⟨hb, hw, hop, hc, hh, fun _ _ => h1 ho (by omega), fun _ => by
        show List.take _ last = List.take (if x.phase = 1 then (((x.i.toNat : Nat) : Int) + 1).toNat else _) last
        rw [if_pos q]; congr 1, fun h => by simp [ho] at h⟩
  · unfold stepR
    rw [if_neg (show ¬ ({ x with m := mv, steps := x.steps + 1 } : Core).phase = 0 by show ¬ x.phase = 0; omega), if_neg (show ¬ ({ x with m := mv, steps := x.steps + 1 } : Core).phase = 1 by show ¬ x.phase = 1; omega)]
    dsimp only
    have h3 : rec = last := by rw [h3, if_neg (show ¬ x.phase = 1 by omega), if_pos q, take_all (by have := hh.nl; omega)]
    have he : ws.getD (x.base.toNat + 0) 0 = x.a := by rw [eb]; exact (h1 ho (by omega)).symm
    rw [if_pos he, if_pos he]
    exact ⟨hb, hw, hop, rfl, hh, fun h => by simp at h, fun h => by simp at h, fun _ => by rw [h3]; simp [endRec, hop]⟩
def keep : Keep K where
  Ok w s rl ws last := Holds ws w.toNat last
  WI w s rl q new := WI q.1 q.2.1 q.2.2 w.toNat new
  RI w s rl q last := RI q.1 q.2.1 q.2.2 w.toNat last
  wstep mv hS ho h := write_step mv hS ho h
  rstep mv hS ho h := read_step mv hS ho h
  wend h ho := ⟨h.code, h.done ho⟩
  rend h ho := ⟨h.code, h.done ho, h.holds⟩
theorem ok_start (w s : Int) (rl : Nat) (N wN : Nat) (st : Int) (ini : List Int) (hw : w = (wN : Int)) (hN : 1 + wN = N) (hst : st % 2 = 0) (hi : ini.length = wN) : keep.Ok w s rl (readyL N (layL st ini)) ini := by
  have hl : (layL st ini).length = N := by simp [layL]; omega
  have hg := ready_get N _ hl
  have ew : w.toNat = wN := by omega
  refine ⟨by rw [ready_len N _ hl]; omega, by omega, ?_, fun j hj => ?_⟩
  · rw [show (1 : Nat) = 1 + 0 from rfl, hg 0 (by omega)]; exact hst
  · rw [hg (1 + j) (by omega)]
    simp only [layL, List.getD]
    rw [Nat.add_comm, List.getElem?_cons_succ]
theorem wi_start {w s : Int} {rl : Nat} {x : Core} {ws new last : List Int} (hw1 : 1 ≤ w) (hb : x.base = 1) (hw : x.w = w) (hs : x.s = s) (hop : x.op = 2) (hph : x.phase = 0) (hi : x.i = 0) (ht : x.tries = 0) (hv : x.over = false) (hc : x.code = 0) (hn : (new.length : Int) = w) (h : keep.Ok w s rl ws last) : keep.WI w s rl (x, new, ws) new :=
  ⟨hb, by rw [hw]; omega, hop, hc, by omega, h.len, fun _ => rfl, fun _ _ => h.even, fun _ h9 => by rw [hph] at h9; omega, fun _ h9 => by rw [hph] at h9; omega, fun _ h9 => by rw [hph] at h9; omega, fun h9 => by rw [hv] at h9; cases h9⟩
theorem ri_start {w s : Int} {rl : Nat} {x : Core} {ws last : List Int} (hw1 : 1 ≤ w) (hb : x.base = 1) (hw : x.w = w) (hs : x.s = s) (hop : x.op = 1) (hph : x.phase = 0) (hi : x.i = 0) (ht : x.tries = 0) (hv : x.over = false) (hc : x.code = 0) (h : keep.Ok w s rl ws last) : keep.RI w s rl (x, [], ws) last :=
  ⟨hb, by rw [hw]; omega, hop, hc, h, fun _ h9 => by rw [hph] at h9; omega, fun _ => by rw [hph]; rfl, fun h9 => by rw [hv] at h9; cases h9⟩
end Go.Proofs.Ytbbpnpokccfhjaa.seq
