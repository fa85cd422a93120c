/- Package ring, plain: what is written is what is read. -/
import Derived.Test.YtjnmlfpljeddmaaRing4
import Derived.Test.YtjnmlfpljeddmaaKeep
namespace Go.Proofs.Ytjnmlfpljeddmaa.ring
open Go Go.RowKit Go.Proofs.Ytjnmlfpljeddmaa.kit Go.Proofs.Ytjnmlfpljeddmaa.mem Go.Proofs.Ytjnmlfpljeddmaa.rop Go.Proofs.Ytjnmlfpljeddmaa.core
set_option linter.unusedVariables false
set_option linter.unusedSimpArgs false
set_option maxRecDepth 20000

/-- where the record of a count begins -/
def place (s w c : Int) : Nat := (1 + (c % s) * w).toNat
/-- an object's words tell the record that was written last -/
structure Holds (ws : List Int) (s : Int) (w : Nat) (new : List Int) : Prop where
  len : (2 : Int) + s * (w : Int) ≤ (ws.length : Int)
  nl : new.length = w
  ss : 2 ≤ s ∧ s ≤ 16
  ww : 1 ≤ w ∧ w ≤ 8
  data : ∀ j, j < w → ws.getD (1 + (place s w (ws.getD 1 0 % (s * 1048576)) + j)) 0 = new.getD j 0
theorem place_fit {s c : Int} {w : Nat} (hs : 2 ≤ s ∧ s ≤ 16) (hw : 1 ≤ w ∧ w ≤ 8) : 1 ≤ place s w c ∧ (place s w c : Int) + w ≤ 1 + s * w := by
  have h1 := Int.emod_lt_of_pos c (show 0 < s by omega)
  have h2 := Int.emod_nonneg c (show s ≠ 0 by omega)
  have h3 := mul_bd (c := c % s) (w := (w : Int)) (m := s - 1) ⟨h2, by omega⟩ (by omega) (by omega)
  have h4 : (s - 1) * (w : Int) = s * w - w := by rw [Int.sub_mul, Int.one_mul]
  unfold place
  omega
/-- a write, so far -/
structure WI (x : Core) (rec ws : List Int) (s : Int) (w : Nat) (new : List Int) : Prop where
  base : x.base = 1
  hw : x.w = (w : Int)
  hs : x.s = s
  op : x.op = 2
  code : x.code = 0
  nl : new.length = w
  ss : 2 ≤ s ∧ s ≤ 16
  ww : 1 ≤ w ∧ w ≤ 8
  len : (2 : Int) + s * (w : Int) ≤ (ws.length : Int)
  rc : x.over = false → rec = new
  ar : x.over = false → 1 ≤ x.phase → 0 ≤ x.a ∧ x.a < s * 1048576
  half : x.over = false → x.phase = 1 → ∀ j, j < x.i.toNat → ws.getD (1 + (place s w x.a + j)) 0 = new.getD j 0
  full : x.over = false → x.phase = 2 → ∀ j, j < w → ws.getD (1 + (place s w x.a + j)) 0 = new.getD j 0
  done : x.over = true → Holds ws s w new
theorem write_step {x : Core} {rec ws : List Int} {s : Int} {w : Nat} {new : List Int} (mv : Value) (hS : Shape x rec) (ho : x.over = false) (h : WI x rec ws s w new) :
    WI (step x mv rec ws).1 (step x mv rec ws).2.1 (step x mv rec ws).2.2 s w new := by
  obtain ⟨sw, ss2, sa, sc, st, sba, ss, si, sop⟩ := hS
  obtain ⟨hb, hw, hs, hop, hc, hn, hss, hww, hl, hr, h1, h2, h3, h4⟩ := h
  have si := si ho
  have hr := hr ho
  subst hr
  have hph : 0 ≤ x.phase ∧ x.phase ≤ 2 := by rcases sop with ⟨_, h, _⟩ | ⟨h, _⟩ <;> omega
  have eb : x.base.toNat = 1 := by omega
  have ew : x.w.toNat = w := by omega
  have ef : fromN x = place s w x.a := by unfold fromN place; rw [hs, hw]
  have hpf := place_fit (c := x.a) hss hww
  have hst : step x mv rec ws = stepW { x with m := mv, steps := x.steps + 1 } rec ws := by unfold step; rw [if_pos hop]
  have ef2 : fromN ({ x with m := mv, steps := x.steps + 1 } : Core) = place s w x.a := ef
  rw [hst]
  rcases (by omega : x.phase = 0 ∨ x.phase = 1 ∨ x.phase = 2) with q | q | q
  · unfold stepW
    rw [if_pos (show ({ x with m := mv, steps := x.steps + 1 } : Core).phase = 0 from q)]
    dsimp only
    rw [eb, hs]
    exact ⟨hb, hw, rfl, hop, hc, hn, hss, hww, hl, fun _ => rfl, fun _ _ => ⟨Int.emod_nonneg _ (by omega), Int.emod_lt_of_pos _ (by omega)⟩, fun _ _ j hj => by simp at hj, fun _ h => by simp at h, fun h => by simp [ho] at h⟩
  · unfold stepW
    rw [if_neg (show ¬ ({ x with m := mv, steps := x.steps + 1 } : Core).phase = 0 by show ¬ x.phase = 0; omega), if_pos (show ({ x with m := mv, steps := x.steps + 1 } : Core).phase = 1 from q), ef2]
    dsimp only
    rw [eb, ew]
    have hset : ∀ j, j < x.i.toNat + 1 → (ws.set (1 + (place s w x.a + x.i.toNat)) (rec.getD x.i.toNat 0)).getD (1 + (place s w x.a + j)) 0 = rec.getD j 0 := by
      intro j hj
      by_cases e : j = x.i.toNat
      · subst e; exact gets_same _ _ _ (by omega)
      · rw [gets_ne _ _ _ _ (by omega)]; exact h2 ho q j (by omega)
    by_cases hle : w ≤ x.i.toNat + 1
    · rw [if_pos hle]
      exact ⟨hb, hw, hs, hop, hc, hn, hss, hww, by rw [List.length_set]; exact hl, fun _ => rfl, fun _ _ => h1 ho (by omega), fun _ h => by simp at h, fun _ _ j hj => hset j (by omega), fun h => by simp [ho] at h⟩
    · rw [if_neg hle]
      exact ⟨hb, hw, hs, hop, hc, hn, hss, hww, by rw [List.length_set]; exact hl, fun _ => rfl, fun _ _ => h1 ho (by omega), fun _ _ j hj => hset j (by have h9 : j < ((x.i.toNat : Int) + 1).toNat := hj; omega), fun _ h => by have h9 : x.phase = 2 := h; omega, fun h => by simp [ho] at h⟩
  · unfold stepW
    rw [if_neg (show ¬ ({ x with m := mv, steps := x.steps + 1 } : Core).phase = 0 by show ¬ x.phase = 0; omega), if_neg (show ¬ ({ x with m := mv, steps := x.steps + 1 } : Core).phase = 1 by show ¬ x.phase = 1; omega)]
    dsimp only
    rw [eb]
    have ha := h1 ho (by omega)
    have hg1 : (ws.set (1 + 0) x.a).getD 1 0 = x.a := gets_same _ _ _ (by omega)
    refine ⟨hb, hw, hs, hop, rfl, hn, hss, hww, by rw [List.length_set]; exact hl, fun h => by simp at h, fun h => by simp at h, fun h => by simp at h, fun h => by simp at h, fun _ => ⟨by rw [List.length_set]; exact hl, hn, hss, hww, fun j hj => ?_⟩⟩
    rw [hg1, Int.emod_eq_of_lt ha.1 ha.2, gets_ne _ _ _ _ (by omega)]
    exact h3 ho q j hj
/-- a read, so far -/
structure RI (x : Core) (rec ws : List Int) (s : Int) (w : Nat) (last : List Int) : Prop where
  base : x.base = 1
  hw : x.w = (w : Int)
  hs : x.s = s
  op : x.op = 1
  code : x.code = 0
  holds : Holds ws s w last
  pa : x.over = false → 1 ≤ x.phase → x.a = ws.getD 1 0 % (s * 1048576)
  rc : x.over = false → rec = last.take (if x.phase = 1 then x.i.toNat else if x.phase = 2 then w else 0)
  done : x.over = true → rec = last
theorem read_step {x : Core} {rec ws : List Int} {s : Int} {w : Nat} {last : List Int} (mv : Value) (hS : Shape x rec) (ho : x.over = false) (hR : RI x rec ws s w last) :
    RI (step x mv rec ws).1 (step x mv rec ws).2.1 (step x mv rec ws).2.2 s w last := by
  obtain ⟨sw, ss2, sa, sc, st, sba, ss, si, sop⟩ := hS
  obtain ⟨hb, hw, hs, hop, hc, hh, h1, h3, h4⟩ := hR
  have si := si ho
  have h3 := h3 ho
  have hph : 0 ≤ x.phase ∧ x.phase ≤ 2 := by rcases sop with ⟨h, _⟩ | ⟨_, h, _⟩ <;> omega
  have eb : x.base.toNat = 1 := by omega
  have ew : x.w.toNat = w := by omega
  have ef2 : fromN ({ x with m := mv, steps := x.steps + 1 } : Core) = place s w x.a := by unfold fromN place; simp only []; rw [hs, hw]
  have hst : step x mv rec ws = stepR { x with m := mv, steps := x.steps + 1 } rec ws := by unfold step; rw [if_neg (by omega)]
  rw [hst]
  rcases (by omega : x.phase = 0 ∨ x.phase = 1 ∨ x.phase = 2) with q | q | q
  · unfold stepR
    rw [if_pos (show ({ x with m := mv, steps := x.steps + 1 } : Core).phase = 0 from q)]
    dsimp only
    rw [eb, hs]
    have h3 : rec = [] := by rw [h3, if_neg (show ¬ x.phase = 1 by omega), if_neg (show ¬ x.phase = 2 by omega)]; rfl
    exact ⟨hb, hw, rfl, hop, hc, hh, fun _ _ => rfl, fun _ => by rw [h3]; rfl, fun h => by simp [ho] at h⟩
  · unfold stepR
    rw [if_neg (show ¬ ({ x with m := mv, steps := x.steps + 1 } : Core).phase = 0 by show ¬ x.phase = 0; omega), if_pos (show ({ x with m := mv, steps := x.steps + 1 } : Core).phase = 1 from q), ef2]
    dsimp only
    rw [if_pos q] at h3
    have hlt : x.i.toNat < last.length := by have := hh.nl; omega
    have hnext : rec ++ [ws.getD (x.base.toNat + (place s w x.a + x.i.toNat)) 0] = last.take (x.i.toNat + 1) := by
      rw [eb, h1 ho (by omega), hh.data _ (by have := hh.nl; omega), h3]; exact take_next hlt
    rw [hnext]
    by_cases hle : x.w.toNat ≤ x.i.toNat + 1
    · rw [if_pos hle]
      exact ⟨hb, hw, hs, hop, hc, hh, fun _ _ => h1 ho (by omega), fun _ => by
        show List.take _ last = List.take (if (2 : Int) = 1 then _ else if (2 : Int) = 2 then w else 0) last
        rw [if_neg (by omega), if_pos rfl, take_all (by have := hh.nl; omega), take_all (by have := hh.nl; omega)], fun h => by simp [ho] at h⟩
    · rw [if_neg hle]
      exact ⟨hb, hw, hs, hop, hc, hh, fun _ _ => h1 ho (by omega), fun _ => by
        show List.take _ last = List.take (if x.phase = 1 then (((x.i.toNat : Nat) : Int) + 1).toNat else _) last
        rw [if_pos q]; congr 1, fun h => by simp [ho] at h⟩
  · unfold stepR
    rw [if_neg (show ¬ ({ x with m := mv, steps := x.steps + 1 } : Core).phase = 0 by show ¬ x.phase = 0; omega), if_neg (show ¬ ({ x with m := mv, steps := x.steps + 1 } : Core).phase = 1 by show ¬ x.phase = 1; omega)]
    dsimp only
    have h3 : rec = last := by rw [h3, if_neg (show ¬ x.phase = 1 by omega), if_pos q, take_all (by have := hh.nl; omega)]
    have hss := hh.ss
    have hg : word.gapU x.a (ws.getD (x.base.toNat + 0) 0 % (x.s * 1048576)) (x.s * 1048576) < x.s - 1 := by
      rw [eb, h1 ho (by omega), hs]
      show word.gapU (ws.getD 1 0 % (s * 1048576)) (ws.getD 1 0 % (s * 1048576)) (s * 1048576) < s - 1
      have e1 := Int.emod_nonneg (ws.getD 1 0) (show s * 1048576 ≠ 0 by omega)
      have e2 := Int.emod_lt_of_pos (ws.getD 1 0) (show 0 < s * 1048576 by omega)
      unfold word.gapU
      rw [if_neg (by omega), Int.emod_eq_of_lt e1 e2, show ws.getD 1 0 % (s * 1048576) + s * 1048576 - ws.getD 1 0 % (s * 1048576) = s * 1048576 by omega, Int.emod_self]
      omega
    rw [if_pos hg, if_pos hg]
    exact ⟨hb, hw, hs, hop, rfl, hh, fun h => by simp at h, fun h => by simp at h, fun _ => by rw [h3]; simp [endRec, hop]⟩
def keep : Keep K where
  Ok w s rl ws last := Holds ws s w.toNat last
  WI w s rl q new := WI q.1 q.2.1 q.2.2 s w.toNat new
  RI w s rl q last := RI q.1 q.2.1 q.2.2 s w.toNat last
  wstep mv hS ho h := write_step mv hS ho h
  rstep mv hS ho h := read_step mv hS ho h
  wend h ho := ⟨h.code, h.done ho⟩
  rend h ho := ⟨h.code, h.done ho, h.holds⟩
theorem fill_get (l ini : List Int) (F j : Nat) (h : F + ini.length ≤ l.length) (hj : j < ini.length) : (fillL l F ini).getD (F + j) 0 = ini.getD j 0 := by
  unfold fillL
  have h1 : (l.take F).length = F := by rw [List.length_take]; omega
  simp only [List.getD]
  rw [List.getElem?_append_right (by omega), h1, List.getElem?_append_left (by omega), show F + j - F = j by omega]
theorem fill_low (l ini : List Int) (F j : Nat) (h : F ≤ l.length) (hj : j < F) : (fillL l F ini).getD j 0 = l.getD j 0 := by
  unfold fillL
  simp only [List.getD]
  rw [List.getElem?_append_left (by rw [List.length_take]; omega), List.getElem?_take_of_lt hj]
theorem lay_len (s w st : Int) (ini : List Int) (hs : 2 ≤ s ∧ s ≤ 16) (hw : 1 ≤ w ∧ w ≤ 8) (hi : (ini.length : Int) = w) : (layL s w st ini).length = (1 + s * w).toNat := by
  obtain ⟨wN, rfl⟩ : ∃ wN : Nat, w = (wN : Int) := ⟨w.toNat, by omega⟩
  have h := place_fit (s := s) (c := st) (w := wN) hs (by omega)
  unfold layL
  unfold place at h
  rw [fillL_length _ _ _ (by rw [List.length_set, List.length_replicate]; omega), List.length_set, List.length_replicate]
theorem ok_start (w s : Int) (rl : Nat) (N wN : Nat) (st : Int) (ini : List Int) (hw : w = (wN : Int)) (hw8 : 1 ≤ w ∧ w ≤ 8) (hs : 2 ≤ s ∧ s ≤ 16) (hN : (1 + s * w).toNat = N) (hst : 0 ≤ st ∧ st < s * 1048576) (hi : ini.length = wN) : keep.Ok w s rl (readyL N (layL s w st ini)) ini := by
  have hl : (layL s w st ini).length = N := by rw [← hN]; exact lay_len s w st ini hs hw8 (by omega)
  have hg := ready_get N _ hl
  have ew : w.toNat = wN := by omega
  have hpf := place_fit (s := s) (c := st) (w := wN) hs (by omega)
  have hnn := Int.mul_nonneg (show 0 ≤ s by omega) (show 0 ≤ w by omega)
  have hsw : s * w = s * (wN : Int) := by rw [hw]
  have hF : (1 + (st % s) * w).toNat = place s wN st := by unfold place; rw [hw]
  have h0 : (layL s w st ini).getD 0 0 = st := by
    unfold layL
    rw [hF, fill_low _ _ _ _ (by rw [List.length_set, List.length_replicate]; omega) (by omega)]
    exact gets_same _ _ _ (by rw [List.length_replicate]; omega)
  have h1 : (readyL N (layL s w st ini)).getD 1 0 = st := by
    have := hg 0 (by omega)
    rw [h0] at this
    exact this
  refine ⟨?_, by omega, hs, by omega, fun j hj => ?_⟩
  · rw [ready_len N _ hl, ew]; omega
  · rw [ew] at hj ⊢
    rw [h1, Int.emod_eq_of_lt hst.1 hst.2, hg _ (by omega)]
    unfold layL
    rw [hF, fill_get _ _ _ _ (by rw [List.length_set, List.length_replicate]; omega) (by omega)]
theorem wi_start {w s : Int} {rl : Nat} {x : Core} {ws new last : List Int} (hw1 : 1 ≤ w) (hb : x.base = 1) (hw : x.w = w) (hs : x.s = s) (hop : x.op = 2) (hph : x.phase = 0) (hi : x.i = 0) (ht : x.tries = 0) (hv : x.over = false) (hc : x.code = 0) (hn : (new.length : Int) = w) (h : keep.Ok w s rl ws last) : keep.WI w s rl (x, new, ws) new :=
  ⟨hb, by rw [hw]; omega, hs, hop, hc, by omega, h.ss, h.ww, h.len, fun _ => rfl, fun _ h9 => by rw [hph] at h9; omega, fun _ h9 => by rw [hph] at h9; omega, fun _ h9 => by rw [hph] at h9; omega, fun h9 => by rw [hv] at h9; cases h9⟩
theorem ri_start {w s : Int} {rl : Nat} {x : Core} {ws last : List Int} (hw1 : 1 ≤ w) (hb : x.base = 1) (hw : x.w = w) (hs : x.s = s) (hop : x.op = 1) (hph : x.phase = 0) (hi : x.i = 0) (ht : x.tries = 0) (hv : x.over = false) (hc : x.code = 0) (h : keep.Ok w s rl ws last) : keep.RI w s rl (x, [], ws) last :=
  ⟨hb, by rw [hw]; omega, hs, hop, hc, h, fun _ h9 => by rw [hph] at h9; omega, fun _ => by rw [hph]; rfl, fun h9 => by rw [hv] at h9; cases h9⟩
end Go.Proofs.Ytjnmlfpljeddmaa.ring
