/- Package chen, plain: what is written is what is read. -/
import Derived.Test.YtapaolaemkhbdaaDoorChen4
import Derived.Test.YtapaolaemkhbdaaDoorKeep
namespace Go.Proofs.YtapaolaemkhbdaaDoor.chen
open Go Go.RowKit Go.Proofs.YtapaolaemkhbdaaDoor.kit Go.Proofs.YtapaolaemkhbdaaDoor.mem Go.Proofs.YtapaolaemkhbdaaDoor.rop Go.Proofs.YtapaolaemkhbdaaDoor.core
set_option linter.unusedVariables false
set_option linter.unusedSimpArgs false
set_option maxRecDepth 20000

/-- where the record of a slot begins -/
def pl (rl w : Nat) (c : Int) : Nat := 1 + rl + (c * (w : Int)).toNat
theorem pl_fit {rl w : Nat} {c s : Int} (hs : 1 ≤ s ∧ s ≤ 16) (hw : 1 ≤ w ∧ w ≤ 8) (hc : 0 ≤ c ∧ c < s) : 1 + rl ≤ pl rl w c ∧ (pl rl w c : Int) + w ≤ 1 + rl + s * w := by
  have h3 := mul_bd (c := c) (w := (w : Int)) (m := s - 1) ⟨hc.1, by omega⟩ (by omega) (by omega)
  have h4 : (s - 1) * (w : Int) = s * w - w := by rw [Int.sub_mul, Int.one_mul]
  unfold pl
  omega
theorem fill_get (l ini : List Int) (F j : Nat) (h : F + ini.length ≤ l.length) (hj : j < ini.length) : (fillL l F ini).getD (F + j) 0 = ini.getD j 0 := by
  unfold fillL
  have h1 : (l.take F).length = F := by rw [List.length_take]; omega
  simp only [List.getD]
  rw [List.getElem?_append_right (by omega), h1, List.getElem?_append_left (by omega), show F + j - F = j by omega]
theorem rep0 (n i : Nat) : (List.replicate n (0 : Int)).getD i 0 = 0 := by
  simp only [List.getD, List.getElem?_replicate]; split <;> rfl
theorem fill_low (l ini : List Int) (F j : Nat) (h : F ≤ l.length) (hj : j < F) : (fillL l F ini).getD j 0 = l.getD j 0 := by
  unfold fillL
  simp only [List.getD]
  rw [List.getElem?_append_left (by rw [List.length_take]; omega), List.getElem?_take_of_lt hj]
/-- an object's words tell the record that was written last -/
structure Holds (ws : List Int) (rl w : Nat) (new : List Int) : Prop where
  len : (2 : Int) + rl + ((rl : Int) + 2) * (w : Int) ≤ (ws.length : Int)
  nl : new.length = w
  rr : 1 ≤ rl ∧ rl ≤ 4
  ww : 1 ≤ w ∧ w ≤ 8
  cc : 0 ≤ ws.getD 1 0 ∧ ws.getD 1 0 < (rl : Int) + 2
  data : ∀ j, j < w → ws.getD (1 + (pl rl w (ws.getD 1 0) + j)) 0 = new.getD j 0
theorem Holds.reading {ws : List Int} {rl w : Nat} {new : List Int} (h : Holds ws rl w new) (r : Nat) (hr : r < rl) (v : Int) : Holds (ws.set (1 + (1 + r)) v) rl w new := by
  obtain ⟨h1, h2, h3, h4, hc, h5⟩ := h
  have hp := pl_fit (rl := rl) (s := (rl : Int) + 2) (c := ws.getD 1 0) (by omega) h4 hc
  have e : (ws.set (1 + (1 + r)) v).getD 1 0 = ws.getD 1 0 := gets_ne _ _ _ _ (by omega)
  refine ⟨by rw [List.length_set]; exact h1, h2, h3, h4, by rw [e]; exact hc, fun j hj => ?_⟩
  rw [e, gets_ne _ _ _ _ (by omega)]
  exact h5 j hj
theorem Holds.swap {ws : List Int} {rl w : Nat} {new : List Int} (h : Holds ws rl w new) (r : Nat) (hr : r < rl) (u v : Int) : Holds (swapL ws (1 + (1 + r)) u v) rl w new := by
  unfold swapL
  split
  · exact h.reading r hr v
  · exact h
/-- a write, so far -/
structure WI (x : Core) (rec ws : List Int) (rl w : Nat) (new : List Int) : Prop where
  base : x.base = 1
  hw : x.w = (w : Int)
  hrl : x.rl = rl
  op : x.op = 2
  code : x.code = 0
  nl : new.length = w
  len : (2 : Int) + rl + ((rl : Int) + 2) * (w : Int) ≤ (ws.length : Int)
  rc : x.over = false → rec = new
  half : x.over = false → x.phase = 2 → ∀ j, j < x.i.toNat → ws.getD (1 + (pl rl w x.b + j)) 0 = new.getD j 0
  full : x.over = false → x.phase = 3 → ∀ j, j < w → ws.getD (1 + (pl rl w x.b + j)) 0 = new.getD j 0
  fin : x.over = false → x.phase = 4 → Holds ws rl w new
  done : x.over = true → Holds ws rl w new
theorem write_step {x : Core} {rec ws : List Int} {rl w : Nat} {new : List Int} (mv : Value) (hS : Shape x rec) (ho : x.over = false) (h : WI x rec ws rl w new) :
    WI (step x mv rec ws).1 (step x mv rec ws).2.1 (step x mv rec ws).2.2 rl w new := by
  obtain ⟨sw, srl, sa, sb, srd, sba, ssz, smk, si, sop⟩ := hS
  obtain ⟨hb, hw, hrl, hop, hc, hn, hl, hr, h2, h3, h5, h4⟩ := h
  have si := si ho
  have hr := hr ho
  subst hr
  have hph : 0 ≤ x.phase ∧ x.phase ≤ 4 := by rcases sop with ⟨_, h, _⟩ | ⟨h, _⟩ <;> omega
  have eb : x.base.toNat = 1 := by omega
  have ew : x.w.toNat = w := by omega
  have ep : ∀ c, place ({ x with m := mv, steps := x.steps + 1 } : Core) c = pl rl w c := fun c => by unfold place pl; simp only []; rw [hrl, hw]
  have hpf := pl_fit (rl := rl) (w := w) (s := (rl : Int) + 2) (c := x.b) (by omega) (by omega) (by omega)
  have hst : step x mv rec ws = stepW { x with m := mv, steps := x.steps + 1 } rec ws := by unfold step; rw [if_pos hop]
  rw [hst]
  rcases (by omega : x.phase = 0 ∨ x.phase = 1 ∨ x.phase = 2 ∨ x.phase = 3 ∨ x.phase = 4) with q | q | q | q | q
  · unfold stepW
    rw [if_pos (show ({ x with m := mv, steps := x.steps + 1 } : Core).phase = 0 from q)]
    dsimp only
    exact ⟨hb, hw, by first | exact hrl | rfl, hop, hc, hn, hl, fun _ => rfl, fun _ h => by simp at h, fun _ h => by simp at h, fun _ h => by simp at h, fun h => by simp [ho] at h⟩
  · unfold stepW
    rw [if_neg (show ¬ ({ x with m := mv, steps := x.steps + 1 } : Core).phase = 0 by show ¬ x.phase = 0; omega), if_pos (show ({ x with m := mv, steps := x.steps + 1 } : Core).phase = 1 from q)]
    dsimp only
    unfold scanC
    dsimp only
    by_cases hle : x.rl ≤ x.i.toNat + 1
    · rw [if_pos hle]
      exact ⟨hb, hw, by first | exact hrl | rfl, hop, hc, hn, hl, fun _ => rfl, fun _ _ j hj => by simp at hj, fun _ h => by simp at h, fun _ h => by simp at h, fun h => by simp [ho] at h⟩
    · rw [if_neg hle]
      exact ⟨hb, hw, by first | exact hrl | rfl, hop, hc, hn, hl, fun _ => rfl, fun _ h => by have h9 : x.phase = 2 := h; omega, fun _ h => by have h9 : x.phase = 3 := h; omega, fun _ h => by have h9 : x.phase = 4 := h; omega, fun h => by simp [ho] at h⟩
  · rw [if_neg (by omega)] at si
    unfold stepW
    rw [if_neg (show ¬ ({ x with m := mv, steps := x.steps + 1 } : Core).phase = 0 by show ¬ x.phase = 0; omega), if_neg (show ¬ ({ x with m := mv, steps := x.steps + 1 } : Core).phase = 1 by show ¬ x.phase = 1; omega), if_pos (show ({ x with m := mv, steps := x.steps + 1 } : Core).phase = 2 from q)]
    dsimp only
    rw [show place ({ x with m := mv, steps := x.steps + 1 } : Core) x.b = pl rl w x.b from ep _, eb, ew]
    have hset : ∀ j, j < x.i.toNat + 1 → (ws.set (1 + (pl rl w x.b + x.i.toNat)) (rec.getD x.i.toNat 0)).getD (1 + (pl rl w x.b + j)) 0 = rec.getD j 0 := by
      intro j hj
      by_cases e : j = x.i.toNat
      · subst e; exact gets_same _ _ _ (by omega)
      · rw [gets_ne _ _ _ _ (by omega)]; exact h2 ho q j (by omega)
    by_cases hle : w ≤ x.i.toNat + 1
    · rw [if_pos hle]
      exact ⟨hb, hw, by first | exact hrl | rfl, hop, hc, hn, by rw [List.length_set]; exact hl, fun _ => rfl, fun _ h => by simp at h, fun _ _ j hj => hset j (by omega), fun _ h => by simp at h, fun h => by simp [ho] at h⟩
    · rw [if_neg hle]
      exact ⟨hb, hw, by first | exact hrl | rfl, hop, hc, hn, by rw [List.length_set]; exact hl, fun _ => rfl, fun _ _ j hj => hset j (by have h9 : j < ((x.i.toNat : Int) + 1).toNat := hj; omega), fun _ h => by have h9 : x.phase = 3 := h; omega, fun _ h => by have h9 : x.phase = 4 := h; omega, fun h => by simp [ho] at h⟩
  · unfold stepW
    rw [if_neg (show ¬ ({ x with m := mv, steps := x.steps + 1 } : Core).phase = 0 by show ¬ x.phase = 0; omega), if_neg (show ¬ ({ x with m := mv, steps := x.steps + 1 } : Core).phase = 1 by show ¬ x.phase = 1; omega), if_neg (show ¬ ({ x with m := mv, steps := x.steps + 1 } : Core).phase = 2 by show ¬ x.phase = 2; omega), if_pos (show ({ x with m := mv, steps := x.steps + 1 } : Core).phase = 3 from q)]
    dsimp only
    rw [eb]
    have hg1 : (ws.set (1 + 0) x.b).getD 1 0 = x.b := gets_same _ _ _ (by omega)
    refine ⟨hb, hw, by first | exact hrl | rfl, hop, hc, hn, by rw [List.length_set]; exact hl, fun _ => rfl, fun _ h => by simp at h, fun _ h => by simp at h, fun _ _ => ⟨by rw [List.length_set]; exact hl, hn, by omega, by omega, by rw [hg1]; omega, fun j hj => ?_⟩, fun h => by simp [ho] at h⟩
    rw [hg1, gets_ne _ _ _ _ (by omega)]
    exact h3 ho q j hj
  · rw [if_pos ⟨hop, .inr q⟩] at si
    unfold stepW
    rw [if_neg (show ¬ ({ x with m := mv, steps := x.steps + 1 } : Core).phase = 0 by show ¬ x.phase = 0; omega), if_neg (show ¬ ({ x with m := mv, steps := x.steps + 1 } : Core).phase = 1 by show ¬ x.phase = 1; omega), if_neg (show ¬ ({ x with m := mv, steps := x.steps + 1 } : Core).phase = 2 by show ¬ x.phase = 2; omega), if_neg (show ¬ ({ x with m := mv, steps := x.steps + 1 } : Core).phase = 3 by show ¬ x.phase = 3; omega)]
    dsimp only
    rw [eb, hrl]
    have hs := (h5 ho q).swap x.i.toNat (by omega) ((rl : Int) + 2) x.b
    have hsl : (2 : Int) + rl + ((rl : Int) + 2) * (w : Int) ≤ ((swapL ws (1 + (1 + x.i.toNat)) ((rl : Int) + 2) x.b).length : Int) := by rw [swapL_length]; exact hl
    by_cases hle : rl ≤ x.i.toNat + 1
    · rw [if_pos hle, if_pos hle]
      exact ⟨hb, hw, by first | exact hrl | rfl, hop, rfl, hn, hsl, fun h => by simp at h, fun h => by simp at h, fun h => by simp at h, fun h => by simp at h, fun _ => hs⟩
    · rw [if_neg hle, if_neg hle]
      exact ⟨hb, hw, by first | exact hrl | rfl, hop, hc, hn, hsl, fun _ => rfl, fun _ h => by have h9 : x.phase = 2 := h; omega, fun _ h => by have h9 : x.phase = 3 := h; omega, fun _ _ => hs, fun h => by simp [ho] at h⟩
/-- a read, so far -/
structure RI (x : Core) (rec ws : List Int) (rl w : Nat) (last : List Int) : Prop where
  base : x.base = 1
  hw : x.w = (w : Int)
  hrl : x.rl = rl
  op : x.op = 1
  code : x.code = 0
  holds : Holds ws rl w last
  own : x.over = false → x.phase = 1 ∨ x.phase = 2 → ws.getD (1 + (1 + x.reader.toNat)) 0 = (rl : Int) + 2
  pa : x.over = false → x.phase = 2 → x.a = ws.getD 1 0
  oa : x.over = false → x.phase = 3 → ws.getD (1 + (1 + x.reader.toNat)) 0 = ws.getD 1 0
  pb : x.over = false → x.phase = 4 → x.b = ws.getD 1 0
  rc : x.over = false → rec = last.take (if x.phase = 4 then x.i.toNat else 0)
  done : x.over = true → rec = last
theorem read_step {x : Core} {rec ws : List Int} {rl w : Nat} {last : List Int} (mv : Value) (hS : Shape x rec) (ho : x.over = false) (hR : RI x rec ws rl w last) :
    RI (step x mv rec ws).1 (step x mv rec ws).2.1 (step x mv rec ws).2.2 rl w last := by
  obtain ⟨sw, srl, sa, sb, srd, sba, ssz, smk, si, sop⟩ := hS
  obtain ⟨hb, hw, hrl, hop, hc, hh, ho1, h1, ho3, hb4, h3, h4⟩ := hR
  have si := si ho
  have h3 := h3 ho
  rw [if_neg (by omega)] at si
  have hph : 0 ≤ x.phase ∧ x.phase ≤ 4 := by rcases sop with ⟨h, _⟩ | ⟨_, h, _⟩ <;> omega
  have eb : x.base.toNat = 1 := by omega
  have ew : x.w.toNat = w := by omega
  have ep : ∀ c, place ({ x with m := mv, steps := x.steps + 1 } : Core) c = pl rl w c := fun c => by unfold place pl; simp only []; rw [hrl, hw]
  have hrr : x.reader.toNat < rl := by omega
  have hcc := hh.cc
  have hpc := pl_fit (rl := rl) (w := w) (s := (rl : Int) + 2) (c := ws.getD 1 0) (by omega) (by omega) (by omega)
  have hlen := hh.len
  have hlo : 1 + (1 + x.reader.toNat) < ws.length := by omega
  have hg1 : ∀ v, (ws.set (1 + (1 + x.reader.toNat)) v).getD 1 0 = ws.getD 1 0 := fun v => gets_ne _ _ _ _ (by omega)
  have hst : step x mv rec ws = stepR { x with m := mv, steps := x.steps + 1 } rec ws := by unfold step; rw [if_neg (by omega)]
  rw [hst]
  rcases (by omega : x.phase = 0 ∨ x.phase = 1 ∨ x.phase = 2 ∨ x.phase = 3 ∨ x.phase = 4) with q | q | q | q | q
  · unfold stepR
    rw [if_pos (show ({ x with m := mv, steps := x.steps + 1 } : Core).phase = 0 from q)]
    dsimp only
    rw [eb, hrl]
    have h3 : rec = [] := by rw [h3, if_neg (show ¬ x.phase = 4 by omega)]; rfl
    exact ⟨hb, hw, by first | exact hrl | rfl, hop, hc, hh.reading _ hrr _, fun _ _ => gets_same _ _ _ hlo, fun _ h => by simp at h, fun _ h => by simp at h, fun _ h => by simp at h, fun _ => by rw [h3]; rfl, fun h => by simp [ho] at h⟩
  · unfold stepR
    rw [if_neg (show ¬ ({ x with m := mv, steps := x.steps + 1 } : Core).phase = 0 by show ¬ x.phase = 0; omega), if_pos (show ({ x with m := mv, steps := x.steps + 1 } : Core).phase = 1 from q)]
    dsimp only
    rw [eb]
    have h3 : rec = [] := by rw [h3, if_neg (show ¬ x.phase = 4 by omega)]; rfl
    exact ⟨hb, hw, by first | exact hrl | rfl, hop, hc, hh, fun _ _ => ho1 ho (.inl q), fun _ _ => rfl, fun _ h => by simp at h, fun _ h => by simp at h, fun _ => by rw [h3]; rfl, fun h => by simp [ho] at h⟩
  · unfold stepR
    rw [if_neg (show ¬ ({ x with m := mv, steps := x.steps + 1 } : Core).phase = 0 by show ¬ x.phase = 0; omega), if_neg (show ¬ ({ x with m := mv, steps := x.steps + 1 } : Core).phase = 1 by show ¬ x.phase = 1; omega), if_pos (show ({ x with m := mv, steps := x.steps + 1 } : Core).phase = 2 from q)]
    dsimp only
    rw [eb, hrl]
    have hsw : swapL ws (1 + (1 + x.reader.toNat)) ((rl : Int) + 2) x.a = ws.set (1 + (1 + x.reader.toNat)) x.a := by unfold swapL; rw [if_pos (ho1 ho (.inr q))]
    rw [hsw]
    have h3 : rec = [] := by rw [h3, if_neg (show ¬ x.phase = 4 by omega)]; rfl
    exact ⟨hb, hw, by first | exact hrl | rfl, hop, hc, hh.reading _ hrr _, fun _ h => by simp at h, fun _ h => by simp at h, fun _ _ => by rw [hg1]; exact (gets_same _ _ _ hlo).trans (h1 ho q), fun _ h => by simp at h, fun _ => by rw [h3]; rfl, fun h => by simp [ho] at h⟩
  · unfold stepR
    rw [if_neg (show ¬ ({ x with m := mv, steps := x.steps + 1 } : Core).phase = 0 by show ¬ x.phase = 0; omega), if_neg (show ¬ ({ x with m := mv, steps := x.steps + 1 } : Core).phase = 1 by show ¬ x.phase = 1; omega), if_neg (show ¬ ({ x with m := mv, steps := x.steps + 1 } : Core).phase = 2 by show ¬ x.phase = 2; omega), if_pos (show ({ x with m := mv, steps := x.steps + 1 } : Core).phase = 3 from q)]
    dsimp only
    rw [eb, hrl, ho3 ho q, Int.emod_eq_of_lt hcc.1 hcc.2]
    have h3 : rec = [] := by rw [h3, if_neg (show ¬ x.phase = 4 by omega)]; rfl
    exact ⟨hb, hw, by first | exact hrl | rfl, hop, hc, hh, fun _ h => by simp at h, fun _ h => by simp at h, fun _ h => by simp at h, fun _ _ => rfl, fun _ => by rw [h3]; rfl, fun h => by simp [ho] at h⟩
  · unfold stepR
    rw [if_neg (show ¬ ({ x with m := mv, steps := x.steps + 1 } : Core).phase = 0 by show ¬ x.phase = 0; omega), if_neg (show ¬ ({ x with m := mv, steps := x.steps + 1 } : Core).phase = 1 by show ¬ x.phase = 1; omega), if_neg (show ¬ ({ x with m := mv, steps := x.steps + 1 } : Core).phase = 2 by show ¬ x.phase = 2; omega), if_neg (show ¬ ({ x with m := mv, steps := x.steps + 1 } : Core).phase = 3 by show ¬ x.phase = 3; omega)]
    dsimp only
    rw [if_pos q] at h3
    have hnl := hh.nl
    have hlt : x.i.toNat < last.length := by omega
    have hnext : rec ++ [ws.getD (x.base.toNat + (place ({ x with m := mv, steps := x.steps + 1 } : Core) x.b + x.i.toNat)) 0] = last.take (x.i.toNat + 1) := by
      rw [eb, ep, hb4 ho q, hh.data _ (by omega), h3]; exact take_next hlt
    rw [hnext]
    by_cases hle : x.w.toNat ≤ x.i.toNat + 1
    · rw [if_pos hle, if_pos hle]
      exact ⟨hb, hw, by first | exact hrl | rfl, hop, rfl, hh, fun h => by simp at h, fun h => by simp at h, fun h => by simp at h, fun h => by simp at h, fun h => by simp at h, fun _ => by rw [take_all (by omega)]; simp [endRec, hop]⟩
    · rw [if_neg hle, if_neg hle]
      exact ⟨hb, hw, by first | exact hrl | rfl, hop, hc, hh, fun _ h => by have h9 : x.phase = 1 ∨ x.phase = 2 := h; omega, fun _ h => by have h9 : x.phase = 2 := h; omega, fun _ h => by have h9 : x.phase = 3 := h; omega, fun _ _ => hb4 ho q, fun _ => by
        show List.take _ last = List.take (if x.phase = 4 then (((x.i.toNat : Nat) : Int) + 1).toNat else _) last
        rw [if_pos q]; congr 1, fun h => by simp [ho] at h⟩
def keep : Keep K where
  Ok w _ rl ws last := Holds ws rl w.toNat last
  WI w _ rl q new := WI q.1 q.2.1 q.2.2 rl w.toNat new
  RI w _ rl q last := RI q.1 q.2.1 q.2.2 rl w.toNat last
  wstep mv hS ho h := write_step mv hS ho h
  rstep mv hS ho h := read_step mv hS ho h
  wend h ho := ⟨h.code, h.done ho⟩
  rend h ho := ⟨h.code, h.done ho, h.holds⟩
theorem lay_len (w : Int) (rl : Nat) (ini : List Int) (hr : 1 ≤ rl ∧ rl ≤ 4) (hw : 1 ≤ w ∧ w ≤ 8) (hi : (ini.length : Int) = w) : (layL w rl ini).length = 1 + rl + (((rl : Int) + 2) * w).toNat := by
  have h6 := mul_bd (c := 1) (w := w) (m := (rl : Int) + 2) ⟨by omega, by omega⟩ (by omega) (by omega)
  unfold layL
  rw [fillL_length _ _ _ (by rw [List.length_replicate]; omega), List.length_replicate]
theorem ok_start (w s : Int) (rl : Nat) (N wN : Nat) (ini : List Int) (hw : w = (wN : Int)) (hw8 : 1 ≤ w ∧ w ≤ 8) (hr : 1 ≤ rl ∧ rl ≤ 4) (hN : 1 + rl + (((rl : Int) + 2) * w).toNat = N) (hi : ini.length = wN) : keep.Ok w s rl (readyL N (layL w rl ini)) ini := by
  have hl : (layL w rl ini).length = N := by rw [← hN]; exact lay_len w rl ini hr hw8 (by omega)
  have hg := ready_get N _ hl
  have ew : w.toNat = wN := by omega
  have hnn := Int.mul_nonneg (show 0 ≤ (rl : Int) + 2 by omega) (show 0 ≤ w by omega)
  have h6 := mul_bd (c := 1) (w := w) (m := (rl : Int) + 2) ⟨by omega, by omega⟩ (by omega) (by omega)
  have hsw : ((rl : Int) + 2) * w = ((rl : Int) + 2) * (wN : Int) := by rw [hw]
  have h0 : (layL w rl ini).getD 0 0 = 0 := by
    unfold layL
    rw [fill_low _ _ _ _ (by rw [List.length_replicate]; omega) (by omega)]
    exact rep0 _ _
  have h1 : (readyL N (layL w rl ini)).getD 1 0 = 0 := by
    have := hg 0 (by omega)
    rw [h0] at this
    exact this
  refine ⟨?_, by omega, hr, by omega, by rw [h1]; omega, fun j hj => ?_⟩
  · rw [ready_len N _ hl, ew]; omega
  · rw [ew] at hj ⊢
    rw [h1, show pl rl wN 0 = 1 + rl by simp [pl], hg _ (by omega)]
    unfold layL
    rw [fill_get _ _ _ _ (by rw [List.length_replicate]; omega) (by omega)]
theorem wi_start {w s : Int} {rl : Nat} {x : Core} {ws new last : List Int} (hw1 : 1 ≤ w) (hb : x.base = 1) (hw : x.w = w) (hrl : x.rl = rl) (hop : x.op = 2) (hph : x.phase = 0) (hi : x.i = 0) (ht : x.tries = 0) (hv : x.over = false) (hc : x.code = 0) (hn : (new.length : Int) = w) (h : keep.Ok w s rl ws last) : keep.WI w s rl (x, new, ws) new :=
  ⟨hb, by rw [hw]; omega, hrl, hop, hc, by omega, h.len, fun _ => rfl, fun _ h9 => by rw [hph] at h9; omega, fun _ h9 => by rw [hph] at h9; omega, fun _ h9 => by rw [hph] at h9; omega, fun h9 => by rw [hv] at h9; cases h9⟩
theorem ri_start {w s : Int} {rl : Nat} {x : Core} {ws last : List Int} (hw1 : 1 ≤ w) (hb : x.base = 1) (hw : x.w = w) (hrl : x.rl = rl) (hop : x.op = 1) (hph : x.phase = 0) (hi : x.i = 0) (ht : x.tries = 0) (hv : x.over = false) (hc : x.code = 0) (h : keep.Ok w s rl ws last) : keep.RI w s rl (x, [], ws) last :=
  ⟨hb, by rw [hw]; omega, hrl, hop, hc, h, fun _ h9 => by rw [hph] at h9; omega, fun _ h9 => by rw [hph] at h9; omega, fun _ h9 => by rw [hph] at h9; omega, fun _ h9 => by rw [hph] at h9; omega, fun _ => by rw [hph]; rfl, fun h9 => by rw [hv] at h9; cases h9⟩
end Go.Proofs.YtapaolaemkhbdaaDoor.chen
