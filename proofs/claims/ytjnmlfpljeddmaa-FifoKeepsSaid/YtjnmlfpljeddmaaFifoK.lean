/- Package fifo, plain: puts and takes, one behind the other, are those of a queue. -/
import Derived.Test.YtjnmlfpljeddmaaFifo4
import Derived.Test.YtjnmlfpljeddmaaKeep
namespace Go.Proofs.Ytjnmlfpljeddmaa.fifo
open Go Go.RowKit Go.Proofs.Ytjnmlfpljeddmaa.kit Go.Proofs.Ytjnmlfpljeddmaa.mem Go.Proofs.Ytjnmlfpljeddmaa.rop Go.Proofs.Ytjnmlfpljeddmaa.core
set_option linter.unusedVariables false
set_option linter.unusedSimpArgs false
set_option maxRecDepth 20000

/-- where the record of a count begins -/
def place (s w c : Int) : Nat := (2 + (c % s) * w).toNat
theorem place_congr {s w c d : Int} (h : c % s = d % s) : place s w c = place s w d := by unfold place; rw [h]
theorem place_fit {s c : Int} {w : Nat} (hs : 1 ≤ s ∧ s ≤ 16) (hw : 1 ≤ w ∧ w ≤ 8) : 2 ≤ place s w c ∧ (place s w c : Int) + w ≤ 2 + s * w ∧ (place s w c : Int) = 2 + (c % s) * w := by
  have h1 := Int.emod_lt_of_pos c (show 0 < s by omega)
  have h2 := Int.emod_nonneg c (show s ≠ 0 by omega)
  have h3 := mul_bd (c := c % s) (w := (w : Int)) (m := s - 1) ⟨h2, by omega⟩ (by omega) (by omega)
  have h4 : (s - 1) * (w : Int) = s * w - w := by rw [Int.sub_mul, Int.one_mul]
  unfold place
  omega
theorem place_ne {s c d : Int} {w j k : Nat} (hs : 1 ≤ s ∧ s ≤ 16) (hw : 1 ≤ w ∧ w ≤ 8) (h : c % s ≠ d % s) (hj : j < w) (hk : k < w) : place s w c + j ≠ place s w d + k := by
  have h1 := (place_fit (c := c) hs hw).2.2
  have h2 := (place_fit (c := d) hs hw).2.2
  rcases Int.lt_or_gt_of_ne h with h3 | h3
  · have h4 := Int.mul_le_mul_of_nonneg_right (show c % s + 1 ≤ d % s by omega) (show 0 ≤ (w : Int) by omega)
    rw [Int.add_mul, Int.one_mul] at h4
    omega
  · have h4 := Int.mul_le_mul_of_nonneg_right (show d % s + 1 ≤ c % s by omega) (show 0 ≤ (w : Int) by omega)
    rw [Int.add_mul, Int.one_mul] at h4
    omega
theorem emod_ne {s a b : Int} (h0 : 0 < b - a) (h1 : b - a < s) : a % s ≠ b % s := by
  intro h
  have h2 := Int.emod_eq_emod_iff_emod_sub_eq_zero.1 h.symm
  rw [Int.emod_eq_of_lt (by omega) h1] at h2
  omega
theorem mod_twice (a s : Int) : a % (2 * s) % s = a % s := Int.emod_emod_of_dvd a ⟨2, Int.mul_comm 2 s⟩
theorem add_mod {h n m : Int} (h0 : 0 ≤ h ∧ h < m) (hn : 0 ≤ n ∧ n < m) : (h + n) % m = if h + n < m then h + n else h + n - m := by
  split
  · exact Int.emod_eq_of_lt (by omega) (by omega)
  · rw [show h + n = (h + n - m) + m by omega, Int.add_emod_right, Int.emod_eq_of_lt (by omega) (by omega)]; omega
theorem gap_len {h n m : Int} (h0 : 0 ≤ h ∧ h < m) (hn : 0 ≤ n ∧ n < m) : word.gapU (h % m) ((h + n) % m) m = n := by
  unfold word.gapU
  rw [if_neg (by omega), Int.emod_emod, Int.emod_emod, Int.emod_eq_of_lt h0.1 h0.2, add_mod h0 hn]
  split
  · rw [show h + n + m - h = n + m by omega, Int.add_emod_right, Int.emod_eq_of_lt hn.1 hn.2]
  · rw [show h + n - m + m - h = n by omega, Int.emod_eq_of_lt hn.1 hn.2]

/-- an object's words (it stands at 1) hold this queue -/
structure Holds (ws : List Int) (s : Int) (w : Nat) (q : List (List Int)) : Prop where
  len : (3 : Int) + s * (w : Int) ≤ (ws.length : Int)
  ss : 1 ≤ s ∧ s ≤ 16
  ww : 1 ≤ w ∧ w ≤ 8
  head : 0 ≤ ws.getD 1 0 ∧ ws.getD 1 0 < 2 * s
  tail : ws.getD 2 0 = (ws.getD 1 0 + (q.length : Int)) % (2 * s)
  few : (q.length : Int) ≤ s
  data : ∀ (i : Nat) r, q[i]? = some r → r.length = w ∧ ∀ j, j < w → ws.getD (1 + (place s w (ws.getD 1 0 + (i : Int)) + j)) 0 = r.getD j 0
/-- a put, so far -/
structure PI (x : Core) (rec ws : List Int) (s : Int) (w : Nat) (q : List (List Int)) (new : List Int) : Prop where
  base : x.base = 1
  hw : x.w = (w : Int)
  hs : x.s = s
  op : x.op = 3
  nl : new.length = w
  now : x.over = false → Holds ws s w q
  st0 : x.over = false → x.phase = 0 → x.steps = 0
  st1 : x.over = false → x.phase = 1 → x.steps = 1
  a : x.over = false → 1 ≤ x.phase → x.a = ws.getD 2 0
  room : x.over = false → 2 ≤ x.phase → (q.length : Int) < s
  rc : x.over = false → rec = new
  half : x.over = false → x.phase = 2 → ∀ j, j < x.i.toNat → ws.getD (1 + (place s w x.a + j)) 0 = new.getD j 0
  full : x.over = false → x.phase = 3 → ∀ j, j < w → ws.getD (1 + (place s w x.a + j)) 0 = new.getD j 0
  done : x.over = true → rec = [] ∧ (((q.length : Int) = s ∧ x.code = 2 ∧ x.steps = 2 ∧ Holds ws s w q) ∨ ((q.length : Int) < s ∧ x.code = 0 ∧ Holds ws s w (q ++ [new])))
theorem Holds.aim {ws : List Int} {s : Int} {w : Nat} {q : List (List Int)} (h : Holds ws s w q) {a : Int} (ha : a = ws.getD 2 0) : a % s = (ws.getD 1 0 + (q.length : Int)) % s := by
  rw [ha, h.tail, mod_twice]
theorem put_step {x : Core} {rec ws : List Int} {s : Int} {w : Nat} {q : List (List Int)} {new : List Int} (mv : Value) (hS : Shape x rec) (ho : x.over = false) (h : PI x rec ws s w q new) :
    PI (step x mv rec ws).1 (step x mv rec ws).2.1 (step x mv rec ws).2.2 s w q new := by
  obtain ⟨sw, ss2, sa, sba, ssz, si, sop⟩ := hS
  obtain ⟨hb, hw, hs, hop, hn, h0, hst0, hst1, ha, hrm, hr, hhf, hfl, hdn⟩ := h
  have h0 := h0 ho
  have hhead := h0.head; have htl := h0.tail; have hfew := h0.few; have hss := h0.ss; have hww := h0.ww; have hlen := h0.len
  have si := si ho
  have hr := hr ho
  subst hr
  have hph : 0 ≤ x.phase ∧ x.phase ≤ 3 := by rcases sop with ⟨_, h, _⟩ | ⟨h, _⟩ <;> omega
  have eb : x.base.toNat = 1 := by omega
  have ew : x.w.toNat = w := by omega
  have hpf := place_fit (c := x.a) hss hww
  have hst : step x mv rec ws = stepW { x with m := mv, steps := x.steps + 1 } rec ws := by unfold step; rw [if_pos hop]
  have ef2 : fromN ({ x with m := mv, steps := x.steps + 1 } : Core) = place s w x.a := by unfold fromN place; simp only []; rw [hs, hw]
  rw [hst]
  rcases (by omega : x.phase = 0 ∨ x.phase = 1 ∨ x.phase = 2 ∨ x.phase = 3) with p | p | p | p
  · unfold stepW
    rw [if_pos (show ({ x with m := mv, steps := x.steps + 1 } : Core).phase = 0 from p)]
    dsimp only
    rw [eb, hs]
    have h2 : ws.getD (1 + 1) 0 % (2 * s) = ws.getD 2 0 := by
      show ws.getD 2 0 % (2 * s) = ws.getD 2 0
      rw [htl, Int.emod_emod]
    have h3 := hst0 ho p
    exact ⟨hb, hw, rfl, hop, hn, fun _ => h0, fun _ h => by simp at h, fun _ _ => by simp only []; omega, fun _ _ => h2, fun _ h => by simp at h, fun _ => rfl, fun _ h => by simp at h, fun _ h => by simp at h, fun h => by simp [ho] at h⟩
  · unfold stepW
    rw [if_neg (show ¬ ({ x with m := mv, steps := x.steps + 1 } : Core).phase = 0 by show ¬ x.phase = 0; omega), if_pos (show ({ x with m := mv, steps := x.steps + 1 } : Core).phase = 1 from p)]
    dsimp only
    rw [eb, hs]
    have hg : word.gapU (ws.getD (1 + 0) 0 % (2 * s)) x.a (2 * s) = (q.length : Int) := by
      rw [ha ho (by omega), htl]
      exact gap_len hhead ⟨by omega, by omega⟩
    rw [hg]
    have h3 := hst1 ho p
    by_cases hf : s ≤ (q.length : Int)
    · rw [if_pos hf, if_pos hf]
      exact ⟨hb, hw, rfl, hop, hn, fun h => by simp at h, fun h => by simp at h, fun h => by simp at h, fun h => by simp at h, fun h => by simp at h, fun h => by simp at h, fun h => by simp at h, fun h => by simp at h, fun _ => ⟨by simp [endRec], .inl ⟨by omega, rfl, by simp only []; omega, h0⟩⟩⟩
    · rw [if_neg hf, if_neg hf]
      exact ⟨hb, hw, rfl, hop, hn, fun _ => h0, fun _ h => by simp at h, fun _ h => by simp at h, fun _ _ => ha ho (by omega), fun _ _ => by omega, fun _ => rfl, fun _ _ j hj => by simp at hj, fun _ h => by simp at h, fun h => by simp [ho] at h⟩
  · unfold stepW
    rw [if_neg (show ¬ ({ x with m := mv, steps := x.steps + 1 } : Core).phase = 0 by show ¬ x.phase = 0; omega), if_neg (show ¬ ({ x with m := mv, steps := x.steps + 1 } : Core).phase = 1 by show ¬ x.phase = 1; omega), if_pos (show ({ x with m := mv, steps := x.steps + 1 } : Core).phase = 2 from p), ef2]
    dsimp only
    rw [eb, ew]
    have hrm := hrm ho (by omega)
    have ha := ha ho (by omega)
    have haim := h0.aim ha
    have hii : x.i.toNat < w := by omega
    have hset : ∀ j, j < x.i.toNat + 1 → (ws.set (1 + (place s w x.a + x.i.toNat)) (rec.getD x.i.toNat 0)).getD (1 + (place s w x.a + j)) 0 = rec.getD j 0 := by
      intro j hj
      by_cases e : j = x.i.toNat
      · subst e; exact gets_same _ _ _ (by omega)
      · rw [gets_ne _ _ _ _ (by omega)]; exact hhf ho p j (by omega)
    have g1 : (ws.set (1 + (place s w x.a + x.i.toNat)) (rec.getD x.i.toNat 0)).getD 1 0 = ws.getD 1 0 := gets_ne _ _ _ _ (by omega)
    have g2 : (ws.set (1 + (place s w x.a + x.i.toNat)) (rec.getD x.i.toNat 0)).getD 2 0 = ws.getD 2 0 := gets_ne _ _ _ _ (by omega)
    have h0' : Holds (ws.set (1 + (place s w x.a + x.i.toNat)) (rec.getD x.i.toNat 0)) s w q := by
      refine ⟨by rw [List.length_set]; exact hlen, hss, hww, by rw [g1]; exact hhead, by rw [g1, g2]; exact htl, hfew, fun i r hi => ?_⟩
      obtain ⟨d1, d2⟩ := h0.data i r hi
      have hil : i < q.length := (List.getElem?_eq_some_iff.1 hi).1
      refine ⟨d1, fun j hj => ?_⟩
      rw [g1, gets_ne]
      · exact d2 j hj
      · have hne : (ws.getD 1 0 + (i : Int)) % s ≠ x.a % s := by
          rw [haim]; exact emod_ne (by omega) (by omega)
        have := place_ne (c := ws.getD 1 0 + (i : Int)) (d := x.a) hss hww hne hj hii
        omega
    by_cases hle : w ≤ x.i.toNat + 1
    · rw [if_pos hle]
      exact ⟨hb, hw, hs, hop, hn, fun _ => h0', fun _ h => by simp at h, fun _ h => by simp at h, fun _ _ => by rw [g2]; exact ha, fun _ _ => hrm, fun _ => rfl, fun _ h => by simp at h, fun _ _ j hj => hset j (by omega), fun h => by simp [ho] at h⟩
    · rw [if_neg hle]
      exact ⟨hb, hw, hs, hop, hn, fun _ => h0', fun _ h => by have h9 : x.phase = 0 := h; omega, fun _ h => by have h9 : x.phase = 1 := h; omega, fun _ _ => by rw [g2]; exact ha, fun _ _ => hrm, fun _ => rfl, fun _ _ j hj => hset j (by have h9 : j < ((x.i.toNat : Int) + 1).toNat := hj; omega), fun _ h => by have h9 : x.phase = 3 := h; omega, fun h => by simp [ho] at h⟩
  · unfold stepW
    rw [if_neg (show ¬ ({ x with m := mv, steps := x.steps + 1 } : Core).phase = 0 by show ¬ x.phase = 0; omega), if_neg (show ¬ ({ x with m := mv, steps := x.steps + 1 } : Core).phase = 1 by show ¬ x.phase = 1; omega), if_neg (show ¬ ({ x with m := mv, steps := x.steps + 1 } : Core).phase = 2 by show ¬ x.phase = 2; omega)]
    dsimp only
    rw [eb, hs]
    have hrm := hrm ho (by omega)
    have ha := ha ho (by omega)
    have haim := h0.aim ha
    have hfl := hfl ho p
    have g2 : (ws.set (1 + 1) ((x.a + 1) % (2 * s))).getD 2 0 = (x.a + 1) % (2 * s) := gets_same _ _ _ (by omega)
    have g1 : (ws.set (1 + 1) ((x.a + 1) % (2 * s))).getD 1 0 = ws.getD 1 0 := gets_ne _ _ _ _ (by omega)
    refine ⟨hb, hw, rfl, hop, hn, fun h => by simp at h, fun h => by simp at h, fun h => by simp at h, fun h => by simp at h, fun h => by simp at h, fun h => by simp at h, fun h => by simp at h, fun h => by simp at h, fun _ => ⟨by simp [endRec, hop], .inr ⟨hrm, rfl, ?_⟩⟩⟩
    refine ⟨by rw [List.length_set]; exact hlen, hss, hww, by rw [g1]; exact hhead, ?_, by rw [List.length_append]; simp; omega, fun i r hi => ?_⟩
    · rw [g1, g2, ha, htl, Int.emod_add_emod, List.length_append]
      simp only [List.length_cons, List.length_nil]
      congr 1
      push_cast
      omega
    · have hp2 := fun c => (place_fit (c := c) hss hww).1
      rcases Nat.lt_or_ge i q.length with hlt | hge
      · rw [List.getElem?_append_left hlt] at hi
        obtain ⟨d1, d2⟩ := h0.data i r hi
        refine ⟨d1, fun j hj => ?_⟩
        rw [g1, gets_ne _ _ _ _ (by have := hp2 (ws.getD 1 0 + (i : Int)); omega)]
        exact d2 j hj
      · have hil : i = q.length := by
          have := (List.getElem?_eq_some_iff.1 hi).1
          simp at this; omega
        subst hil
        rw [List.getElem?_append_right (Nat.le_refl _)] at hi
        simp at hi
        subst hi
        refine ⟨hn, fun j hj => ?_⟩
        rw [g1, gets_ne _ _ _ _ (by have := hp2 (ws.getD 1 0 + (q.length : Int)); omega), ← place_congr haim]
        exact hfl j hj
/-- a take, so far -/
structure TI (x : Core) (rec ws : List Int) (s : Int) (w : Nat) (q : List (List Int)) : Prop where
  base : x.base = 1
  hw : x.w = (w : Int)
  hs : x.s = s
  op : x.op = 4
  now : x.over = false → Holds ws s w q
  st0 : x.over = false → x.phase = 0 → x.steps = 0
  st1 : x.over = false → x.phase = 1 → x.steps = 1
  a : x.over = false → 1 ≤ x.phase → x.a = ws.getD 1 0
  some_ : x.over = false → 2 ≤ x.phase → 0 < q.length
  rc : x.over = false → rec = (if x.phase = 2 then (q.headD []).take x.i.toNat else if x.phase = 3 then q.headD [] else [])
  done : x.over = true → (q.length = 0 ∧ x.code = 3 ∧ rec = [] ∧ x.steps = 2 ∧ Holds ws s w q) ∨ (0 < q.length ∧ x.code = 0 ∧ rec = q.headD [] ∧ Holds ws s w q.tail)
theorem take_step {x : Core} {rec ws : List Int} {s : Int} {w : Nat} {q : List (List Int)} (mv : Value) (hS : Shape x rec) (ho : x.over = false) (h : TI x rec ws s w q) :
    TI (step x mv rec ws).1 (step x mv rec ws).2.1 (step x mv rec ws).2.2 s w q := by
  obtain ⟨sw, ss2, sa, sba, ssz, si, sop⟩ := hS
  obtain ⟨hb, hw, hs, hop, h0, hst0, hst1, ha, hsm, hr, hdn⟩ := h
  have h0 := h0 ho
  have hhead := h0.head; have htl := h0.tail; have hfew := h0.few; have hss := h0.ss; have hww := h0.ww; have hlen := h0.len
  have si := si ho
  have hr := hr ho
  have hph : 0 ≤ x.phase ∧ x.phase ≤ 3 := by rcases sop with ⟨h, _⟩ | ⟨_, h, _⟩ <;> omega
  have eb : x.base.toNat = 1 := by omega
  have ew : x.w.toNat = w := by omega
  have hpf := place_fit (c := x.a) hss hww
  have hst : step x mv rec ws = stepR { x with m := mv, steps := x.steps + 1 } rec ws := by unfold step; rw [if_neg (by omega)]
  have ef2 : fromN ({ x with m := mv, steps := x.steps + 1 } : Core) = place s w x.a := by unfold fromN place; simp only []; rw [hs, hw]
  have hhd : 0 < q.length → (q.headD []).length = w ∧ ∀ j, j < w → ws.getD (1 + (place s w (ws.getD 1 0) + j)) 0 = (q.headD []).getD j 0 := by
    intro hq
    cases q with
    | nil => simp at hq
    | cons r q =>
      have := h0.data 0 r rfl
      simpa using this
  rw [hst]
  rcases (by omega : x.phase = 0 ∨ x.phase = 1 ∨ x.phase = 2 ∨ x.phase = 3) with p | p | p | p
  · unfold stepR
    rw [if_pos (show ({ x with m := mv, steps := x.steps + 1 } : Core).phase = 0 from p)]
    dsimp only
    rw [eb, hs]
    have h2 : ws.getD (1 + 0) 0 % (2 * s) = ws.getD 1 0 := Int.emod_eq_of_lt hhead.1 hhead.2
    have h3 := hst0 ho p
    have hr0 : rec = [] := by rw [hr, if_neg (show ¬ x.phase = 2 by omega), if_neg (show ¬ x.phase = 3 by omega)]
    exact ⟨hb, hw, rfl, hop, fun _ => h0, fun _ h => by simp at h, fun _ _ => by simp only []; omega, fun _ _ => h2, fun _ h => by simp at h, fun _ => by rw [hr0]; rfl, fun h => by simp [ho] at h⟩
  · unfold stepR
    rw [if_neg (show ¬ ({ x with m := mv, steps := x.steps + 1 } : Core).phase = 0 by show ¬ x.phase = 0; omega), if_pos (show ({ x with m := mv, steps := x.steps + 1 } : Core).phase = 1 from p)]
    dsimp only
    rw [eb, hs]
    have hr0 : rec = [] := by rw [hr, if_neg (show ¬ x.phase = 2 by omega), if_neg (show ¬ x.phase = 3 by omega)]
    have ha := ha ho (by omega)
    have h3 := hst1 ho p
    have hc : ws.getD (1 + 1) 0 % (2 * s) = x.a ↔ q.length = 0 := by
      show ws.getD 2 0 % (2 * s) = x.a ↔ q.length = 0
      rw [htl, Int.emod_emod, ha, add_mod hhead ⟨by omega, by omega⟩]
      split <;> omega
    by_cases hq : q.length = 0
    · rw [if_pos (hc.2 hq), if_pos (hc.2 hq)]
      exact ⟨hb, hw, rfl, hop, fun h => by simp at h, fun h => by simp at h, fun h => by simp at h, fun h => by simp at h, fun h => by simp at h, fun h => by simp at h, fun _ => .inl ⟨hq, rfl, by simp [endRec], by simp only []; omega, h0⟩⟩
    · rw [if_neg (fun h => hq (hc.1 h)), if_neg (fun h => hq (hc.1 h))]
      exact ⟨hb, hw, rfl, hop, fun _ => h0, fun _ h => by simp at h, fun _ h => by simp at h, fun _ _ => ha, fun _ _ => by omega, fun _ => by rw [hr0]; simp, fun h => by simp [ho] at h⟩
  · unfold stepR
    rw [if_neg (show ¬ ({ x with m := mv, steps := x.steps + 1 } : Core).phase = 0 by show ¬ x.phase = 0; omega), if_neg (show ¬ ({ x with m := mv, steps := x.steps + 1 } : Core).phase = 1 by show ¬ x.phase = 1; omega), if_pos (show ({ x with m := mv, steps := x.steps + 1 } : Core).phase = 2 from p), ef2]
    dsimp only
    have hsm := hsm ho (by omega)
    have ha := ha ho (by omega)
    obtain ⟨q1, q2⟩ := hhd hsm
    rw [if_pos p] at hr
    have hii : x.i.toNat < w := by omega
    have hnext : rec ++ [ws.getD (x.base.toNat + (place s w x.a + x.i.toNat)) 0] = (q.headD []).take (x.i.toNat + 1) := by
      rw [eb, ha, q2 _ hii, hr]; exact take_next (by omega)
    rw [hnext]
    by_cases hle : x.w.toNat ≤ x.i.toNat + 1
    · rw [if_pos hle]
      exact ⟨hb, hw, hs, hop, fun _ => h0, fun _ h => by simp at h, fun _ h => by simp at h, fun _ _ => ha, fun _ _ => hsm, fun _ => by
        show List.take _ _ = (if (3 : Int) = 2 then _ else if (3 : Int) = 3 then q.headD [] else [])
        rw [if_neg (by omega), if_pos rfl, take_all (by omega)], fun h => by simp [ho] at h⟩
    · rw [if_neg hle]
      exact ⟨hb, hw, hs, hop, fun _ => h0, fun _ h => by have h9 : x.phase = 0 := h; omega, fun _ h => by have h9 : x.phase = 1 := h; omega, fun _ _ => ha, fun _ _ => hsm, fun _ => by
        show List.take _ _ = (if x.phase = 2 then (q.headD []).take (((x.i.toNat : Nat) : Int) + 1).toNat else _)
        rw [if_pos p]; congr 1, fun h => by simp [ho] at h⟩
  · unfold stepR
    rw [if_neg (show ¬ ({ x with m := mv, steps := x.steps + 1 } : Core).phase = 0 by show ¬ x.phase = 0; omega), if_neg (show ¬ ({ x with m := mv, steps := x.steps + 1 } : Core).phase = 1 by show ¬ x.phase = 1; omega), if_neg (show ¬ ({ x with m := mv, steps := x.steps + 1 } : Core).phase = 2 by show ¬ x.phase = 2; omega)]
    dsimp only
    rw [eb, hs]
    have hsm := hsm ho (by omega)
    have ha := ha ho (by omega)
    have hr0 : rec = q.headD [] := by rw [hr, if_neg (show ¬ x.phase = 2 by omega), if_pos p]
    have g1 : (ws.set (1 + 0) ((x.a + 1) % (2 * s))).getD 1 0 = (ws.getD 1 0 + 1) % (2 * s) := by rw [← ha]; exact gets_same _ _ _ (by omega)
    have g2 : (ws.set (1 + 0) ((x.a + 1) % (2 * s))).getD 2 0 = ws.getD 2 0 := gets_ne _ _ _ _ (by omega)
    have htll : q.tail.length = q.length - 1 := List.length_tail
    refine ⟨hb, hw, rfl, hop, fun h => by simp at h, fun h => by simp at h, fun h => by simp at h, fun h => by simp at h, fun h => by simp at h, fun h => by simp at h, fun _ => .inr ⟨hsm, rfl, by rw [hr0]; simp [endRec, hop], ?_⟩⟩
    refine ⟨by rw [List.length_set]; exact hlen, hss, hww, by rw [g1]; exact ⟨Int.emod_nonneg _ (by omega), Int.emod_lt_of_pos _ (by omega)⟩, ?_, by omega, fun i r hi => ?_⟩
    · rw [g1, g2, htl, Int.emod_add_emod]
      congr 1
      omega
    · have hi2 : q[i + 1]? = some r := by rw [← hi, List.getElem?_tail]
      obtain ⟨d1, d2⟩ := h0.data (i + 1) r hi2
      refine ⟨d1, fun j hj => ?_⟩
      have hp2 := (place_fit (c := (ws.getD 1 0 + 1) % (2 * s) + (i : Int)) hss hww).1
      have hcg : ((ws.getD 1 0 + 1) % (2 * s) + (i : Int)) % s = (ws.getD 1 0 + ((i + 1 : Nat) : Int)) % s := by
        rw [← Int.emod_add_emod, mod_twice, Int.emod_add_emod]
        congr 1
        push_cast
        omega
      rw [g1, gets_ne _ _ _ _ (by omega), place_congr hcg]
      exact d2 j hj
theorem lay_len (s w st : Int) (N : Nat) (hN : (2 + s * w).toNat = N) : (layL s w st).length = N := by
  unfold layL; simp [hN]
theorem ok_start (w s : Int) (N wN : Nat) (st : Int) (hw : w = (wN : Int)) (hw8 : 1 ≤ w ∧ w ≤ 8) (hs : 1 ≤ s ∧ s ≤ 16) (hN : (2 + s * w).toNat = N) (hst : 0 ≤ st ∧ st < 2 * s) : Holds (readyL N (layL s w st)) s wN [] := by
  have hl := lay_len s w st N hN
  have hg := ready_get N _ hl
  have hnn := Int.mul_nonneg (show 0 ≤ s by omega) (show 0 ≤ w by omega)
  have hsw : s * w = s * (wN : Int) := by rw [hw]
  have h1 : (readyL N (layL s w st)).getD 1 0 = st := by
    have := hg 0 (by omega)
    rw [show (layL s w st).getD 0 0 = st from by
      unfold layL
      rw [gets_ne _ _ _ _ (by omega)]
      exact gets_same _ _ _ (by rw [List.length_replicate]; omega)] at this
    exact this
  have h2 : (readyL N (layL s w st)).getD 2 0 = st := by
    have := hg 1 (by omega)
    rw [show (layL s w st).getD 1 0 = st from by
      unfold layL
      exact gets_same _ _ _ (by rw [List.length_set, List.length_replicate]; omega)] at this
    exact this
  refine ⟨by rw [ready_len N _ hl]; omega, hs, by omega, by rw [h1]; exact hst, ?_, by simp; omega, fun i r hi => by simp at hi⟩
  rw [h1, h2]
  simp only [List.length_nil]
  rw [show st + ((0 : Nat) : Int) = st by omega, Int.emod_eq_of_lt hst.1 hst.2]
theorem pi_start {s : Int} {w : Nat} {x : Core} {ws new : List Int} {q : List (List Int)} (hb : x.base = 1) (hw : x.w = (w : Int)) (hs : x.s = s) (hop : x.op = 3) (hph : x.phase = 0) (hst : x.steps = 0) (hv : x.over = false) (hn : new.length = w) (h : Holds ws s w q) : PI x new ws s w q new :=
  ⟨hb, hw, hs, hop, hn, fun _ => h, fun _ _ => hst, fun _ h9 => by rw [hph] at h9; omega, fun _ h9 => by rw [hph] at h9; omega, fun _ h9 => by rw [hph] at h9; omega, fun _ => rfl, fun _ h9 => by rw [hph] at h9; omega, fun _ h9 => by rw [hph] at h9; omega, fun h9 => by rw [hv] at h9; cases h9⟩
theorem ti_start {s : Int} {w : Nat} {x : Core} {ws : List Int} {q : List (List Int)} (hb : x.base = 1) (hw : x.w = (w : Int)) (hs : x.s = s) (hop : x.op = 4) (hph : x.phase = 0) (hst : x.steps = 0) (hv : x.over = false) (h : Holds ws s w q) : TI x [] ws s w q :=
  ⟨hb, hw, hs, hop, fun _ => h, fun _ _ => hst, fun _ h9 => by rw [hph] at h9; omega, fun _ h9 => by rw [hph] at h9; omega, fun _ h9 => by rw [hph] at h9; omega, fun _ => by rw [hph]; rfl, fun h9 => by rw [hv] at h9; cases h9⟩
end Go.Proofs.Ytjnmlfpljeddmaa.fifo
