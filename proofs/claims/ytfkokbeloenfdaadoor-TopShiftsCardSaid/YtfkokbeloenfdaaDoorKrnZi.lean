/- The kernel, in plain Lean: a tick, a run, and what stays. -/
import Derived.Test.YtfkokbeloenfdaaDoorKrnZe
import Derived.Test.YtfkokbeloenfdaaDoorKrnZh
namespace Go.Proofs.YtfkokbeloenfdaaDoor.krn
set_option linter.unusedVariables false
set_option linter.unusedSimpArgs false
def askAt (asks : List Du) : Int → List Int := fun t => (asks.filter fun d => d.at_ = t).map (·.task)
theorem askAt_snoc (l : List Du) (d : Du) : askAt (l ++ [d]) = fun j => if j = d.at_ then askAt l d.at_ ++ [d.task] else askAt l j := by
  funext j
  unfold askAt
  rw [List.filter_append, List.map_append]
  by_cases h : j = d.at_
  · subst h; simp
  · rw [if_neg h]; simp [Ne.symm h]
/-- one tick -/
def tickM (dem : List (List Int)) (f : Int → List Int) (p : Kn × List Ev) (t : Nat) : Kn × List Ev :=
  let a := openM p.1 (f t)
  let i := (max (pickK a.1) 0).toNat
  let j := a.1.led.get i
  let c := closeM a.1 j.steps (decide (stepsM dem i j.no ≤ j.steps + 1))
  (c.1, p.2 ++ (a.2 ++ c.2))
def runP (l : List Tk) (f : Int → List Int) (dem : List (List Int)) (ticks : Nat) : Kn × List Ev := (List.range ticks).foldl (tickM dem f) (kn0 l l.length, [])
theorem runP_succ (l : List Tk) (f : Int → List Int) (dem : List (List Int)) (t : Nat) : runP l f dem (t + 1) = tickM dem f (runP l f dem t) t := by
  unfold runP
  rw [List.range_succ, List.foldl_append]; rfl
/-- how many asks there are ahead of tick t -/
def sumN (f : Int → List Int) : Nat → Nat
  | 0 => 0
  | t + 1 => sumN f t + (f t).length
theorem sumN_cons (d : Du) (l : List Du) : ∀ t : Nat, sumN (askAt (d :: l)) t ≤ sumN (askAt l) t + 1 ∧ (¬ (0 ≤ d.at_ ∧ d.at_ < t) → sumN (askAt (d :: l)) t = sumN (askAt l) t)
  | 0 => ⟨Nat.zero_le _, fun _ => rfl⟩
  | t + 1 => by
    obtain ⟨h1, h2⟩ := sumN_cons d l t
    show sumN (askAt (d :: l)) t + (askAt (d :: l) (t : Int)).length ≤ sumN (askAt l) t + (askAt l (t : Int)).length + 1 ∧ (_ → sumN (askAt (d :: l)) t + (askAt (d :: l) (t : Int)).length = sumN (askAt l) t + (askAt l (t : Int)).length)
    by_cases h : d.at_ = (t : Int)
    · have e : (askAt (d :: l) (t : Int)).length = (askAt l (t : Int)).length + 1 := by unfold askAt; simp [h]
      have h3 := h2 (by omega)
      rw [e]
      exact ⟨by omega, fun hn => absurd ⟨by omega, by omega⟩ hn⟩
    · have e : (askAt (d :: l) (t : Int)).length = (askAt l (t : Int)).length := by unfold askAt; simp [h]
      rw [e]
      exact ⟨by omega, fun hn => by rw [h2 (fun h3 => hn ⟨h3.1, by omega⟩)]⟩
theorem sumN_le : ∀ (l : List Du) (t : Nat), sumN (askAt l) t ≤ l.length
  | [], t => by
    induction t with
    | zero => exact Nat.le_refl _
    | succ t ih => show sumN (askAt []) t + (askAt [] (t : Int)).length ≤ _; simp only [askAt, List.filter_nil, List.map_nil, List.length_nil] at ih ⊢; exact ih
  | d :: l, t => by
    have h1 := (sumN_cons d l t).1
    have h2 := sumN_le l t
    simp only [List.length_cons]; omega
theorem duesF_ok : ∀ (ds : List Du) (p : Kn × List Ev) (n : Nat), KOK p.1 n → (∀ d ∈ ds, (0 ≤ d.at_ ∧ d.at_ ≤ 2000) ∧ 0 ≤ d.task ∧ d.task < p.1.l.length) →
    KOK (ds.foldl dueF p).1 (n + ds.length) ∧ (ds.foldl dueF p).1.l = p.1.l ∧ (ds.foldl dueF p).1.now = p.1.now ∧ (ds.foldl dueF p).1.opn = p.1.opn
  | [], p, n, h, _ => ⟨h, rfl, rfl, rfl⟩
  | d :: ds, p, n, h, hd => by
    rw [List.foldl_cons]
    have h1 := hd d (by simp)
    obtain ⟨g1, g2, g3, g4, -⟩ := dueF_ok h d h1.1 h1.2
    obtain ⟨k1, k2, k3, k4⟩ := duesF_ok ds (dueF p d) (n + 1) g1 (fun x hx => by rw [g2]; exact hd x (by simp [hx]))
    refine ⟨?_, k2.trans g2, k3.trans g3, k4.trans g4⟩
    rw [List.length_cons, show n + (ds.length + 1) = n + 1 + ds.length by omega]
    exact k1
theorem asksF_ok : ∀ (l : List Int) (p : Kn × List Ev) (n : Nat), KOK p.1 n → KOK (l.foldl askF p).1 (n + 2 * l.length) ∧ (l.foldl askF p).1.l = p.1.l ∧ (l.foldl askF p).1.now = p.1.now ∧ (l.foldl askF p).1.opn = p.1.opn
  | [], p, n, h => ⟨h, rfl, rfl, rfl⟩
  | a :: l, p, n, h => by
    rw [List.foldl_cons]
    have hs : KOK (askF p a).1 (n + 2) ∧ (askF p a).1.l = p.1.l ∧ (askF p a).1.now = p.1.now ∧ (askF p a).1.opn = p.1.opn := by
      unfold askF
      split
      · rename_i hp
        obtain ⟨h1, h2, h3, h4⟩ := passM_yes hp
        obtain ⟨i, rfl, hi⟩ := askB_nat h1
        have h5 := letM_ok (passM_ok h (i : Int)) i (by rw [h2]; exact hi)
        rw [Int.toNat_natCast]
        exact ⟨h5.mono (by omega), h2, h3, h4⟩
      · exact ⟨h.mono (by omega), rfl, rfl, rfl⟩
    obtain ⟨k1, k2, k3, k4⟩ := asksF_ok l (askF p a) (n + 2) hs.1
    refine ⟨?_, k2.trans hs.2.1, k3.trans hs.2.2.1, k4.trans hs.2.2.2⟩
    rw [List.length_cons, show n + 2 * (l.length + 1) = n + 2 + 2 * l.length by omega]
    exact k1
theorem openM_ok {k : Kn} {n : Nat} (h : KOK k n) (asks : List Int) : KOK (openM k asks).1 (n + 8 + 2 * asks.length) ∧ (openM k asks).1.l = k.l ∧ (openM k asks).1.now = k.now ∧ (openM k asks).1.opn = true := by
  have hb : ∀ i ∈ bitsM k.led.act, k.led.act.testBit i = true := fun i hi => bitsM_bit _ (by have := h.led.act; omega) i hi
  have hlk := lateF_keep h.led k.now k.now (bitsM k.led.act) [] k.led h.led rfl rfl rfl hb (by simp) (fun j hj => h.st j hj)
  rw [← show lateM k.led k.now = (bitsM k.led.act).foldl (lateF k.now) (k.led, []) from rfl] at hlk
  have hu := untilM_all k.now k.due.length k.due (Nat.le_refl _) h.due
  have hul := untilM_len k.now k.due.length k.due (Nat.le_refl _)
  have hA : KOK { (openA k).1 with due := (untilM k.now k.due).2 } n := ⟨hlk.1, hlk.2.2.1.trans h.ll, h.pl, h.now, hu.2, by have h1 := h.dl; show (untilM k.now k.due).2.length ≤ k.l.length; omega, h.last, hlk.2.2.2.2.2⟩
  obtain ⟨d1, d2, d3, d4⟩ := duesF_ok (untilM k.now k.due).1 ({ (openA k).1 with due := (untilM k.now k.due).2 }, (openA k).2) n hA (fun d hd => by
    have h1 := (hu.1 d hd).1
    have h2 := (hu.1 d hd).2
    have h3 := h.now
    exact ⟨⟨h1.1.1, by omega⟩, h1.2⟩)
  obtain ⟨a1, a2, a3, a4⟩ := asksF_ok asks _ _ d1
  unfold openM
  refine ⟨a1.mono ?_, a2.trans d2, a3.trans d3, a4.trans d4⟩
  have h1 := h.dl
  have h2 := h.led.llen
  rw [h.ll] at h2
  omega
theorem tick_ok {p : Kn × List Ev} {n : Nat} (h : KOK p.1 n) (hn : p.1.now < 2000) (dem : List (List Int)) (f : Int → List Int) (t : Nat) :
    KOK (tickM dem f p t).1 (n + 8 + 2 * (f t).length) ∧ (tickM dem f p t).1.now = p.1.now + 1 ∧ (tickM dem f p t).1.opn = false ∧ (tickM dem f p t).2.length ≤ p.2.length + 266 + (f t).length := by
  obtain ⟨h1, h2, h3, h4⟩ := openM_ok h (f t)
  have h5 := openM_len h (f t)
  unfold tickM
  simp only
  obtain ⟨g1, g2, g3, g4⟩ := closeM_ok h1 (by omega) ((openM p.1 (f t)).1.led.get (max (pickK (openM p.1 (f t)).1) 0).toNat).steps (decide (stepsM dem (max (pickK (openM p.1 (f t)).1) 0).toNat ((openM p.1 (f t)).1.led.get (max (pickK (openM p.1 (f t)).1) 0).toNat).no ≤ ((openM p.1 (f t)).1.led.get (max (pickK (openM p.1 (f t)).1) 0).toNat).steps + 1))
  refine ⟨g1, g3.trans (by rw [h3]), g4, ?_⟩
  have h6 := closeM_len (openM p.1 (f t)).1 ((openM p.1 (f t)).1.led.get (max (pickK (openM p.1 (f t)).1) 0).toNat).steps (decide (stepsM dem (max (pickK (openM p.1 (f t)).1) 0).toNat ((openM p.1 (f t)).1.led.get (max (pickK (openM p.1 (f t)).1) 0).toNat).no ≤ ((openM p.1 (f t)).1.led.get (max (pickK (openM p.1 (f t)).1) 0).toNat).steps + 1))
  rw [List.length_append, List.length_append]
  omega
theorem run_ok (l : List Tk) (hl : 1 ≤ l.length ∧ l.length ≤ 8) (hp : ∀ t ∈ l, PlainT t) (f : Int → List Int) (dem : List (List Int)) : ∀ t : Nat, t ≤ 2000 →
    KOK (runP l f dem t).1 (8 * t + 2 * sumN f t) ∧ (runP l f dem t).1.now = t ∧ (runP l f dem t).1.opn = false ∧ (runP l f dem t).2.length ≤ 266 * t + sumN f t
  | 0, _ => ⟨kn0_ok l hl hp, rfl, rfl, Nat.le_refl _⟩
  | t + 1, ht => by
    obtain ⟨h1, h2, h3, h4⟩ := run_ok l hl hp f dem t (by omega)
    rw [runP_succ]
    obtain ⟨g1, g2, g3, g4⟩ := tick_ok h1 (by omega) dem f t
    show KOK _ (8 * (t + 1) + 2 * (sumN f t + (f t).length)) ∧ _ ∧ _ ∧ _ ≤ 266 * (t + 1) + (sumN f t + (f t).length)
    refine ⟨?_, by rw [g2, h2]; rfl, g3, by omega⟩
    rw [show 8 * (t + 1) + 2 * (sumN f t + (f t).length) = 8 * t + 2 * sumN f t + 8 + 2 * (f t).length by omega]
    exact g1
theorem get_fit {k : Kn} {n : Nat} (h : KOK k n) (i : Nat) : (0 ≤ (k.led.get i).steps ∧ (k.led.get i).steps ≤ 4096) ∧ 0 ≤ (k.led.get i).no := by
  by_cases hb : k.led.act.testBit i = true
  · obtain ⟨j, x, h1, h2, h3, h4⟩ := h.led.job hb
    have := h.led.fit x (List.mem_of_getElem? h2)
    rw [h4]
    omega
  · unfold Led.get
    rw [if_neg hb]
    decide
theorem pick_nat {k : Kn} {n : Nat} (h : KOK k n) : ∃ i : Nat, max (pickK k) 0 = (i : Int) ∧ i ≤ 20 := by
  by_cases hp : 0 ≤ pickK k
  · obtain ⟨i, hi, hb⟩ := pickK_bit h hp
    have := bit_lt h.led.act hb
    exact ⟨i, by omega, by omega⟩
  · exact ⟨0, by omega, by omega⟩
end Go.Proofs.YtfkokbeloenfdaaDoor.krn
