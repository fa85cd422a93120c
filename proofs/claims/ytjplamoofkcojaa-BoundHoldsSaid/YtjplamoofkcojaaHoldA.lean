/- Parts joined: Lasts, Range, Solo, TiesF, Hold. -/
import Derived.Test.YtjplamoofkcojaaFourA
import Derived.Test.YtjplamoofkcojaaSeqA
import Derived.Test.YtjplamoofkcojaaRingA
import Derived.Test.YtjplamoofkcojaaFifoA
import Derived.Test.YtjplamoofkcojaaCabA
import Derived.Test.YtjplamoofkcojaaChenA
import Derived.Test.YtjplamoofkcojaaBndA
import Derived.Test.YtjplamoofkcojaaCaseA
import Derived.Test.YtjplamoofkcojaaSets
import Derived.Test.YtjplamoofkcojaaTrioA
import Derived.Test.YtjplamoofkcojaaSimF
import Derived.Test.YtjplamoofkcojaaSimS
import Derived.Test.YtjplamoofkcojaaSimG
import Derived.Test.YtjplamoofkcojaaSimH
import Derived.Test.YtjplamoofkcojaaSimC
import Derived.Test.YtjplamoofkcojaaSimN
/- A step of any kind: an operation has made no more steps than are told for so many attempts that failed (plain). -/
namespace Go.Proofs.Ytjplamoofkcojaa.core
open Go Go.RowKit Go.Proofs.Ytjplamoofkcojaa.kit Go.Proofs.Ytjplamoofkcojaa.obj
set_option linter.unusedVariables false
set_option linter.unusedSimpArgs false
set_option maxRecDepth 20000

/-- an operation at its beginning -/
structure Fresh (x : Core) : Prop where
  phase : x.phase = 0
  i : x.i = 0
  tries : x.tries = 0
  steps : x.steps = 0
  b : x.b = 0
  over : x.over = false
def rightC (kk : Int) (x : Core) : Prop := rightB kk x.w x.s x.c x.st x.il x.rl = true
def afterC (kk : Int) (x y : Core) : Int := afterI kk x.w x.s x.c x.st x.il x.rl x.op y.tries
/-- what does not change -/
def Stays (x y : Core) : Prop := y.k = x.k ∧ y.w = x.w ∧ y.s = x.s ∧ y.c = x.c ∧ y.st = x.st ∧ y.il = x.il ∧ y.rl = x.rl ∧ y.op = x.op ∧ (y.tries = x.tries ∨ y.tries = x.tries + 1)
structure Lasts (K : Kind) (kk : Int) where
  inv : Core → Prop
  start : ∀ {x : Core} {rec : List Int}, K.Shape x rec → rightC kk x → Fresh x → inv x
  same : ∀ (x : Core) (mv : Value) (rec ws : List Int), Stays x (K.step x mv rec ws).1
  next : ∀ {x : Core} {rec ws : List Int} (mv : Value), K.Shape x rec → x.over = false → (∀ z ∈ ws, 0 ≤ z ∧ z ≤ 4294967295) → rightC kk x → inv x → inv (K.step x mv rec ws).1
  fits : ∀ {x : Core} {rec ws : List Int} (mv : Value), K.Shape x rec → x.over = false → (∀ z ∈ ws, 0 ≤ z ∧ z ≤ 4294967295) → rightC kk x → inv x → (K.step x mv rec ws).1.steps ≤ afterC kk x (K.step x mv rec ws).1
def invL (K : Kind) (kk : Int) (x : Core) : Prop := K.left x + x.steps ≤ boundK kk x.w x.c x.rl x.op
theorem left_nn {K : Kind} {x : Core} {rec : List Int} (h : K.Shape x rec) : 0 ≤ K.left x := by
  cases ho : x.over
  · have := K.pos h ho; omega
  · rw [K.zero ho]; exact Int.le_refl _
theorem invL_next {K : Kind} {kk : Int} (same : ∀ (x : Core) (mv : Value) (rec ws : List Int), Stays x (K.step x mv rec ws).1) {x : Core} {rec ws : List Int} (mv : Value) (h : K.Shape x rec) (ho : x.over = false) (hw : ∀ z ∈ ws, 0 ≤ z ∧ z ≤ 4294967295) (hi : invL K kk x) : invL K kk (K.step x mv rec ws).1 := by
  obtain ⟨-, h1, h2, -⟩ := K.ok mv h ho hw
  obtain ⟨-, e1, -, e2, -, -, e3, e4, -⟩ := same x mv rec ws
  unfold invL at *
  rw [e1, e2, e3, e4]
  omega
/-- an operation that has no attempts -/
theorem invL_plain {K : Kind} {kk : Int} {x : Core} {rec ws : List Int} (mv : Value) (h : K.Shape x rec) (ho : x.over = false) (hw : ∀ z ∈ ws, 0 ≤ z ∧ z ≤ 4294967295) (hr : rightC kk x) (hn : retB kk x.op = false) (hi : invL K kk x) : (K.step x mv rec ws).1.steps ≤ afterC kk x (K.step x mv rec ws).1 := by
  obtain ⟨h0, h1, h2, -⟩ := K.ok mv h ho hw
  have h3 := left_nn h0
  have hr' : rightB kk x.w x.s x.c x.st x.il x.rl = true := hr
  have ha : afterC kk x (K.step x mv rec ws).1 = boundK kk x.w x.c x.rl x.op := by
    unfold afterC afterI cleanI failI
    rw [hr', hn]
    simp [boundI, hr']
  rw [ha]
  unfold invL at hi
  omega
theorem after_many {kk : Int} {x y : Core} (hr : rightC kk x) (hn : retB kk x.op = true) (t : Int) (ht : 0 ≤ t) (h1 : t ≤ y.tries) (h2 : t ≤ x.c - 1) (f : Int) (hf : f = if kk = 5 then 3 else x.w + 2) (hf0 : 0 ≤ f) : (if kk = 5 then x.w + 4 else x.w + 2) + t * f ≤ afterC kk x y := by
  have hr' : rightB kk x.w x.s x.c x.st x.il x.rl = true := hr
  have ha : afterC kk x y = (if kk = 5 then x.w + 4 else x.w + 2) + max 0 (min y.tries (max (x.c - 1) 0)) * f := by
    unfold afterC afterI cleanI failI
    rw [hr', hn, hf]
    simp
  rw [ha]
  have h3 : t ≤ max 0 (min y.tries (max (x.c - 1) 0)) := by omega
  have h4 := Int.mul_le_mul_of_nonneg_right h3 hf0
  omega
def lastsF : Lasts four.K 1 where
  inv := invL four.K 1
  start h hr hf := by
    have hop := h.op
    unfold invL
    simp only [four.K, four.left, hf.over, hf.phase, hf.steps, boundK]
    rcases hop with ⟨h1, -⟩ | ⟨h1, -⟩ <;> simp [h1]
  same x mv rec ws := by
    simp only [four.K, four.step, four.stepW, four.stepR]
    (repeat' split) <;> exact ⟨rfl, rfl, rfl, rfl, rfl, rfl, rfl, rfl, .inl rfl⟩
  next mv h ho hw hr hi := invL_next (fun x mv rec ws => by
    simp only [four.K, four.step, four.stepW, four.stepR]
    (repeat' split) <;> exact ⟨rfl, rfl, rfl, rfl, rfl, rfl, rfl, rfl, .inl rfl⟩) mv h ho hw hi
  fits mv h ho hw hr hi := invL_plain mv h ho hw hr (by simp [retB]) hi
theorem sameS (x : Core) (mv : Value) (rec ws : List Int) : Stays x (seq.K.step x mv rec ws).1 := by
  simp only [seq.K, seq.step, seq.stepW, seq.stepR, seq.failC]
  (repeat' split) <;> first | exact ⟨rfl, rfl, rfl, rfl, rfl, rfl, rfl, rfl, .inl rfl⟩ | exact ⟨rfl, rfl, rfl, rfl, rfl, rfl, rfl, rfl, .inr rfl⟩
theorem sameG (x : Core) (mv : Value) (rec ws : List Int) : Stays x (ring.K.step x mv rec ws).1 := by
  simp only [ring.K, ring.step, ring.stepW, ring.stepR, ring.failC]
  (repeat' split) <;> first | exact ⟨rfl, rfl, rfl, rfl, rfl, rfl, rfl, rfl, .inl rfl⟩ | exact ⟨rfl, rfl, rfl, rfl, rfl, rfl, rfl, rfl, .inr rfl⟩
theorem sameH (x : Core) (mv : Value) (rec ws : List Int) : Stays x (fifo.K.step x mv rec ws).1 := by
  simp only [fifo.K, fifo.step, fifo.stepW, fifo.stepR]
  (repeat' split) <;> exact ⟨rfl, rfl, rfl, rfl, rfl, rfl, rfl, rfl, .inl rfl⟩
theorem sameC (x : Core) (mv : Value) (rec ws : List Int) : Stays x (cab.K.step x mv rec ws).1 := by
  simp only [cab.K, cab.step, cab.stepW, cab.stepR, cab.failC, cab.scanC]
  (repeat' split) <;> first | exact ⟨rfl, rfl, rfl, rfl, rfl, rfl, rfl, rfl, .inl rfl⟩ | exact ⟨rfl, rfl, rfl, rfl, rfl, rfl, rfl, rfl, .inr rfl⟩
theorem sameN (x : Core) (mv : Value) (rec ws : List Int) : Stays x (chen.K.step x mv rec ws).1 := by
  simp only [chen.K, chen.step, chen.stepW, chen.stepR, chen.scanC]
  (repeat' split) <;> exact ⟨rfl, rfl, rfl, rfl, rfl, rfl, rfl, rfl, .inl rfl⟩
def lastsH : Lasts fifo.K 6 where
  inv := invL fifo.K 6
  start h hr hf := by
    have hop := h.op
    unfold invL
    simp only [fifo.K, fifo.left, hf.over, hf.phase, hf.steps, boundK]
    rcases hop with ⟨h1, -⟩ | ⟨h1, -⟩ <;> simp [h1]
  same := sameH
  next mv h ho hw hr hi := invL_next sameH mv h ho hw hi
  fits mv h ho hw hr hi := invL_plain mv h ho hw hr (by simp [retB]) hi
def lastsN : Lasts chen.K 2 where
  inv := invL chen.K 2
  start h hr hf := by
    have hop := h.op
    unfold invL
    simp only [chen.K, chen.left, hf.over, hf.phase, hf.steps, boundK]
    rcases hop with ⟨h1, -⟩ | ⟨h1, -⟩ <;> simp [h1]
  same := sameN
  next mv h ho hw hr hi := invL_next sameN mv h ho hw hi
  fits mv h ho hw hr hi := invL_plain mv h ho hw hr (by simp [retB]) hi
theorem spread (c t w : Int) : (c - t - 1) * (w + 2) = c * (w + 2) - t * (w + 2) - (w + 2) := by
  rw [Int.sub_mul, Int.sub_mul, Int.one_mul]
def lastsS : Lasts seq.K 3 where
  inv := invL seq.K 3
  start {x rec} h hr hf := by
    have hop := h.op
    have hs := spread x.c 0 x.w
    unfold invL
    simp only [seq.K, seq.left, hf.over, hf.phase, hf.steps, hf.tries, boundK]
    rcases hop with ⟨h1, -⟩ | ⟨h1, -⟩
    · simp [h1]
    · simp [h1]; simp at hs; omega
  same := sameS
  next mv h ho hw hr hi := invL_next sameS mv h ho hw hi
  fits {x rec ws} mv h ho hw hr hi := by
    rcases h.op with ⟨h1, -⟩ | ⟨h1, h2, -⟩
    · exact invL_plain mv h ho hw hr (by rw [h1]; simp [retB]) hi
    · obtain ⟨-, -, h3, -⟩ := seq.K.ok mv h ho hw
      have hs := spread x.c x.tries x.w
      have hsame := (sameS x mv rec ws).2.2.2.2.2.2.2.2
      have ht := h.tries; have hw8 := h.w; have hii := h.i ho
      refine Int.le_trans ?_ (after_many (y := (seq.K.step x mv rec ws).1) hr (by rw [h1]; simp [retB]) x.tries ht.1 (by omega) (by have := ht.2 ho; omega) (x.w + 2) (by simp) (by omega))
      rw [h3, if_neg (by omega)]
      unfold invL at hi
      simp only [seq.K, seq.left, ho, h1, boundK] at hi
      simp at hi
      have hl : ∀ r : Int, 1 ≤ r → (x.c - x.tries - 1) * (x.w + 2) + r + x.steps ≤ x.c * (x.w + 2) → x.steps + 1 ≤ x.w + 2 + x.tries * (x.w + 2) := fun r h4 h5 => by omega
      refine hl _ ?_ hi
      (repeat' split) <;> omega
def lastsG : Lasts ring.K 4 where
  inv := invL ring.K 4
  start {x rec} h hr hf := by
    have hop := h.op
    have hs := spread x.c 0 x.w
    unfold invL
    simp only [ring.K, ring.left, hf.over, hf.phase, hf.steps, hf.tries, boundK]
    rcases hop with ⟨h1, -⟩ | ⟨h1, -⟩
    · simp [h1]
    · simp [h1]; simp at hs; omega
  same := sameG
  next mv h ho hw hr hi := invL_next sameG mv h ho hw hi
  fits {x rec ws} mv h ho hw hr hi := by
    rcases h.op with ⟨h1, -⟩ | ⟨h1, h2, -⟩
    · exact invL_plain mv h ho hw hr (by rw [h1]; simp [retB]) hi
    · obtain ⟨-, -, h3, -⟩ := ring.K.ok mv h ho hw
      have hs := spread x.c x.tries x.w
      have hsame := (sameG x mv rec ws).2.2.2.2.2.2.2.2
      have ht := h.tries; have hw8 := h.w; have hii := h.i ho
      refine Int.le_trans ?_ (after_many (y := (ring.K.step x mv rec ws).1) hr (by rw [h1]; simp [retB]) x.tries ht.1 (by omega) (by have := ht.2 ho; omega) (x.w + 2) (by simp) (by omega))
      rw [h3, if_neg (by omega)]
      unfold invL at hi
      simp only [ring.K, ring.left, ho, h1, boundK] at hi
      simp at hi
      have hl : ∀ r : Int, 1 ≤ r → (x.c - x.tries - 1) * (x.w + 2) + r + x.steps ≤ x.c * (x.w + 2) → x.steps + 1 ≤ x.w + 2 + x.tries * (x.w + 2) := fun r h4 h5 => by omega
      refine hl _ ?_ hi
      (repeat' split) <;> omega
/-- a read of cab's, so far -/
def invC (x : Core) : Prop := (x.op = 2 → invL cab.K 5 x) ∧ (x.op = 1 → x.over = false → (x.phase ≠ 4 → x.b = 0) ∧ (x.phase = 4 → x.b = 0 ∨ x.b = 1) ∧ (x.b = 0 → x.tries < x.c) ∧ x.tries ≤ x.c ∧
  x.steps ≤ 3 * x.tries + (if x.phase = 0 then 0 else if x.phase = 1 then 1 else if x.phase = 2 then 2 else if x.phase = 3 then 3 + x.i else if x.b = 1 then 0 else 3 + x.w))
theorem read_C {x : Core} {rec ws : List Int} (mv : Value) (h : cab.K.Shape x rec) (ho : x.over = false) (hop : x.op = 1) (hi : invC x) :
    ((cab.K.step x mv rec ws).1.over = false → ((cab.K.step x mv rec ws).1.phase ≠ 4 → (cab.K.step x mv rec ws).1.b = 0) ∧ ((cab.K.step x mv rec ws).1.phase = 4 → (cab.K.step x mv rec ws).1.b = 0 ∨ (cab.K.step x mv rec ws).1.b = 1) ∧ ((cab.K.step x mv rec ws).1.b = 0 → (cab.K.step x mv rec ws).1.tries < (cab.K.step x mv rec ws).1.c) ∧ (cab.K.step x mv rec ws).1.tries ≤ (cab.K.step x mv rec ws).1.c ∧
      (cab.K.step x mv rec ws).1.steps ≤ 3 * (cab.K.step x mv rec ws).1.tries + (if (cab.K.step x mv rec ws).1.phase = 0 then 0 else if (cab.K.step x mv rec ws).1.phase = 1 then 1 else if (cab.K.step x mv rec ws).1.phase = 2 then 2 else if (cab.K.step x mv rec ws).1.phase = 3 then 3 + (cab.K.step x mv rec ws).1.i else if (cab.K.step x mv rec ws).1.b = 1 then 0 else 3 + (cab.K.step x mv rec ws).1.w)) ∧
    ∃ t : Int, 0 ≤ t ∧ t ≤ (cab.K.step x mv rec ws).1.tries ∧ t ≤ x.c - 1 ∧ (cab.K.step x mv rec ws).1.steps ≤ x.w + 4 + t * 3 := by
  obtain ⟨h1, h2, h3, h4, h5⟩ := hi.2 hop ho
  have hw := h.w; have ht := h.tries; have hii := h.i ho; have hc := h.c
  rw [if_neg (by omega)] at hii
  have hph : 0 ≤ x.phase ∧ x.phase ≤ 4 := by rcases h.op with ⟨h, _⟩ | ⟨_, h, _⟩ <;> omega
  have hst : cab.K.step x mv rec ws = cab.stepR { x with m := mv, steps := x.steps + 1 } rec ws := by
    show cab.step x mv rec ws = _
    unfold cab.step; rw [if_neg (by omega)]
  rw [hst]
  rcases (by omega : x.phase = 0 ∨ x.phase = 1 ∨ x.phase = 2 ∨ x.phase = 3 ∨ x.phase = 4) with p | p | p | p | p
  · have hb := h1 (by omega)
    have htc := h3 hb
    rw [if_pos p] at h5
    unfold cab.stepR
    rw [if_pos (show ({ x with m := mv, steps := x.steps + 1 } : Core).phase = 0 from p)]
    refine ⟨fun _ => ⟨fun _ => hb, fun h9 => by simp at h9, fun _ => htc, h4, by simp; omega⟩, x.tries, ht.1, Int.le_refl _, by omega, by simp only []; omega⟩
  · have hb := h1 (by omega)
    have htc := h3 hb
    rw [if_neg (by omega), if_pos p] at h5
    unfold cab.stepR
    rw [if_neg (show ¬ ({ x with m := mv, steps := x.steps + 1 } : Core).phase = 0 by show ¬ x.phase = 0; omega), if_pos (show ({ x with m := mv, steps := x.steps + 1 } : Core).phase = 1 from p)]
    refine ⟨fun _ => ⟨fun _ => hb, fun h9 => by simp at h9, fun _ => htc, h4, by simp; omega⟩, x.tries, ht.1, Int.le_refl _, by omega, by simp only []; omega⟩
  · have hb := h1 (by omega)
    have htc := h3 hb
    rw [if_neg (by omega), if_neg (by omega), if_pos p] at h5
    unfold cab.stepR
    rw [if_neg (show ¬ ({ x with m := mv, steps := x.steps + 1 } : Core).phase = 0 by show ¬ x.phase = 0; omega), if_neg (show ¬ ({ x with m := mv, steps := x.steps + 1 } : Core).phase = 1 by show ¬ x.phase = 1; omega), if_pos (show ({ x with m := mv, steps := x.steps + 1 } : Core).phase = 2 from p)]
    dsimp only
    split
    · refine ⟨fun _ => ⟨fun _ => hb, fun h9 => by simp at h9, fun _ => htc, h4, by simp; omega⟩, x.tries, ht.1, Int.le_refl _, by omega, by simp only []; omega⟩
    · unfold cab.failC
      dsimp only
      split
      · refine ⟨fun _ => ⟨fun h9 => by simp at h9, fun _ => .inr rfl, fun h9 => by simp at h9, by simp only []; omega, by simp; omega⟩, x.tries, ht.1, by simp only []; omega, by omega, by simp only []; omega⟩
      · refine ⟨fun _ => ⟨fun _ => hb, fun h9 => by simp at h9, fun _ => by simp only []; omega, by simp only []; omega, by simp; omega⟩, x.tries, ht.1, by simp only []; omega, by omega, by simp only []; omega⟩
  · have hb := h1 (by omega)
    have htc := h3 hb
    rw [if_neg (by omega), if_neg (by omega), if_neg (by omega), if_pos p] at h5
    unfold cab.stepR
    rw [if_neg (show ¬ ({ x with m := mv, steps := x.steps + 1 } : Core).phase = 0 by show ¬ x.phase = 0; omega), if_neg (show ¬ ({ x with m := mv, steps := x.steps + 1 } : Core).phase = 1 by show ¬ x.phase = 1; omega), if_neg (show ¬ ({ x with m := mv, steps := x.steps + 1 } : Core).phase = 2 by show ¬ x.phase = 2; omega), if_pos (show ({ x with m := mv, steps := x.steps + 1 } : Core).phase = 3 from p)]
    dsimp only
    split
    · refine ⟨fun _ => ⟨fun h9 => by simp at h9, fun _ => .inl hb, fun _ => htc, h4, by simp [hb]; omega⟩, x.tries, ht.1, Int.le_refl _, by omega, by simp only []; omega⟩
    · refine ⟨fun _ => ⟨fun _ => hb, fun h9 => by have h8 : x.phase = 4 := h9; omega, fun _ => htc, h4, ?_⟩, x.tries, ht.1, Int.le_refl _, by omega, by simp only []; omega⟩
      dsimp only
      rw [if_neg (by omega), if_neg (by omega), if_neg (by omega)]
      (try rw [if_pos p])
      omega
  · rw [if_neg (by omega), if_neg (by omega), if_neg (by omega), if_neg (by omega)] at h5
    unfold cab.stepR
    rw [if_neg (show ¬ ({ x with m := mv, steps := x.steps + 1 } : Core).phase = 0 by show ¬ x.phase = 0; omega), if_neg (show ¬ ({ x with m := mv, steps := x.steps + 1 } : Core).phase = 1 by show ¬ x.phase = 1; omega), if_neg (show ¬ ({ x with m := mv, steps := x.steps + 1 } : Core).phase = 2 by show ¬ x.phase = 2; omega), if_neg (show ¬ ({ x with m := mv, steps := x.steps + 1 } : Core).phase = 3 by show ¬ x.phase = 3; omega)]
    refine ⟨fun h9 => by simp at h9, ?_⟩
    rcases h2 p with hb | hb
    · have htc := h3 hb
      rw [if_neg (by omega)] at h5
      exact ⟨x.tries, ht.1, Int.le_refl _, by omega, by simp only []; omega⟩
    · rw [if_pos hb] at h5
      by_cases h6 : x.tries ≤ x.c - 1
      · exact ⟨x.tries, ht.1, Int.le_refl _, h6, by simp only []; omega⟩
      · exact ⟨x.tries - 1, by omega, by simp only []; omega, by omega, by simp only []; omega⟩
def lastsC : Lasts cab.K 5 where
  inv := invC
  start {x rec} h hr hf := by
    refine ⟨fun h1 => ?_, fun h1 _ => ⟨fun _ => hf.b, fun h9 => by rw [hf.phase] at h9; omega, fun _ => by rw [hf.tries]; have := h.c; omega, by rw [hf.tries]; have := h.c; omega, by rw [hf.steps, hf.tries, if_pos hf.phase]; omega⟩⟩
    unfold invL
    simp only [cab.K, cab.left, hf.over, hf.phase, hf.steps, boundK]
    simp [h1]
  same := sameC
  next {x rec ws} mv h ho hw hr hi := by
    refine ⟨fun h1 => ?_, fun h1 => ?_⟩
    · have e := (sameC x mv rec ws).2.2.2.2.2.2.2.1
      exact invL_next sameC mv h ho hw (hi.1 (by rw [← e]; exact h1))
    · have e := (sameC x mv rec ws).2.2.2.2.2.2.2.1
      exact (read_C mv h ho (by rw [← e]; exact h1) hi).1
  fits {x rec ws} mv h ho hw hr hi := by
    rcases h.op with ⟨h1, -⟩ | ⟨h1, -⟩
    · exact invL_plain mv h ho hw hr (by rw [h1]; simp [retB]) (hi.1 h1)
    · obtain ⟨-, t, h2, h3, h4, h5⟩ := read_C (ws := ws) mv h ho h1 hi
      refine Int.le_trans h5 ?_
      have := after_many (y := (cab.K.step x mv rec ws).1) hr (by rw [h1]; simp [retB]) t h2 h3 h4 3 (by simp) (by omega)
      rwa [if_pos rfl] at this
end Go.Proofs.Ytjplamoofkcojaa.core

/- The words that any kind's step leaves are words (plain). -/
namespace Go.Proofs.Ytjplamoofkcojaa.core
open Go Go.RowKit Go.Proofs.Ytjplamoofkcojaa.kit Go.Proofs.Ytjplamoofkcojaa.obj
set_option linter.unusedVariables false
set_option linter.unusedSimpArgs false
set_option maxRecDepth 20000

def Rng (l : List Int) : Prop := ∀ z ∈ l, 0 ≤ z ∧ z ≤ 4294967295
section
variable {l rec ws : List Int}
theorem Rng.get (h : Rng l) (i : Nat) : 0 ≤ l.getD i 0 ∧ l.getD i 0 ≤ 4294967295 := by
  rcases Nat.lt_or_ge i l.length with h1 | h1
  · rw [show l.getD i 0 = l[i] from by simp [List.getD, h1]]
    exact h _ (List.getElem_mem h1)
  · rw [show l.getD i 0 = 0 from by simp [List.getD, h1]]
    omega
theorem Rng.set (h : Rng l) (i : Nat) (v : Int) (hv : 0 ≤ v ∧ v ≤ 4294967295) : Rng (l.set i v) := fun z hz =>
  (List.mem_or_eq_of_mem_set hz).elim (h z) (fun e => e ▸ hv)
theorem Rng.app {v : Int} (h : Rng l) (hv : 0 ≤ v ∧ v ≤ 4294967295) : Rng (l ++ [v]) := by
  intro z hz
  rcases List.mem_append.1 hz with hz | hz
  · exact h z hz
  · rw [List.mem_singleton.1 hz]; exact hv
theorem Rng.nil : Rng [] := fun z hz => by cases hz
theorem Rng.end_ (h : Rng l) (op cd : Int) : Rng (endRec op cd l) := by
  unfold endRec
  split
  · exact Rng.nil
  · exact h
theorem Rng.swap (h : Rng l) (i : Nat) (was v : Int) (hv : 0 ≤ v ∧ v ≤ 4294967295) : Rng (swapL l i was v) := by
  unfold swapL
  split
  · exact h.set _ _ hv
  · exact h
theorem Rng.wf (h : Rng l) : ∀ u ∈ l, (Lit.int .u32 u).wf = true := fun u hu => pokeWf (h u hu)
theorem Rng.poke {ps : List Poke} (hp : ∀ p ∈ ps, p.ok) (t : Int) : ∀ {ws : List Int}, Rng ws → Rng (pokeL t ps ws) := by
  unfold pokeL
  induction ps with
  | nil => intro ws h; exact h
  | cons p r ih =>
    intro ws h
    rw [List.foldl_cons]
    refine ih (fun q hq => hp q (List.mem_cons_of_mem _ hq)) ?_
    unfold pokeOne
    split
    · exact h.set _ _ (hp p (List.mem_cons_self ..)).2.2
    · exact h
end
def Ranged (K : Kind) : Prop := ∀ {x : Core} {rec ws : List Int} (mv : Value), K.Shape x rec → x.over = false → Rng rec → Rng ws → Rng (K.step x mv rec ws).2.1 ∧ Rng (K.step x mv rec ws).2.2
theorem rangedF : Ranged four.K := by
  intro x rec ws mv h ho hr hw
  have ha := h.a; have hb := h.b
  simp only [four.K, four.step, four.stepW, four.stepR]
  ((repeat' split) <;> refine ⟨?_, ?_⟩ <;> (first | assumption | exact Rng.nil | (apply Rng.end_; assumption) | (apply Rng.app; assumption; apply Rng.get; assumption) | (apply Rng.end_; apply Rng.app; assumption; apply Rng.get; assumption) | (apply Rng.set; assumption; apply Rng.get; assumption) | (apply Rng.set; assumption; (try simp only []); omega) | (apply Rng.swap; assumption; (try simp only []); omega) | skip))
theorem rangedS : Ranged seq.K := by
  intro x rec ws mv h ho hr hw
  have ha := h.a
  simp only [seq.K, seq.step, seq.stepW, seq.stepR]
  ((repeat' split) <;> refine ⟨?_, ?_⟩ <;> (first | assumption | exact Rng.nil | (apply Rng.end_; assumption) | (apply Rng.app; assumption; apply Rng.get; assumption) | (apply Rng.end_; apply Rng.app; assumption; apply Rng.get; assumption) | (apply Rng.set; assumption; apply Rng.get; assumption) | (apply Rng.set; assumption; (try simp only []); omega) | (apply Rng.swap; assumption; (try simp only []); omega) | skip))
theorem rangedG : Ranged ring.K := by
  intro x rec ws mv h ho hr hw
  have ha := h.a
  simp only [ring.K, ring.step, ring.stepW, ring.stepR]
  ((repeat' split) <;> refine ⟨?_, ?_⟩ <;> (first | assumption | exact Rng.nil | (apply Rng.end_; assumption) | (apply Rng.app; assumption; apply Rng.get; assumption) | (apply Rng.end_; apply Rng.app; assumption; apply Rng.get; assumption) | (apply Rng.set; assumption; apply Rng.get; assumption) | (apply Rng.set; assumption; (try simp only []); omega) | (apply Rng.swap; assumption; (try simp only []); omega) | skip))
theorem rangedH : Ranged fifo.K := by
  intro x rec ws mv h ho hr hw
  have ha := h.a; have hs := h.s
  have h1 := Int.emod_nonneg (x.a + 1) (show (2 * x.s) ≠ 0 by omega)
  have h2 := Int.emod_lt_of_pos (x.a + 1) (show 0 < 2 * x.s by omega)
  simp only [fifo.K, fifo.step, fifo.stepW, fifo.stepR]
  ((repeat' split) <;> refine ⟨?_, ?_⟩ <;> (first | assumption | exact Rng.nil | (apply Rng.end_; assumption) | (apply Rng.app; assumption; apply Rng.get; assumption) | (apply Rng.end_; apply Rng.app; assumption; apply Rng.get; assumption) | (apply Rng.set; assumption; apply Rng.get; assumption) | (apply Rng.set; assumption; (try simp only []); omega) | (apply Rng.swap; assumption; (try simp only []); omega) | skip))
theorem rangedC : Ranged cab.K := by
  intro x rec ws mv h ho hr hw
  have ha := h.a; have hb := h.b; have hs := h.s
  simp only [cab.K, cab.step, cab.stepW, cab.stepR]
  ((repeat' split) <;> refine ⟨?_, ?_⟩ <;> (first | assumption | exact Rng.nil | (apply Rng.end_; assumption) | (apply Rng.app; assumption; apply Rng.get; assumption) | (apply Rng.end_; apply Rng.app; assumption; apply Rng.get; assumption) | (apply Rng.set; assumption; apply Rng.get; assumption) | (apply Rng.set; assumption; (try simp only []); omega) | (apply Rng.swap; assumption; (try simp only []); omega) | skip))
theorem rangedN : Ranged chen.K := by
  intro x rec ws mv h ho hr hw
  have ha := h.a; have hb := h.b; have hs := h.rl
  simp only [chen.K, chen.step, chen.stepW, chen.stepR]
  ((repeat' split) <;> refine ⟨?_, ?_⟩ <;> (first | assumption | exact Rng.nil | (apply Rng.end_; assumption) | (apply Rng.app; assumption; apply Rng.get; assumption) | (apply Rng.end_; apply Rng.app; assumption; apply Rng.get; assumption) | (apply Rng.set; assumption; apply Rng.get; assumption) | (apply Rng.set; assumption; (try simp only []); omega) | (apply Rng.swap; assumption; (try simp only []); omega) | skip))
end Go.Proofs.Ytjplamoofkcojaa.core

/- A list, and an operation of the reference on it. -/
namespace Go.Proofs.Ytjplamoofkcojaa.ref
open Go Go.RowKit Go.Proofs.Ytjplamoofkcojaa.kit Go.Proofs.Ytjplamoofkcojaa.obj Go.Proofs.Ytjplamoofkcojaa.rop Go.Proofs.Ytjplamoofkcojaa.mem Go.Proofs.Ytjplamoofkcojaa.core
set_option linter.unusedVariables false
set_option linter.unusedSimpArgs false
set_option maxRecDepth 20000

structure Solo (w0 : World) (lv : Value) (W : World) (ry : Nat) (z : ROp) (rz ls : List Int) : Prop where
  row : mem.OwnW W 0 lv ls
  fl : ∀ y, lv.ownBlock = some y → w0.heap.size ≤ y
  chg : Chg [] w0 W
  box : RAt W ry z
  own : mem.OwnW W 0 z.rcd rz
  fr : w0.heap.size ≤ ry ∧ lv.ownBlock ≠ some ry
  fz : ∀ y, z.rcd.ownBlock = some y → w0.heap.size ≤ y ∧ lv.ownBlock ≠ some y ∧ y ≠ ry
section
variable {w0 W W' : World} {ry : Nat} {lv : Value} {rz ls : List Int} {z : ROp}
theorem Solo.keep (h : Solo w0 lv W ry z rz ls) (k : Chg [] W W') : Solo w0 lv W' ry z rz ls :=
  ⟨mem.own_chg h.row k (by simp), h.fl, h.chg.trans k, Blk.keep h.box k (by simp), mem.own_chg h.own k (by simp), h.fr, h.fz⟩
theorem Solo.put {g cp : Nat} (h : Solo w0 (.slice (some ⟨g, 0, none⟩) ls.length cp) W ry z rz ls) (i : Nat) (v : Int) : Solo w0 (.slice (some ⟨g, 0, none⟩) ls.length cp) (W.setCell ⟨g, i, none⟩ (.int .u32 v)) ry z rz (ls.set i v) := by
  have hg := h.fl g rfl
  have k : Chg [g] W (W.setCell ⟨g, i, none⟩ (.int .u32 v)) := (Chg.refl [g] W).setCell (p := ⟨g, i, none⟩) (.inl (by simp)) _
  refine ⟨OwnW.put h.row i v, h.fl, h.chg.setCell (p := ⟨g, i, none⟩) (.inr hg) _, Blk.keep h.box k ?_, mem.own_chg h.own k fun y hy => ?_, h.fr, h.fz⟩
  · simp only [List.mem_singleton]
    rintro rfl
    exact h.fr.2 rfl
  · simp only [List.mem_singleton]
    rintro rfl
    exact (h.fz y hy).2.1 rfl
theorem Solo.ref {g k cp : Nat} (h : Solo w0 (.slice (some ⟨g, 0, none⟩) k cp) W ry z rz ls) : k = ls.length ∧ ls.length ≤ cp ∧ Ref ry g (cp - ls.length) W z rz ls := by
  obtain ⟨h1, h2, h3, h4, h5⟩ := LT.of_own h.row
  exact ⟨h1, h2, h.box, h.own, h5, fun hh => h.fr.2 (by rw [hh]; rfl), fun y hy => ⟨(h.fz y hy).2.2, fun hh => (h.fz y hy).2.1 (by rw [hh]; rfl)⟩⟩
theorem Solo.theirs {Rel : Core → ROp → Prop} {g cp : Nat} {q : Q} (h : Solo w0 (.slice (some ⟨g, 0, none⟩) ls.length cp) W ry z rz ls) (hq : q.2.2.length = ls.length) (ha : After Rel ry g (cp - ls.length) W z.rcd q W') :
    ∃ z', Rel q.1 z' ∧ Solo w0 (.slice (some ⟨g, 0, none⟩) ls.length cp) W' ry z' q.2.1 q.2.2 := by
  obtain ⟨z', hrel, hr, hc, hv'⟩ := ha
  obtain ⟨k1, k2, k3, k4, k5⟩ := LT.of_own h.row
  have hsz := h.chg.size
  refine ⟨z', hrel, ?_, h.fl, ?_, hr.box, hr.own, h.fr, fun y hy => ?_⟩
  · rw [← hq]
    exact LT.own (by rw [hq]; exact hr.lst) (by rw [hq]; exact k2) k3 (Nat.zero_le _)
  · refine h.chg.into hc fun y hy => ?_
    right
    simp only [List.mem_cons, Option.mem_toList, Option.mem_def] at hy
    rcases hy with rfl | rfl | h1
    · exact h.fr.1
    · exact h.fl _ rfl
    · exact (h.fz y h1).1
  · rcases hv' y hy with h1 | h1
    · exact h.fz y h1
    · have hb2 := Blk.lt h.box
      exact ⟨Nat.le_trans hsz h1, fun hh => by have := own_lt h.row hh; omega, by omega⟩
theorem Solo.make {w1 : World} (h1 : Chg [] w0 w1) (hr : RAt w1 ry z) (hz : mem.OwnW w1 w0.heap.size z.rcd rz) (hzn : ∀ y, z.rcd.ownBlock = some y → y ≠ ry) (hry : w0.heap.size ≤ ry) (ho : mem.OwnW W w1.heap.size lv ls) (k : Chg [] w1 W) : Solo w0 lv W ry z rz ls := by
  have s1 := h1.size
  have hrl := Blk.lt hr
  have hll : ∀ y, lv.ownBlock = some y → w1.heap.size ≤ y := fun y hy => own_ge ho y hy
  refine ⟨own_base ho (Nat.zero_le _), fun y hy => by have := hll y hy; omega, h1.trans k, Blk.keep hr k (by simp), mem.own_chg (own_base hz (Nat.zero_le _)) k (by simp), ⟨hry, fun hh => by have := hll _ hh; omega⟩, fun y hy => ?_⟩
  have h2 := own_ge hz y hy
  have h3 := own_lt (own_base hz (Nat.zero_le _)) hy
  exact ⟨h2, fun hh => by have := hll _ hh; omega, hzn y hy⟩
end
section
variable {K : Kind} {Rel : Core → ROp → Prop} {w0 W : World} {ry : Nat} {x : Core} {rec ls : List Int} {z : ROp}
theorem Solo.step {g ln cp : Nat} (H : Ties K Rel) (mv : Value) (h : Solo w0 (.slice (some ⟨g, 0, none⟩) ln cp) W ry z rec ls) (hI : K.Shape x rec) (hrel : Rel x z) (ho : opens x ls.length = true) (hs : 0 ≤ x.steps ∧ x.steps ≤ 1000000) (hln : ls.length ≤ 100000) (hwf : ∀ z ∈ ls, 0 ≤ z ∧ z ≤ 4294967295) :
    Calls Try.prog 19 #[.pointer (some ⟨ry, 0, none⟩), .slice (some ⟨g, 0, none⟩) ln cp] W fun e W' => e = .returned (.bool true) ∧ ∃ z', Rel (K.step x mv rec ls).1 z' ∧ Solo w0 (.slice (some ⟨g, 0, none⟩) ln cp) W' ry z' (K.step x mv rec ls).2.1 (K.step x mv rec ls).2.2 := by
  obtain ⟨hk, hcp, href⟩ := h.ref
  subst hk
  refine (H.yes mv hI hrel ho hs hln hcp hwf href).mono ?_
  rintro e w1 ⟨rfl, ha⟩
  exact ⟨rfl, h.theirs (K.len _ _ _ _) ha⟩
theorem Solo.stay {la : Option Addr} {ln cp : Nat} (H : Ties K Rel) (h : Solo w0 (.slice la ln cp) W ry z rec ls) (hI : K.Shape x rec) (hrel : Rel x z) (ho : opens x ls.length = false) (hln : ls.length ≤ 100000) (hl : ln = ls.length) :
    Calls Try.prog 19 #[.pointer (some ⟨ry, 0, none⟩), .slice la ln cp] W fun e W' => e = .returned (.bool false) ∧ Chg [] W W' := by
  subst hl
  obtain ⟨h1, h2, h3⟩ := H.no hI hrel ho
  exact Step_no ry z la ls.length cp hln h2 h3 W h.box h1
end
end Go.Proofs.Ytjplamoofkcojaa.ref

/- The kind of four slots, and the reference's. -/
namespace Go.Proofs.Ytjplamoofkcojaa.ref
open Go Go.RowKit Go.Proofs.Ytjplamoofkcojaa.kit Go.Proofs.Ytjplamoofkcojaa.obj Go.Proofs.Ytjplamoofkcojaa.rop Go.Proofs.Ytjplamoofkcojaa.mem Go.Proofs.Ytjplamoofkcojaa.core
set_option linter.unusedVariables false
set_option linter.unusedSimpArgs false
set_option maxRecDepth 20000

theorem tiesF : Ties four.K RelF where
  yes := by
    intro bx g tn cp x z rec ls W mv hI hrel ho hs hln hcp hwf h
    rcases (show x.op = 2 ∨ x.op = 1 from (four.Shape.op hI).imp And.left And.left) with hop | hop
    · exact fourW_yes bx g tn cp x z rec ls W mv hop hI hrel ho hs hln hcp hwf h
    · exact fourR_yes bx g tn cp x z rec ls W mv hop hI hrel ho hs hln hcp hwf h
  no := by
    intro x z rec n hI hrel ho
    obtain ⟨hz, hk, hO, hR, hB⟩ := hrel
    have hsz : x.size = 4 + 4 * x.w := four.Shape.size hI
    have hb : 0 ≤ x.base := four.Shape.base hI
    have hw : 1 ≤ x.w ∧ x.w ≤ 8 := four.Shape.w hI
    have hsize : sizeI 1 x.w x.s x.c x.st x.il x.rl = 4 + 4 * x.w := by simp [sizeI, hR, headI, recordsI]
    rw [hz]
    refine ⟨?_, ⟨hb, hB⟩, by show ObjW x.k x.w x.s x.c x.st x.il x.rl; rw [hk]; exact hO⟩
    show x.over = true ∨ (n : Int) < x.base ∨ (n : Int) - x.base < sizeI x.k x.w x.s x.c x.st x.il x.rl
    rw [hk, hsize]
    cases hov : x.over
    · right
      simp only [opens, hov, Bool.not_false, Bool.true_and, insB, decide_eq_false_iff_not, hsz] at ho
      omega
    · exact .inl rfl
  over := by rintro x z ⟨hz, -⟩; rw [hz]; rfl
  steps := by rintro x z ⟨hz, -⟩; rw [hz]; rfl
  code := by rintro x z ⟨hz, -⟩; rw [hz]; rfl
end Go.Proofs.Ytjplamoofkcojaa.ref

/- How an operation of each kind begins. -/
namespace Go.Proofs.Ytjplamoofkcojaa.hold
open Go Go.RowKit Go.Proofs.Ytjplamoofkcojaa.kit Go.Proofs.Ytjplamoofkcojaa.obj Go.Proofs.Ytjplamoofkcojaa.mem Go.Proofs.Ytjplamoofkcojaa.core
set_option linter.unusedVariables false
set_option linter.unusedSimpArgs false
set_option maxRecDepth 20000

theorem beg_spec {w : Int} {rl : Nat} {size at_ op rd_ o0 o1 : Int} {n : Nat} (hrl : 1 ≤ rl) (h : begI w rl size at_ op rd_ o0 o1 n = 0) : 1 ≤ size ∧ 0 ≤ at_ ∧ (0 ≤ rd_ ∧ rd_ < (rl : Int)) ∧ ((op = o0 ∧ (n : Int) = w) ∨ (op = o1 ∧ n = 0)) := by
  unfold begI at h
  split at h
  · omega
  · split at h
    · split at h
      · omega
      · split at h <;> omega
    · split at h
      · split at h
        · omega
        · split at h <;> omega
      · omega
theorem begun {k w s c st : Int} {il rl : Nat} {at_ op rd_ o0 o1 : Int} {n : Nat} (h : begI w rl (rop.sizeI k w s c st il rl) at_ op rd_ o0 o1 n = 0) : rightB k w s c st il rl = true ∧ (k = 1 ∨ k = 2 ∨ k = 3 ∨ k = 4 ∨ k = 5 ∨ k = 6) := by
  have h1 : 1 ≤ rop.sizeI k w s c st il rl := by
    unfold begI at h
    split at h
    · omega
    · omega
  have h2 := (ref.size_right).1.1 h1
  have h3 := rightB_bd h2
  exact ⟨h2, by omega⟩
theorem sizeF {w s c st : Int} {il rl : Nat} (hR : rightB 1 w s c st il rl = true) : rop.sizeI 1 w s c st il rl = 4 + 4 * w := by
  simp [rop.sizeI, hR, rop.headI, rop.recordsI]
theorem shapeF {w s c st : Int} {ia : Option Addr} {il ic : Nat} {wri : Int} {ra : Option Addr} {rl rc : Nat} {at_ op rd_ : Int} {rec : List Int} (hR : rightB 1 w s c st il rl = true) (hB : begI w rl (rop.sizeI 1 w s c st il rl) at_ op rd_ (writesI 1) (readsI 1) rec.length = 0) : four.K.Shape ({ k := 1, w := w, s := s, c := c, st := st, ia := ia, il := il, ic := ic, wr := wri, ra := ra, rl := rl, rc := rc, op := op, reader := rd_, phase := 0, i := 0, tries := 0, a := 0, b := 0, used := 0, m := .pointer none, base := at_, size := rop.sizeI 1 w s c st il rl, code := 0, steps := 0, over := false } : Core) rec := by
  have hb := rightB_bd hR
  obtain ⟨-, h0, hrd, hop⟩ := beg_spec (by omega) hB
  have hz := sizeF hR
  have hr5 := hR
  simp only [rightB, decide_eq_true_eq] at hr5
  rcases hop with ⟨ho, hr⟩ | ⟨ho, hr⟩
  · have ho : op = 2 := ho
    subst ho
    exact ⟨by simp only []; omega, .inl rfl, .inl rfl, h0, hz, fun _ => by simp only []; omega, .inl ⟨rfl, by simp, fun _ => by simp only []; omega⟩⟩
  · have ho : op = 1 := ho
    subst ho
    exact ⟨by simp only []; omega, .inl rfl, .inl rfl, h0, hz, fun _ => by simp only []; omega, .inr ⟨rfl, by simp, fun _ => by simp [hr]⟩⟩
theorem roomF {x : Core} {rec : List Int} (h : four.K.Shape x rec) : 1 ≤ x.size := by
  have h1 : x.size = _ := four.Shape.size h
  have h2 : 1 ≤ x.w ∧ x.w ≤ 8 := four.Shape.w h
  omega
theorem triesF {x : Core} {z : rop.ROp} (h : ref.RelF x z) : z.tries = x.tries := by
  have h1 := h.1
  rw [h1]
  rfl
theorem relF {w s c st : Int} {ia : Option Addr} {il ic : Nat} {wri : Int} {ra : Option Addr} {rl rc : Nat} {at_ op rd_ : Int} {rec : List Int} (hO : ObjW 1 w s c st il rl) (hR : rightB 1 w s c st il rl = true) (hB : begI w rl (rop.sizeI 1 w s c st il rl) at_ op rd_ (writesI 1) (readsI 1) rec.length = 0) (ha : at_ ≤ 9223372036854775807) (vy : Value) : ref.RelF ({ k := 1, w := w, s := s, c := c, st := st, ia := ia, il := il, ic := ic, wr := wri, ra := ra, rl := rl, rc := rc, op := op, reader := rd_, phase := 0, i := 0, tries := 0, a := 0, b := 0, used := 0, m := .pointer none, base := at_, size := rop.sizeI 1 w s c st il rl, code := 0, steps := 0, over := false } : Core) ({ k := 1, w := w, s := s, c := c, st := st, ia := ia, il := il, ic := ic, wr := wri, ra := ra, rl := rl, rc := rc, at_ := at_, op := op, reader := rd_, row := 0, i := 0, tries := 0, code := 0, steps := 0, a := 0, b := 0, u := fun _ => false, rcd := vy, over := false } : rop.ROp) := by
  exact ⟨rfl, rfl, hO, hR, ha⟩
theorem sizeN {w s c st : Int} {il rl : Nat} (hR : rightB 2 w s c st il rl = true) : rop.sizeI 2 w s c st il rl = 1 + rl + ((rl : Int) + 2) * w := by
  simp [rop.sizeI, hR, rop.headI, rop.recordsI]
theorem shapeN {w s c st : Int} {ia : Option Addr} {il ic : Nat} {wri : Int} {ra : Option Addr} {rl rc : Nat} {at_ op rd_ : Int} {rec : List Int} (hR : rightB 2 w s c st il rl = true) (hB : begI w rl (rop.sizeI 2 w s c st il rl) at_ op rd_ (writesI 2) (readsI 2) rec.length = 0) : chen.K.Shape ({ k := 2, w := w, s := s, c := c, st := st, ia := ia, il := il, ic := ic, wr := wri, ra := ra, rl := rl, rc := rc, op := op, reader := rd_, phase := 0, i := 0, tries := 0, a := 0, b := 0, used := 0, m := .pointer none, base := at_, size := rop.sizeI 2 w s c st il rl, code := 0, steps := 0, over := false } : Core) rec := by
  have hb := rightB_bd hR
  obtain ⟨-, h0, hrd, hop⟩ := beg_spec (by omega) hB
  have hz := sizeN hR
  have hr5 := hR
  simp only [rightB, decide_eq_true_eq] at hr5
  rcases hop with ⟨ho, hr⟩ | ⟨ho, hr⟩
  · have ho : op = 2 := ho
    subst ho
    exact ⟨by simp only []; omega, by simp only []; omega, by simp only []; omega, by simp only []; omega, hrd, h0, hz, fun _ _ _ => bitm.Marks.zero, fun _ => by simp only []; exact ⟨by omega, by simp; omega⟩, .inl ⟨rfl, by simp, fun _ => by simp only []; omega⟩⟩
  · have ho : op = 1 := ho
    subst ho
    exact ⟨by simp only []; omega, by simp only []; omega, by simp only []; omega, by simp only []; omega, hrd, h0, hz, fun _ h9 => by simp at h9, fun _ => by simp only []; exact ⟨by omega, by simp; omega⟩, .inr ⟨rfl, by simp, fun _ => by simp [hr]⟩⟩
theorem roomN {x : Core} {rec : List Int} (h : chen.K.Shape x rec) : 1 ≤ x.size := by
  have h1 : x.size = _ := chen.Shape.size h
  have h2 : 1 ≤ x.w ∧ x.w ≤ 8 := chen.Shape.w h
  have h4 := Int.mul_nonneg (show 0 ≤ (x.rl : Int) + 2 by omega) (show 0 ≤ x.w by omega)
  omega
theorem triesN {x : Core} {z : rop.ROp} (h : ref.RelN x z) : z.tries = x.tries := by
  obtain ⟨-, ⟨-, a, u, hz, -⟩ | ⟨-, hz⟩⟩ := h <;> (rw [hz]; rfl)
theorem relN {w s c st : Int} {ia : Option Addr} {il ic : Nat} {wri : Int} {ra : Option Addr} {rl rc : Nat} {at_ op rd_ : Int} {rec : List Int} (hO : ObjW 2 w s c st il rl) (hR : rightB 2 w s c st il rl = true) (hB : begI w rl (rop.sizeI 2 w s c st il rl) at_ op rd_ (writesI 2) (readsI 2) rec.length = 0) (ha : at_ ≤ 9223372036854775807) (vy : Value) : ref.RelN ({ k := 2, w := w, s := s, c := c, st := st, ia := ia, il := il, ic := ic, wr := wri, ra := ra, rl := rl, rc := rc, op := op, reader := rd_, phase := 0, i := 0, tries := 0, a := 0, b := 0, used := 0, m := .pointer none, base := at_, size := rop.sizeI 2 w s c st il rl, code := 0, steps := 0, over := false } : Core) ({ k := 2, w := w, s := s, c := c, st := st, ia := ia, il := il, ic := ic, wr := wri, ra := ra, rl := rl, rc := rc, at_ := at_, op := op, reader := rd_, row := 0, i := 0, tries := 0, code := 0, steps := 0, a := 0, b := 0, u := fun _ => false, rcd := vy, over := false } : rop.ROp) := by
  have hb := rightB_bd hR
  obtain ⟨-, h0, hrd, hop⟩ := beg_spec (by omega) hB
  exact ⟨⟨rfl, hO, hR, ha⟩, (by rcases hop with ⟨h1, -⟩ | ⟨h1, -⟩; exact .inl ⟨h1, 0, fun _ => false, rfl, fun _ _ => rfl, fun _ h9 => absurd h9 (by show ¬ ((0 : Int) = 1); omega)⟩; exact .inr ⟨h1, rfl⟩)⟩
theorem sizeS {w s c st : Int} {il rl : Nat} (hR : rightB 3 w s c st il rl = true) : rop.sizeI 3 w s c st il rl = 1 + w := by
  simp [rop.sizeI, hR, rop.headI, rop.recordsI]
theorem shapeS {w s c st : Int} {ia : Option Addr} {il ic : Nat} {wri : Int} {ra : Option Addr} {rl rc : Nat} {at_ op rd_ : Int} {rec : List Int} (hR : rightB 3 w s c st il rl = true) (hB : begI w rl (rop.sizeI 3 w s c st il rl) at_ op rd_ (writesI 3) (readsI 3) rec.length = 0) : seq.K.Shape ({ k := 3, w := w, s := s, c := c, st := st, ia := ia, il := il, ic := ic, wr := wri, ra := ra, rl := rl, rc := rc, op := op, reader := rd_, phase := 0, i := 0, tries := 0, a := 0, b := 0, used := 0, m := .pointer none, base := at_, size := rop.sizeI 3 w s c st il rl, code := 0, steps := 0, over := false } : Core) rec := by
  have hb := rightB_bd hR
  obtain ⟨-, h0, hrd, hop⟩ := beg_spec (by omega) hB
  have hz := sizeS hR
  have hr5 := hR
  simp only [rightB, decide_eq_true_eq] at hr5
  rcases hop with ⟨ho, hr⟩ | ⟨ho, hr⟩
  · have ho : op = 2 := ho
    subst ho
    exact ⟨by simp only []; omega, by simp only []; omega, by simp only []; omega, ⟨by simp only []; omega, fun _ => by simp only []; omega⟩, h0, hz, fun _ => by simp only []; omega, .inl ⟨rfl, by simp, fun _ => by simp only []; omega⟩⟩
  · have ho : op = 1 := ho
    subst ho
    exact ⟨by simp only []; omega, by simp only []; omega, by simp only []; omega, ⟨by simp only []; omega, fun _ => by simp only []; omega⟩, h0, hz, fun _ => by simp only []; omega, .inr ⟨rfl, by simp, fun _ => by simp [hr]⟩⟩
theorem roomS {x : Core} {rec : List Int} (h : seq.K.Shape x rec) : 1 ≤ x.size := by
  have h1 : x.size = _ := seq.Shape.size h
  have h2 : 1 ≤ x.w ∧ x.w ≤ 8 := seq.Shape.w h
  omega
theorem triesS {x : Core} {z : rop.ROp} (h : ref.RelS x z) : z.tries = x.tries := by
  have h1 := h.1
  rw [h1]
  rfl
theorem relS {w s c st : Int} {ia : Option Addr} {il ic : Nat} {wri : Int} {ra : Option Addr} {rl rc : Nat} {at_ op rd_ : Int} {rec : List Int} (hO : ObjW 3 w s c st il rl) (hR : rightB 3 w s c st il rl = true) (hB : begI w rl (rop.sizeI 3 w s c st il rl) at_ op rd_ (writesI 3) (readsI 3) rec.length = 0) (ha : at_ ≤ 9223372036854775807) (vy : Value) : ref.RelS ({ k := 3, w := w, s := s, c := c, st := st, ia := ia, il := il, ic := ic, wr := wri, ra := ra, rl := rl, rc := rc, op := op, reader := rd_, phase := 0, i := 0, tries := 0, a := 0, b := 0, used := 0, m := .pointer none, base := at_, size := rop.sizeI 3 w s c st il rl, code := 0, steps := 0, over := false } : Core) ({ k := 3, w := w, s := s, c := c, st := st, ia := ia, il := il, ic := ic, wr := wri, ra := ra, rl := rl, rc := rc, at_ := at_, op := op, reader := rd_, row := 0, i := 0, tries := 0, code := 0, steps := 0, a := 0, b := 0, u := fun _ => false, rcd := vy, over := false } : rop.ROp) := by
  exact ⟨rfl, rfl, hO, hR, ha⟩
theorem sizeG {w s c st : Int} {il rl : Nat} (hR : rightB 4 w s c st il rl = true) : rop.sizeI 4 w s c st il rl = 1 + s * w := by
  simp [rop.sizeI, hR, rop.headI, rop.recordsI]
theorem shapeG {w s c st : Int} {ia : Option Addr} {il ic : Nat} {wri : Int} {ra : Option Addr} {rl rc : Nat} {at_ op rd_ : Int} {rec : List Int} (hR : rightB 4 w s c st il rl = true) (hB : begI w rl (rop.sizeI 4 w s c st il rl) at_ op rd_ (writesI 4) (readsI 4) rec.length = 0) : ring.K.Shape ({ k := 4, w := w, s := s, c := c, st := st, ia := ia, il := il, ic := ic, wr := wri, ra := ra, rl := rl, rc := rc, op := op, reader := rd_, phase := 0, i := 0, tries := 0, a := 0, b := 0, used := 0, m := .pointer none, base := at_, size := rop.sizeI 4 w s c st il rl, code := 0, steps := 0, over := false } : Core) rec := by
  have hb := rightB_bd hR
  obtain ⟨-, h0, hrd, hop⟩ := beg_spec (by omega) hB
  have hz := sizeG hR
  have hr5 := hR
  simp only [rightB, decide_eq_true_eq] at hr5
  rcases hop with ⟨ho, hr⟩ | ⟨ho, hr⟩
  · have ho : op = 2 := ho
    subst ho
    exact ⟨by simp only []; omega, by simp only []; omega, by simp only []; omega, by simp only []; omega, ⟨by simp only []; omega, fun _ => by simp only []; omega⟩, h0, hz, fun _ => by simp only []; omega, .inl ⟨rfl, by simp, fun _ => by simp only []; omega⟩⟩
  · have ho : op = 1 := ho
    subst ho
    exact ⟨by simp only []; omega, by simp only []; omega, by simp only []; omega, by simp only []; omega, ⟨by simp only []; omega, fun _ => by simp only []; omega⟩, h0, hz, fun _ => by simp only []; omega, .inr ⟨rfl, by simp, fun _ => by simp [hr]⟩⟩
theorem roomG {x : Core} {rec : List Int} (h : ring.K.Shape x rec) : 1 ≤ x.size := by
  have h1 : x.size = _ := ring.Shape.size h
  have h2 : 1 ≤ x.w ∧ x.w ≤ 8 := ring.Shape.w h
  have h3 := ring.Shape.s h
  have h4 := Int.mul_nonneg (show 0 ≤ x.s by omega) (show 0 ≤ x.w by omega)
  omega
theorem triesG {x : Core} {z : rop.ROp} (h : ref.RelG x z) : z.tries = x.tries := by
  have h1 := h.1
  rw [h1]
  rfl
theorem relG {w s c st : Int} {ia : Option Addr} {il ic : Nat} {wri : Int} {ra : Option Addr} {rl rc : Nat} {at_ op rd_ : Int} {rec : List Int} (hO : ObjW 4 w s c st il rl) (hR : rightB 4 w s c st il rl = true) (hB : begI w rl (rop.sizeI 4 w s c st il rl) at_ op rd_ (writesI 4) (readsI 4) rec.length = 0) (ha : at_ ≤ 9223372036854775807) (vy : Value) : ref.RelG ({ k := 4, w := w, s := s, c := c, st := st, ia := ia, il := il, ic := ic, wr := wri, ra := ra, rl := rl, rc := rc, op := op, reader := rd_, phase := 0, i := 0, tries := 0, a := 0, b := 0, used := 0, m := .pointer none, base := at_, size := rop.sizeI 4 w s c st il rl, code := 0, steps := 0, over := false } : Core) ({ k := 4, w := w, s := s, c := c, st := st, ia := ia, il := il, ic := ic, wr := wri, ra := ra, rl := rl, rc := rc, at_ := at_, op := op, reader := rd_, row := 0, i := 0, tries := 0, code := 0, steps := 0, a := 0, b := 0, u := fun _ => false, rcd := vy, over := false } : rop.ROp) := by
  exact ⟨rfl, rfl, hO, hR, ha⟩
theorem sizeC {w s c st : Int} {il rl : Nat} (hR : rightB 5 w s c st il rl = true) : rop.sizeI 5 w s c st il rl = 1 + rl + s * w := by
  simp [rop.sizeI, hR, rop.headI, rop.recordsI]
theorem shapeC {w s c st : Int} {ia : Option Addr} {il ic : Nat} {wri : Int} {ra : Option Addr} {rl rc : Nat} {at_ op rd_ : Int} {rec : List Int} (hR : rightB 5 w s c st il rl = true) (hB : begI w rl (rop.sizeI 5 w s c st il rl) at_ op rd_ (writesI 5) (readsI 5) rec.length = 0) : cab.K.Shape ({ k := 5, w := w, s := s, c := c, st := st, ia := ia, il := il, ic := ic, wr := wri, ra := ra, rl := rl, rc := rc, op := op, reader := rd_, phase := 0, i := 0, tries := 0, a := 0, b := 0, used := 0, m := .pointer none, base := at_, size := rop.sizeI 5 w s c st il rl, code := 0, steps := 0, over := false } : Core) rec := by
  have hb := rightB_bd hR
  obtain ⟨-, h0, hrd, hop⟩ := beg_spec (by omega) hB
  have hz := sizeC hR
  have hr5 := hR
  simp only [rightB, decide_eq_true_eq] at hr5
  rcases hop with ⟨ho, hr⟩ | ⟨ho, hr⟩
  · have ho : op = 2 := ho
    subst ho
    exact ⟨by simp only []; omega, by simp only []; omega, by simp only []; omega, by simp only []; omega, by simp only []; omega, by simp only []; omega, hrd, ⟨by simp only []; omega, by simp only []; omega, fun _ _ => by simp only []; omega⟩, h0, hz, fun _ _ _ => bitm.Marks.zero, fun _ => by simp only []; exact ⟨by omega, by simp; omega⟩, .inl ⟨rfl, by simp, fun _ => by simp only []; omega⟩⟩
  · have ho : op = 1 := ho
    subst ho
    exact ⟨by simp only []; omega, by simp only []; omega, by simp only []; omega, by simp only []; omega, by simp only []; omega, by simp only []; omega, hrd, ⟨by simp only []; omega, by simp only []; omega, fun _ _ => by simp only []; omega⟩, h0, hz, fun _ h9 => by simp at h9, fun _ => by simp only []; exact ⟨by omega, by simp; omega⟩, .inr ⟨rfl, by simp, fun _ => by simp [hr]⟩⟩
theorem roomC {x : Core} {rec : List Int} (h : cab.K.Shape x rec) : 1 ≤ x.size := by
  have h1 : x.size = _ := cab.Shape.size h
  have h2 : 1 ≤ x.w ∧ x.w ≤ 8 := cab.Shape.w h
  have h3 := cab.Shape.s h
  have h4 := Int.mul_nonneg (show 0 ≤ x.s by omega) (show 0 ≤ x.w by omega)
  omega
theorem triesC {x : Core} {z : rop.ROp} (h : ref.RelC x z) : z.tries = x.tries := by
  obtain ⟨-, ⟨-, a, u, hz, -⟩ | ⟨-, hz, -⟩⟩ := h <;> (rw [hz]; rfl)
theorem relC {w s c st : Int} {ia : Option Addr} {il ic : Nat} {wri : Int} {ra : Option Addr} {rl rc : Nat} {at_ op rd_ : Int} {rec : List Int} (hO : ObjW 5 w s c st il rl) (hR : rightB 5 w s c st il rl = true) (hB : begI w rl (rop.sizeI 5 w s c st il rl) at_ op rd_ (writesI 5) (readsI 5) rec.length = 0) (ha : at_ ≤ 9223372036854775807) (vy : Value) : ref.RelC ({ k := 5, w := w, s := s, c := c, st := st, ia := ia, il := il, ic := ic, wr := wri, ra := ra, rl := rl, rc := rc, op := op, reader := rd_, phase := 0, i := 0, tries := 0, a := 0, b := 0, used := 0, m := .pointer none, base := at_, size := rop.sizeI 5 w s c st il rl, code := 0, steps := 0, over := false } : Core) ({ k := 5, w := w, s := s, c := c, st := st, ia := ia, il := il, ic := ic, wr := wri, ra := ra, rl := rl, rc := rc, at_ := at_, op := op, reader := rd_, row := 0, i := 0, tries := 0, code := 0, steps := 0, a := 0, b := 0, u := fun _ => false, rcd := vy, over := false } : rop.ROp) := by
  have hb := rightB_bd hR
  obtain ⟨-, h0, hrd, hop⟩ := beg_spec (by omega) hB
  exact ⟨⟨rfl, hO, hR, ha⟩, (by rcases hop with ⟨h1, -⟩ | ⟨h1, -⟩; exact .inl ⟨h1, 0, fun _ => false, rfl, fun _ _ => rfl, fun _ h9 => absurd h9 (by show ¬ ((0 : Int) = 1); omega)⟩; exact .inr ⟨h1, by simp [ref.ropC, ref.rowC, ref.ropOf], fun _ => .inl rfl⟩)⟩
theorem sizeH {w s c st : Int} {il rl : Nat} (hR : rightB 6 w s c st il rl = true) : rop.sizeI 6 w s c st il rl = 2 + s * w := by
  simp [rop.sizeI, hR, rop.headI, rop.recordsI]
theorem shapeH {w s c st : Int} {ia : Option Addr} {il ic : Nat} {wri : Int} {ra : Option Addr} {rl rc : Nat} {at_ op rd_ : Int} {rec : List Int} (hR : rightB 6 w s c st il rl = true) (hB : begI w rl (rop.sizeI 6 w s c st il rl) at_ op rd_ (writesI 6) (readsI 6) rec.length = 0) : fifo.K.Shape ({ k := 6, w := w, s := s, c := c, st := st, ia := ia, il := il, ic := ic, wr := wri, ra := ra, rl := rl, rc := rc, op := op, reader := rd_, phase := 0, i := 0, tries := 0, a := 0, b := 0, used := 0, m := .pointer none, base := at_, size := rop.sizeI 6 w s c st il rl, code := 0, steps := 0, over := false } : Core) rec := by
  have hb := rightB_bd hR
  obtain ⟨-, h0, hrd, hop⟩ := beg_spec (by omega) hB
  have hz := sizeH hR
  have hr5 := hR
  simp only [rightB, decide_eq_true_eq] at hr5
  rcases hop with ⟨ho, hr⟩ | ⟨ho, hr⟩
  · have ho : op = 3 := ho
    subst ho
    exact ⟨by simp only []; omega, by simp only []; omega, by simp only []; omega, h0, hz, fun _ => by simp only []; omega, .inl ⟨rfl, by simp, fun _ => by simp only []; omega⟩⟩
  · have ho : op = 4 := ho
    subst ho
    exact ⟨by simp only []; omega, by simp only []; omega, by simp only []; omega, h0, hz, fun _ => by simp only []; omega, .inr ⟨rfl, by simp, fun _ => by simp [hr]⟩⟩
theorem roomH {x : Core} {rec : List Int} (h : fifo.K.Shape x rec) : 1 ≤ x.size := by
  have h1 : x.size = _ := fifo.Shape.size h
  have h2 : 1 ≤ x.w ∧ x.w ≤ 8 := fifo.Shape.w h
  have h3 := fifo.Shape.s h
  have h4 := Int.mul_nonneg (show 0 ≤ x.s by omega) (show 0 ≤ x.w by omega)
  omega
theorem triesH {x : Core} {z : rop.ROp} (h : ref.RelH x z) : z.tries = x.tries := by
  have h1 := h.1
  rw [h1]
  rfl
theorem relH {w s c st : Int} {ia : Option Addr} {il ic : Nat} {wri : Int} {ra : Option Addr} {rl rc : Nat} {at_ op rd_ : Int} {rec : List Int} (hO : ObjW 6 w s c st il rl) (hR : rightB 6 w s c st il rl = true) (hB : begI w rl (rop.sizeI 6 w s c st il rl) at_ op rd_ (writesI 6) (readsI 6) rec.length = 0) (ha : at_ ≤ 9223372036854775807) (vy : Value) : ref.RelH ({ k := 6, w := w, s := s, c := c, st := st, ia := ia, il := il, ic := ic, wr := wri, ra := ra, rl := rl, rc := rc, op := op, reader := rd_, phase := 0, i := 0, tries := 0, a := 0, b := 0, used := 0, m := .pointer none, base := at_, size := rop.sizeI 6 w s c st il rl, code := 0, steps := 0, over := false } : Core) ({ k := 6, w := w, s := s, c := c, st := st, ia := ia, il := il, ic := ic, wr := wri, ra := ra, rl := rl, rc := rc, at_ := at_, op := op, reader := rd_, row := 0, i := 0, tries := 0, code := 0, steps := 0, a := 0, b := 0, u := fun _ => false, rcd := vy, over := false } : rop.ROp) := by
  exact ⟨rfl, rfl, hO, hR, ha, fun _ h9 => absurd h9 (by show ¬ ((0 : Int) = 1); omega)⟩
end Go.Proofs.Ytjplamoofkcojaa.hold
