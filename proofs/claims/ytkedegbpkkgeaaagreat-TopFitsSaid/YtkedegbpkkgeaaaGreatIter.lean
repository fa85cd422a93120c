/-
  A range over a function whose iterator may write blocks of its own (L): the law, by worlds' changes (Chg).
-/
import Derived.RangeFuncNested
import Derived.RangeFuncBound
import Derived.RangeFuncCalls
import Derived.RangeFuncLeaves
import Derived.OwnWalkIn
import Derived.TacticsInMore
import Derived.LoopNIn
import Derived.LoopIn
import Derived.Test.YtkedegbpkkgeaaaGreatTop1
namespace Go.Proofs.YtkedegbpkkgeaaaGreat.kit
open Go Go.RowKit
set_option linter.unusedVariables false

variable {F : Fence} {n : Nat} {P : Program} {w : World}

theorem Chg.putObj {L : List Nat} {a b : World} (h : Chg L a b) {l : Nat} {o : Obj} (hb : b.heap[l]? = some o) (hl : l ∈ L ∨ a.heap.size ≤ l) (o' : Obj) : Chg L a (b.putObj l o') := by
  have hlt : l < b.heap.size := (Array.getElem?_eq_some_iff.1 hb).1
  refine ⟨h.os, h.tape, h.output, by simpa [World.putObj] using h.size, fun k hk hn => ?_⟩
  have hne : k ≠ l := by
    rintro rfl
    rcases hl with h1 | h1
    · exact hn h1
    · omega
  exact (World.putObj_heap_other hne).trans (h.block k hk hn)

/-- AN ITERATOR's CONTRACT: it may write the blocks of L; what a round keeps for it is said by Kp. -/
def IterOK {α : Type} (F : Fence) (n : Nat) (P : Program) (g : Nat) (lb : Array Value) (encs : α → Array Value) (L : List Nat) (Kp : World → World → Prop) (S Sp : List α → Prop) (R : List α → α → World → Prop) (w : World) : Prop :=
  ∀ (l : Nat) (J Jx : List α → World → Prop) (W : World), Chg [] w W → (∀ pre A B, J pre A → Chg L A B → J pre B) → (∀ pre A B, Jx pre A → Chg L A B → Jx pre B) →
    (∀ pre x W1, J pre W1 → R pre x W1 → YieldAt F (n - 1) P l (encs x) W1 fun e W' =>
      (e = .returned (.bool true) ∧ J (pre ++ [x]) W' ∧ Kp W1 W') ∨ (e = .returned (.bool false) ∧ Jx (pre ++ [x]) W')) →
    J [] W →
    CallsIn F n P g (#[.func (.yield l) #[] #[]] ++ lb) W fun e W' => (∃ v, e = .returned v) ∧ ((∃ xs, S xs ∧ J xs W') ∨ (∃ pre, Sp pre ∧ Jx pre W'))

/-- HOW A ROUND MAY BE LEFT: D: the block for deferred calls; the loop's record behind it stays as it was laid. -/
def chgPost {α : Type} (D : Nat) (r : Loop) (Kp : World → World → Prop) (I : List α → World → Prop) (Ix : Code → List α → World → Prop) (xs : List α) (W : World) : Exit → Act → World → Prop
  | .normal, _, W' => (W'.heap[D]? = some (.deferred (some [])) ∧ W'.heap[D + 1]? = some (.loop r)) ∧ Kp W W' ∧ I xs W'
  | .ret, _, W' => (W'.heap[D]? = some (.deferred (some [])) ∧ W'.heap[D + 1]? = some (.loop r)) ∧ Ix .ret xs W'
  | .exit id, _, W' => (W'.heap[D]? = some (.deferred (some [])) ∧ W'.heap[D + 1]? = some (.loop r)) ∧ Ix (.exit id) xs W'
  | .goto t, _, W' => (W'.heap[D]? = some (.deferred (some [])) ∧ W'.heap[D + 1]? = some (.loop r)) ∧ Ix (.goto t) xs W'
  | .panic _, _, _ => False
  | .outgrown, _, _ => False

theorem wpIn_rangeFunc_chg {α : Type} {g : Operand} {ps : Array Tmp} {assign body : Code} {Q : Exit → Act → World → Prop} {a : Act} {w : World}
    (hro : F.round = none) (h1 : 1 ≤ n) {gf : Nat} {lb : Array Value} (hg : a.eval g = .func (.func gf) #[] lb) (hFg : F.fn gf) (eg : ∀ args w, (callFunc gf args).run P w = .ok (.enter gf args) w)
    {encs : α → Array Value} {L : List Nat} {Kp : World → World → Prop} {S Sp : List α → Prop} {R : List α → α → World → Prop} (hseq : IterOK F (n - 1) P gf lb encs L Kp S Sp R w)
    (hL : ∀ b ∈ L, b < w.heap.size)
    (hKb : ∀ (A B : World) (o' : Obj) (r : Loop), B.heap[w.heap.size + 1]? = some (.loop r) → Kp A B → Kp A (B.putObj (w.heap.size + 1) o'))
    (hps : ∀ x, (encs x).size = ps.size)
    (I : List α → World → Prop) (Ix : Code → List α → World → Prop)
    (hI : ∀ pre A B r, I pre A → A.heap[w.heap.size + 1]? = some (.loop r) → Chg ((w.heap.size + 1) :: L) A B → I pre B)
    (hIx : ∀ c pre A B r, Ix c pre A → A.heap[w.heap.size + 1]? = some (.loop r) → Chg ((w.heap.size + 1) :: L) A B → Ix c pre B)
    (h0 : ∀ W, Chg [] w W → I [] W)
    (hround : ∀ (pre : List α) (x : α) (W : World) (r : Loop), I pre W → R pre x W → W.heap[w.heap.size]? = some (.deferred (some [])) → W.heap[w.heap.size + 1]? = some (.loop r) →
      assign.wpIn (F.inRound (w.heap.size + 1)) (n - 1 - 1) P (Exit.then (fun a₁ w₁ => w₁.heap[w.heap.size + 1]? = some (.loop r) ∧
          body.wpIn (F.inRound (w.heap.size + 1)) (n - 1 - 1) P (chgPost w.heap.size { r with state := .busy } Kp I Ix (pre ++ [x]) W) a₁ (w₁.putObj (w.heap.size + 1) (.loop { r with state := .busy })))
        (fun _ _ _ => False)) { tmps := (ps.zip (encs x)).foldl (fun t (p, v) => t.setIfInBounds p v) a.tmps, defers := [] } W)
    (hdone : ∀ (xs : List α) (W : World), S xs → I xs W → W.heap[w.heap.size]? = some (.deferred (some [])) → Q .normal { a with defers := { target := .collected w.heap.size, args := #[] } :: a.defers } W)
    (hstop : ∀ (c : Code) (pre : List α) (W : World), Sp pre → Ix c pre W → W.heap[w.heap.size]? = some (.deferred (some [])) → c.wpIn F n P Q { a with defers := { target := .collected w.heap.size, args := #[] } :: a.defers } W) :
    (Code.rangeFunc g ps assign body).wpIn F n P Q a w := by
  refine wpIn_rangeFunc ?_
  intro fn hfn
  rw [hro]
  obtain ⟨rec, hrec⟩ : ∃ rec : LoopState → Option Code → Loop, rec = fun st pe => { state := st, pending := pe, fn, tmps := a.tmps, params := ps, assign, body, defers := w.heap.size } := ⟨_, rfl⟩
  obtain ⟨W1, hW1⟩ : ∃ W1, (w.alloc (.deferred (some []))).alloc (.loop (rec .ready none)) = W1 := ⟨_, rfl⟩
  have hL1 : W1.heap[w.heap.size + 1]? = some (.loop (rec .ready none)) := by
    rw [← hW1]; have := World.alloc_heap_new (w.alloc (.deferred (some []))) (.loop (rec .ready none)); rwa [World.size_alloc] at this
  have hK1 : W1.heap[w.heap.size]? = some (.deferred (some [])) := by
    rw [← hW1]; exact (Below.heap_alloc _ _ _ (by simp)).trans (World.alloc_heap_new w _)
  have hb1 : Chg [] w W1 := by rw [← hW1]; exact ((Chg.refl [] w).alloc _).alloc _
  have hDL : w.heap.size ∉ L := fun h => by have := hL _ h; omega
  have hlL : w.heap.size + 1 ∉ L := fun h => by have := hL _ h; omega
  refine ⟨w.heap.size + 1, [{ target := .collected w.heap.size, args := #[] }], W1, { target := .fn (.func gf) lb, args := #[.func (.yield (w.heap.size + 1)) #[] #[]] }, W1, gf,
    #[.func (.yield (w.heap.size + 1)) #[] #[]] ++ lb, W1, ?_, ?_, ?_, ?_, fun _ => h1, ?_⟩
  · rw [← hW1, hrec]; exact run_enterLoop_outer _ _ _ _ _
  · simp only [resolve, hg]
    simp [go_sem]
  · intro f' hf'; simp [Target.leads] at hf'; subst hf'; exact hFg
  · simp [invoke, go_sem, eg]
  · refine (hseq (w.heap.size + 1)
      (fun pre W => I pre W ∧ W.heap[w.heap.size + 1]? = some (.loop (rec .ready none)) ∧ W.heap[w.heap.size]? = some (.deferred (some [])))
      (fun pre W => ∃ c, Ix c pre W ∧ W.heap[w.heap.size + 1]? = some (.loop (rec .done (some c))) ∧ W.heap[w.heap.size]? = some (.deferred (some [])))
      W1 hb1
      (fun pre A B hs hg' => ⟨hI pre A B _ hs.1 hs.2.1 (hg'.mono fun x hx => List.mem_cons_of_mem _ hx), hg'.heap hs.2.1 hlL, hg'.heap hs.2.2 hDL⟩)
      (fun pre A B hs hg' => by
        obtain ⟨c, hc, hl, hk⟩ := hs
        exact ⟨c, hIx c pre A B _ hc hl (hg'.mono fun x hx => List.mem_cons_of_mem _ hx), hg'.heap hl hlL, hg'.heap hk hDL⟩)
      ?_ ⟨h0 W1 hb1, hL1, hK1⟩).mono ?_
    · rintro pre x W ⟨hi, hl, hk⟩ hlen
      have hlt : w.heap.size + 1 < W.heap.size := (Array.getElem?_eq_some_iff.1 hl).1
      have hy := run_yield (P := P) (args := encs x) hl (by rw [hrec]; exact hps x)
      rw [hrec] at hy
      refine ⟨fn, _, assign, body, hy, roundIn_of_wpIn hfn (wpIn_mono (hround pre x W _ hi hlen hk hl) ?_)⟩
      rintro e a1 w1 hp
      cases e with
      | normal =>
        obtain ⟨hl1, hb⟩ := hp
        refine ⟨_, run_beginRound hl1 (by rw [hrec]), wpIn_mono hb ?_⟩
        have fin : ∀ (jump : Option Code) (W3 : World), W3.heap[w.heap.size]? = some (.deferred (some [])) → W3.heap[w.heap.size + 1]? = some (.loop { rec .ready none with state := .busy }) →
            (Instr.endRound (w.heap.size + 1) jump).run P W3 = .ok (.bool jump.isNone) (W3.putObj (w.heap.size + 1) (.loop (rec (if jump.isNone then .ready else .done) jump))) ∧
            (W3.putObj (w.heap.size + 1) (.loop (rec (if jump.isNone then .ready else .done) jump))).heap[w.heap.size + 1]? = some (.loop (rec (if jump.isNone then .ready else .done) jump)) ∧
            (W3.putObj (w.heap.size + 1) (.loop (rec (if jump.isNone then .ready else .done) jump))).heap[w.heap.size]? = some (.deferred (some [])) := fun jump W3 hk3 hl3 => by
          have := run_endRound (P := P) jump hl3
          rw [hrec] at this ⊢
          exact ⟨this, World.putObj_heap_same (Array.getElem?_eq_some_iff.1 hl3).1, (World.putObj_heap_other (by omega)).trans hk3⟩
        rintro e a3 W3 hp
        cases e with
        | normal =>
          obtain ⟨⟨hk3, hl3⟩, hkp3, hi3⟩ := hp
          obtain ⟨hr, hl4, hk4⟩ := fin none W3 hk3 hl3
          exact ⟨_, _, hr, .inl ⟨rfl, ⟨hI _ _ _ _ hi3 hl3 ((Chg.refl _ W3).putObj hl3 (.inl (List.mem_cons_self ..)) _), hl4, hk4⟩, hKb _ _ _ _ hl3 hkp3⟩⟩
        | ret =>
          obtain ⟨⟨hk3, hl3⟩, hi3⟩ := hp
          obtain ⟨hr, hl4, hk4⟩ := fin (some .ret) W3 hk3 hl3
          exact ⟨_, _, hr, .inr ⟨rfl, .ret, hIx _ _ _ _ _ hi3 hl3 ((Chg.refl _ W3).putObj hl3 (.inl (List.mem_cons_self ..)) _), hl4, hk4⟩⟩
        | exit id =>
          obtain ⟨⟨hk3, hl3⟩, hi3⟩ := hp
          obtain ⟨hr, hl4, hk4⟩ := fin (some (.exit id)) W3 hk3 hl3
          exact ⟨_, _, hr, .inr ⟨rfl, .exit id, hIx _ _ _ _ _ hi3 hl3 ((Chg.refl _ W3).putObj hl3 (.inl (List.mem_cons_self ..)) _), hl4, hk4⟩⟩
        | goto t =>
          obtain ⟨⟨hk3, hl3⟩, hi3⟩ := hp
          obtain ⟨hr, hl4, hk4⟩ := fin (some (.goto t)) W3 hk3 hl3
          exact ⟨_, _, hr, .inr ⟨rfl, .goto t, hIx _ _ _ _ _ hi3 hl3 ((Chg.refl _ W3).putObj hl3 (.inl (List.mem_cons_self ..)) _), hl4, hk4⟩⟩
        | panic ch => exact hp.elim
        | outgrown => exact hp.elim
      | exit id => exact hp.elim
      | goto t => exact hp.elim
      | ret => exact hp.elim
      | panic ch => exact hp.elim
      | outgrown => exact hp.elim
    · rintro e W2 ⟨⟨v, rfl⟩, (⟨xs, hS, hi, hl, hk⟩ | ⟨pre, hSp, c, hi, hl, hk⟩)⟩
      · exact ⟨none, _, by have := run_endLoop (P := P) hl (by rw [hrec]; simp); rw [hrec] at this; exact this, hdone xs _ hS (hI _ _ _ _ hi hl ((Chg.refl _ W2).putObj hl (.inl (List.mem_cons_self ..)) _)) ((World.putObj_heap_other (by omega)).trans hk)⟩
      · exact ⟨some c, _, by have := run_endLoop (P := P) hl (by rw [hrec]; simp); rw [hrec] at this; exact this, hstop c pre _ hSp (hIx c _ _ _ _ hi hl ((Chg.refl _ W2).putObj hl (.inl (List.mem_cons_self ..)) _)) ((World.putObj_heap_other (by omega)).trans hk)⟩

end Go.Proofs.YtkedegbpkkgeaaaGreat.kit
