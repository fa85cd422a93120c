/- A region that draws, walked by a plan, whose last operation waits for all others: behind that one nothing needs to be shown anew (no project text). -/
import Derived.Test.YtbbpnpokccfhjaaPlan
import Derived.StillTail
namespace Go.Proofs.Ytbbpnpokccfhjaa.kit
open Go Go.RowKit
set_option linter.unusedVariables false

section
variable {P : Program} {ops : Array Oper} {Q : Exit → Act → World → Prop} {md : Region.Mode} {S : World → Prop} {L : Nat}

/-- Whatever order is picked from here on; S holds behind every operation but the last. -/
def wpAnyT (P : Program) (md : Region.Mode) (ops : Array Oper) (Q : Exit → Act → World → Prop) (S : World → Prop) (L : Nat) : Nat → Array Bool → Act → World → Prop
  | 0, listed, a, w => Region.ready md ops listed = [] ∧ Q .normal a w
  | fuel + 1, listed, a, w =>
    (Region.ready md ops listed = [] → Q .normal a w) ∧
    ∀ i ∈ Region.ready md ops listed, wpOp P ops Q i (fun a' w' => (i ≠ L → S w') ∧ wpAnyT P md ops Q S L fuel (listed.setIfInBounds i true) a' w') a w
theorem wpAny_of_T : ∀ (fuel : Nat) (listed : Array Bool) (a : Act) (w : World), wpAnyT P md ops Q S L fuel listed a w → wpAny P md ops Q fuel listed a w
  | 0, _, _, _, h => h
  | fuel + 1, _, _, _, h => ⟨h.1, fun i hi => wpOp_mono (fun a' w' h' => wpAny_of_T fuel _ a' w' h'.2) (h.2 i hi)⟩

def lastB (md : Region.Mode) (ops : Array Oper) (L : Nat) : Bool := Region.sinkB md ops L && Region.chainB md ops L && decide (L < ops.size)
theorem last_waits (hL : lastB md ops L = true) {listed : Array Bool} (inv : HeadInv md ops L listed) {i j : Nat} (hi : i ∈ Region.ready md ops listed) (hiL : i < L) (hj : j ∈ Region.ready md ops listed) : j < L := by
  simp only [lastB, Bool.and_eq_true, decide_eq_true_eq] at hL
  rcases Nat.lt_or_ge j L with h | h
  · exact h
  · exact absurd hj (tail_waits hL.1.1 hL.1.2 hL.2 inv _ i rfl hiL (mem_ready.1 hi).1 j h)

theorem wpAnyT_first {i : Nat} {oi : Oper} {v : Value} (hL : lastB md ops L = true) (hiL : i < L) (hi : ops[i]? = some oi) (hsel : ∀ (j : Nat) (o : Oper) cs b, ops[j]? = some o → o.op ≠ .select cs b)
    (hQ : ∀ c a w, Q (.panic c) (a.put oi.dst v) w → Q (.panic c) a w) :
    ∀ (fuel : Nat) (listed : Array Bool) (a : Act) (w : World), HeadInv md ops L listed →
      (∀ j oj, ops[j]? = some oj → j ≠ i → listed.getD j true = false → (∀ e ∈ oj.after, Region.binds md e = true → e.on ≠ i) → oi.apart ops oj = true) →
      i ∈ Region.ready md ops listed → YieldsIf P ops S oi v a → S w →
      wpAnyT P md ops Q S L fuel (listed.setIfInBounds i true) (a.put oi.dst v) w → wpAnyT P md ops Q S L (fuel + 1) listed a w := by
  intro fuel
  induction fuel with
  | zero =>
    intro listed a w inv _ hr hy hS H
    refine ⟨fun h => (by rw [h] at hr; cases hr), fun j hj => ?_⟩
    by_cases hji : j = i
    · subst hji; exact hy.wpOp hi hS ⟨fun _ => hS, H⟩
    · have := ready_mono hj hji
      rw [H.1] at this
      cases this
  | succ fuel ih =>
    intro listed a w inv hfree hr hy hS H
    refine ⟨fun h => (by rw [h] at hr; cases hr), fun j hj => ?_⟩
    by_cases hji : j = i
    · subst hji; exact hy.wpOp hi hS ⟨fun _ => hS, H⟩
    · have hjl := last_waits hL inv hr hiL hj
      have hjL : j ≠ L := by omega
      have h1 := H.2 j (ready_mono hj hji)
      obtain ⟨hjun, oj, hoj, hall⟩ := mem_ready.1 hj
      have hnot : ∀ e ∈ oj.after, Region.binds md e = true → e.on ≠ i := fun e he hb heq => by
        have h1 := hall e he hb
        rw [heq, getD_both (mem_ready.1 hr).1] at h1
        cases h1
      have h2 := wpOp_putIf hoj (hfree j oj hoj hji hjun hnot) (fun cs b => hsel i oi cs b hi) (fun cs b => hsel j oj cs b hoj) hQ hy h1
      have hfree' : ∀ k ok, ops[k]? = some ok → k ≠ i → (listed.setIfInBounds j true).getD k true = false →
          (∀ e ∈ ok.after, Region.binds md e = true → e.on ≠ i) → oi.apart ops ok = true := fun k ok hk hki hun hno => by
        refine hfree k ok hk hki ?_ hno
        by_cases hjk : j = k
        · subst hjk; exact hjun
        · rw [getD_set_ne true hjk] at hun; exact hun
      refine wpOp_mono (fun a' w' h3 => ⟨fun _ => h3.2.1 hjL, ih (listed.setIfInBounds j true) a' w' (inv.set hj hjl) hfree' (ready_mono hr (Ne.symm hji)) h3.1 (h3.2.1 hjL) ?_⟩) h2
      rw [Array.setIfInBounds_comm _ _ hji]
      exact h3.2.2

/-- The plan's obligations, the last operation ahead of what follows. -/
def planWpT (P : Program) (ops : Array Oper) (Q : Exit → Act → World → Prop) (S : World → Prop) (L : Nat) : List (Nat × Bool × Option Nat) → Act → World → Prop
  | [], a, w => ∃ o, ops[L]? = some o ∧ Region.wanted o (yielded ops a.tmps) = true ∧ Oper.wp P o a w (fun a' w' => Q .normal a' w') Q
  | (i, true, d) :: r, a, w => ∃ o v, ops[i]? = some o ∧ o.dst = d ∧ YieldsIf P ops S o v a ∧ planWpT P ops Q S L r (a.put d v) w
  | (i, false, d) :: r, a, w => ∃ o, ops[i]? = some o ∧ o.dst = d ∧ ∀ K : Act → World → Prop, Shut (∀ a w, S w → (S w → planWpT P ops Q S L r a w) → K a w) →
      if Region.wanted o (yielded ops a.tmps) = true then Oper.wp P o a w K Q else K (a.put d undef) w
def planBT (md : Region.Mode) (ops : Array Oper) (L : Nat) : List (Nat × Bool × Option Nat) → Array Bool → Bool
  | [], listed => decide (Region.ready md ops listed = [L]) && (Region.ready md ops (listed.setIfInBounds L true)).isEmpty
  | (i, true, _) :: r, listed => decide (i < L) && Region.free md ops listed i && (Region.ready md ops listed).contains i && planBT md ops L r (listed.setIfInBounds i true)
  | (i, false, _) :: r, listed => decide (i < L) && decide (Region.ready md ops listed = [i]) && planBT md ops L r (listed.setIfInBounds i true)
theorem wpAnyT_of_plan (hL : lastB md ops L = true) (hs : Region.noSelect ops = true) (hQ : ∀ d c a v w, Q (.panic c) (Act.put a d v) w → Q (.panic c) a w) :
    ∀ (pl : List (Nat × Bool × Option Nat)) (listed : Array Bool) (a : Act) (w : World), HeadInv md ops L listed → planBT md ops L pl listed = true → S w → planWpT P ops Q S L pl a w → wpAnyT P md ops Q S L (pl.length + 1) listed a w
  | [], listed, a, w, inv, hB, hS, h => by
    simp only [planBT, Bool.and_eq_true, decide_eq_true_eq, List.isEmpty_iff] at hB
    obtain ⟨o, hi, hw, h⟩ := h
    refine ⟨fun h0 => (by rw [hB.1] at h0; cases h0), fun j hj => ?_⟩
    rw [hB.1] at hj
    obtain rfl : j = L := by simpa using hj
    refine wpOp_step hi fun K hK => ?_
    rw [if_pos hw]
    exact Oper.wp_mono (fun a' w' h' => hK a' w' ⟨fun hne => absurd rfl hne, hB.2, h'⟩) h
  | (i, true, d) :: r, listed, a, w, inv, hB, hS, h => by
    simp only [planBT, Bool.and_eq_true, decide_eq_true_eq] at hB
    obtain ⟨o, v, hi, rfl, hy, h⟩ := h
    exact wpAnyT_first hL hB.1.1.1 hi (Region.noSelect_spec hs) (fun c a w => hQ _ c a v w) _ listed a w inv (Region.free_spec hi hB.1.1.2) (by simpa using hB.1.2) hy hS (wpAnyT_of_plan hL hs hQ r _ _ w (inv.set (by simpa using hB.1.2) hB.1.1.1) hB.2 hS h)
  | (i, false, d) :: r, listed, a, w, inv, hB, hS, h => by
    simp only [planBT, Bool.and_eq_true, decide_eq_true_eq] at hB
    obtain ⟨o, hi, rfl, h⟩ := h
    refine ⟨fun h0 => (by rw [hB.1.2] at h0; cases h0), fun j hj => ?_⟩
    rw [hB.1.2] at hj
    obtain rfl : j = i := by simpa using hj
    exact wpOp_step hi fun K hK => h K fun a' w' hS' hp => hK a' w' ⟨fun _ => hS', wpAnyT_of_plan hL hs hQ r _ a' w' (inv.set (by rw [hB.1.2]; simp) hB.1.1) hB.2 hS' (hp hS')⟩
theorem wp_region_planT {id : Nat} {a : Act} {w : World} (S : World → Prop) (L : Nat) (pl : List (Nat × Bool × Option Nat)) (hm : P.follows .mixedOrders = true) (hs : Region.noSelect ops = true) (hl : pl.length + 1 = ops.size) (hL : lastB .any ops L = true)
    (hB : planBT .any ops L pl (Array.replicate ops.size false) = true) (hQ : ∀ d c a v w, Q (.panic c) (Act.put a d v) w → Q (.panic c) a w) (hS : S w.drew) (h : planWpT P ops Q S L pl a w.drew) : (Code.region id ops true).wp P Q a w := by
  refine wp_region_any hm (wpAny_of_T (S := S) (L := L) _ _ _ _ ?_)
  have inv0 : HeadInv .any ops L (Array.replicate ops.size false) := ⟨by simp, fun j oj _ hl => (by rw [getD_replicate_false] at hl; cases hl), fun t _ ht => getD_in (by simpa using ht) (getD_replicate_false _ _)⟩
  have := wpAnyT_of_plan (md := .any) hL hs hQ pl _ a w.drew inv0 hB hS h
  rw [hl] at this
  exact this
theorem planT_read {i : Nat} {d : Option Nat} {r : List (Nat × Bool × Option Nat)} {a : Act} {w : World} {o : Oper} {v : Value} (hi : ops[i]? = some o) (hd : o.dst = d) (hw : Region.wanted o (yielded ops a.tmps) = true) (hy : ∀ w, S w → (execOp a.eval o).run P w = .ok (.value v) w)
    (h : planWpT P ops Q S L r (a.put d v) w) : planWpT P ops Q S L ((i, true, d) :: r) a w := ⟨o, v, hi, hd, .inl ⟨hw, hy⟩, h⟩
theorem planT_skip {i : Nat} {d : Option Nat} {r : List (Nat × Bool × Option Nat)} {a : Act} {w : World} {o : Oper} (hi : ops[i]? = some o) (hd : o.dst = d) (hw : Region.wanted o (yielded ops a.tmps) = false)
    (h : planWpT P ops Q S L r (a.put d undef) w) : planWpT P ops Q S L ((i, true, d) :: r) a w := ⟨o, undef, hi, hd, .inr ⟨hw, rfl⟩, h⟩
theorem planT_do {i : Nat} {d : Option Nat} {r : List (Nat × Bool × Option Nat)} {a : Act} {w : World} {o : Oper} (hi : ops[i]? = some o) (hd : o.dst = d) (hw : Region.wanted o (yielded ops a.tmps) = true)
    (h : ∀ K : Act → World → Prop, Shut (∀ a w, S w → (S w → planWpT P ops Q S L r a w) → K a w) → Oper.wp P o a w K Q) : planWpT P ops Q S L ((i, false, d) :: r) a w := ⟨o, hi, hd, fun K hK => by rw [if_pos hw]; exact h K hK⟩
theorem planT_last {a : Act} {w : World} {o : Oper} (hi : ops[L]? = some o) (hw : Region.wanted o (yielded ops a.tmps) = true) (h : ∀ K : Act → World → Prop, Shut (∀ a w, Q .normal a w → K a w) → Oper.wp P o a w K Q) : planWpT P ops Q S L [] a w :=
  ⟨o, hi, hw, h _ (fun _ _ h' => h')⟩
end
end Go.Proofs.Ytbbpnpokccfhjaa.kit
