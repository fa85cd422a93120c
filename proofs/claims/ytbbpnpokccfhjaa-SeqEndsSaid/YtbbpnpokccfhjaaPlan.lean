/- A region that draws its order, walked once in a plan: what only reads is taken as soon as it may come up, in every world that meets S; what writes or calls is carried out where nothing else may come up (no project text). -/
import Derived.Test.YtbbpnpokccfhjaaKit
import Derived.Deep.RegionHeld
namespace Go.Proofs.Ytbbpnpokccfhjaa.kit
open Go Go.RowKit
set_option linter.unusedVariables false

section
variable {P : Program} {ops : Array Oper} {Q : Exit → Act → World → Prop} {md : Region.Mode} {S : World → Prop}

/-- The plan's obligations: (i, true): number i yields its value in every world that meets S (or is not wanted); (i, false): number i is carried out, and S is shown anew behind it. -/
def planWp (P : Program) (ops : Array Oper) (Q : Exit → Act → World → Prop) (S : World → Prop) : List (Nat × Bool × Option Nat) → Act → World → Prop
  | [], a, w => Q .normal a w
  | (i, true, d) :: r, a, w => ∃ o v, ops[i]? = some o ∧ o.dst = d ∧ YieldsIf P ops S o v a ∧ planWp P ops Q S r (a.put d v) w
  | (i, false, d) :: r, a, w => ∃ o, ops[i]? = some o ∧ o.dst = d ∧ ∀ K : Act → World → Prop, Shut (∀ a w, S w → (S w → planWp P ops Q S r a w) → K a w) →
      if Region.wanted o (yielded ops a.tmps) = true then Oper.wp P o a w K Q else K (a.put d undef) w

def planB (md : Region.Mode) (ops : Array Oper) : List (Nat × Bool × Option Nat) → Array Bool → Bool
  | [], listed => (Region.ready md ops listed).isEmpty
  | (i, true, _) :: r, listed => Region.free md ops listed i && (Region.ready md ops listed).contains i && planB md ops r (listed.setIfInBounds i true)
  | (i, false, _) :: r, listed => decide (Region.ready md ops listed = [i]) && planB md ops r (listed.setIfInBounds i true)

theorem wpAnyH_of_plan (hs : Region.noSelect ops = true) (hQ : ∀ d c a v w, Q (.panic c) (Act.put a d v) w → Q (.panic c) a w) :
    ∀ (pl : List (Nat × Bool × Option Nat)) (g : Nat) (listed : Array Bool) (a : Act) (w : World), planB md ops pl listed = true → S w → planWp P ops Q S pl a w → wpAnyH P md ops Q S (pl.length + g) listed a w
  | [], g, listed, a, w, hB, _, h => wpAnyH_done (by simpa [planB] using hB) h _
  | (i, true, d) :: r, g, listed, a, w, hB, hS, h => by
    simp only [planB, Bool.and_eq_true] at hB
    obtain ⟨o, v, hi, rfl, hy, h⟩ := h
    rw [List.length_cons, Nat.add_right_comm]
    exact wpAnyH_take hi hs hB.1.1 hB.1.2 (fun c a w => hQ _ c a v w) hy hS (wpAnyH_of_plan hs hQ r g _ _ w hB.2 hS h)
  | (i, false, d) :: r, g, listed, a, w, hB, hS, h => by
    simp only [planB, Bool.and_eq_true, decide_eq_true_eq] at hB
    obtain ⟨o, hi, rfl, h⟩ := h
    rw [List.length_cons, Nat.add_right_comm]
    refine wpAnyH_all hB.1 (by simp) fun j hj => ?_
    obtain rfl : j = i := by simpa using hj
    exact wpOp_step hi fun K hK => h K fun a' w' hS' hp => hK a' w' ⟨hS', wpAnyH_of_plan hs hQ r g _ a' w' hB.2 hS' (hp hS')⟩

theorem wp_region_plan {id : Nat} {a : Act} {w : World} (S : World → Prop) (pl : List (Nat × Bool × Option Nat)) (hm : P.follows .mixedOrders = true) (hs : Region.noSelect ops = true) (hl : pl.length = ops.size)
    (hB : planB .any ops pl (Array.replicate ops.size false) = true) (hQ : ∀ d c a v w, Q (.panic c) (Act.put a d v) w → Q (.panic c) a w) (hS : S w.drew) (h : planWp P ops Q S pl a w.drew) : (Code.region id ops true).wp P Q a w := by
  refine wp_region_held (S := S) hm ?_
  have := wpAnyH_of_plan (md := .any) hs hQ pl 0 _ a w.drew hB hS h
  rw [Nat.add_zero, hl] at this
  exact this

theorem planWp_read {i : Nat} {d : Option Nat} {r : List (Nat × Bool × Option Nat)} {a : Act} {w : World} {o : Oper} {v : Value} (hi : ops[i]? = some o) (hd : o.dst = d) (hw : Region.wanted o (yielded ops a.tmps) = true) (hy : ∀ w, S w → (execOp a.eval o).run P w = .ok (.value v) w)
    (h : planWp P ops Q S r (a.put d v) w) : planWp P ops Q S ((i, true, d) :: r) a w := ⟨o, v, hi, hd, .inl ⟨hw, hy⟩, h⟩
theorem planWp_skip {i : Nat} {d : Option Nat} {r : List (Nat × Bool × Option Nat)} {a : Act} {w : World} {o : Oper} (hi : ops[i]? = some o) (hd : o.dst = d) (hw : Region.wanted o (yielded ops a.tmps) = false)
    (h : planWp P ops Q S r (a.put d undef) w) : planWp P ops Q S ((i, true, d) :: r) a w := ⟨o, undef, hi, hd, .inr ⟨hw, rfl⟩, h⟩
theorem planWp_leave {i : Nat} {d : Option Nat} {r : List (Nat × Bool × Option Nat)} {a : Act} {w : World} {o : Oper} (hi : ops[i]? = some o) (hd : o.dst = d) (hw : Region.wanted o (yielded ops a.tmps) = false) (hS : S w)
    (h : planWp P ops Q S r (a.put d undef) w) : planWp P ops Q S ((i, false, d) :: r) a w := ⟨o, hi, hd, fun K hK => by rw [if_neg (by rw [hw]; decide)]; exact hK _ _ hS fun _ => h⟩
theorem planWp_do {i : Nat} {d : Option Nat} {r : List (Nat × Bool × Option Nat)} {a : Act} {w : World} {o : Oper} (hi : ops[i]? = some o) (hd : o.dst = d) (hw : Region.wanted o (yielded ops a.tmps) = true)
    (h : ∀ K : Act → World → Prop, Shut (∀ a w, S w → (S w → planWp P ops Q S r a w) → K a w) → Oper.wp P o a w K Q) : planWp P ops Q S ((i, false, d) :: r) a w := ⟨o, hi, hd, fun K hK => by rw [if_pos hw]; exact h K hK⟩
theorem planWp_nil {a : Act} {w : World} (h : Q .normal a w) : planWp P ops Q S [] a w := h
end
end Go.Proofs.Ytbbpnpokccfhjaa.kit
