/- A region that draws, walked by a plan that parts where two operations may come next (no project text). -/
import Derived.Test.YtbbpnpokccfhjaaPlan
namespace Go.Proofs.Ytbbpnpokccfhjaa.kit
open Go Go.RowKit
set_option linter.unusedVariables false

inductive PT where
  | nil : PT
  | read (i : Nat) (d : Option Nat) (r : PT) : PT
  | act (i : Nat) (d : Option Nat) (r : PT) : PT
  | fork (i : Nat) (d : Option Nat) (r : PT) (j : Nat) (e : Option Nat) (t : PT) : PT
def PT.len : PT → Nat
  | .nil => 0
  | .read _ _ r => r.len + 1
  | .act _ _ r => r.len + 1
  | .fork _ _ r _ _ _ => r.len + 1

section
variable {P : Program} {ops : Array Oper} {Q : Exit → Act → World → Prop} {md : Region.Mode} {S : World → Prop}

/-- number i is carried out, and S is shown anew behind it -/
def actWp (P : Program) (ops : Array Oper) (Q : Exit → Act → World → Prop) (S : World → Prop) (i : Nat) (d : Option Nat) (F : Act → World → Prop) (a : Act) (w : World) : Prop :=
  ∃ o, ops[i]? = some o ∧ o.dst = d ∧ ∀ K : Act → World → Prop, Shut (∀ a w, S w → (S w → F a w) → K a w) →
      if Region.wanted o (yielded ops a.tmps) = true then Oper.wp P o a w K Q else K (a.put d undef) w
def ptWp (P : Program) (ops : Array Oper) (Q : Exit → Act → World → Prop) (S : World → Prop) : PT → Act → World → Prop
  | .nil, a, w => Q .normal a w
  | .read i d r, a, w => ∃ o v, ops[i]? = some o ∧ o.dst = d ∧ YieldsIf P ops S o v a ∧ ptWp P ops Q S r (a.put d v) w
  | .act i d r, a, w => actWp P ops Q S i d (ptWp P ops Q S r) a w
  | .fork i d r j e t, a, w => actWp P ops Q S i d (ptWp P ops Q S r) a w ∧ actWp P ops Q S j e (ptWp P ops Q S t) a w
def ptB (md : Region.Mode) (ops : Array Oper) : PT → Array Bool → Bool
  | .nil, listed => (Region.ready md ops listed).isEmpty
  | .read i _ r, listed => Region.free md ops listed i && (Region.ready md ops listed).contains i && ptB md ops r (listed.setIfInBounds i true)
  | .act i _ r, listed => decide (Region.ready md ops listed = [i]) && ptB md ops r (listed.setIfInBounds i true)
  | .fork i _ r j _ t, listed => decide (Region.ready md ops listed = [i, j]) && decide (r.len = t.len) && ptB md ops r (listed.setIfInBounds i true) && ptB md ops t (listed.setIfInBounds j true)
theorem act_step {i : Nat} {d : Option Nat} {F : Act → World → Prop} {G : Act → World → Prop} {a : Act} {w : World} (h : actWp P ops Q S i d F a w) (hk : ∀ a' w', S w' → F a' w' → G a' w') : wpOp P ops Q i (fun a' w' => S w' ∧ G a' w') a w := by
  obtain ⟨o, hi, rfl, h⟩ := h
  exact wpOp_step hi fun K hK => h K fun a' w' hS' hp => hK a' w' ⟨hS', hk a' w' hS' (hp hS')⟩
theorem wpAnyH_of_pt (hs : Region.noSelect ops = true) (hQ : ∀ d c a v w, Q (.panic c) (Act.put a d v) w → Q (.panic c) a w) :
    ∀ (pl : PT) (g : Nat) (listed : Array Bool) (a : Act) (w : World), ptB md ops pl listed = true → S w → ptWp P ops Q S pl a w → wpAnyH P md ops Q S (pl.len + g) listed a w
  | .nil, g, listed, a, w, hB, _, h => wpAnyH_done (by simpa [ptB] using hB) h _
  | .read i d r, g, listed, a, w, hB, hS, h => by
    simp only [ptB, Bool.and_eq_true] at hB
    obtain ⟨o, v, hi, rfl, hy, h⟩ := h
    rw [PT.len, Nat.add_right_comm]
    exact wpAnyH_take hi hs hB.1.1 hB.1.2 (fun c a w => hQ _ c a v w) hy hS (wpAnyH_of_pt hs hQ r g _ _ w hB.2 hS h)
  | .act i d r, g, listed, a, w, hB, hS, h => by
    simp only [ptB, Bool.and_eq_true, decide_eq_true_eq] at hB
    rw [PT.len, Nat.add_right_comm]
    refine wpAnyH_all hB.1 (by simp) fun j hj => ?_
    obtain rfl : j = i := by simpa using hj
    exact act_step h fun a' w' hS' hp => wpAnyH_of_pt hs hQ r g _ a' w' hB.2 hS' hp
  | .fork i d r j e t, g, listed, a, w, hB, hS, h => by
    simp only [ptB, Bool.and_eq_true, decide_eq_true_eq] at hB
    rw [PT.len, Nat.add_right_comm]
    refine wpAnyH_all hB.1.1.1 (by simp) fun k hk => ?_
    simp only [List.mem_cons, List.not_mem_nil, or_false] at hk
    rcases hk with hk | hk
    · subst hk
      exact act_step h.1 fun a' w' hS' hp => wpAnyH_of_pt hs hQ r g _ a' w' hB.1.2 hS' hp
    · subst hk
      have hl := hB.1.1.2
      exact act_step h.2 fun a' w' hS' hp => by rw [hl]; exact wpAnyH_of_pt hs hQ t g _ a' w' hB.2 hS' hp
theorem wp_region_pt {id : Nat} {a : Act} {w : World} (S : World → Prop) (pl : PT) (hm : P.follows .mixedOrders = true) (hs : Region.noSelect ops = true) (hl : pl.len = ops.size)
    (hB : ptB .any ops pl (Array.replicate ops.size false) = true) (hQ : ∀ d c a v w, Q (.panic c) (Act.put a d v) w → Q (.panic c) a w) (hS : S w.drew) (h : ptWp P ops Q S pl a w.drew) : (Code.region id ops true).wp P Q a w := by
  refine wp_region_held (S := S) hm ?_
  have := wpAnyH_of_pt (md := .any) hs hQ pl 0 _ a w.drew hB hS h
  rw [Nat.add_zero, hl] at this
  exact this
theorem pt_read {i : Nat} {d : Option Nat} {r : PT} {a : Act} {w : World} {o : Oper} {v : Value} (hi : ops[i]? = some o) (hd : o.dst = d) (hw : Region.wanted o (yielded ops a.tmps) = true) (hy : ∀ w, S w → (execOp a.eval o).run P w = .ok (.value v) w)
    (h : ptWp P ops Q S r (a.put d v) w) : ptWp P ops Q S (.read i d r) a w := ⟨o, v, hi, hd, .inl ⟨hw, hy⟩, h⟩
theorem pt_skip {i : Nat} {d : Option Nat} {r : PT} {a : Act} {w : World} {o : Oper} (hi : ops[i]? = some o) (hd : o.dst = d) (hw : Region.wanted o (yielded ops a.tmps) = false)
    (h : ptWp P ops Q S r (a.put d undef) w) : ptWp P ops Q S (.read i d r) a w := ⟨o, undef, hi, hd, .inr ⟨hw, rfl⟩, h⟩
theorem act_leave {i : Nat} {d : Option Nat} {F : Act → World → Prop} {a : Act} {w : World} {o : Oper} (hi : ops[i]? = some o) (hd : o.dst = d) (hw : Region.wanted o (yielded ops a.tmps) = false) (hS : S w)
    (h : F (a.put d undef) w) : actWp P ops Q S i d F a w := ⟨o, hi, hd, fun K hK => by rw [if_neg (by rw [hw]; decide)]; exact hK _ _ hS fun _ => h⟩
theorem act_do {i : Nat} {d : Option Nat} {F : Act → World → Prop} {a : Act} {w : World} {o : Oper} (hi : ops[i]? = some o) (hd : o.dst = d) (hw : Region.wanted o (yielded ops a.tmps) = true)
    (h : ∀ K : Act → World → Prop, Shut (∀ a w, S w → (S w → F a w) → K a w) → Oper.wp P o a w K Q) : actWp P ops Q S i d F a w := ⟨o, hi, hd, fun K hK => by rw [if_pos hw]; exact h K hK⟩
theorem pt_act {i : Nat} {d : Option Nat} {r : PT} {a : Act} {w : World} (h : actWp P ops Q S i d (ptWp P ops Q S r) a w) : ptWp P ops Q S (.act i d r) a w := h
theorem pt_fork {i j : Nat} {d e : Option Nat} {r t : PT} {a : Act} {w : World} (h : actWp P ops Q S i d (ptWp P ops Q S r) a w) (k : actWp P ops Q S j e (ptWp P ops Q S t) a w) : ptWp P ops Q S (.fork i d r j e t) a w := ⟨h, k⟩
theorem pt_nil {a : Act} {w : World} (h : Q .normal a w) : ptWp P ops Q S .nil a w := h
end
end Go.Proofs.Ytbbpnpokccfhjaa.kit
