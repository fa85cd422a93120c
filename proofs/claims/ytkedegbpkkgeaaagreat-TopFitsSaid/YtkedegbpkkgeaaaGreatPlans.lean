/- Parts joined: App, Plan, Plan2, Plan3. -/
import Derived.Test.YtkedegbpkkgeaaaGreatTop1
import Derived.Deep.RegionHeld
import Derived.StillTail
/- append onto a row of one's own: the row that comes lies where the old one lay, or in a block that is new (no project text). -/
namespace Go.Proofs.YtkedegbpkkgeaaaGreat.kit
open Go Go.RowKit
set_option linter.unusedVariables false
set_option linter.unusedSimpArgs false

theorem own_chg {w w' : World} {B e size n : Nat} {v : Value} {xs : List Value} {L : List Nat} (h : w.ownsRow B e size v n xs) (k : Chg L w w') (hn : ∀ b, v.ownBlock = some b → b ∉ L) : w'.ownsRow B e size v n xs := by
  refine ⟨h.1, ?_⟩
  rcases h.2 with h0 | ⟨g, cap, cur, rfl, hb, hg, r⟩
  · exact .inl h0
  · exact .inr ⟨g, cap, cur, rfl, hb, k.heap hg (hn g rfl), r⟩
section
variable {P : Program} (w : World)
theorem append_blk (base : Nat) (t ty e : TypeId) (i : TypeInfo) (z : Value) (size bytes : Nat) (ht : P.underlying t = some (.slice e)) (hi : P.info? e = some i) (hz : i.zero = some z)
    (hsize : i.size = size) (hby : i.bytes = bytes) (hzs : z.cells.size = size) (hsz : 0 < size)
    (v : Value) (n : Nat) (xs : List Value) (hown : w.ownsRow base e size v n xs)
    (a : Addr) (m c : Nat) (news : List Value) (hl : news.length = m * size) (hm0 : 0 < m) (hnews : ∀ j u, news[j]? = some u → w.cell? (a.add j) = some u) (h1 : ∀ u ∈ news, u.oneCell' = true)
    (h63 : n + m ≤ maxLen) (hbytes : (n + m) * bytes ≤ 140737488355328) (v' : Value) (w' : World) (hr : (Builtin.append_ #[t, t] ty #[v, .slice (some a) m c]).run P w = .ok v' w') :
    ∀ y, v'.ownBlock = some y → v.ownBlock = some y ∨ y = w.heap.size := by
  subst hsize
  subst hby
  have hsmall : n + m ≤ 9223372036854775807 := by simp only [maxLen] at h63; omega
  rcases hown.2 with ⟨rfl, rfl⟩ | ⟨g, cap, cur, rfl, hbg, hg, hnc, hcm, hcs, htake⟩
  · have h := run_append_nil (P := P) w t ty e i z ht hi hz a m c news hl hnews (by omega) (by omega) (by have hb := hbytes; simp only [Nat.zero_add] at hb; omega)
    rw [h] at hr
    cases hr
    intro y hy
    right
    simpa [Value.ownBlock] using hy.symm
  · by_cases hroom : n + m ≤ cap
    · have hfit : n * i.size + news.length ≤ cur.size := by rw [hl, hcs, ← Nat.add_mul]; exact Nat.mul_le_mul_right _ hroom
      have h := run_append_room (P := P) w t ty e i ht hi g n cap cur hg a m c news hl hnews h1 hroom hfit
      rw [h] at hr
      cases hr
      intro y hy
      left
      simpa [Value.ownBlock] using hy
    · have holds : ∀ j u, xs[j]? = some u → w.cell? ((⟨g, 0, none⟩ : Addr).add j) = some u := hown.cells (g := g) rfl
      have h := run_append_grow (P := P) w t ty e i z ht hi hz ⟨g, 0, none⟩ n cap xs hown.1 holds a m c news hl hnews (by omega) (by omega) (growslice_fits (by omega) hbytes)
      rw [h] at hr
      cases hr
      intro y hy
      right
      simpa [Value.ownBlock] using hy.symm
end
end Go.Proofs.YtkedegbpkkgeaaaGreat.kit

/- A region that draws its order, walked once in a plan: what only reads is taken as soon as it may come up, in every world that meets S; what writes or calls is carried out where nothing else may come up (no project text). -/
namespace Go.Proofs.YtkedegbpkkgeaaaGreat.kit
open Go Go.RowKit
set_option linter.unusedVariables false
set_option linter.unusedSimpArgs false

section
variable {P : Program} {ops : Array Oper} {Q : Exit → Act → World → Prop} {md : Region.Mode} {S : World → Prop}

/-- The plan's obligations: (i, true): number i yields its value in every world that meets S (or is not wanted); (i, false): number i is carried out, and S is shown anew behind it. -/
def planWp (P : Program) (ops : Array Oper) (Q : Exit → Act → World → Prop) (S : World → Prop) : List (Nat × Bool × Option Nat) → Act → World → Prop
  | [], a, w => Q .normal a w
  | (i, true, d) :: r, a, w => ∃ o v, ops[i]? = some o ∧ o.dst = d ∧ YieldsIf P ops S o v a ∧ planWp P ops Q S r (a.put d v) w
  | (i, false, d) :: r, a, w => ∃ o, ops[i]? = some o ∧ o.dst = d ∧ ∀ K : Act → World → Prop, Shut (∀ a w, S w → (S w → planWp P ops Q S r a w) → K a w) →
      if Region.wanted o (yielded ops a.tmps) = true then Oper.wp P o a w K Q else K (a.put d undef) w

def planB (md : Region.Mode) (ops : Array Oper) : List (Nat × Bool × Option Nat) → Array Bool → Bool
  | [], listed => (Region.ready md ops listed).isEmpty
  | (i, true, _) :: r, listed => Region.free md ops listed i && (Region.ready md ops listed).contains i && planB md ops r (listed.setIfInBounds i true)
  | (i, false, _) :: r, listed => decide (Region.ready md ops listed = [i]) && planB md ops r (listed.setIfInBounds i true)

theorem wpAnyH_of_plan (hs : Region.noSelect ops = true) (hQ : ∀ d c a v w, Q (.panic c) (Act.put a d v) w → Q (.panic c) a w) :
    ∀ (pl : List (Nat × Bool × Option Nat)) (g : Nat) (listed : Array Bool) (a : Act) (w : World), planB md ops pl listed = true → S w → planWp P ops Q S pl a w → wpAnyH P md ops Q S (pl.length + g) listed a w
  | [], g, listed, a, w, hB, _, h => wpAnyH_done (by simpa [planB] using hB) h _
  | (i, true, d) :: r, g, listed, a, w, hB, hS, h => by
    simp only [planB, Bool.and_eq_true] at hB
    obtain ⟨o, v, hi, rfl, hy, h⟩ := h
    rw [List.length_cons, Nat.add_right_comm]
    exact wpAnyH_take hi hs hB.1.1 hB.1.2 (fun c a w => hQ _ c a v w) hy hS (wpAnyH_of_plan hs hQ r g _ _ w hB.2 hS h)
  | (i, false, d) :: r, g, listed, a, w, hB, hS, h => by
    simp only [planB, Bool.and_eq_true, decide_eq_true_eq] at hB
    obtain ⟨o, hi, rfl, h⟩ := h
    rw [List.length_cons, Nat.add_right_comm]
    refine wpAnyH_all hB.1 (by simp) fun j hj => ?_
    obtain rfl : j = i := by simpa using hj
    exact wpOp_step hi fun K hK => h K fun a' w' hS' hp => hK a' w' ⟨hS', wpAnyH_of_plan hs hQ r g _ a' w' hB.2 hS' (hp hS')⟩

theorem wp_region_plan {id : Nat} {a : Act} {w : World} (S : World → Prop) (pl : List (Nat × Bool × Option Nat)) (hm : P.follows .mixedOrders = true) (hs : Region.noSelect ops = true) (hl : pl.length = ops.size)
    (hB : planB .any ops pl (Array.replicate ops.size false) = true) (hQ : ∀ d c a v w, Q (.panic c) (Act.put a d v) w → Q (.panic c) a w) (hS : S w.drew) (h : planWp P ops Q S pl a w.drew) : (Code.region id ops true).wp P Q a w := by
  refine wp_region_held (S := S) hm ?_
  have := wpAnyH_of_plan (md := .any) hs hQ pl 0 _ a w.drew hB hS h
  rw [Nat.add_zero, hl] at this
  exact this

theorem planWp_read {i : Nat} {d : Option Nat} {r : List (Nat × Bool × Option Nat)} {a : Act} {w : World} {o : Oper} {v : Value} (hi : ops[i]? = some o) (hd : o.dst = d) (hw : Region.wanted o (yielded ops a.tmps) = true) (hy : ∀ w, S w → (execOp a.eval o).run P w = .ok (.value v) w)
    (h : planWp P ops Q S r (a.put d v) w) : planWp P ops Q S ((i, true, d) :: r) a w := ⟨o, v, hi, hd, .inl ⟨hw, hy⟩, h⟩
theorem planWp_skip {i : Nat} {d : Option Nat} {r : List (Nat × Bool × Option Nat)} {a : Act} {w : World} {o : Oper} (hi : ops[i]? = some o) (hd : o.dst = d) (hw : Region.wanted o (yielded ops a.tmps) = false)
    (h : planWp P ops Q S r (a.put d undef) w) : planWp P ops Q S ((i, true, d) :: r) a w := ⟨o, undef, hi, hd, .inr ⟨hw, rfl⟩, h⟩
theorem planWp_leave {i : Nat} {d : Option Nat} {r : List (Nat × Bool × Option Nat)} {a : Act} {w : World} {o : Oper} (hi : ops[i]? = some o) (hd : o.dst = d) (hw : Region.wanted o (yielded ops a.tmps) = false) (hS : S w)
    (h : planWp P ops Q S r (a.put d undef) w) : planWp P ops Q S ((i, false, d) :: r) a w := ⟨o, hi, hd, fun K hK => by rw [if_neg (by rw [hw]; decide)]; exact hK _ _ hS fun _ => h⟩
theorem planWp_do {i : Nat} {d : Option Nat} {r : List (Nat × Bool × Option Nat)} {a : Act} {w : World} {o : Oper} (hi : ops[i]? = some o) (hd : o.dst = d) (hw : Region.wanted o (yielded ops a.tmps) = true)
    (h : ∀ K : Act → World → Prop, Shut (∀ a w, S w → (S w → planWp P ops Q S r a w) → K a w) → Oper.wp P o a w K Q) : planWp P ops Q S ((i, false, d) :: r) a w := ⟨o, hi, hd, fun K hK => by rw [if_pos hw]; exact h K hK⟩
theorem planWp_nil {a : Act} {w : World} (h : Q .normal a w) : planWp P ops Q S [] a w := h
end
end Go.Proofs.YtkedegbpkkgeaaaGreat.kit

/- A region that draws, walked by a plan, whose last operation waits for all others: behind that one nothing needs to be shown anew (no project text). -/
namespace Go.Proofs.YtkedegbpkkgeaaaGreat.kit
open Go Go.RowKit
set_option linter.unusedVariables false
set_option linter.unusedSimpArgs false

section
variable {P : Program} {ops : Array Oper} {Q : Exit → Act → World → Prop} {md : Region.Mode} {S : World → Prop} {L : Nat}

/-- Whatever order is picked from here on; S holds behind every operation but the last. -/
def wpAnyT (P : Program) (md : Region.Mode) (ops : Array Oper) (Q : Exit → Act → World → Prop) (S : World → Prop) (L : Nat) : Nat → Array Bool → Act → World → Prop
  | 0, listed, a, w => Region.ready md ops listed = [] ∧ Q .normal a w
  | fuel + 1, listed, a, w =>
    (Region.ready md ops listed = [] → Q .normal a w) ∧
    ∀ i ∈ Region.ready md ops listed, wpOp P ops Q i (fun a' w' => (i ≠ L → S w') ∧ wpAnyT P md ops Q S L fuel (listed.setIfInBounds i true) a' w') a w
theorem wpAny_of_T : ∀ (fuel : Nat) (listed : Array Bool) (a : Act) (w : World), wpAnyT P md ops Q S L fuel listed a w → wpAny P md ops Q fuel listed a w
  | 0, _, _, _, h => h
  | fuel + 1, _, _, _, h => ⟨h.1, fun i hi => wpOp_mono (fun a' w' h' => wpAny_of_T fuel _ a' w' h'.2) (h.2 i hi)⟩

def lastB (md : Region.Mode) (ops : Array Oper) (L : Nat) : Bool := Region.sinkB md ops L && Region.chainB md ops L && decide (L < ops.size)
theorem last_waits (hL : lastB md ops L = true) {listed : Array Bool} (inv : HeadInv md ops L listed) {i j : Nat} (hi : i ∈ Region.ready md ops listed) (hiL : i < L) (hj : j ∈ Region.ready md ops listed) : j < L := by
  simp only [lastB, Bool.and_eq_true, decide_eq_true_eq] at hL
  rcases Nat.lt_or_ge j L with h | h
  · exact h
  · exact absurd hj (tail_waits hL.1.1 hL.1.2 hL.2 inv _ i rfl hiL (mem_ready.1 hi).1 j h)

theorem wpAnyT_first {i : Nat} {oi : Oper} {v : Value} (hL : lastB md ops L = true) (hiL : i < L) (hi : ops[i]? = some oi) (hsel : ∀ (j : Nat) (o : Oper) cs b, ops[j]? = some o → o.op ≠ .select cs b)
    (hQ : ∀ c a w, Q (.panic c) (a.put oi.dst v) w → Q (.panic c) a w) :
    ∀ (fuel : Nat) (listed : Array Bool) (a : Act) (w : World), HeadInv md ops L listed →
      (∀ j oj, ops[j]? = some oj → j ≠ i → listed.getD j true = false → (∀ e ∈ oj.after, Region.binds md e = true → e.on ≠ i) → oi.apart ops oj = true) →
      i ∈ Region.ready md ops listed → YieldsIf P ops S oi v a → S w →
      wpAnyT P md ops Q S L fuel (listed.setIfInBounds i true) (a.put oi.dst v) w → wpAnyT P md ops Q S L (fuel + 1) listed a w := by
  intro fuel
  induction fuel with
  | zero =>
    intro listed a w inv _ hr hy hS H
    refine ⟨fun h => (by rw [h] at hr; cases hr), fun j hj => ?_⟩
    by_cases hji : j = i
    · subst hji; exact hy.wpOp hi hS ⟨fun _ => hS, H⟩
    · have := ready_mono hj hji
      rw [H.1] at this
      cases this
  | succ fuel ih =>
    intro listed a w inv hfree hr hy hS H
    refine ⟨fun h => (by rw [h] at hr; cases hr), fun j hj => ?_⟩
    by_cases hji : j = i
    · subst hji; exact hy.wpOp hi hS ⟨fun _ => hS, H⟩
    · have hjl := last_waits hL inv hr hiL hj
      have hjL : j ≠ L := by omega
      have h1 := H.2 j (ready_mono hj hji)
      obtain ⟨hjun, oj, hoj, hall⟩ := mem_ready.1 hj
      have hnot : ∀ e ∈ oj.after, Region.binds md e = true → e.on ≠ i := fun e he hb heq => by
        have h1 := hall e he hb
        rw [heq, getD_both (mem_ready.1 hr).1] at h1
        cases h1
      have h2 := wpOp_putIf hoj (hfree j oj hoj hji hjun hnot) (fun cs b => hsel i oi cs b hi) (fun cs b => hsel j oj cs b hoj) hQ hy h1
      have hfree' : ∀ k ok, ops[k]? = some ok → k ≠ i → (listed.setIfInBounds j true).getD k true = false →
          (∀ e ∈ ok.after, Region.binds md e = true → e.on ≠ i) → oi.apart ops ok = true := fun k ok hk hki hun hno => by
        refine hfree k ok hk hki ?_ hno
        by_cases hjk : j = k
        · subst hjk; exact hjun
        · rw [getD_set_ne true hjk] at hun; exact hun
      refine wpOp_mono (fun a' w' h3 => ⟨fun _ => h3.2.1 hjL, ih (listed.setIfInBounds j true) a' w' (inv.set hj hjl) hfree' (ready_mono hr (Ne.symm hji)) h3.1 (h3.2.1 hjL) ?_⟩) h2
      rw [Array.setIfInBounds_comm _ _ hji]
      exact h3.2.2

/-- The plan's obligations, the last operation ahead of what follows. -/
def planWpT (P : Program) (ops : Array Oper) (Q : Exit → Act → World → Prop) (S : World → Prop) (L : Nat) : List (Nat × Bool × Option Nat) → Act → World → Prop
  | [], a, w => ∃ o, ops[L]? = some o ∧ Region.wanted o (yielded ops a.tmps) = true ∧ Oper.wp P o a w (fun a' w' => Q .normal a' w') Q
  | (i, true, d) :: r, a, w => ∃ o v, ops[i]? = some o ∧ o.dst = d ∧ YieldsIf P ops S o v a ∧ planWpT P ops Q S L r (a.put d v) w
  | (i, false, d) :: r, a, w => ∃ o, ops[i]? = some o ∧ o.dst = d ∧ ∀ K : Act → World → Prop, Shut (∀ a w, S w → (S w → planWpT P ops Q S L r a w) → K a w) →
      if Region.wanted o (yielded ops a.tmps) = true then Oper.wp P o a w K Q else K (a.put d undef) w
def planBT (md : Region.Mode) (ops : Array Oper) (L : Nat) : List (Nat × Bool × Option Nat) → Array Bool → Bool
  | [], listed => decide (Region.ready md ops listed = [L]) && (Region.ready md ops (listed.setIfInBounds L true)).isEmpty
  | (i, true, _) :: r, listed => decide (i < L) && Region.free md ops listed i && (Region.ready md ops listed).contains i && planBT md ops L r (listed.setIfInBounds i true)
  | (i, false, _) :: r, listed => decide (i < L) && decide (Region.ready md ops listed = [i]) && planBT md ops L r (listed.setIfInBounds i true)
theorem wpAnyT_of_plan (hL : lastB md ops L = true) (hs : Region.noSelect ops = true) (hQ : ∀ d c a v w, Q (.panic c) (Act.put a d v) w → Q (.panic c) a w) :
    ∀ (pl : List (Nat × Bool × Option Nat)) (listed : Array Bool) (a : Act) (w : World), HeadInv md ops L listed → planBT md ops L pl listed = true → S w → planWpT P ops Q S L pl a w → wpAnyT P md ops Q S L (pl.length + 1) listed a w
  | [], listed, a, w, inv, hB, hS, h => by
    simp only [planBT, Bool.and_eq_true, decide_eq_true_eq, List.isEmpty_iff] at hB
    obtain ⟨o, hi, hw, h⟩ := h
    refine ⟨fun h0 => (by rw [hB.1] at h0; cases h0), fun j hj => ?_⟩
    rw [hB.1] at hj
    obtain rfl : j = L := by simpa using hj
    refine wpOp_step hi fun K hK => ?_
    rw [if_pos hw]
    exact Oper.wp_mono (fun a' w' h' => hK a' w' ⟨fun hne => absurd rfl hne, hB.2, h'⟩) h
  | (i, true, d) :: r, listed, a, w, inv, hB, hS, h => by
    simp only [planBT, Bool.and_eq_true, decide_eq_true_eq] at hB
    obtain ⟨o, v, hi, rfl, hy, h⟩ := h
    exact wpAnyT_first hL hB.1.1.1 hi (Region.noSelect_spec hs) (fun c a w => hQ _ c a v w) _ listed a w inv (Region.free_spec hi hB.1.1.2) (by simpa using hB.1.2) hy hS (wpAnyT_of_plan hL hs hQ r _ _ w (inv.set (by simpa using hB.1.2) hB.1.1.1) hB.2 hS h)
  | (i, false, d) :: r, listed, a, w, inv, hB, hS, h => by
    simp only [planBT, Bool.and_eq_true, decide_eq_true_eq] at hB
    obtain ⟨o, hi, rfl, h⟩ := h
    refine ⟨fun h0 => (by rw [hB.1.2] at h0; cases h0), fun j hj => ?_⟩
    rw [hB.1.2] at hj
    obtain rfl : j = i := by simpa using hj
    exact wpOp_step hi fun K hK => h K fun a' w' hS' hp => hK a' w' ⟨fun _ => hS', wpAnyT_of_plan hL hs hQ r _ a' w' (inv.set (by rw [hB.1.2]; simp) hB.1.1) hB.2 hS' (hp hS')⟩
theorem wp_region_planT {id : Nat} {a : Act} {w : World} (S : World → Prop) (L : Nat) (pl : List (Nat × Bool × Option Nat)) (hm : P.follows .mixedOrders = true) (hs : Region.noSelect ops = true) (hl : pl.length + 1 = ops.size) (hL : lastB .any ops L = true)
    (hB : planBT .any ops L pl (Array.replicate ops.size false) = true) (hQ : ∀ d c a v w, Q (.panic c) (Act.put a d v) w → Q (.panic c) a w) (hS : S w.drew) (h : planWpT P ops Q S L pl a w.drew) : (Code.region id ops true).wp P Q a w := by
  refine wp_region_any hm (wpAny_of_T (S := S) (L := L) _ _ _ _ ?_)
  have inv0 : HeadInv .any ops L (Array.replicate ops.size false) := ⟨by simp, fun j oj _ hl => (by rw [getD_replicate_false] at hl; cases hl), fun t _ ht => getD_in (by simpa using ht) (getD_replicate_false _ _)⟩
  have := wpAnyT_of_plan (md := .any) hL hs hQ pl _ a w.drew inv0 hB hS h
  rw [hl] at this
  exact this
theorem planT_read {i : Nat} {d : Option Nat} {r : List (Nat × Bool × Option Nat)} {a : Act} {w : World} {o : Oper} {v : Value} (hi : ops[i]? = some o) (hd : o.dst = d) (hw : Region.wanted o (yielded ops a.tmps) = true) (hy : ∀ w, S w → (execOp a.eval o).run P w = .ok (.value v) w)
    (h : planWpT P ops Q S L r (a.put d v) w) : planWpT P ops Q S L ((i, true, d) :: r) a w := ⟨o, v, hi, hd, .inl ⟨hw, hy⟩, h⟩
theorem planT_skip {i : Nat} {d : Option Nat} {r : List (Nat × Bool × Option Nat)} {a : Act} {w : World} {o : Oper} (hi : ops[i]? = some o) (hd : o.dst = d) (hw : Region.wanted o (yielded ops a.tmps) = false)
    (h : planWpT P ops Q S L r (a.put d undef) w) : planWpT P ops Q S L ((i, true, d) :: r) a w := ⟨o, undef, hi, hd, .inr ⟨hw, rfl⟩, h⟩
theorem planT_do {i : Nat} {d : Option Nat} {r : List (Nat × Bool × Option Nat)} {a : Act} {w : World} {o : Oper} (hi : ops[i]? = some o) (hd : o.dst = d) (hw : Region.wanted o (yielded ops a.tmps) = true)
    (h : ∀ K : Act → World → Prop, Shut (∀ a w, S w → (S w → planWpT P ops Q S L r a w) → K a w) → Oper.wp P o a w K Q) : planWpT P ops Q S L ((i, false, d) :: r) a w := ⟨o, hi, hd, fun K hK => by rw [if_pos hw]; exact h K hK⟩
theorem planT_last {a : Act} {w : World} {o : Oper} (hi : ops[L]? = some o) (hw : Region.wanted o (yielded ops a.tmps) = true) (h : ∀ K : Act → World → Prop, Shut (∀ a w, Q .normal a w → K a w) → Oper.wp P o a w K Q) : planWpT P ops Q S L [] a w :=
  ⟨o, hi, hw, h _ (fun _ _ h' => h')⟩
end
end Go.Proofs.YtkedegbpkkgeaaaGreat.kit

/- A region that draws, walked by a plan that parts where two operations may come next (no project text). -/
namespace Go.Proofs.YtkedegbpkkgeaaaGreat.kit
open Go Go.RowKit
set_option linter.unusedVariables false
set_option linter.unusedSimpArgs false

inductive PT where
  | nil : PT
  | read (i : Nat) (d : Option Nat) (r : PT) : PT
  | act (i : Nat) (d : Option Nat) (r : PT) : PT
  | fork (i : Nat) (d : Option Nat) (r : PT) (j : Nat) (e : Option Nat) (t : PT) : PT
def PT.len : PT → Nat
  | .nil => 0
  | .read _ _ r => r.len + 1
  | .act _ _ r => r.len + 1
  | .fork _ _ r _ _ _ => r.len + 1

section
variable {P : Program} {ops : Array Oper} {Q : Exit → Act → World → Prop} {md : Region.Mode} {S : World → Prop}

/-- number i is carried out, and S is shown anew behind it -/
def actWp (P : Program) (ops : Array Oper) (Q : Exit → Act → World → Prop) (S : World → Prop) (i : Nat) (d : Option Nat) (F : Act → World → Prop) (a : Act) (w : World) : Prop :=
  ∃ o, ops[i]? = some o ∧ o.dst = d ∧ ∀ K : Act → World → Prop, Shut (∀ a w, S w → (S w → F a w) → K a w) →
      if Region.wanted o (yielded ops a.tmps) = true then Oper.wp P o a w K Q else K (a.put d undef) w
def ptWp (P : Program) (ops : Array Oper) (Q : Exit → Act → World → Prop) (S : World → Prop) : PT → Act → World → Prop
  | .nil, a, w => Q .normal a w
  | .read i d r, a, w => ∃ o v, ops[i]? = some o ∧ o.dst = d ∧ YieldsIf P ops S o v a ∧ ptWp P ops Q S r (a.put d v) w
  | .act i d r, a, w => actWp P ops Q S i d (ptWp P ops Q S r) a w
  | .fork i d r j e t, a, w => actWp P ops Q S i d (ptWp P ops Q S r) a w ∧ actWp P ops Q S j e (ptWp P ops Q S t) a w
def ptB (md : Region.Mode) (ops : Array Oper) : PT → Array Bool → Bool
  | .nil, listed => (Region.ready md ops listed).isEmpty
  | .read i _ r, listed => Region.free md ops listed i && (Region.ready md ops listed).contains i && ptB md ops r (listed.setIfInBounds i true)
  | .act i _ r, listed => decide (Region.ready md ops listed = [i]) && ptB md ops r (listed.setIfInBounds i true)
  | .fork i _ r j _ t, listed => decide (Region.ready md ops listed = [i, j]) && decide (r.len = t.len) && ptB md ops r (listed.setIfInBounds i true) && ptB md ops t (listed.setIfInBounds j true)
theorem act_step {i : Nat} {d : Option Nat} {F : Act → World → Prop} {G : Act → World → Prop} {a : Act} {w : World} (h : actWp P ops Q S i d F a w) (hk : ∀ a' w', S w' → F a' w' → G a' w') : wpOp P ops Q i (fun a' w' => S w' ∧ G a' w') a w := by
  obtain ⟨o, hi, rfl, h⟩ := h
  exact wpOp_step hi fun K hK => h K fun a' w' hS' hp => hK a' w' ⟨hS', hk a' w' hS' (hp hS')⟩
theorem wpAnyH_of_pt (hs : Region.noSelect ops = true) (hQ : ∀ d c a v w, Q (.panic c) (Act.put a d v) w → Q (.panic c) a w) :
    ∀ (pl : PT) (g : Nat) (listed : Array Bool) (a : Act) (w : World), ptB md ops pl listed = true → S w → ptWp P ops Q S pl a w → wpAnyH P md ops Q S (pl.len + g) listed a w
  | .nil, g, listed, a, w, hB, _, h => wpAnyH_done (by simpa [ptB] using hB) h _
  | .read i d r, g, listed, a, w, hB, hS, h => by
    simp only [ptB, Bool.and_eq_true] at hB
    obtain ⟨o, v, hi, rfl, hy, h⟩ := h
    rw [PT.len, Nat.add_right_comm]
    exact wpAnyH_take hi hs hB.1.1 hB.1.2 (fun c a w => hQ _ c a v w) hy hS (wpAnyH_of_pt hs hQ r g _ _ w hB.2 hS h)
  | .act i d r, g, listed, a, w, hB, hS, h => by
    simp only [ptB, Bool.and_eq_true, decide_eq_true_eq] at hB
    rw [PT.len, Nat.add_right_comm]
    refine wpAnyH_all hB.1 (by simp) fun j hj => ?_
    obtain rfl : j = i := by simpa using hj
    exact act_step h fun a' w' hS' hp => wpAnyH_of_pt hs hQ r g _ a' w' hB.2 hS' hp
  | .fork i d r j e t, g, listed, a, w, hB, hS, h => by
    simp only [ptB, Bool.and_eq_true, decide_eq_true_eq] at hB
    rw [PT.len, Nat.add_right_comm]
    refine wpAnyH_all hB.1.1.1 (by simp) fun k hk => ?_
    simp only [List.mem_cons, List.not_mem_nil, or_false] at hk
    rcases hk with hk | hk
    · subst hk
      exact act_step h.1 fun a' w' hS' hp => wpAnyH_of_pt hs hQ r g _ a' w' hB.1.2 hS' hp
    · subst hk
      have hl := hB.1.1.2
      exact act_step h.2 fun a' w' hS' hp => by rw [hl]; exact wpAnyH_of_pt hs hQ t g _ a' w' hB.2 hS' hp
theorem wp_region_pt {id : Nat} {a : Act} {w : World} (S : World → Prop) (pl : PT) (hm : P.follows .mixedOrders = true) (hs : Region.noSelect ops = true) (hl : pl.len = ops.size)
    (hB : ptB .any ops pl (Array.replicate ops.size false) = true) (hQ : ∀ d c a v w, Q (.panic c) (Act.put a d v) w → Q (.panic c) a w) (hS : S w.drew) (h : ptWp P ops Q S pl a w.drew) : (Code.region id ops true).wp P Q a w := by
  refine wp_region_held (S := S) hm ?_
  have := wpAnyH_of_pt (md := .any) hs hQ pl 0 _ a w.drew hB hS h
  rw [Nat.add_zero, hl] at this
  exact this
theorem pt_read {i : Nat} {d : Option Nat} {r : PT} {a : Act} {w : World} {o : Oper} {v : Value} (hi : ops[i]? = some o) (hd : o.dst = d) (hw : Region.wanted o (yielded ops a.tmps) = true) (hy : ∀ w, S w → (execOp a.eval o).run P w = .ok (.value v) w)
    (h : ptWp P ops Q S r (a.put d v) w) : ptWp P ops Q S (.read i d r) a w := ⟨o, v, hi, hd, .inl ⟨hw, hy⟩, h⟩
theorem act_do {i : Nat} {d : Option Nat} {F : Act → World → Prop} {a : Act} {w : World} {o : Oper} (hi : ops[i]? = some o) (hd : o.dst = d) (hw : Region.wanted o (yielded ops a.tmps) = true)
    (h : ∀ K : Act → World → Prop, Shut (∀ a w, S w → (S w → F a w) → K a w) → Oper.wp P o a w K Q) : actWp P ops Q S i d F a w := ⟨o, hi, hd, fun K hK => by rw [if_pos hw]; exact h K hK⟩
theorem pt_act {i : Nat} {d : Option Nat} {r : PT} {a : Act} {w : World} (h : actWp P ops Q S i d (ptWp P ops Q S r) a w) : ptWp P ops Q S (.act i d r) a w := h
theorem pt_fork {i j : Nat} {d e : Option Nat} {r t : PT} {a : Act} {w : World} (h : actWp P ops Q S i d (ptWp P ops Q S r) a w) (k : actWp P ops Q S j e (ptWp P ops Q S t) a w) : ptWp P ops Q S (.fork i d r j e t) a w := ⟨h, k⟩
theorem pt_nil {a : Act} {w : World} (h : Q .normal a w) : ptWp P ops Q S .nil a w := h
end
end Go.Proofs.YtkedegbpkkgeaaaGreat.kit
