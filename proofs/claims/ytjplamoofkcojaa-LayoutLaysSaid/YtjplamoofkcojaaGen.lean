/- What the kinds' Begin and awake have in common. -/
import Derived.Test.YtjplamoofkcojaaCoreB
import Derived.Test.YtjplamoofkcojaaObjA
import Derived.Test.YtjplamoofkcojaaPlans
namespace Go.Proofs.Ytjplamoofkcojaa.four
open Go Go.RowKit Go.Proofs.Ytjplamoofkcojaa.kit Go.Proofs.Ytjplamoofkcojaa.mem Go.Proofs.Ytjplamoofkcojaa.rop Go.Proofs.Ytjplamoofkcojaa.core Go.Proofs.Ytjplamoofkcojaa.obj
set_option linter.unusedVariables false
set_option linter.unusedSimpArgs false
set_option maxRecDepth 20000

theorem _root_.Go.Proofs.Ytjplamoofkcojaa.mem.ReadsW.lit {W : World} {g : Nat} {T : TypeId} {xs : List Int} (h : Blk W g (xs.map (Value.int .u32)).toArray T) (hx : ∀ z ∈ xs, (Lit.int .u32 z).wf = true) (hp : 0 < xs.length) (hm : xs.length ≤ maxLen) : ReadsW W (.slice (some ⟨g, 0, none⟩) xs.length xs.length) xs := by
  refine ⟨⟨by simp, hm, .inr ⟨hp, g, 0, xs.length, rfl, Nat.le_refl _, hm, fun i u hu => ?_⟩⟩, hx⟩
  rw [Nat.zero_add]
  exact h.cell (by simpa using hu)
theorem awake_fresh {W W1 w2 w3 w1' : World} {bx mb : Nat} {sv v : Value} {l : List Int} (h1 : Chg [] W W1) (h2 : Chg [] W1 w2) (h3 : Chg [] w2 w3) (hx : w1'.heap.size ≤ bx) (hb : w3.heap.size ≤ mb) (hs : ∀ y, sv.ownBlock = some y → w3.heap.size ≤ y) (ho : OwnW w2 w1'.heap.size v l) (hw : W1.heap.size ≤ w1'.heap.size) :
    W.heap.size ≤ bx ∧ W.heap.size ≤ mb ∧ (∀ y, sv.ownBlock = some y → W.heap.size ≤ y) ∧ (∀ y, v.ownBlock = some y → W.heap.size ≤ y) := by
  have a1 := h1.size; have a2 := h2.size; have a3 := h3.size
  refine ⟨by omega, by omega, fun y hy => by have := hs y hy; omega, fun y hy => ?_⟩
  rcases ho.2 with ⟨rfl, _⟩ | ⟨g, _, _, rfl, hg, _⟩
  · cases hy
  · simp [Value.ownBlock] at hy; omega
end Go.Proofs.Ytjplamoofkcojaa.four
