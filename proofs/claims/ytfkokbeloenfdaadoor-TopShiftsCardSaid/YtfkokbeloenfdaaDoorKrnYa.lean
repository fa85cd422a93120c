/- The kernel's dues, in plain Lean: whatever holds of all of them goes on to; a shift goes through. -/
import Derived.Test.YtfkokbeloenfdaaDoorKrnF
namespace Go.Proofs.YtfkokbeloenfdaaDoor.krn
set_option linter.unusedVariables false
set_option linter.unusedSimpArgs false
theorem getD_mem {l : List Du} {i : Nat} (h : i < l.length) : l.getD i d0 ∈ l := by
  rw [List.getD_eq_getElem?_getD, List.getElem?_eq_getElem h]
  exact List.getElem_mem h
theorem swapL_all {P : Du → Prop} {l : List Du} (h : ∀ d ∈ l, P d) {i j : Nat} (hi : i < l.length) (hj : j < l.length) : ∀ d ∈ swapL l i j, P d := by
  intro d hd
  unfold swapL at hd
  rcases List.mem_or_eq_of_mem_set hd with hd | rfl
  · rcases List.mem_or_eq_of_mem_set hd with hd | rfl
    · exact h d hd
    · exact h _ (getD_mem hj)
  · exact h _ (getD_mem hi)
theorem upM_all {P : Du → Prop} (i : Nat) : ∀ (l : List Du), (∀ d ∈ l, P d) → i < l.length → ∀ d ∈ upM l i, P d := by
  induction i using Nat.strongRecOn with
  | ind i ih =>
    intro l h hi
    rw [upM]
    split
    · split
      · exact ih _ (by omega) _ (swapL_all h hi (by omega)) (by rw [swapL_len]; omega)
      · exact h
    · exact h
theorem downM_all {P : Du → Prop} : ∀ (k : Nat) (l : List Du) (i : Nat), l.length - i ≤ k → (∀ d ∈ l, P d) → ∀ d ∈ downM l i, P d
  | 0, l, i, hk, h => by rw [downM, dif_neg (by omega)]; exact h
  | k + 1, l, i, hk, h => by
    rw [downM]
    split
    · rename_i h1
      have := kidM_lt h1
      split
      · exact downM_all k _ _ (by rw [swapL_len]; omega) (swapL_all h (by omega) (by omega))
      · exact h
    · exact h
theorem popM_all {P : Du → Prop} {l : List Du} (h : ∀ d ∈ l, P d) : ∀ d ∈ popM l, P d := by
  unfold popM
  refine downM_all _ _ _ (Nat.le_refl _) ?_
  intro d hd
  unfold cutM at hd
  have hd2 := List.mem_of_mem_take hd
  rcases List.mem_or_eq_of_mem_set hd2 with h1 | rfl
  · exact h d h1
  · cases l with
    | nil => simp at hd
    | cons a l => exact h _ (getD_mem (by simp))
theorem untilM_all {P : Du → Prop} (t : Int) : ∀ (k : Nat) (ds : List Du), ds.length ≤ k → (∀ d ∈ ds, P d) → (∀ d ∈ (untilM t ds).1, P d ∧ d.at_ ≤ t) ∧ ∀ d ∈ (untilM t ds).2, P d
  | 0, ds, hk, h => by
    obtain rfl : ds = [] := List.eq_nil_of_length_eq_zero (by omega)
    rw [untilM_nil]; simp
  | k + 1, [], hk, h => by rw [untilM_nil]; simp
  | k + 1, d :: r, hk, h => by
    rw [untilM_cons]
    split
    · rename_i h1
      have ih := untilM_all t k (popM (d :: r)) (by rw [popM_len]; simpa using hk) (popM_all h)
      refine ⟨fun x hx => ?_, ih.2⟩
      rcases List.mem_cons.1 hx with rfl | hx
      · exact ⟨h _ (by simp), h1⟩
      · exact ih.1 x hx
    · exact ⟨by simp, h⟩
def sh (n : Int) (d : Du) : Du := ⟨d.at_ + n, d.task⟩
theorem ahead_sh (n : Int) (a b : Du) : aheadB (sh n a) (sh n b) = aheadB a b := by
  unfold aheadB sh
  simp only
  rw [show decide (a.at_ + n < b.at_ + n) = decide (a.at_ < b.at_) by simp, show decide (a.at_ + n = b.at_ + n) = decide (a.at_ = b.at_) by simp]
theorem getD_sh (n : Int) {l : List Du} {i : Nat} (h : i < l.length) : (l.map (sh n)).getD i d0 = sh n (l.getD i d0) := by
  simp [List.getD_eq_getElem?_getD, List.getElem?_map, List.getElem?_eq_getElem h]
theorem swapL_sh (n : Int) {l : List Du} {i j : Nat} (hi : i < l.length) (hj : j < l.length) : swapL (l.map (sh n)) i j = (swapL l i j).map (sh n) := by
  unfold swapL
  rw [getD_sh n hi, getD_sh n hj, List.map_set, List.map_set]
theorem upM_sh (n : Int) (i : Nat) : ∀ (l : List Du), i < l.length → upM (l.map (sh n)) i = (upM l i).map (sh n) := by
  induction i using Nat.strongRecOn with
  | ind i ih =>
    intro l hi
    rw [upM]
    conv => rhs; rw [upM]
    by_cases h0 : 0 < i
    · rw [dif_pos h0, dif_pos h0, getD_sh n hi, getD_sh n (show (i - 1) / 2 < l.length by omega), ahead_sh]
      split
      · rw [swapL_sh n hi (by omega), ih _ (by omega) _ (by rw [swapL_len]; omega)]
      · rfl
    · rw [dif_neg h0, dif_neg h0]
theorem kidM_sh (n : Int) {l : List Du} {i : Nat} (h : 2 * i + 1 < l.length) : kidM (l.map (sh n)) i = kidM l i := by
  unfold kidM
  rw [List.length_map]
  by_cases h2 : 2 * i + 2 < l.length
  · rw [getD_sh n h2, getD_sh n h, ahead_sh]
  · simp [h2]
theorem downM_sh (n : Int) : ∀ (k : Nat) (l : List Du) (i : Nat), l.length - i ≤ k → downM (l.map (sh n)) i = (downM l i).map (sh n)
  | 0, l, i, hk => by rw [downM, dif_neg (by simp; omega), downM, dif_neg (by omega)]
  | k + 1, l, i, hk => by
    rw [downM]
    conv => rhs; rw [downM]
    by_cases h : 2 * i + 1 < l.length
    · have hk2 := kidM_lt h
      rw [dif_pos (by simpa using h), dif_pos h, kidM_sh n h, getD_sh n hk2.2, getD_sh n (show i < l.length by omega), ahead_sh]
      split
      · rw [swapL_sh n (by omega) hk2.2, downM_sh n k _ _ (by rw [swapL_len]; omega)]
      · rfl
    · rw [dif_neg (by simpa using h), dif_neg h]
theorem popM_sh (n : Int) (l : List Du) : popM (l.map (sh n)) = (popM l).map (sh n) := by
  unfold popM
  have h : cutM (l.map (sh n)) = (cutM l).map (sh n) := by
    unfold cutM
    cases l with
    | nil => rfl
    | cons a l =>
      rw [List.length_map, getD_sh n (by simp), List.map_take, List.map_set]
  rw [h, downM_sh n _ _ _ (Nat.le_refl _)]
theorem untilM_sh (n t : Int) : ∀ (k : Nat) (ds : List Du), ds.length ≤ k → untilM (t + n) (ds.map (sh n)) = ((untilM t ds).1.map (sh n), (untilM t ds).2.map (sh n))
  | 0, ds, hk => by
    obtain rfl : ds = [] := List.eq_nil_of_length_eq_zero (by omega)
    rw [List.map_nil, untilM_nil, untilM_nil]; rfl
  | k + 1, [], hk => by rw [List.map_nil, untilM_nil, untilM_nil]; rfl
  | k + 1, d :: r, hk => by
    rw [List.map_cons, untilM_cons, untilM_cons, ← List.map_cons, popM_sh, untilM_sh n t k (popM (d :: r)) (by rw [popM_len]; simpa using hk)]
    by_cases h : d.at_ ≤ t
    · rw [if_pos h, if_pos (by show d.at_ + n ≤ t + n; omega)]; rfl
    · rw [if_neg h, if_neg (by show ¬ d.at_ + n ≤ t + n; omega)]; rfl
theorem untilM_none (t : Int) {ds : List Du} (h : ∀ d ∈ ds, t < d.at_) : untilM t ds = ([], ds) := by
  cases ds with
  | nil => rw [untilM_nil]
  | cons d r => rw [untilM_cons, if_neg (by have := h d (by simp); omega)]
theorem pushM_all {P : Du → Prop} {room : Int} {ds : List Du} {d : Du} (h : ∀ x ∈ ds, P x) (hd : P d) : ∀ x ∈ pushM room ds d, P x := by
  unfold pushM
  split
  · refine upM_all _ _ ?_ (by simp)
    intro x hx
    rcases List.mem_append.1 hx with hx | hx
    · exact h x hx
    · rw [List.mem_singleton.1 hx]; exact hd
  · exact h
theorem pushM_len {room : Int} {ds : List Du} {d : Du} (h : (ds.length : Int) ≤ room) : ((pushM room ds d).length : Int) ≤ room := by
  unfold pushM
  split
  · rw [upM_len]; simp; omega
  · exact h
theorem pushM_sh (n : Int) (room : Int) (ds : List Du) (d : Du) : pushM room (ds.map (sh n)) (sh n d) = (pushM room ds d).map (sh n) := by
  unfold pushM
  rw [List.length_map]
  split
  · rw [← upM_sh n _ _ (by simp)]; simp
  · rfl
end Go.Proofs.YtfkokbeloenfdaaDoor.krn
