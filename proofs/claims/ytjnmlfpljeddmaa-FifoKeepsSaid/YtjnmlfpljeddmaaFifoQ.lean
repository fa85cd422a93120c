/- The queue of the law of puts and takes, as it lies in memory. -/
import Derived.Test.YtjnmlfpljeddmaaQRow
import Derived.Test.YtjnmlfpljeddmaaFifoK
namespace Go.Proofs.Ytjnmlfpljeddmaa.core
open Go Go.RowKit Go.Proofs.Ytjnmlfpljeddmaa.kit Go.Proofs.Ytjnmlfpljeddmaa.mem
set_option linter.unusedVariables false
set_option linter.unusedSimpArgs false
set_option maxRecDepth 20000

theorem infoRow : (Try.prog.info? 23).map (fun i => (i.zero, i.size, i.bytes)) = some (some (.slice none 0 0), 1, 24) := by kernel_rfl
theorem szRow : (Try.prog.info? 23).map (·.size) = some 1 := by kernel_rfl
/-- the law's queue: a row of slices that read as its records -/
structure QS (w W : World) (B mb : Nat) (sv v : Value) (q : List (List Int)) : Prop where
  row : ∃ qs : List Value, QRow w B 23 v qs ∧ qs.length = q.length ∧ ∀ (i : Nat) u r, qs[i]? = some u → q[i]? = some r → (∃ a n c, u = .slice a n c) ∧ ReadsW W u r
  blk : ∀ b, v.ownBlock = some b → B ≤ b ∧ b < w.heap.size ∧ b ≠ mb ∧ sv.ownBlock ≠ some b
section
variable {w w' W : World} {B mb : Nat} {sv v : Value} {q : List (List Int)} {L : List Nat}
theorem QS.nil : QS w W B mb sv (.slice none 0 0) [] := ⟨⟨[], QRow.nil _ _ _, rfl, fun i u r h => by simp at h⟩, fun b h => by cases h⟩
theorem QS.keep (h : QS w W B mb sv v q) (k : Chg L w w') (hn : ∀ b, v.ownBlock = some b → b ∉ L) : QS w' W B mb sv v q := by
  obtain ⟨⟨qs, h1, h2, h3⟩, h4⟩ := h
  exact ⟨⟨qs, h1.keep k hn, h2, h3⟩, fun b hb => by have := h4 b hb; have := k.size; exact ⟨by omega, by omega, by omega, (h4 b hb).2.2.2⟩⟩
theorem QS.fresh (h : QS w W B mb sv v q) (k : Chg [] w w') : QS w' W B mb sv v q := h.keep k (by simp)
theorem QS.slice (h : QS w W B mb sv v q) : ∃ ao cap, v = .slice ao q.length cap := by
  obtain ⟨⟨qs, h1, h2, h3⟩, h4⟩ := h
  obtain ⟨ao, cap, h0, _⟩ := h1.slice
  exact ⟨ao, cap, by rw [← h2]; exact h0⟩
theorem QS.get (h : QS w W B mb sv v q) (hq : 0 < q.length) : ∃ g off cap a n c, v = .slice (some ⟨g, off, none⟩) q.length cap ∧ w.cell? ⟨g, off, none⟩ = some (.slice a n c) ∧ ReadsW W (.slice a n c) (q.headD []) := by
  obtain ⟨⟨qs, h1, h2, h3⟩, h4⟩ := h
  cases q with
  | nil => simp at hq
  | cons r q =>
    cases qs with
    | nil => simp at h2
    | cons u qs =>
      obtain ⟨g, off, cap, e1, e2⟩ := h1.get 0 u rfl
      obtain ⟨⟨a, n, c, rfl⟩, h5⟩ := h3 0 u r rfl rfl
      exact ⟨g, off, cap, a, n, c, by rw [← h2]; exact e1, by simpa using e2, h5⟩
theorem QS.cut (h : QS w W B mb sv v q) (hq : 0 < q.length) : ∃ v', (∀ u, (Instr.slice 50 v (some (.int .i64 (1 : Int))) none none).run Try.prog u = .ok v' u) ∧ QS w W B mb sv v' q.tail := by
  obtain ⟨⟨qs, h1, h2, h3⟩, h4⟩ := h
  obtain ⟨v', r1, r2, r3⟩ := h1.cut (P := Try.prog) Try.underlying50 szRow (by intro h0; rw [h0] at h2; simp at h2; omega)
  exact ⟨v', r1, ⟨qs.tail, r2, by rw [List.length_tail, List.length_tail, h2], fun i u r hu hr => h3 (i + 1) u r (by rw [← hu, List.getElem?_tail]) (by rw [← hr, List.getElem?_tail])⟩, fun b hb => h4 b (by rw [← r3]; exact hb)⟩
theorem QS.more {u v' : Value} {r : List Int} {w0 : World} {ws : List Int} {n : Int} (h : QS w0 W B mb sv v q) (hm : MemAt w0 mb sv ws n) (hs : Chg [] w0 w) (qs : List Value) (h1 : QRow w' B 23 v' (qs ++ [u])) (h2 : qs.length = q.length) (h3 : ∀ (i : Nat) u r, qs[i]? = some u → q[i]? = some r → (∃ a n c, u = .slice a n c) ∧ ReadsW W u r)
    (hk : Chg v.ownBlock.toList w w') (hb : ∀ y, v'.ownBlock = some y → v.ownBlock = some y ∨ w.heap.size ≤ y) (hu : (∃ a n c, u = .slice a n c) ∧ ReadsW W u r) : QS w' W B mb sv v' (q ++ [r]) := by
  refine ⟨⟨qs ++ [u], h1, by simp [h2], fun i u' r' e1 e2 => ?_⟩, fun b hb' => ?_⟩
  · rcases Nat.lt_or_ge i qs.length with hi | hi
    · rw [List.getElem?_append_left hi] at e1
      rw [List.getElem?_append_left (by omega)] at e2
      exact h3 i u' r' e1 e2
    · rw [List.getElem?_append_right hi] at e1
      rw [List.getElem?_append_right (by omega)] at e2
      have h0 : i - qs.length = 0 := by
        have := (List.getElem?_eq_some_iff.1 e1).1
        simp at this; omega
      rw [h0] at e1
      rw [show i - q.length = 0 by omega] at e2
      simp at e1 e2
      subst e1 e2
      exact hu
  · obtain ⟨c1, c2⟩ := h1.block (by simp) b hb'
    have hmb := hm.box.lt
    have hsz := hs.size
    rcases hb b hb' with e | e
    · have := h.blk b e
      exact ⟨c1, c2, this.2.2.1, this.2.2.2⟩
    · exact ⟨c1, c2, by omega, fun hh => by have := own_lt hm.row hh; omega⟩
end
theorem ans_none {w : World} {B : Nat} {v : Value} (h : OwnW w B v []) : ∃ a c, v = .slice a 0 c := by
  obtain ⟨a, c, he, _⟩ := reads_slice (Reads.of_own h (by decide))
  exact ⟨a, c, by simpa using he⟩
/-- how an operation ended -/
structure OpTold (q : Q) (rec : List Int) (code steps : Int) : Prop where
  rec0 : q.2.1 = rec
  code0 : q.1.code = code
  steps0 : q.1.steps = steps
theorem OpTold.of {q : Q} {rec : List Int} {code : Int} (h : q.2.1 = rec ∧ q.1.code = code) : OpTold q rec code q.1.steps := ⟨h.1, h.2, rfl⟩
end Go.Proofs.Ytjnmlfpljeddmaa.core
