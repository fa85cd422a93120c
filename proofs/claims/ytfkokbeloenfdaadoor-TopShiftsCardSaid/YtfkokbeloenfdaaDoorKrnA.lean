/- The kernel: dues as a heap: agenda.ahead, up, down, Push, Peek, Pop. -/
import Derived.Test.YtfkokbeloenfdaaDoorIter
import Derived.Test.YtfkokbeloenfdaaDoorPlans
import Derived.Test.YtfkokbeloenfdaaDoorWordWalks
import Derived.Test.YtfkokbeloenfdaaDoorBlk
import Derived.Test.YtfkokbeloenfdaaDoorOpen
import Derived.Deep.Cut
import Derived.Deep.CutBlock
import Derived.Maps.AppendAt
namespace Go.Proofs.YtfkokbeloenfdaaDoor.krn
open Go Go.RowKit Go.Proofs.YtfkokbeloenfdaaDoor.kit
set_option linter.unusedVariables false
set_option linter.unusedSimpArgs false
set_option maxRecDepth 20000
structure Du where
  at_ : Int
  task : Int
deriving DecidableEq
def Du.cells (d : Du) : List Value := [.int .i64 d.at_, .int .i64 d.task]
abbrev Du.val (d : Du) : Value := .agg #[.int .i64 d.at_, .int .i64 d.task]
def d0 : Du := ⟨0, 0⟩
def OwnD (w : World) (B : Nat) (v : Value) (l : List Du) : Prop := w.ownsRow B 35 2 v l.length (l.flatMap Du.cells)
theorem szDue : (Tryd.prog.info? 35).map (·.size) = some 2 := by kernel_rfl
theorem infoDue : (Tryd.prog.info? 35).map (fun i => (i.zero, i.size, i.bytes)) = some (some (.agg #[.int .i64 0, .int .i64 0]), 2, 16) := by kernel_rfl
def aheadB (a b : Du) : Bool := decide (a.at_ < b.at_) || (decide (a.at_ = b.at_) && decide (a.task < b.task))
def swapL (l : List Du) (i j : Nat) : List Du := (l.set i (l.getD j d0)).set j (l.getD i d0)
theorem swapL_len (l : List Du) (i j : Nat) : (swapL l i j).length = l.length := by simp [swapL]
/-- the due at a place rises -/
def upM (l : List Du) (i : Nat) : List Du :=
  if h : 0 < i then
    if aheadB (l.getD i d0) (l.getD ((i - 1) / 2) d0) = true then upM (swapL l i ((i - 1) / 2)) ((i - 1) / 2) else l
  else l
termination_by i
decreasing_by omega
def kidM (l : List Du) (i : Nat) : Nat := if 2 * i + 2 < l.length ∧ aheadB (l.getD (2 * i + 2) d0) (l.getD (2 * i + 1) d0) = true then 2 * i + 2 else 2 * i + 1
theorem kidM_lt {l : List Du} {i : Nat} (h : 2 * i + 1 < l.length) : i < kidM l i ∧ kidM l i < l.length := by
  unfold kidM
  split <;> omega
/-- the due at a place sinks -/
def downM (l : List Du) (i : Nat) : List Du :=
  if h : 2 * i + 1 < l.length then
    if aheadB (l.getD (kidM l i) d0) (l.getD i d0) = true then downM (swapL l i (kidM l i)) (kidM l i) else l
  else l
termination_by l.length - i
decreasing_by
  rw [swapL_len]
  have := kidM_lt h
  omega
theorem upM_len (l : List Du) (i : Nat) : (upM l i).length = l.length := by
  induction i using Nat.strongRecOn generalizing l with
  | ind i ih =>
    rw [upM]
    split
    · split
      · rw [ih _ (by omega), swapL_len]
      · rfl
    · rfl
theorem downM_len : ∀ (k : Nat) (l : List Du) (i : Nat), l.length - i ≤ k → (downM l i).length = l.length
  | 0, l, i, h => by rw [downM, dif_neg (by omega)]
  | k + 1, l, i, h => by
    rw [downM]
    split
    · rename_i h1
      have := kidM_lt h1
      split
      · rw [downM_len k _ _ (by rw [swapL_len]; omega), swapL_len]
      · rfl
    · rfl
theorem own_addr {w : World} {B s n : Nat} {T : TypeId} {v : Value} {xs : List Value} (h : w.ownsRow B T s v n xs) (hn : 0 < n) : ∃ g c, v = .slice (some ⟨g, 0, none⟩) n c ∧ B ≤ g ∧ g < w.heap.size := by
  have hl := World.ownsRow.lt h
  obtain ⟨h1, h2⟩ := h
  rcases h2 with ⟨h3, h2⟩ | ⟨g, cap, cur, rfl, hB, hg, h4⟩
  · omega
  · exact ⟨g, cap, rfl, hB, (hl g rfl).2⟩
theorem own_keep {w w' : World} {B s n : Nat} {T : TypeId} {v : Value} {xs : List Value} {L : List Nat} (h : w.ownsRow B T s v n xs) (k : Chg L w w') (hn : ∀ y, v.ownBlock = some y → y ∉ L) : w'.ownsRow B T s v n xs := by
  obtain ⟨h1, h2⟩ := h
  refine ⟨h1, ?_⟩
  rcases h2 with h2 | ⟨g, cap, cur, rfl, hB, hg, h3⟩
  · exact .inl h2
  · exact .inr ⟨g, cap, cur, rfl, hB, k.heap hg (hn g rfl), h3⟩
theorem own_mono {w : World} {B B' s n : Nat} {T : TypeId} {v : Value} {xs : List Value} (h : w.ownsRow B T s v n xs) (hb : B' ≤ B) : w.ownsRow B' T s v n xs := by
  obtain ⟨h1, h2⟩ := h
  refine ⟨h1, ?_⟩
  rcases h2 with h2 | ⟨g, cap, cur, rfl, hB, hg, h3⟩
  · exact .inl h2
  · exact .inr ⟨g, cap, cur, rfl, by omega, hg, h3⟩
theorem own_open {w : World} {B s n : Nat} {T : TypeId} {v : Value} {xs : List Value} (h : w.ownsRow B T s v n xs) : ∃ a c, v = .slice a n c := by
  obtain ⟨h1, h2⟩ := h
  rcases h2 with ⟨rfl, h2⟩ | ⟨g, cap, cur, rfl, hB, hg, h3⟩
  · subst h2; exact ⟨_, _, rfl⟩
  · exact ⟨_, _, rfl⟩
theorem index_at {t e size : Nat} (ht : Tryd.prog.underlying t = some (.slice e)) (he : (Tryd.prog.info? e).map (·.size) = some size) (g n c j : Nat) (hj : j < n) (u : World) : (Instr.indexAt t (.slice (some ⟨g, 0, none⟩) n c) (.int .i64 (j : Int))).run Tryd.prog u = .ok (.pointer (some ⟨g, j * size, none⟩)) u := by
  have hel : Tryd.prog.elem t = e := by simp [Program.elem, ht]
  rw [run_indexAt_slice (P := Tryd.prog) u t ⟨g, 0, none⟩ n c .i64 j (by rw [hel]; exact ht), hel, sizeOf_run he, if_pos ⟨by omega, by omega⟩]
  simp [Result.andThen, Go.Proofs.YtfkokbeloenfdaaDoor.kit.add_plain]
theorem OwnD.at {w : World} {B g c : Nat} {l : List Du} (h : OwnD w B (.slice (some ⟨g, 0, none⟩) l.length c) l) (j : Nat) (hj : j < l.length) :
    (w.cell? ⟨g, j * 2, none⟩ = some (.int .i64 (l.getD j d0).at_) ∧ w.cell? ⟨g, j * 2 + 1, none⟩ = some (.int .i64 (l.getD j d0).task)) ∧ w.frozen? ⟨g, j * 2, none⟩ = false ∧ w.frozen? ⟨g, j * 2 + 1, none⟩ = false := by
  have hk : l[j]? = some (l.getD j d0) := by rw [List.getD_eq_getElem?_getD, List.getElem?_eq_getElem hj]; rfl
  have e0 := World.ownsRow.cellAt h (j * 2) (by omega)
  have e1 := World.ownsRow.cellAt h (j * 2 + 1) (by omega)
  have h0 := flatMap_get Du.cells 2 (fun _ => rfl) l j 0 (by decide) _ hk
  have h1 := flatMap_get Du.cells 2 (fun _ => rfl) l j 1 (by decide) _ hk
  rw [Nat.add_zero] at h0
  rw [h0] at e0
  rw [h1] at e1
  exact ⟨⟨e0, e1⟩, World.ownsRow.frozenAt h _, World.ownsRow.frozenAt h _⟩
theorem flatMap_set2 : ∀ (l : List Du) (j : Nat) (d : Du), ((l.flatMap Du.cells).set (j * 2) (.int .i64 d.at_)).set (j * 2 + 1) (.int .i64 d.task) = (l.set j d).flatMap Du.cells
  | [], j, d => by simp
  | x :: l, 0, d => rfl
  | x :: l, j + 1, d => by
    rw [show (j + 1) * 2 = j * 2 + 1 + 1 by omega, show j * 2 + 1 + 1 + 1 = j * 2 + 1 + 1 + 1 from rfl, List.flatMap_cons, List.set_cons_succ, List.flatMap_cons, ← flatMap_set2 l j d]
    rfl
theorem OwnD.put {w : World} {B g c : Nat} {l : List Du} (h : OwnD w B (.slice (some ⟨g, 0, none⟩) l.length c) l) (j : Nat) (d : Du) :
    OwnD ((w.setCell ⟨g, j * 2, none⟩ (.int .i64 d.at_)).setCell ⟨g, j * 2 + 1, none⟩ (.int .i64 d.task)) B (.slice (some ⟨g, 0, none⟩) (l.set j d).length c) (l.set j d) := by
  have h1 := (World.ownsRow.stored (World.ownsRow.stored h (j * 2) (.int .i64 d.at_)).1 (j * 2 + 1) (.int .i64 d.task)).1
  rw [flatMap_set2] at h1
  unfold OwnD
  rw [List.length_set]
  exact h1
set_option maxHeartbeats 2000000 in
theorem ahead_any (a b : Du) (W : World) :
    Calls Tryd.prog 48 #[a.val, b.val] W fun e W' => e = .returned (.bool (aheadB a b)) ∧ Chg [] W W' := by
  obtain ⟨a1, a2⟩ := a
  obtain ⟨b1, b2⟩ := b
  obtain ⟨R, hR⟩ : ∃ R, aheadB ⟨a1, a2⟩ ⟨b1, b2⟩ = R := ⟨_, rfl⟩
  rw [hR]
  unfold aheadB at hR
  simp only at hR
  have HC : Hid (∀ x y, Chg [] W ((W.alloc x).alloc y)) := Lib.hid (fun x y => ((Chg.refl [] W).alloc x).alloc y)
  by_cases c1 : a1 < b1
  · obtain rfl : true = R := by rw [← hR]; simp [c1]
    clear hR
    go_enter Tryd.func48, Tryd.ntmps48
    go_wp2
    go_ret
    exact ⟨rfl, HC.out _ _⟩
  · by_cases c2 : a1 = b1
    · subst c2
      obtain rfl : decide (a2 < b2) = R := by rw [← hR]; simp
      clear hR
      go_enter Tryd.func48, Tryd.ntmps48
      go_wp2
      all_goals go_ret
      all_goals exact ⟨rfl, HC.out _ _⟩
    · obtain rfl : false = R := by rw [← hR]; simp [c1, c2]
      clear hR
      have c2' : (a1 == b1) = false := by simpa using c2
      go_enter Tryd.func48, Tryd.ntmps48
      go_wp2
      go_ret
      exact ⟨rfl, HC.out _ _⟩
end Go.Proofs.YtfkokbeloenfdaaDoor.krn
