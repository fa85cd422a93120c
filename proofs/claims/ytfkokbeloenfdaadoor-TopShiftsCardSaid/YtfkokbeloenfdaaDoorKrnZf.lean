/- The kernel: Run's map of asks. -/
import Derived.Maps.GroupsBeside
import Derived.Test.YtfkokbeloenfdaaDoorKrnZe
namespace Go.Proofs.YtfkokbeloenfdaaDoor.krn
open Go Go.RowKit Go.Proofs.YtfkokbeloenfdaaDoor.kit Go.Shelf
open Go.Maps (Keyed IsMap)
open Go.ChangeShapes (lits)
open Go.WideElems (Fit rd rg pl rd_val elemAt)
set_option linter.unusedVariables false
set_option linter.unusedSimpArgs false
set_option maxRecDepth 20000
theorem ints_of_heap {w w' : World} {base : Nat} {e : TypeId} {q : IntKind} {v : Value} {zs : List Int} (h : w.ownsInts base e q v zs) (hh : ∀ y, base ≤ y → y < w.heap.size → w'.heap[y]? = w.heap[y]?) : w'.ownsInts base e q v zs := by
  obtain ⟨⟨h1, h2⟩, h3⟩ := h
  refine ⟨⟨h1, ?_⟩, h3⟩
  rcases h2 with h2 | ⟨g, cap, cur, hv, hB, hg, h4⟩
  · exact .inl h2
  · exact .inr ⟨g, cap, cur, hv, hB, (hh g hB (Array.getElem?_eq_some_iff.1 hg).1).trans hg, h4⟩
/-- the groups stay while their map's block and all blocks from their base on stay -/
theorem groups_of_heap {w w' : World} {base b n : Nat} {D : DataW Unit} (h : w.ownsGroups Tryd.prog 3 base 3 .i64 b n D) (hb' : w'.heap[b]? = w.heap[b]?) (hh : ∀ y, base ≤ y → y < w.heap.size → w'.heap[y]? = w.heap[y]?) : w'.ownsGroups Tryd.prog 3 base 3 .i64 b n D := by
  obtain ⟨es, clock, hb, F, hs, rfl, hbb, hlen, hap⟩ := h
  have hst : ∀ x ∈ es.toList, ∀ z, rowElem (H := Unit) w base 3 .i64 x.val = some z → rowElem w' base 3 .i64 x.val = some z := fun x hx z hz => by
    obtain ⟨zs, ho, rfl⟩ := rowElem_inv hz
    exact rowElem_mk (ints_of_heap ho hh)
  obtain ⟨F1, hmap, _⟩ := F.stay hst
  refine ⟨es, clock, hb'.trans hb, F1, hs, by rw [hmap], hbb, fun x hx zs ho => ?_, hap⟩
  obtain ⟨y, hy⟩ := F.reads x hx
  obtain ⟨z, hz, _⟩ := rd_val hy
  obtain ⟨zs0, ho0, _⟩ := rowElem_inv hz
  rw [ho.unique (ints_of_heap ho0 hh)]
  exact hlen x hx zs0 ho0
/-- the map of asks as a function -/
def grpD (zs : List Int) : DataW Unit := if zs = [] then .nil else .slice (lits .i64 zs) []
def GrpI (w : World) (base b n : Nat) (f : Int → List Int) : Prop :=
  ∃ D : DataW Unit, w.ownsGroups Tryd.prog 3 base 3 .i64 b n D ∧ IsMap D ∧ ∀ i, I64 i → D.atKey (.int .i64 i) .nil = grpD (f i)
theorem GrpI.of_heap {w w' : World} {base b n : Nat} {f : Int → List Int} (h : GrpI w base b n f) (hb' : w'.heap[b]? = w.heap[b]?) (hh : ∀ y, base ≤ y → y < w.heap.size → w'.heap[y]? = w.heap[y]?) : GrpI w' base b n f := by
  obtain ⟨D, h1, h2, h3⟩ := h
  exact ⟨D, groups_of_heap h1 hb' hh, h2, h3⟩
theorem GrpI.made (w : World) : GrpI (w.alloc (.map #[] 0)) (w.heap.size + 1) w.heap.size 0 (fun _ => []) :=
  ⟨.map [], World.ownsGroups_made w _ _ _ _, Maps.isMap_empty, fun i hi => rfl⟩
theorem zeroSl (w : World) : (zeroValue 44).run Tryd.prog w = .ok (.slice none 0 0) w := by kernel_rfl
theorem grpD_inj {w : World} {base : Nat} {v : Value} {zs xs : List Int} (h : w.ownsInts base 3 .i64 v zs) (he : grpD xs = rowDatum .i64 v zs) : zs = xs := by
  by_cases hz : zs = []
  · subst hz
    rcases h.datum (H := Unit) with ⟨h1, -⟩ | h1
    · rw [h1] at he
      unfold grpD at he
      split at he
      · rename_i hx; exact hx.symm
      · cases he
    · rw [h1] at he
      unfold grpD at he
      split at he
      · cases he
      · simp only [DataW.slice.injEq, and_true] at he
        cases xs with
        | nil => rfl
        | cons x xs => simp [lits] at he
  · rw [h.datum_pos hz] at he
    unfold grpD at he
    split at he
    · cases he
    · simp only [DataW.slice.injEq, and_true] at he
      have : Function.Injective (fun z : Int => (DataW.lit (.int .i64 z) : DataW Unit)) := fun a b hab => by simpa using hab
      exact ((List.map_inj_right this).1 he).symm
theorem GrpI.look {w : World} {base b n : Nat} {f : Int → List Int} (h : GrpI w base b n f) (hn : n < 100000) {i : Int} (hi : I64 i) :
    ∃ v, (Instr.lookup 55 (.map (some b)) (.int .i64 i) false).run Tryd.prog w = .ok v w ∧ w.ownsInts base 3 .i64 v (f i) ∧ (f i).length ≤ n := by
  obtain ⟨D, h1, h2, h3⟩ := h
  obtain ⟨v, zs, hrun, hat, ho, hl, -⟩ := h1.at keyI Tryd.underlying55 (zeroSl w) (Nat.lt_of_lt_of_le hn (by decide)) (keyI_of hi)
  rw [h3 i hi] at hat
  have := grpD_inj ho hat
  subst this
  exact ⟨v, hrun, ho, hl⟩
theorem GrpI.same {w V : World} {base b n : Nat} {f : Int → List Int} (h : GrpI w base b n f) (hV : V.heap[b]? = w.heap[b]?) {i : Int} (hi : I64 i) {v : Value}
    (hv : (Instr.lookup 55 (.map (some b)) (.int .i64 i) false).run Tryd.prog w = .ok v w) : (Instr.lookup 55 (.map (some b)) (.int .i64 i) false).run Tryd.prog V = .ok v V := by
  obtain ⟨D, ⟨es, clock, hb, F, -⟩, -⟩ := h
  rcases Maps.fit_look false keyI Tryd.underlying55 (zeroSl w) hb F (keyI_of hi) with ⟨h1, h2, -⟩ | ⟨e0, y0, h1, h2, h3, h4, -⟩ <;>
  rcases Maps.fit_look false keyI Tryd.underlying55 (zeroSl V) (hV.trans hb) F (keyI_of hi) with ⟨g1, g2, -⟩ | ⟨e1, y1, g1, g2, g3, g4, -⟩
  · rw [h1] at hv
    cases hv
    exact g1
  · exact absurd g2 (h2 e1 g1)
  · exact absurd h2 (g2 e0 h1)
  · rw [h3] at hv
    cases hv
    have he : e0 = e1 := by
      have hap : es.toList.Pairwise (fun x y => x.key ≠ y.key) := ((Go.MapKept.stamped_iff es clock).1 F.stamped).2.2
      obtain ⟨a, ha, rfl⟩ := List.getElem_of_mem h1
      obtain ⟨c, hc, rfl⟩ := List.getElem_of_mem g1
      rcases Nat.lt_trichotomy a c with hlt | rfl | hlt
      · exact absurd (h2.trans g2.symm) (List.pairwise_iff_getElem.1 hap a c ha hc hlt)
      · rfl
      · exact absurd (g2.trans h2.symm) (List.pairwise_iff_getElem.1 hap c a hc ha hlt)
    rw [he]
    exact g3
theorem GrpI.back {w : World} {base b n : Nat} {f : Int → List Int} (h : GrpI w base b n f) (hn : n < 100000) {i : Int} (hi : I64 i) :
    ∃ v, (Instr.lookup 55 (.map (some b)) (.int .i64 i) false).run Tryd.prog w = .ok v w ∧ w.ownsInts base 3 .i64 v (f i) ∧ (f i).length ≤ n ∧
      ∀ (w1 : World) (v' : Value) (x : Int), w.grownBy w1 v.ownBlock → w1.ownsInts base 3 .i64 v' (f i ++ [x]) → (v'.ownBlock = v.ownBlock ∨ ∃ g, v'.ownBlock = some g ∧ w.heap.size ≤ g) →
        ∃ w2, (Instr.mapUpdate 55 (.map (some b)) (.int .i64 i) v').run Tryd.prog w1 = .ok () w2 ∧ GrpI w2 base b (n + 1) (fun j => if j = i then f i ++ [x] else f j) ∧ w1.grownBy w2 (some b) := by
  obtain ⟨D, h1, h2, h3⟩ := h
  obtain ⟨v, zs, hrun, hat, ho, hl, hback⟩ := h1.at keyI Tryd.underlying55 (zeroSl w) (Nat.lt_of_lt_of_le hn (by decide)) (keyI_of hi)
  rw [h3 i hi] at hat
  have := grpD_inj ho hat
  subst this
  refine ⟨v, hrun, ho, hl, fun w1 v' x hg ho' hloc => ?_⟩
  obtain ⟨w2, hr2, hg2, hgr⟩ := hback w1 v' _ hg ho' (by simp; omega) hloc
  refine ⟨w2, hr2, ⟨_, hg2, h2.put _ _, fun j hj => ?_⟩, hgr⟩
  show _ = grpD (if j = i then f i ++ [x] else f j)
  by_cases hji : j = i
  · subst hji
    rw [if_pos rfl, Maps.atKey_put_same h2 (isKeyI _), ho'.datum_pos (by simp)]
    unfold grpD
    rw [if_neg (by simp)]
  · rw [if_neg hji, Maps.atKey_put_other (fun h => hji (by cases h; rfl))]
    exact h3 j hj
end Go.Proofs.YtfkokbeloenfdaaDoor.krn
