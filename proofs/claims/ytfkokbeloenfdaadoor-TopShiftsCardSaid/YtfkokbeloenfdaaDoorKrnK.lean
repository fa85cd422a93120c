/- The kernel: maps of ints. -/
import Derived.Maps.OwnSet
import Derived.Test.YtfkokbeloenfdaaDoorKrnJ
namespace Go.Proofs.YtfkokbeloenfdaaDoor.krn
open Go Go.RowKit Go.Proofs.YtfkokbeloenfdaaDoor.kit Go.Shelf
open Go.Maps (Keyed IsMap)
set_option linter.unusedVariables false
set_option linter.unusedSimpArgs false
set_option maxRecDepth 20000
def I64 (x : Int) : Prop := (Lit.int .i64 x).wf = true
theorem i64_of {x : Int} (h1 : -9223372036854775808 ≤ x) (h2 : x ≤ 9223372036854775807) : I64 x := by
  have e1 : IntKind.i64.min = -9223372036854775808 := by decide
  have e2 : IntKind.i64.max = 9223372036854775807 := by decide
  show (decide (IntKind.i64.min ≤ x) && decide (x ≤ IntKind.i64.max)) = true
  rw [e1, e2]; simp [h1, h2]
def MapI (w : World) (b n : Nat) (f : Int → Option Int) : Prop :=
  ∃ D : DataW Unit, w.ownsMap Tryd.prog 3 (plainElem Tryd.prog 3) b n D ∧ ∀ i, I64 i → (f i = none → Maps.has D (.int .i64 i) = false) ∧ ∀ v, f i = some v → ∀ z, D.atKey (.int .i64 i) z = .lit (.int .i64 v)
def upd (f : Int → Option Int) (i : Int) (v : Option Int) : Int → Option Int := fun j => if j = i then v else f j
theorem keyI : Keyed Tryd.prog 3 := Maps.int_keyed Tryd.underlying3
theorem keyI_of {i : Int} (h : I64 i) : keyOf Tryd.prog 3 (.int .i64 i) = some (.int .i64 i) := Maps.keyOf_int_mk Tryd.underlying3 h
theorem zeroI (w : World) : (zeroValue 3).run Tryd.prog w = .ok (.int .i64 0) w := by kernel_rfl
theorem MapI.lt {w : World} {b n : Nat} {f : Int → Option Int} (h : MapI w b n f) : b < w.heap.size := let ⟨_, h1, _⟩ := h; h1.lt
theorem MapI.mono {w : World} {b n n' : Nat} {f : Int → Option Int} (h : MapI w b n f) (hn : n ≤ n') : MapI w b n' f := let ⟨D, h1, h2⟩ := h; ⟨D, h1.mono hn, h2⟩
theorem MapI.keep {w w' : World} {b n : Nat} {f : Int → Option Int} {L : List Nat} (h : MapI w b n f) (k : Chg L w w') (hn : b ∉ L) : MapI w' b n f := by
  obtain ⟨D, ⟨es, clock, hb, r⟩, h2⟩ := h
  exact ⟨D, ⟨es, clock, k.heap hb hn, r⟩, h2⟩
theorem MapI.made (w : World) : MapI (w.alloc (.map #[] 0)) w.heap.size 0 (fun _ => none) :=
  ⟨.map [], World.ownsMap_made w _ _ _, fun i hi => ⟨fun _ => rfl, fun v h => by cases h⟩⟩
theorem MapI.ne_blk {w : World} {b n : Nat} {f : Int → Option Int} (h : MapI w b n f) {b' : Nat} {c : Array Value} {T : TypeId} (hb : Blk w b' c T) : b ≠ b' := by
  rintro rfl
  obtain ⟨D, ⟨es, clock, hm, r⟩, h2⟩ := h
  have : w.heap[b]? = some (.cells c T) := hb
  rw [this] at hm; cases hm
theorem MapI.ne_row {w : World} {b n : Nat} {f : Int → Option Int} (h : MapI w b n f) {B s k : Nat} {T : TypeId} {v : Value} {xs : List Value} (ho : w.ownsRow B T s v k xs) : ∀ y, v.ownBlock = some y → y ≠ b := by
  rintro y hy rfl
  obtain ⟨D, ⟨es, clock, hm, r⟩, h2⟩ := h
  rcases ho.2 with ⟨rfl, _⟩ | ⟨g, cap, cur, rfl, hB, hg, h4⟩
  · cases hy
  · simp only [Value.ownBlock, Option.map_some, Option.some.injEq] at hy
    subst hy
    rw [hg] at hm; cases hm
theorem MapI.look {w : World} {b n : Nat} {f : Int → Option Int} (h : MapI w b n f) {i : Int} (hi : I64 i) : (Instr.lookup 64 (.map (some b)) (.int .i64 i) false).run Tryd.prog w = .ok (.int .i64 ((f i).getD 0)) w := by
  obtain ⟨D, h1, h2⟩ := h
  obtain ⟨c, hrun, hat, -⟩ := h1.lookup_int keyI Tryd.underlying64 Tryd.underlying3 (zeroI w) (keyI_of hi)
  rw [hrun]
  cases hf : f i with
  | none =>
    rw [Maps.atKey_of_not_has ((h2 i hi).1 hf)] at hat
    cases hat; rfl
  | some v =>
    rw [(h2 i hi).2 v hf] at hat
    cases hat; rfl
theorem MapI.look_ok {w : World} {b n : Nat} {f : Int → Option Int} (h : MapI w b n f) {i : Int} (hi : I64 i) : (Instr.lookup 64 (.map (some b)) (.int .i64 i) true).run Tryd.prog w = .ok (.tuple #[.int .i64 ((f i).getD 0), .bool (f i).isSome]) w := by
  obtain ⟨D, h1, h2⟩ := h
  obtain ⟨v, ps, hrun, hv⟩ := h1.look_ok keyI Tryd.underlying64 (zeroI w) (plainElem_int Tryd.underlying3 (by decide)) (keyI_of hi)
  obtain ⟨c, rfl, hc, -⟩ := plainElem_int_inv Tryd.underlying3 hv
  rw [hrun]
  simp only [Prod.mk.injEq] at hc
  have hat := hc.1
  cases hf : f i with
  | none =>
    rw [Maps.atKey_of_not_has ((h2 i hi).1 hf)] at hat
    rw [(h2 i hi).1 hf]
    cases hat; rfl
  | some v =>
    rw [(h2 i hi).2 v hf] at hat
    rw [Maps.has_true_of_atKey ((h2 i hi).2 v hf)]
    cases hat; rfl
theorem isKeyI (i : Int) : WideAt.IsKeyLit (.int .i64 i) := by
  simp [WideAt.IsKeyLit]
theorem MapI.put {w : World} {b n : Nat} {f : Int → Option Int} (h : MapI w b n f) (hn : n < 100000) {i v : Int} (hi : I64 i) (hv : I64 v) :
    ∃ w', (Instr.mapUpdate 64 (.map (some b)) (.int .i64 i) (.int .i64 v)).run Tryd.prog w = .ok () w' ∧ MapI w' b (n + 1) (upd f i (some v)) ∧ Chg [b] w w' := by
  obtain ⟨D, h1, h2⟩ := h
  have hm := h1.isMap
  obtain ⟨w', hrun, h3, hg⟩ := h1.update keyI Tryd.underlying64 (Nat.lt_of_lt_of_le hn (by decide)) (keyI_of hi) (plainElem_int Tryd.underlying3 hv)
  refine ⟨w', hrun, ⟨_, h3, fun j hj => ?_⟩, (Chg.refl [b] w).grown hg (fun k hk => by cases hk; simp)⟩
  by_cases hji : j = i
  · subst hji
    refine ⟨fun h => by simp [upd] at h, fun v' hv' z => ?_⟩
    have : v = v' := by simpa [upd] using hv'
    subst this
    exact Maps.atKey_put_same hm (isKeyI _) _ z
  · have hne : (Lit.int .i64 j) ≠ .int .i64 i := fun h => hji (by cases h; rfl)
    refine ⟨fun h => ?_, fun v' hv' z => ?_⟩
    · rw [Maps.has_put_other hne]
      exact (h2 j hj).1 (by simpa [upd, hji] using h)
    · rw [Maps.atKey_put_other hne]
      exact (h2 j hj).2 v' (by simpa [upd, hji] using hv') z
theorem MapI.del {w : World} {b n : Nat} {f : Int → Option Int} (h : MapI w b n f) {i : Int} (hi : I64 i) (ty : TypeId) :
    ∃ w', (Builtin.delete_ #[64, 3] ty #[.map (some b), .int .i64 i]).run Tryd.prog w = .ok (.tuple #[]) w' ∧ MapI w' b n (upd f i none) ∧ Chg [b] w w' := by
  obtain ⟨D, h1, h2⟩ := h
  obtain ⟨w', hrun, h3, hg⟩ := h1.drop keyI Tryd.underlying64 (keyI_of hi) ty
  refine ⟨w', hrun, ⟨_, h3, fun j hj => ?_⟩, (Chg.refl [b] w).grown hg.grown (fun k hk => by cases hk; simp)⟩
  by_cases hji : j = i
  · subst hji
    exact ⟨fun _ => Maps.has_del_same, fun v' hv' z => by simp [upd] at hv'⟩
  · have hne : (Lit.int .i64 j) ≠ .int .i64 i := fun h => hji (by cases h; rfl)
    refine ⟨fun h => ?_, fun v' hv' z => ?_⟩
    · rw [Maps.has_del_other hne]
      exact (h2 j hj).1 (by simpa [upd, hji] using h)
    · rw [Maps.atKey_del_other hne]
      exact (h2 j hj).2 v' (by simpa [upd, hji] using hv') z
end Go.Proofs.YtfkokbeloenfdaaDoor.krn
