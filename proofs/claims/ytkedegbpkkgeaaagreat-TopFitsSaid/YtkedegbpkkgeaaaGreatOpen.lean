/- What an argument of whatever type reads as, cell by cell (no project text): 'Opens', out of the form's own reading. -/
import Derived.Test.YtkedegbpkkgeaaaGreatTop1
import Derived.Deep.Slices
import Derived.WideShapes
import Derived.ChangeArms
namespace Go.Proofs.YtkedegbpkkgeaaaGreat.kit
open Go Go.RowKit Go.ChangeShapes Go.WideShapes
set_option linter.unusedVariables false
set_option linter.unusedSimpArgs false

/-- The cells cs read as a value of type t, so and so deep: integers that fit, slices whose cells are there, structs field by field. -/
def Opens (P : Program) (w : World) : Nat → TypeId → List Value → Prop
  | 0, _, _ => True
  | n + 1, t, cs =>
    match P.underlying t with
    | some .bool => ∃ b, cs = [.bool b]
    | some (.int k) => ∃ x, cs = [.int k x] ∧ (Lit.int k x).wf = true
    | some .string => ∃ s, cs = [.string s] ∧ s.size ≤ maxLen
    | some (.slice e) => 0 < P.cellsOf e → ∃ a len cap xs, cs = [.slice a len cap] ∧ Reads w (P.cellsOf e) (.slice a len cap) len xs ∧
        ∀ i, i < len → Opens P w n e ((xs.drop (i * P.cellsOf e)).take (P.cellsOf e))
    | some (.struct fs) => cs.length = P.cellsOf t ∧ ∀ (i : Nat) (f : Field), fs[i]? = some f → Opens P w n f.type ((cs.drop f.offset).take (P.cellsOf f.type))
    | _ => True

theorem trod_opens {H : Type} {enc : TypeId × Value → H} {P : Program} {w : World} {base : Nat} {spare : Nat → Bool} {held : Bool} (n : Nat) :
    ∀ (fuel : Nat) (t : TypeId) (cs : List Value) (x : DataW H × List MemPlace), DataW.trod enc P w base spare held fuel t cs = some x → Opens P w n t cs := by
  induction n with
  | zero => intro fuel t cs x h; exact True.intro
  | succ n ih =>
    intro fuel t cs x h
    unfold Opens
    split
    · rename_i ht
      obtain ⟨b, rfl, _⟩ := DataW.trod_bool ht h
      exact ⟨b, rfl⟩
    · rename_i k ht
      obtain ⟨m, rfl, _, hw⟩ := DataW.trod_int ht h
      exact ⟨m, rfl, hw⟩
    · rename_i ht
      obtain ⟨s, rfl, _, hs⟩ := DataW.trod_string ht h
      exact ⟨s, rfl, hs⟩
    · rename_i e ht
      intro hpos
      rcases Deep.open_slice ht h with ⟨rfl, _⟩ | ⟨a, len, cap, m, fl, D, Pl, rfl, _, hl, hm, hmm, _, hx⟩
      · exact ⟨none, 0, 0, [], rfl, Reads.nil w _, fun i hi => by omega⟩
      · have hlm : len ≤ m := by rw [hmm]; split <;> omega
        generalize hsz : P.cellsOf e = size at *
        have hcell : ∀ j, j < len * size → ∃ u, w.cell? (a.add j) = some u := by
          intro j hj
          have hq : j / size < len := (Nat.div_lt_iff_lt_mul hpos).2 hj
          obtain ⟨cs', h1, _⟩ := hx (j / size) (by omega)
          obtain ⟨_, hlen, hc⟩ := World.cells?_some h1
          have h2 := hc (j % size) (Nat.mod_lt _ hpos)
          rw [Deep.add_add, Nat.mul_comm, Nat.div_add_mod] at h2
          rw [h2, List.getElem?_eq_getElem (by rw [hlen]; exact Nat.mod_lt _ hpos)]
          exact ⟨_, rfl⟩
        obtain ⟨V, hV⟩ := Deep.choose_lt hcell
        have hxs : ∀ (i : Nat) u, ((List.range (len * size)).map V)[i]? = some u → w.cell? (a.add i) = some u := by
          intro i u hu
          have hi : i < len * size := by
            rcases Nat.lt_or_ge i (len * size) with h | h
            · exact h
            · rw [List.getElem?_eq_none (by simpa using h)] at hu; cases hu
          rw [hV i hi]
          simpa [hi] using hu
        refine ⟨some a, len, cap, (List.range (len * size)).map V, rfl, ⟨by simp, by omega, ?_⟩, ?_⟩
        · rcases Nat.eq_zero_or_pos len with h0 | h0
          · exact .inl ⟨h0, _, _, by rw [h0], (fun hh => by cases hh), hm⟩
          · have hp : 0 < len * size := Nat.mul_pos h0 hpos
            obtain ⟨b, off, sp⟩ := a
            have h00 := hV 0 hp
            have hsp : sp = none := by
              simp only [Addr.add, if_true, World.cell?] at h00
              split at h00
              · cases sp with
                | none => rfl
                | some s => simp at h00
              · cases h00
            subst hsp
            exact .inr ⟨h0, b, off, cap, rfl, hl, hm, fun i u hu => by rw [← add_plain]; exact hxs i u hu⟩
        · intro i hi
          obtain ⟨cs', h1, h2⟩ := hx i (by omega)
          obtain ⟨_, hlen, hc⟩ := World.cells?_some h1
          have hin : (i + 1) * size ≤ len * size := Nat.mul_le_mul_right _ (by omega)
          rw [Nat.add_mul, Nat.one_mul] at hin
          have he : (((List.range (len * size)).map V).drop (i * size)).take size = cs' := by
            apply List.ext_getElem?
            intro j
            rcases Nat.lt_or_ge j size with hj | hj
            · have h3 := hc j hj
              rw [Deep.add_add] at h3
              rw [List.getElem?_take_of_lt hj, List.getElem?_drop, ← h3, hV _ (by omega)]
              simp [show i * size + j < len * size by omega]
            · rw [List.getElem?_eq_none (by simp; omega), List.getElem?_eq_none (by omega)]
          rw [he]
          exact ih _ _ _ _ h2
    · rename_i fs ht
      obtain ⟨xs, m, rfl, _, hlen, hxl, hf⟩ := DataW.trod_struct ht h
      refine ⟨hlen, fun i f hfi => ?_⟩
      have hi : i < xs.length := by
        rw [hxl]
        exact (Array.getElem?_eq_some_iff.1 hfi).1
      exact ih _ _ _ xs[i] (by rw [hf i f hfi, List.getElem?_eq_getElem hi])
    · trivial

theorem Trod_opens {H : Type} {enc : TypeId × Value → H} {P : Program} {w : World} {base : Nat} {spare : Nat → Bool} {held : Bool} (n : Nat) {t : TypeId} {v : Value} {d : DataW H} {ps : List MemPlace}
    (h : DataW.Trod enc P w base spare held t v d ps) : Opens P w n t v.cells.toList := by
  obtain ⟨fuel, hf⟩ := h
  exact trod_opens n fuel t _ _ hf

section
variable {P : Program} {w : World} {n : Nat} {t e : TypeId} {cs : List Value}
theorem Opens.int {k : IntKind} (h : Opens P w (n + 1) t cs) (ht : P.underlying t = some (.int k)) : ∃ x, cs = [.int k x] ∧ (Lit.int k x).wf = true := by
  unfold Opens at h; rw [ht] at h; exact h
theorem Opens.bool (h : Opens P w (n + 1) t cs) (ht : P.underlying t = some .bool) : ∃ b, cs = [.bool b] := by
  unfold Opens at h; rw [ht] at h; exact h
theorem Opens.slice {a : Option Addr} {len cap size : Nat} (h : Opens P w (n + 1) t [.slice a len cap]) (ht : P.underlying t = some (.slice e)) (hs : P.cellsOf e = size) (hpos : 0 < size) :
    ∃ xs, Reads w size (.slice a len cap) len xs ∧ ∀ i, i < len → Opens P w n e ((xs.drop (i * size)).take size) := by
  unfold Opens at h; rw [ht] at h
  subst hs
  obtain ⟨a', len', cap', xs, he, hr, hx⟩ := h hpos
  simp only [List.cons.injEq, Value.slice.injEq, and_true] at he
  obtain ⟨rfl, rfl, rfl⟩ := he
  exact ⟨xs, hr, hx⟩
theorem Opens.isSlice (h : Opens P w (n + 1) t cs) (ht : P.underlying t = some (.slice e)) (hpos : 0 < P.cellsOf e) : ∃ a len cap, cs = [.slice a len cap] := by
  unfold Opens at h; rw [ht] at h
  obtain ⟨a', len', cap', xs, he, _⟩ := h hpos
  exact ⟨_, _, _, he⟩
theorem Opens.struct {fs : Array Field} (h : Opens P w (n + 1) t cs) (ht : P.underlying t = some (.struct fs)) :
    cs.length = P.cellsOf t ∧ ∀ (i : Nat) (f : Field), fs[i]? = some f → Opens P w n f.type ((cs.drop f.offset).take (P.cellsOf f.type)) := by
  unfold Opens at h; rw [ht] at h; exact h
theorem Opens.field {fs : Array Field} (h : Opens P w (n + 1) t cs) (ht : P.underlying t = some (.struct fs)) (i : Nat) (f : Field) (hf : fs[i]? = some f) (o s : Nat) (ho : f.offset = o) (hs : P.cellsOf f.type = s) :
    Opens P w n f.type ((cs.drop o).take s) := by
  have := (h.struct ht).2 i f hf
  rwa [ho, hs] at this

theorem wf_i64 {x : Int} (h : (Lit.int .i64 x).wf = true) : -9223372036854775808 ≤ x ∧ x ≤ 9223372036854775807 := by
  simpa [Lit.wf, IntKind.min, IntKind.max, IntKind.signed, IntKind.bits] using h
theorem wf_u32 {x : Int} (h : (Lit.int .u32 x).wf = true) : 0 ≤ x ∧ x ≤ 4294967295 := by
  simpa [Lit.wf, IntKind.min, IntKind.max, IntKind.signed, IntKind.bits] using h
end

/-- Rows of so many cells each, read as a list of records. -/
theorem rows_of {R : Type} (f : R → List Value) (Q : R → Prop) (size : Nat) (hf : ∀ r, (f r).length = size) : ∀ (len : Nat) (xs : List Value), xs.length = len * size →
    (∀ i, i < len → ∃ r, (xs.drop (i * size)).take size = f r ∧ Q r) → ∃ rs : List R, rs.length = len ∧ xs = rs.flatMap f ∧ ∀ r ∈ rs, Q r
  | 0, xs, hl, _ => ⟨[], rfl, by simpa using List.eq_nil_of_length_eq_zero (by simpa using hl), by simp⟩
  | len + 1, xs, hl, h => by
    obtain ⟨r, h0, hq⟩ := h 0 (Nat.succ_pos _)
    rw [Nat.zero_mul, List.drop_zero] at h0
    obtain ⟨rs, h1, h2, h3⟩ := rows_of f Q size hf len (xs.drop size) (by rw [List.length_drop, hl, Nat.add_mul]; omega) fun i hi => by
      obtain ⟨r, hr, hq⟩ := h (i + 1) (by omega)
      exact ⟨r, by rw [List.drop_drop, ← hr, Nat.add_mul, Nat.one_mul, Nat.add_comm], hq⟩
    refine ⟨r :: rs, by rw [List.length_cons, h1], ?_, ?_⟩
    · rw [List.flatMap_cons, ← h2, ← h0, List.take_append_drop]
    · intro x hx
      rcases List.mem_cons.1 hx with rfl | hx
      · exact hq
      · exact h3 x hx

theorem flatMap_get {R : Type} (f : R → List Value) (size : Nat) (hf : ∀ r, (f r).length = size) (rs : List R) (i j : Nat) (hj : j < size) (r : R) (hr : rs[i]? = some r) : (rs.flatMap f)[i * size + j]? = (f r)[j]? := by
  induction rs generalizing i with
  | nil => simp at hr
  | cons x rs ih =>
    rw [List.flatMap_cons]
    cases i with
    | zero =>
      simp only [List.getElem?_cons_zero, Option.some.injEq] at hr
      subst hr
      rw [Nat.zero_mul, Nat.zero_add, List.getElem?_append_left (by rw [hf]; exact hj)]
    | succ i =>
      rw [List.getElem?_cons_succ] at hr
      rw [List.getElem?_append_right (by rw [hf, Nat.add_mul]; omega), hf, Nat.add_mul, Nat.one_mul, show i * size + size + j - size = i * size + j by omega]
      exact ih i hr

theorem flatMap_one {α β : Type} (g : α → β) (l : List α) : l.flatMap (fun z => [g z]) = l.map g := by
  induction l with
  | nil => rfl
  | cons x r ih => rw [List.flatMap_cons, ih]; rfl

/-- A slice of integers. -/
theorem Opens.ints {P : Program} {w : World} {n : Nat} {t e : TypeId} {k : IntKind} {a : Option Addr} {len cap : Nat} (h : Opens P w (n + 2) t [.slice a len cap]) (ht : P.underlying t = some (.slice e))
    (he : P.underlying e = some (.int k)) (hs : P.cellsOf e = 1) : ∃ zs : List Int, zs.length = len ∧ Reads w 1 (.slice a len cap) zs.length (zs.map (Value.int k)) ∧ ∀ z ∈ zs, (Lit.int k z).wf = true := by
  obtain ⟨xs, hr, hx⟩ := h.slice ht hs (by decide)
  obtain ⟨zs, h1, h2, h3⟩ := rows_of (R := Int) (fun z => [.int k z]) (fun z => (Lit.int k z).wf = true) 1 (fun _ => rfl) len xs hr.1 fun i hi => (hx i hi).int he
  refine ⟨zs, h1, ?_, h3⟩
  rw [h1]
  have e : zs.flatMap (fun z => [Value.int k z]) = zs.map (Value.int k) := flatMap_one _ _
  rw [← e, ← h2]
  exact hr
end Go.Proofs.YtkedegbpkkgeaaaGreat.kit
