/- A row of values of one cell each that is appended to at its end and cut at its head (no project text). -/
import Derived.Test.YtjnmlfpljeddmaaKit
import Derived.Deep.Onto
namespace Go.Proofs.Ytjnmlfpljeddmaa.kit
open Go Go.RowKit
set_option linter.unusedVariables false
set_option linter.unusedSimpArgs false

/-- what such a slice reads as: cells from its place on, in a block of the call's own -/
def QRow (w : World) (B : Nat) (T : TypeId) (v : Value) (xs : List Value) : Prop :=
  ∃ ao cap, v = .slice ao xs.length cap ∧ xs.length ≤ cap ∧ cap ≤ maxLen ∧ (0 < cap → ∃ g off cur, ao = some ⟨g, off, none⟩ ∧ B ≤ g ∧ Blk w g cur T ∧ off + cap ≤ cur.size ∧ ∀ (i : Nat) u, xs[i]? = some u → cur[off + i]? = some u)
section
variable {w w' : World} {B : Nat} {T : TypeId} {v : Value} {xs : List Value} {L : List Nat}
theorem QRow.nil (w : World) (B : Nat) (T : TypeId) : QRow w B T (.slice none 0 0) [] := ⟨none, 0, rfl, Nat.le_refl _, Nat.zero_le _, fun h => by omega⟩
theorem QRow.of_own {n : Nat} (h : w.ownsRow B T 1 v n xs) : QRow w B T v xs := by
  have hl : xs.length = n := by have := h.1; omega
  subst hl
  rcases h.2 with ⟨hv, h0⟩ | ⟨g, cap, cur, hv, hb, hg, hn, hc, hz, ht⟩
  · exact ⟨none, 0, by rw [hv, h0], by omega, Nat.zero_le _, fun h => by omega⟩
  · refine ⟨_, cap, hv, hn, hc, fun _ => ⟨g, 0, cur, rfl, hb, hg, by omega, fun i u hu => ?_⟩⟩
    rw [Nat.mul_one] at ht
    have hi : i < xs.length := (List.getElem?_eq_some_iff.1 hu).1
    rw [← ht, List.getElem?_take_of_lt hi] at hu
    simpa using hu
theorem QRow.keep (h : QRow w B T v xs) (k : Chg L w w') (hn : ∀ b, v.ownBlock = some b → b ∉ L) : QRow w' B T v xs := by
  obtain ⟨ao, cap, rfl, h1, h2, h3⟩ := h
  refine ⟨ao, cap, rfl, h1, h2, fun hp => ?_⟩
  obtain ⟨g, off, cur, rfl, h4, h5, h6, h7⟩ := h3 hp
  exact ⟨g, off, cur, rfl, h4, h5.keep k (hn g rfl), h6, h7⟩
theorem QRow.fresh (h : QRow w B T v xs) (k : Chg [] w w') : QRow w' B T v xs := h.keep k (by simp)
theorem QRow.slice (h : QRow w B T v xs) : ∃ ao cap, v = .slice ao xs.length cap ∧ xs.length ≤ cap := by
  obtain ⟨ao, cap, h0, h1, _⟩ := h; exact ⟨ao, cap, h0, h1⟩
/-- the block that its cells lie in, if it has any room, is the call's own -/
theorem QRow.block (h : QRow w B T v xs) (hx : xs ≠ []) : ∀ b, v.ownBlock = some b → B ≤ b ∧ b < w.heap.size := by
  obtain ⟨ao, cap, rfl, h1, h2, h3⟩ := h
  intro b hb
  have hp : 0 < cap := by
    rcases Nat.eq_zero_or_pos cap with h0 | h0
    · exact absurd (List.eq_nil_of_length_eq_zero (by omega)) hx
    · exact h0
  obtain ⟨g, off, cur, rfl, h4, h5, _⟩ := h3 hp
  simp [Value.ownBlock] at hb
  subst hb
  exact ⟨h4, h5.lt⟩
theorem QRow.get (h : QRow w B T v xs) (i : Nat) (u : Value) (hu : xs[i]? = some u) : ∃ g off cap, v = .slice (some ⟨g, off, none⟩) xs.length cap ∧ w.cell? ⟨g, off + i, none⟩ = some u := by
  obtain ⟨ao, cap, rfl, h1, h2, h3⟩ := h
  have hi : i < xs.length := (List.getElem?_eq_some_iff.1 hu).1
  obtain ⟨g, off, cur, rfl, h4, h5, h6, h7⟩ := h3 (by omega)
  exact ⟨g, off, cap, rfl, h5.cell (h7 i u hu)⟩
end
section
variable {P : Program} {w : World} {B : Nat} {T : TypeId} {v : Value} {xs : List Value}
/-- q[1:] -/
theorem QRow.cut {t : TypeId} (ht : P.underlying t = some (.slice T)) (he : (P.info? T).map (·.size) = some 1) (h : QRow w B T v xs) (hx : xs ≠ []) :
    ∃ v', (∀ u, (Instr.slice t v (some (.int .i64 (1 : Int))) none none).run P u = .ok v' u) ∧ QRow w B T v' xs.tail ∧ v'.ownBlock = v.ownBlock := by
  obtain ⟨ao, cap, rfl, h1, h2, h3⟩ := h
  have hpos : 0 < xs.length := List.length_pos_iff.2 hx
  obtain ⟨g, off, cur, rfl, h4, h5, h6, h7⟩ := h3 (by omega)
  have hel : P.elem t = T := by simp [Program.elem, ht]
  have hrun : ∀ u, (Instr.slice t (.slice (some ⟨g, off, none⟩) xs.length cap) (some (.int .i64 (1 : Int))) none none).run P u = .ok (sliced (some ⟨g, off, none⟩) 1 xs.length cap 1) u := fun u => by
    have hr := run_slice_l (P := P) (w := u) t (some ⟨g, off, none⟩) xs.length cap (by rw [hel]; exact ht) .i64 1 (by omega) (by omega)
    rw [hr, hel, sizeOf_run he]
    simp [Result.andThen]
  have htl : xs.tail.length = xs.length - 1 := List.length_tail
  refine ⟨_, hrun, ?_, ?_⟩
  · by_cases hc : cap = 1
    · refine ⟨some ⟨g, off, none⟩, 0, ?_, by omega, Nat.zero_le _, fun h => by omega⟩
      simp [sliced, hc, htl]
    · refine ⟨some ⟨g, off + 1, none⟩, cap - 1, ?_, by omega, by omega, fun _ => ⟨g, off + 1, cur, rfl, h4, h5, by omega, fun i u hu => ?_⟩⟩
      · simp [sliced, hc, add_plain, htl]
      · rw [Nat.add_assoc, Nat.add_comm 1 i]
        refine h7 (i + 1) u ?_
        rw [← hu, List.getElem?_tail]
  · by_cases hc : cap = 1 <;> simp [sliced, hc, add_plain, Value.ownBlock]
/-- append of one that was just laid -/
theorem QRow.run_append (t ty : TypeId) (i : TypeInfo) (z : Value) (bytes : Nat) (ht : P.underlying t = some (.slice T)) (hi : P.info? T = some i) (hz : i.zero = some z) (hsize : i.size = 1) (hby : i.bytes = bytes) (hzs : z.cells.size = 1)
    (h : QRow w B T v xs) (b : Nat) (u : Value) (hb : w.cell? ⟨b, 0, none⟩ = some u) (h1 : u.oneCell' = true) (h63 : xs.length + 1 ≤ maxLen) (hbytes : (xs.length + 1) * bytes ≤ 140737488355328) (hbase : B ≤ w.heap.size) :
    ∃ v' w', (Builtin.append_ #[t, t] ty #[v, .slice (some ⟨b, 0, none⟩) 1 1]).run P w = .ok v' w' ∧ QRow w' B T v' (xs ++ [u]) ∧ Chg v.ownBlock.toList w w' ∧ ∀ y, v'.ownBlock = some y → v.ownBlock = some y ∨ w.heap.size ≤ y := by
  obtain ⟨ao, cap, rfl, hle, hcm, h3⟩ := h
  have hc : ∀ (j : Nat) y, [u][j]? = some y → w.cell? ((⟨b, 0, none⟩ : Addr).add j) = some y := by
    intro j y hy
    cases j with
    | zero => simp at hy; subst hy; simpa [add_plain] using hb
    | succ j => simp at hy
  have h11 : ∀ y ∈ [u], y.oneCell' = true := by intro y hy; simp at hy; subst hy; exact h1
  have grown : ∀ v' w', w'.ownsRow w.heap.size T 1 v' (xs.length + 1) (xs ++ [u]) → w.grownBy w' none → QRow w' B T v' (xs ++ [u]) ∧ Chg (Value.slice ao xs.length cap).ownBlock.toList w w' ∧ ∀ y, v'.ownBlock = some y → (Value.slice ao xs.length cap).ownBlock = some y ∨ w.heap.size ≤ y := by
    intro v' w' ho hg
    refine ⟨?_, ((Chg.refl [] w).grown hg (by simp)).mono (by simp), fun y hy => ?_⟩
    · obtain ⟨ao', cap', h0, h2, h4, h5⟩ := QRow.of_own ho
      exact ⟨ao', cap', h0, h2, h4, fun hp => by obtain ⟨g, off, cur, e1, e2, e3⟩ := h5 hp; exact ⟨g, off, cur, e1, Nat.le_trans hbase e2, e3⟩⟩
    · right
      rcases ho.2 with ⟨h0, _⟩ | ⟨g, _, _, h0, hgb, _⟩
      · rw [h0] at hy; cases hy
      · rw [h0] at hy; simp [Value.ownBlock] at hy; omega
  by_cases hroom : xs.length + 1 ≤ cap
  · obtain ⟨g, off, cur, rfl, h4, h5, h6, h7⟩ := h3 (by omega)
    have hsz : off + xs.length < cur.size := by omega
    have hcell : w.cell? ⟨g, off + xs.length, none⟩ = some cur[off + xs.length] := h5.cell (by simp [hsz])
    have hrun := run_append_room_cells (P := P) w t ty T i ht hi g off xs.length cap ⟨b, 0, none⟩ 1 1 [u] (by simp [hsize]) hc h11 hroom
      (fun j hj => by have : j = 0 := by simpa using hj
                      subst this; rw [hsize]; simp [hcell])
      (fun j hj => h5.free _)
    rw [hsize, Nat.mul_one] at hrun
    refine ⟨_, _, hrun, ⟨_, cap, by simp, by simpa using hroom, hcm, fun _ => ⟨g, off, _, rfl, h4, h5.set (off + xs.length) u, by simpa using h6, fun k y hk => ?_⟩⟩, (Chg.refl _ w).setCell (.inl (by simp [Value.ownBlock])) u, fun y hy => .inl hy⟩
    by_cases hkl : k < xs.length
    · rw [List.getElem?_append_left hkl] at hk
      rw [Array.getElem?_setIfInBounds_ne (by omega)]
      exact h7 k y hk
    · have hk2 : k = xs.length := by
        have := (List.getElem?_eq_some_iff.1 hk).1
        simp at this; omega
      subst hk2
      rw [List.getElem?_append_right (Nat.le_refl _)] at hk
      simp at hk
      subst hk
      rw [Array.getElem?_setIfInBounds_self]
      simp [hsz]
  · cases ao with
    | none =>
      have h0 : cap = 0 := by
        rcases Nat.eq_zero_or_pos cap with h0 | h0
        · exact h0
        · obtain ⟨g, off, cur, e, _⟩ := h3 h0; cases e
      have hx : xs = [] := List.eq_nil_of_length_eq_zero (by omega)
      subst hx h0
      obtain ⟨v', w', hrun, r1, r2, _⟩ := run_append_own (P := P) w w.heap.size t ty T i z 1 bytes ht hi hz hsize hby hzs (by decide) (.slice none 0 0) 0 [] (World.ownsRow_nil w _ T 1) ⟨b, 0, none⟩ 1 1 [u] rfl hc h11 (by simpa using h63) (by simpa using hbytes) (Nat.le_refl _)
      obtain ⟨q1, q2, q3⟩ := grown v' w' (by simpa using r1) (by simpa [Value.ownBlock] using r2)
      exact ⟨v', w', hrun, q1, q2, q3⟩
    | some a' =>
      have holds : ∀ (j : Nat) y, xs[j]? = some y → w.cell? (a'.add j) = some y := by
        intro j y hy
        have hj : j < xs.length := (List.getElem?_eq_some_iff.1 hy).1
        obtain ⟨g, off, cur, e, h4, h5, h6, h7⟩ := h3 (by omega)
        cases e
        rw [add_plain]
        exact h5.cell (h7 j y hy)
      obtain ⟨v', w', hrun, r1, r2⟩ := run_append_arg_grows (P := P) w t ty T i z 1 bytes ht hi hz hsize hby hzs (by decide) a' xs.length cap xs (by simp) holds ⟨b, 0, none⟩ 1 1 [u] rfl hc (by omega) h63 hbytes
      obtain ⟨q1, q2, q3⟩ := grown v' w' r1 r2
      exact ⟨v', w', hrun, q1, q2, q3⟩
theorem wpList_append_q {ops : Array Oper} {rest : List Oper} {o : Oper} {a : Act} {Q : Exit → Act → World → Prop} (hgd : o.guard = none) (s x : Operand) (t : TypeId)
    (ho : o.op = .call { callee := .builtin .append, args := #[s, x], argTypes := #[t, t] })
    (i : TypeInfo) (z : Value) (bytes : Nat) (ht : P.underlying t = some (.slice T)) (hi : P.info? T = some i) (hz : i.zero = some z) (hsize : i.size = 1) (hby : i.bytes = bytes) (hzs : z.cells.size = 1)
    (hs : a.eval s = v) (h : QRow w B T v xs) (b : Nat) (u : Value) (hx : a.eval x = .slice (some ⟨b, 0, none⟩) 1 1) (hb : w.cell? ⟨b, 0, none⟩ = some u) (h1 : u.oneCell' = true) (h63 : xs.length + 1 ≤ maxLen) (hbytes : (xs.length + 1) * bytes ≤ 140737488355328) (hbase : B ≤ w.heap.size)
    (hK : ∀ v' w', QRow w' B T v' (xs ++ [u]) → Chg v.ownBlock.toList w w' → (∀ y, v'.ownBlock = some y → v.ownBlock = some y ∨ w.heap.size ≤ y) → wpList P ops Q rest (a.put o.dst v') w') : wpList P ops Q (o :: rest) a w := by
  refine wpList_plain hgd fun K hK' => ?_
  obtain ⟨v', w', hrun, r1, r2, r3⟩ := QRow.run_append (P := P) t o.type i z bytes ht hi hz hsize hby hzs h b u hb h1 h63 hbytes hbase
  unfold Oper.wp
  simp [execOp, ho, resolve, invoke, builtin, hs, hx, hrun, Result.andThen]
  exact hK' _ _ (hK v' w' r1 r2 r3)
end
end Go.Proofs.Ytjnmlfpljeddmaa.kit
