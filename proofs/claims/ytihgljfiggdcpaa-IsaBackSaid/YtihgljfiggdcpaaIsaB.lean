/- Package isa: the plain law: right instructions come back from their bytes, and bytes from their instructions. -/
import Derived.Test.YtihgljfiggdcpaaIsaA
namespace Go.Proofs.Ytihgljfiggdcpaa.isa
open Go Go.RowKit Go.Proofs.Ytihgljfiggdcpaa.kit Go.Proofs.Ytihgljfiggdcpaa.codec
set_option linter.unusedVariables false
set_option maxRecDepth 20000

theorem kinds_ok : (List.range 22).all (fun k => decide ((0 ≤ (shapeAt k).a ∧ (shapeAt k).a < 4) ∧ (0 ≤ (shapeAt k).b ∧ (shapeAt k).b < 4) ∧ (0 ≤ (shapeAt k).c ∧ (shapeAt k).c < 4))) = true := by kernel_rfl
theorem fits_byte {k x : Int} (hk : 0 ≤ k ∧ k < 4) (h : fitsI k x = true) : 0 ≤ x ∧ x ≤ 255 := by
  have : k = 0 ∨ k = 1 ∨ k = 2 ∨ k = 3 := by omega
  rcases this with rfl | rfl | rfl | rfl <;> simp [fitsI] at h <;> omega
theorem right_ranges {i : Ins} (h : rightI i = true) : (0 ≤ i.op ∧ i.op ≤ 255) ∧ (0 ≤ i.a ∧ i.a ≤ 255) ∧ (0 ≤ i.b ∧ i.b ≤ 255) ∧ (0 ≤ i.c ∧ i.c ≤ 255) := by
  unfold rightI at h
  split at h
  · rename_i hk
    have h2 := of_decide_eq_true (List.all_eq_true.1 kinds_ok i.op.toNat (List.mem_range.2 (by omega)))
    simp only [Bool.and_eq_true] at h
    exact ⟨by omega, fits_byte h2.1 h.1, fits_byte h2.2.1 h.2.1, fits_byte h2.2.2 h.2.2.1⟩
  · cases h
theorem drop_flat (p : List Ins) (k : Nat) : (p.flatMap insB).drop (8 * k) = (p.drop k).flatMap insB := by
  induction k generalizing p with
  | zero => simp
  | succ k ih =>
    cases p with
    | nil => simp
    | cons x r =>
      rw [List.drop_succ_cons, ← ih r, List.flatMap_cons, show 8 * (k + 1) = 8 + 8 * k by omega, ← List.drop_drop]
      congr 1
theorem insAt_back (p : List Ins) (hw : insW p) (hr : p.all rightI = true) (k : Nat) (i : Ins) (hi : p[k]? = some i) : insAt (p.flatMap insB) k = i := by
  rw [← insAt_drop, drop_flat]
  have hd : p.drop k = i :: p.drop (k + 1) := by
    have hk : k < p.length := by
      rcases Nat.lt_or_ge k p.length with h | h
      · exact h
      · rw [List.getElem?_eq_none h] at hi; cases hi
    rw [List.drop_eq_getElem_cons hk]
    rw [List.getElem?_eq_getElem hk] at hi
    simp only [Option.some.injEq] at hi
    rw [hi]
  rw [hd, List.flatMap_cons]
  have hm := List.mem_of_getElem? hi
  have hn := wf_u32 (hw i hm)
  have hb := right_ranges (List.all_eq_true.1 hr i hm)
  obtain ⟨op, a, b, c, n⟩ := i
  simp only at hn hb
  rw [insB_eq op a b c n hn.1 hn.2]
  simp only [List.cons_append, List.nil_append]
  rw [insAt_eight]
  congr 1 <;> omega
theorem back_ins (p : List Ins) (hw : insW p) (hr : p.all rightI = true) (out : List Ins) (at_ er : Int) (h : DecR (p.flatMap insB) out at_ er) : out = p ∧ er = 0 := by
  have h2 : DecR (p.flatMap insB) p 0 0 := by
    refine ⟨p.length, by rw [insB_le]; exact Nat.le_refl _, fun j hj => ?_, .inr (.inr ⟨insB_le p, ?_, rfl, rfl⟩)⟩
    · obtain ⟨i, hi⟩ : ∃ i, p[j]? = some i := ⟨_, List.getElem?_eq_getElem hj⟩
      rw [insAt_back p hw hr j i hi]
      exact List.all_eq_true.1 hr i (List.mem_of_getElem? hi)
    · apply List.ext_getElem?
      intro j
      rcases Nat.lt_or_ge j p.length with hj | hj
      · obtain ⟨i, hi⟩ : ∃ i, p[j]? = some i := ⟨_, List.getElem?_eq_getElem hj⟩
        rw [hi]
        simp [insN, hj]
        exact (insAt_back p hw hr j i hi).symm
      · rw [List.getElem?_eq_none hj, List.getElem?_eq_none (by rw [insN_length]; exact hj)]
  obtain ⟨e1, e2, e3⟩ := h.same h2
  exact ⟨e1, e3⟩
theorem insB_at (zs : List Int) (hw : ∀ x ∈ zs, (Lit.int .u8 x).wf = true) (k : Nat) (hk : 8 * k + 8 ≤ zs.length) : insB (insAt zs k) = (zs.drop (8 * k)).take 8 := by
  rw [← insAt_drop]
  have hw2 : ∀ x ∈ zs.drop (8 * k), (Lit.int .u8 x).wf = true := fun x hx => hw x (List.mem_of_mem_drop hx)
  obtain ⟨z0, z1, z2, z3, z4, z5, z6, z7, r, he⟩ := eight (zs := zs.drop (8 * k)) (by rw [List.length_drop]; omega)
  rw [he] at hw2 ⊢
  have b0 := wf_u8 (hw2 z0 (by simp)); have b1 := wf_u8 (hw2 z1 (by simp)); have b2 := wf_u8 (hw2 z2 (by simp)); have b3 := wf_u8 (hw2 z3 (by simp))
  have b4 := wf_u8 (hw2 z4 (by simp)); have b5 := wf_u8 (hw2 z5 (by simp)); have b6 := wf_u8 (hw2 z6 (by simp)); have b7 := wf_u8 (hw2 z7 (by simp))
  rw [insAt_eight, insB_eq _ _ _ _ _ (by omega) (by omega)]
  simp only [List.take_succ_cons, List.take_zero]
  congr 1
  · omega
  congr 1
  · omega
  congr 1
  · omega
  congr 1
  · omega
  congr 1
  · omega
  congr 1
  · omega
  congr 1
  · omega
  congr 1
  omega
theorem bytes_back (zs : List Int) (hw : ∀ x ∈ zs, (Lit.int .u8 x).wf = true) (k : Nat) (hk : 8 * k ≤ zs.length) : (insN zs k).flatMap insB = zs.take (8 * k) := by
  induction k with
  | zero => simp [insN]
  | succ k ih =>
    rw [insN_succ, List.flatMap_append, ih (by omega), show 8 * (k + 1) = 8 * k + 8 by omega, List.take_add]
    simp only [List.flatMap_cons, List.flatMap_nil, List.append_nil]
    rw [insB_at zs hw k (by omega)]
theorem insN_right (zs : List Int) (k : Nat) (h : ∀ j, j < k → rightI (insAt zs j) = true) : (insN zs k).all rightI = true := by
  rw [List.all_eq_true]
  intro i hi
  obtain ⟨j, hj, rfl⟩ := List.mem_map.1 hi
  exact h j (List.mem_range.1 hj)
/-- decoded bytes are encoded so -/
theorem back_bytes (zs : List Int) (hw : ∀ x ∈ zs, (Lit.int .u8 x).wf = true) (out : List Ins) (at_ er : Int) (h : DecR zs out at_ er) : ((er = 4 ∨ er = 2) ∧ out = []) ∨ (er = 0 ∧ out.all rightI = true ∧ out.flatMap insB = zs) := by
  obtain ⟨k, hk, hr, ⟨_, _, rfl, _, rfl⟩ | ⟨_, _, rfl, _, rfl⟩ | ⟨hl, rfl, _, rfl⟩⟩ := h
  · exact .inl ⟨.inl rfl, rfl⟩
  · exact .inl ⟨.inr rfl, rfl⟩
  · refine .inr ⟨rfl, insN_right zs k hr, ?_⟩
    rw [bytes_back zs hw k hk, ← hl, List.take_length]
theorem DecR.le {zs : List Int} {out : List Ins} {at_ er : Int} (h : DecR zs out at_ er) : 8 * out.length ≤ zs.length := by
  obtain ⟨k, hk, hr, ⟨_, _, rfl, _, rfl⟩ | ⟨_, _, rfl, _, rfl⟩ | ⟨hl, rfl, _, rfl⟩⟩ := h
  · simp
  · simp
  · rw [insN_length]; exact hk
end Go.Proofs.Ytihgljfiggdcpaa.isa
