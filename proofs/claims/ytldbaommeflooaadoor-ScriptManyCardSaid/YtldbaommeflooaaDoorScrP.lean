/- Scripts: plain laws: what Parse reads is what the reference reads; texts come back. -/
import Derived.Test.YtldbaommeflooaaDoorScrF
namespace Go.Proofs.YtldbaommeflooaaDoor.scr
open Go Go.RowKit Go.Proofs.YtldbaommeflooaaDoor.kit Go.Proofs.YtldbaommeflooaaDoor.word Go.Shelf
set_option linter.unusedVariables false
set_option linter.unusedSimpArgs false
set_option maxRecDepth 20000
/-- a text by a sign -/
def splitL (c : UInt8) : List UInt8 → List (List UInt8)
  | [] => [[]]
  | b :: s => if b = c then [] :: splitL c s else match splitL c s with
    | [] => [[b]]
    | p :: ps => (b :: p) :: ps
theorem splitL_ne (c : UInt8) (s : List UInt8) : splitL c s ≠ [] := by
  cases s with
  | nil => simp [splitL]
  | cons b s =>
    unfold splitL
    split
    · simp
    · split <;> simp
theorem splitL_no {c : UInt8} : ∀ {s : List UInt8}, (∀ b ∈ s, b ≠ c) → splitL c s = [s]
  | [], _ => rfl
  | b :: s, h => by
    unfold splitL
    rw [if_neg (h b (by simp)), splitL_no (s := s) fun x hx => h x (by simp [hx])]
theorem splitL_at {c : UInt8} (r : List UInt8) : ∀ {p : List UInt8}, (∀ b ∈ p, b ≠ c) → splitL c (p ++ c :: r) = p :: splitL c r
  | [], _ => by rw [List.nil_append, splitL, if_pos rfl]
  | b :: p, h => by
    rw [List.cons_append]
    conv => lhs; unfold splitL
    rw [if_neg (h b (by simp)), splitL_at r (p := p) fun x hx => h x (by simp [hx])]
/-- the number of digits -/
def digF : List UInt8 → Nat → Int → Int
  | [], _, n => n
  | c :: s, i, n => if c.toNat < 48 ∨ 57 < c.toNat ∨ 13 < i then -9 else digF s (i + 1) (10 * n + ((c.toNat : Int) - 48))
def findR (s : List UInt8) : Option Ac :=
  let n := digF ((splitL 32 s).getLast?.getD []) 0 0
  if oneB ⟨1, n⟩ && decide (lineL ⟨1, n⟩ = s) then some ⟨1, n⟩ else if oneB ⟨2, n⟩ && decide (lineL ⟨2, n⟩ = s) then some ⟨2, n⟩ else none
def rstep (acc : List Ac) (l : List UInt8) : Except Int (List Ac) := match findR l with
  | some a => .ok (acc ++ [a])
  | none => .error ((acc.length : Int) + 1)
def rparse (s : List UInt8) : List Ac × Int × Int :=
  match (splitL 10 s).dropLast.foldlM rstep [] with
  | .error k => ([], k, 4)
  | .ok out => if (splitL 10 s).getLast?.getD [] ≠ [] then ([], ((splitL 10 s).length : Int), 2) else if rightA out then (out, 0, 0) else ([], 0, 5)
theorem dgt {k : Nat} (h : k < 10) : (UInt8.ofNat (48 + k)).toNat = 48 + k := by rw [UInt8.toNat_ofNat']; omega
theorem decDigits_dig : ∀ (m : Nat) (c : UInt8), c ∈ Lib.decDigits m → 48 ≤ c.toNat ∧ c.toNat ≤ 57 := by
  intro m
  induction m using Nat.strongRecOn with
  | ind m ih =>
    intro c hc
    rw [Lib.decDigits] at hc
    split at hc
    · rename_i h
      rw [List.mem_singleton.1 hc, dgt h]; omega
    · rename_i h
      rcases List.mem_append.1 hc with hc | hc
      · exact ih (m / 10) (by omega) c hc
      · rw [List.mem_singleton.1 hc, dgt (by omega)]; omega
theorem digF_dig : ∀ (l : List UInt8) (i : Nat) (n : Int), (∀ c ∈ l, 48 ≤ c.toNat ∧ c.toNat ≤ 57) → i + l.length ≤ 14 → digF l i n = l.foldl (fun n c => 10 * n + ((c.toNat : Int) - 48)) n
  | [], _, _, _, _ => rfl
  | c :: l, i, n, h, hl => by
    have h1 := h c (by simp)
    simp only [List.length_cons] at hl
    rw [digF, if_neg (by omega), digF_dig l (i + 1) _ (fun x hx => h x (by simp [hx])) (by omega)]
    rfl
theorem fold_dec (m : Nat) : (Lib.decDigits m).foldl (fun (n : Int) c => 10 * n + ((c.toNat : Int) - 48)) 0 = m := by
  induction m using Nat.strongRecOn with
  | ind m ih =>
    rw [Lib.decDigits]
    split
    · rename_i h
      simp only [List.foldl_cons, List.foldl_nil, UInt8.toNat_ofNat']; omega
    · rename_i h
      rw [List.foldl_append, ih (m / 10) (by omega)]
      simp only [List.foldl_cons, List.foldl_nil, UInt8.toNat_ofNat']; omega
theorem readN_dec (m : Nat) (hm : m ≤ 65536) : readN (Lib.decDigits m) = some (m : Int) := by
  unfold readN
  induction m using Nat.strongRecOn with
  | ind m ih =>
    rw [Lib.decDigits]
    split
    · rename_i h
      have : (UInt8.ofNat (48 + m)).toNat = 48 + m := by rw [UInt8.toNat_ofNat']; omega
      simp only [List.foldl_cons, List.foldl_nil, readS, Option.bind_some, this]
      rw [if_neg (by omega)]
      congr 1; omega
    · rename_i h
      rw [List.foldl_append, ih (m / 10) (by omega) (by omega)]
      have : (UInt8.ofNat (48 + m % 10)).toNat = 48 + m % 10 := by rw [UInt8.toNat_ofNat']; omega
      simp only [List.foldl_cons, List.foldl_nil, readS, Option.bind_some, this]
      rw [if_neg (by omega)]
      congr 1; omega
theorem itoa_dec {n : Int} (h : 0 ≤ n) : Lib.itoa n = Lib.decDigits n.toNat := by unfold Lib.itoa; rw [if_neg (by omega)]
theorem oneB_kind {a : Ac} (h : oneB a = true) : a.k = 1 ∨ a.k = 2 := by simp [oneB] at h; omega
theorem readL_iff (s : List UInt8) (a : Ac) : readL s = some a ↔ oneB a = true ∧ lineL a = s := by
  constructor
  · intro h
    unfold readL at h
    split at h
    · cases h
    · split at h
      · rename_i hc
        cases h
        simp only [Bool.and_eq_true, decide_eq_true_eq] at hc
        exact ⟨hc.1.2, hc.2⟩
      · cases h
  · rintro ⟨h1, rfl⟩
    obtain ⟨h3, h4⟩ := oneB_bd h1
    have hn : readN (Lib.itoa a.n) = some a.n := by
      rw [itoa_dec h3, readN_dec _ (by omega)]
      congr 1; omega
    obtain ⟨k, n⟩ := a
    simp only at h3 h4 hn
    rcases oneB_kind h1 with rfl | rfl
    · have hh : headL (lineL ⟨1, n⟩) = (1, Lib.itoa n, true) := by
        unfold headL lineL
        rw [if_pos rfl]
        rw [if_pos (by simp [Lib.hasPrefix, runW])]
        simp [runW]
      unfold readL
      rw [hh]
      simp only [hn]
      simp [h1]
    · have hh : headL (lineL ⟨2, n⟩) = (2, Lib.itoa n, true) := by
        unfold headL lineL
        rw [if_neg (by decide : ¬ (2 : Int) = 1)]
        rw [if_neg (by simp [Lib.hasPrefix, runW, askW])]
        rw [if_pos (by simp [Lib.hasPrefix, askW])]
        simp [askW]
      unfold readL
      rw [hh]
      simp only [hn]
      simp [h1]
theorem no_blank {m : Nat} : ∀ b ∈ Lib.decDigits m, b ≠ 32 := fun b hb h => by
  have := decDigits_dig m b hb
  subst h
  simp at this
theorem last_word (p : List UInt8) (hp : ∀ b ∈ p, b ≠ 32) (m : Nat) : (splitL 32 (p ++ 32 :: Lib.decDigits m)).getLast?.getD [] = Lib.decDigits m := by
  rw [splitL_at _ hp, splitL_no no_blank]
  rfl
theorem findR_iff (s : List UInt8) (a : Ac) : findR s = some a ↔ oneB a = true ∧ lineL a = s := by
  constructor
  · intro h
    unfold findR at h
    simp only at h
    split at h
    · rename_i hc
      cases h
      simpa using hc
    · split at h
      · rename_i hc
        cases h
        simpa using hc
      · cases h
  · rintro ⟨h1, rfl⟩
    obtain ⟨h3, h4⟩ := oneB_bd h1
    obtain ⟨k, n⟩ := a
    simp only at h3 h4
    have hw : digF ((splitL 32 (lineL ⟨k, n⟩)).getLast?.getD []) 0 0 = n := by
      have h5 : lineL ⟨k, n⟩ = (if k = 1 then [114, 117, 110] else [97, 115, 107]) ++ 32 :: Lib.decDigits n.toNat := by
        unfold lineL
        rw [itoa_dec h3]
        simp only
        split <;> simp [runW, askW]
      rw [h5, last_word _ (by split <;> decide)]
      rw [digF_dig _ _ _ (decDigits_dig _) (by have := itoa_len h3 h4; rw [itoa_dec h3] at this; omega), fold_dec]
      omega
    unfold findR
    simp only [hw]
    rcases oneB_kind h1 with h | h
    · simp only at h; subst h; simp [h1]
    · simp only at h; subst h
      rw [if_neg, if_pos (by simp [h1])]
      simp [lineL, runW, askW]
theorem readL_find (s : List UInt8) : readL s = findR s := by
  apply Option.ext
  intro a
  rw [readL_iff, findR_iff]
/-- where the first sign stands -/
theorem indexByte_cases (c : UInt8) : ∀ s : List UInt8, (Lib.indexByte s c = -1 ∧ ∀ b ∈ s, b ≠ c) ∨ ∃ p r, s = p ++ c :: r ∧ (∀ b ∈ p, b ≠ c) ∧ Lib.indexByte s c = p.length
  | [] => .inl ⟨rfl, by simp⟩
  | b :: s => by
    by_cases hb : b = c
    · subst hb
      exact .inr ⟨[], s, rfl, by simp, by simp [Lib.indexByte]⟩
    · rcases indexByte_cases c s with ⟨h1, h2⟩ | ⟨p, r, h1, h2, h3⟩
      · refine .inl ⟨by simp [Lib.indexByte, hb, h1], fun x hx => ?_⟩
        rcases List.mem_cons.1 hx with rfl | hx
        · exact hb
        · exact h2 x hx
      · refine .inr ⟨b :: p, r, by rw [h1]; rfl, fun x hx => ?_, ?_⟩
        · rcases List.mem_cons.1 hx with rfl | hx
          · exact hb
          · exact h2 x hx
        · unfold Lib.indexByte
          rw [if_neg (by simpa using hb), h3, if_neg (by simp)]
          rfl
theorem linesL_at (r : List UInt8) {p : List UInt8} (hp : ∀ b ∈ p, b ≠ 10) : linesL (p ++ 10 :: r) = (p ++ [10]) :: linesL r := by
  have hc : cutAt (p ++ 10 :: r) = p.length + 1 := by
    unfold cutAt
    rcases indexByte_cases 10 (p ++ 10 :: r) with ⟨_, h2⟩ | ⟨q, t, h1, h2, h3⟩
    · exact absurd rfl (h2 10 (by simp))
    · have hq : q = p := by
        have e1 := splitL_at r hp
        rw [h1, splitL_at t h2] at e1
        exact (List.cons.inj e1).1
      subst hq
      rw [h3, if_pos (by omega)]
      simp
  have e1 : (p ++ 10 :: r).take (p.length + 1) = p ++ [10] := by rw [List.take_length_add_append]; rfl
  have e2 : (p ++ 10 :: r).drop (p.length + 1) = r := by rw [List.drop_length_add_append]; rfl
  rw [linesL_cons _ (by simp), hc, e1, e2]
theorem linesL_no {s : List UInt8} (hs : s ≠ []) (h : ∀ b ∈ s, b ≠ 10) : linesL s = [s] := by
  have hc : cutAt s = s.length := by
    unfold cutAt
    rcases indexByte_cases 10 s with ⟨h1, _⟩ | ⟨q, t, h1, h2, h3⟩
    · rw [h1, if_neg (by decide)]
    · exact absurd rfl (h 10 (by rw [h1]; simp))
  rw [linesL_cons _ hs, hc]
  simp [linesL_nil]
theorem suffix_at (p : List UInt8) : Lib.hasSuffix (p ++ [10]) [10] = true ∧ Lib.trimSuffix (p ++ [10]) [10] = p := by
  have : Lib.hasSuffix (p ++ [10]) [10] = true := by unfold Lib.hasSuffix; rw [List.isSuffixOf_iff_suffix]; exact ⟨p, rfl⟩
  refine ⟨this, ?_⟩
  unfold Lib.trimSuffix
  rw [if_pos this]
  simp
theorem suffix_no {s : List UInt8} (h : ∀ b ∈ s, b ≠ 10) : Lib.hasSuffix s [10] = false := by
  rw [Bool.eq_false_iff]
  intro hs
  unfold Lib.hasSuffix at hs
  rw [List.isSuffixOf_iff_suffix] at hs
  obtain ⟨t, rfl⟩ := hs
  exact h 10 (by simp) rfl
def endR (s : List UInt8) (x : Except Int (List Ac)) : Except (Int × Int) (List Ac) := match x with
  | .error k => .error (k, 4)
  | .ok out => if (splitL 10 s).getLast?.getD [] ≠ [] then .error ((out.length : Int) + 1, 2) else .ok out
theorem fold_same : ∀ (k : Nat) (s : List UInt8) (acc : List Ac), s.length ≤ k → (linesL s).foldlM stepP acc = endR s ((splitL 10 s).dropLast.foldlM rstep acc) := by
  intro k
  induction k with
  | zero =>
    intro s acc h
    have : s = [] := List.eq_nil_of_length_eq_zero (by omega)
    subst this
    rw [linesL_nil]
    rfl
  | succ k ih =>
    intro s acc h
    rcases indexByte_cases 10 s with ⟨h1, h2⟩ | ⟨p, r, rfl, h2, -⟩
    · by_cases hs : s = []
      · subst hs
        rw [linesL_nil]; rfl
      · rw [linesL_no hs h2, splitL_no h2]
        simp only [List.foldlM_cons, List.foldlM_nil, List.dropLast_singleton, endR, splitL_no h2]
        unfold stepP
        rw [suffix_no h2]
        simp [hs, bind, Except.bind, pure, Except.pure]
    · rw [linesL_at r h2, splitL_at r h2]
      have hne := splitL_ne 10 r
      have hd : (p :: splitL 10 r).dropLast = p :: (splitL 10 r).dropLast := by
        cases hx : splitL 10 r with
        | nil => exact absurd hx hne
        | cons y ys => rfl
      have hl : ∀ x, endR (p ++ 10 :: r) x = endR r x := fun x => by
        unfold endR
        rw [splitL_at r h2]
        cases hx : splitL 10 r with
        | nil => exact absurd hx hne
        | cons y ys => simp [List.getLast?_cons]
      rw [hd, hl]
      simp only [List.foldlM_cons]
      unfold stepP rstep
      rw [(suffix_at p).1, (suffix_at p).2, readL_find p, if_pos rfl]
      cases findR p with
      | none => rfl
      | some a => 
        simp only [bind, Except.bind]
        exact ih r (acc ++ [a]) (by simp at h; omega)
theorem foldR_len : ∀ (pre : List (List UInt8)) (a acc : List Ac), pre.foldlM rstep a = .ok acc → acc.length = a.length + pre.length
  | [], a, acc, h => by cases h; simp
  | x :: pre, a, acc, h => by
    rw [List.foldlM_cons] at h
    unfold rstep at h
    cases hf : findR x with
    | none => rw [hf] at h; cases h
    | some y =>
      rw [hf] at h
      rw [foldR_len pre _ acc h]
      simp; omega
theorem parse_same (s : List UInt8) (hs : s.length ≤ 65536) : parseR s = rparse s := by
  unfold parseR rparse
  rw [if_neg (by omega)]
  unfold parseP
  rw [fold_same s.length s [] (Nat.le_refl _)]
  cases hf : (splitL 10 s).dropLast.foldlM rstep [] with
  | error k => rfl
  | ok out =>
    have := foldR_len _ _ _ hf
    have h1 : (out.length : Int) + 1 = (splitL 10 s).length := by
      have hp := List.length_pos_iff.2 (splitL_ne 10 s)
      rw [List.length_nil, List.length_dropLast] at this
      omega
    unfold endR
    simp only
    by_cases hl : (splitL 10 s).getLast?.getD [] ≠ []
    · rw [if_pos hl, if_pos hl, h1]
    · rw [if_neg hl, if_neg hl]
/-- acts' text -/
def textL (l : List Ac) : List UInt8 := l.flatMap fun a => lineL a ++ [10]
def printR (l : List Ac) : List UInt8 × Bool := if rightA l then (textL l, true) else ([], false)
theorem lineL_no {a : Ac} (h : oneB a = true) : ∀ b ∈ lineL a, b ≠ 10 := by
  obtain ⟨h3, h4⟩ := oneB_bd h
  intro b hb
  unfold lineL at hb
  rw [itoa_dec h3] at hb
  rcases List.mem_append.1 hb with hb | hb
  · rintro rfl
    split at hb <;> simp [runW, askW] at hb
  · rintro rfl
    have := decDigits_dig _ _ hb
    simp at this
theorem parse_text : ∀ (l acc : List Ac), l.all oneB = true → (linesL (textL l)).foldlM stepP acc = .ok (acc ++ l)
  | [], acc, _ => by rw [show textL [] = [] from rfl, linesL_nil]; simp [pure, Except.pure]
  | a :: l, acc, h => by
    simp only [List.all_cons, Bool.and_eq_true] at h
    rw [show textL (a :: l) = lineL a ++ 10 :: textL l from by simp [textL], linesL_at _ (lineL_no h.1), List.foldlM_cons]
    have hs : stepP acc (lineL a ++ [10]) = .ok (acc ++ [a]) := by
      unfold stepP
      rw [(suffix_at _).1, (suffix_at _).2, (readL_iff _ a).2 ⟨h.1, rfl⟩, if_pos rfl]
    rw [hs]
    have := parse_text l (acc ++ [a]) h.2
    rw [List.append_assoc] at this
    exact this
theorem textL_len : ∀ (l : List Ac), l.all oneB = true → (textL l).length ≤ 10 * l.length
  | [], _ => by simp [textL]
  | a :: l, h => by
    simp only [List.all_cons, Bool.and_eq_true] at h
    have := textL_len l h.2
    obtain ⟨h3, h4⟩ := oneB_bd h.1
    have h5 := lineL_len h3 h4
    rw [show textL (a :: l) = lineL a ++ 10 :: textL l from by simp [textL]]
    simp; omega
theorem rightA_parts {l : List Ac} (h : rightA l = true) : l.all oneB = true ∧ (l.length : Int) ≤ 1000 ∧ ticks l ≤ 65536 := by
  unfold rightA at h
  simp only [Bool.and_eq_true, decide_eq_true_eq] at h
  exact ⟨h.1, h.2.1, h.2.2⟩
theorem parse_print {l : List Ac} (h : rightA l = true) : parseR (textL l) = (l, 0, 0) := by
  obtain ⟨h1, h2, h3⟩ := rightA_parts h
  have := textL_len l h1
  unfold parseR parseP
  rw [if_neg (by omega), parse_text l [] h1]
  simp [h]
theorem stepP_text {acc b : List Ac} {x : List UInt8} (h : stepP acc x = .ok b) : textL b = textL acc ++ x := by
  unfold stepP at h
  split at h
  · rename_i hs
    split at h
    · rename_i a ha
      cases h
      have := ((readL_iff _ _).1 ha).2
      unfold Lib.hasSuffix at hs
      rw [List.isSuffixOf_iff_suffix] at hs
      obtain ⟨t, rfl⟩ := hs
      rw [(suffix_at t).2] at this
      simp [textL, this]
    · cases h
  · cases h
theorem foldP_text : ∀ (pre : List (List UInt8)) (a acc : List Ac), pre.foldlM stepP a = .ok acc → textL acc = textL a ++ pre.flatten
  | [], a, acc, h => by cases h; simp
  | x :: pre, a, acc, h => by
    rw [List.foldlM_cons] at h
    cases hs : stepP a x with
    | error e => rw [hs] at h; cases h
    | ok b =>
      rw [hs] at h
      rw [foldP_text pre b acc h, stepP_text hs]
      simp
theorem linesL_flat : ∀ (k : Nat) (s : List UInt8), s.length ≤ k → (linesL s).flatten = s
  | 0, s, h => by
    have : s = [] := List.eq_nil_of_length_eq_zero (by omega)
    subst this
    rw [linesL_nil]; rfl
  | k + 1, s, h => by
    by_cases hs : s = []
    · subst hs; rw [linesL_nil]; rfl
    · have h1 := cutAt_pos s hs
      have h2 := List.length_pos_iff.2 hs
      rw [linesL_cons s hs, List.flatten_cons, linesL_flat k _ (by simp; omega), List.take_append_drop]
theorem print_parse {s : List UInt8} (h : (parseR s).2.2 = 0) : rightA (parseR s).1 = true ∧ textL (parseR s).1 = s := by
  unfold parseR at h ⊢
  split at h
  · simp at h
  · rename_i h65
    rw [if_neg h65]
    cases hp : parseP (linesL s) with
    | error e =>
      obtain ⟨k, e⟩ := e
      rw [hp] at h
      simp only at h
      exfalso
      rw [show parseP (linesL s) = endR s ((splitL 10 s).dropLast.foldlM rstep []) from fold_same s.length s [] (Nat.le_refl _)] at hp
      unfold endR at hp
      split at hp
      · cases hp; simp at h
      · split at hp
        · cases hp; simp at h
        · cases hp
    | ok out =>
      rw [hp] at h
      simp only at h ⊢
      cases hr : rightA out
      · rw [hr] at h; simp at h
      · simp only [if_true]
        refine ⟨hr, ?_⟩
        have := foldP_text _ _ _ hp
        rw [linesL_flat s.length s (Nat.le_refl _)] at this
        simpa [textL] using this
theorem parse_bad {s : List UInt8} (h : (parseR s).2.2 ≠ 0) : (parseR s).1 = [] := by
  unfold parseR at h ⊢
  split at h
  · rename_i h65; rw [if_pos h65]
  · rename_i h65
    rw [if_neg h65]
    cases hp : parseP (linesL s) with
    | error e => rfl
    | ok out =>
      rw [hp] at h
      simp only at h ⊢
      cases hr : rightA out
      · rfl
      · rw [hr] at h; simp at h
end Go.Proofs.YtldbaommeflooaaDoor.scr
