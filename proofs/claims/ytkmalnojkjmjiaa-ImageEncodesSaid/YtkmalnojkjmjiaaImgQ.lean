/- Images: the plain law: rows, tasks, objects, systems; what is laid comes back, what is read was laid so. -/
import Derived.Test.YtkmalnojkjmjiaaImgP
namespace Go.Proofs.Ytkmalnojkjmjiaa.img
open Go Go.Proofs.Ytkmalnojkjmjiaa.codec
set_option linter.unusedVariables false
set_option linter.unusedSimpArgs false
section
variable {zs : List Int} {R : Type} {f : St → R} {g : St → St} {enc : R → List Int}
theorem rd_bad {n : Nat} {s : St} (h : s.bad = true) : rdS zs n s = s := by unfold rdS; rw [if_pos h]
theorem row_ok (l : List R) : ∀ (s : St) (post : List Int), (∀ r ∈ l, ∀ s post, At zs s (enc r ++ post) → f s = r ∧ At zs (g s) post) → At zs s (l.flatMap enc ++ post) → rowV f g l.length s = l ∧ At zs (rowS g l.length s) post := by
  induction l with
  | nil => intro s post _ h; exact ⟨rfl, h⟩
  | cons r t ih =>
    intro s post ho h
    rw [List.flatMap_cons, List.append_assoc] at h
    obtain ⟨h1, h2⟩ := ho r (by simp) s _ h
    obtain ⟨h3, h4⟩ := ih (g s) post (fun q hq => ho q (by simp [hq])) h2
    simp only [List.length_cons, rowV, rowS, h.1, Bool.false_eq_true, if_false]
    exact ⟨by rw [h1, h3], h4⟩
theorem row_inv (P : R → Prop) (ho : ∀ s, Good zs (g s) → Good zs s ∧ zs.drop s.at_ = enc (f s) ++ zs.drop (g s).at_ ∧ P (f s)) :
    ∀ (n : Nat) (s : St), Good zs (rowS g n s) → Good zs s ∧ zs.drop s.at_ = (rowV f g n s).flatMap enc ++ zs.drop (rowS g n s).at_ ∧ (rowV f g n s).length = n ∧ ∀ r ∈ rowV f g n s, P r := by
  intro n
  induction n with
  | zero => intro s h; exact ⟨h, by simp [rowV, rowS], rfl, by simp [rowV]⟩
  | succ n ih =>
    intro s h
    cases hs : s.bad
    · simp only [rowS, rowV, hs, Bool.false_eq_true, if_false] at h ⊢
      obtain ⟨h1, h2, h3, h4⟩ := ih (g s) h
      obtain ⟨k1, k2, k3⟩ := ho s h1
      refine ⟨k1, ?_, by simp [h3], ?_⟩
      · rw [List.flatMap_cons, List.append_assoc, ← h2, k2]
      · intro r hr
        rcases List.mem_cons.1 hr with rfl | hr
        · exact k3
        · exact h4 r hr
    · simp only [rowS, hs, if_true] at h
      have := h.1
      rw [hs] at this
      cases this
theorem row_bad {n : Nat} {s : St} (h : s.bad = true) : rowS g n s = s := by
  cases n with
  | zero => rfl
  | succ n => simp [rowS, h]
theorem all_bad (hg : ∀ s, s.bad = true → g s = s) : ∀ (n : Nat) (s : St), s.bad = true → allS g n s = s := by
  intro n
  induction n with
  | zero => intro s _; rfl
  | succ n ih => intro s h; rw [allS, hg s h, ih s h]
theorem allS_row (hg : ∀ s, s.bad = true → g s = s) : ∀ (n : Nat) (s : St), allS g n s = rowS g n s := by
  intro n
  induction n with
  | zero => intro s; rfl
  | succ n ih =>
    intro s
    cases hs : s.bad
    · simp only [allS, rowS, hs, Bool.false_eq_true, if_false]; exact ih _
    · rw [all_bad hg _ s hs, row_bad hs]
theorem allV_row (hg : ∀ s, s.bad = true → g s = s) : ∀ (n : Nat) (s : St), (rowS g n s).bad = false → allV f g n s = rowV f g n s := by
  intro n
  induction n with
  | zero => intro s _; rfl
  | succ n ih =>
    intro s h
    cases hs : s.bad
    · simp only [allV, rowV, rowS, hs, Bool.false_eq_true, if_false] at h ⊢
      rw [ih _ h]
    · rw [row_bad hs, hs] at h; cases h
/-- what f' reads is what f reads, where all goes well -/
theorem allV_eq {f' : St → R} (hg : ∀ s, s.bad = true → g s = s) (hf : ∀ s, (g s).bad = false → f' s = f s) : ∀ (n : Nat) (s : St), (rowS g n s).bad = false → allV f' g n s = rowV f g n s := by
  intro n
  induction n with
  | zero => intro s _; rfl
  | succ n ih =>
    intro s h
    cases hs : s.bad
    · simp only [allV, rowV, rowS, hs, Bool.false_eq_true, if_false] at h ⊢
      rw [ih _ h, hf]
      cases hb : (g s).bad
      · rfl
      · rw [row_bad hb, hb] at h; cases h
    · rw [row_bad hs, hs] at h; cases h
end
section
variable {zs : List Int}
theorem ins_bad {s : St} (h : s.bad = true) : insS zs s = s := by
  unfold insS
  rw [rd_bad (n := 1) h, rd_bad (n := 1) h, rd_bad (n := 1) h, rd_bad (n := 1) h, rd_bad h]
theorem tk_bad {s : St} (h : s.bad = true) : tkS zs s = s := by
  unfold tkS hd7
  rw [rd_bad (n := 1) h, rd_bad (n := 1) h, rd_bad (n := 4) h, rd_bad (n := 4) h, rd_bad (n := 4) h, rd_bad (n := 1) h, rd_bad (n := 1) h, row_bad h]
/-- an object's head: six numbers -/
def hd6 (zs : List Int) (s : St) : St := rdS zs 1 (rdS zs 4 (rdS zs 1 (rdS zs 1 (rdS zs 1 (rdS zs 1 s)))))
def obS (zs : List Int) (s : St) : St :=
  let s6 := hd6 zs s
  let s7 := rowS (rdS zs 1) (rdV zs 1 s6).toNat (rdS zs 1 s6)
  rowS (rdS zs 4) (rdV zs 1 s7).toNat (rdS zs 1 s7)
def obV (zs : List Int) (s : St) : POb :=
  let s6 := hd6 zs s
  let s7 := rowS (rdS zs 1) (rdV zs 1 s6).toNat (rdS zs 1 s6)
  ⟨rdV zs 1 s, rdV zs 1 (rdS zs 1 s), rdV zs 1 (rdS zs 1 (rdS zs 1 s)), rdV zs 1 (rdS zs 1 (rdS zs 1 (rdS zs 1 s))), rdV zs 4 (rdS zs 1 (rdS zs 1 (rdS zs 1 (rdS zs 1 s)))),
   rdV zs 1 (rdS zs 4 (rdS zs 1 (rdS zs 1 (rdS zs 1 (rdS zs 1 s))))),
   rowV (rdV zs 4) (rdS zs 4) (rdV zs 1 s7).toNat (rdS zs 1 s7), rowV (rdV zs 1) (rdS zs 1) (rdV zs 1 s6).toNat (rdS zs 1 s6)⟩
/-- the program's way -/
def obA (zs : List Int) (s : St) : POb :=
  let s6 := hd6 zs s
  let s7 := allS (rdS zs 1) (rdV zs 1 s6).toNat (rdS zs 1 s6)
  ⟨rdV zs 1 s, rdV zs 1 (rdS zs 1 s), rdV zs 1 (rdS zs 1 (rdS zs 1 s)), rdV zs 1 (rdS zs 1 (rdS zs 1 (rdS zs 1 s))), rdV zs 4 (rdS zs 1 (rdS zs 1 (rdS zs 1 (rdS zs 1 s)))),
   rdV zs 1 (rdS zs 4 (rdS zs 1 (rdS zs 1 (rdS zs 1 (rdS zs 1 s))))),
   allV (rdV zs 4) (rdS zs 4) (rdV zs 1 s7).toNat (rdS zs 1 s7), allV (rdV zs 1) (rdS zs 1) (rdV zs 1 s6).toNat (rdS zs 1 s6)⟩
def obAS (zs : List Int) (s : St) : St :=
  let s6 := hd6 zs s
  let s7 := allS (rdS zs 1) (rdV zs 1 s6).toNat (rdS zs 1 s6)
  allS (rdS zs 4) (rdV zs 1 s7).toNat (rdS zs 1 s7)
theorem ob_bad {s : St} (h : s.bad = true) : obS zs s = s := by
  unfold obS hd6
  simp only [rd_bad (zs := zs) (n := 1) h, rd_bad (zs := zs) (n := 4) h, row_bad h]
theorem obAS_eq (s : St) : obAS zs s = obS zs s := by
  unfold obAS obS
  simp only [allS_row (fun s h => rd_bad (zs := zs) (n := 1) h), allS_row (fun s h => rd_bad (zs := zs) (n := 4) h)]
theorem obA_eq {s : St} (h : (obS zs s).bad = false) : obA zs s = obV zs s := by
  unfold obA obV
  unfold obS at h
  simp only [allS_row (fun s h => rd_bad (zs := zs) (n := 1) h)] at h ⊢
  rw [allV_row (fun s h => rd_bad (zs := zs) (n := 4) h) _ _ h]
  rw [allV_row (fun s h => rd_bad (zs := zs) (n := 1) h)]
  cases hb : (rowS (rdS zs 1) (rdV zs 1 (hd6 zs s)).toNat (rdS zs 1 (hd6 zs s))).bad
  · rfl
  · rw [rd_bad hb, row_bad hb, hb] at h; cases h

theorem ins_ok (i : Ins) (hf : i.fit) (hn : fit4 i.n) (s : St) (post : List Int) (h : At zs s (encI i ++ post)) : insV zs s = i ∧ At zs (insS zs s) post := by
  unfold encI at h
  simp only [List.append_assoc] at h
  unfold Ins.fit fit1 at hf
  unfold fit4 at hn
  obtain ⟨v1, h1⟩ := rd_ok h (by omega) (by omega)
  obtain ⟨v2, h2⟩ := rd_ok h1 (by omega) (by omega)
  obtain ⟨v3, h3⟩ := rd_ok h2 (by omega) (by omega)
  obtain ⟨v4, h4⟩ := rd_ok h3 (by omega) (by omega)
  obtain ⟨v5, h5⟩ := rd_ok h4 (by omega) (by omega)
  exact ⟨by cases i; simp only [insV, v1, v2, v3, v4, v5], h5⟩
theorem tk_ok (t : PTk) (hf : t.fit) (hw : t.W) (s : St) (post : List Int) (h : At zs s (encT t ++ post)) : tkV zs s = t ∧ At zs (tkS zs s) post := by
  unfold encT at h
  simp only [List.append_assoc] at h
  unfold PTk.fit fit1 fit4 at hf
  obtain ⟨v1, h1⟩ := rd_ok h (by omega) (by omega)
  obtain ⟨v2, h2⟩ := rd_ok h1 (by omega) (by omega)
  obtain ⟨v3, h3⟩ := rd_ok h2 (by omega) (by omega)
  obtain ⟨v4, h4⟩ := rd_ok h3 (by omega) (by omega)
  obtain ⟨v5, h5⟩ := rd_ok h4 (by omega) (by omega)
  obtain ⟨v6, h6⟩ := rd_ok h5 (by omega) (by omega)
  obtain ⟨v7, h7⟩ := rd_ok h6 (by omega) (by omega)
  obtain ⟨v8, h8⟩ := row_ok (f := insV zs) (g := insS zs) (enc := encI) t.code _ post (fun i hi s post => ins_ok i (hf.2.2 i hi) (hw i hi) s post) h7
  have e : (t.code.length : Int).toNat = t.code.length := by omega
  refine ⟨?_, ?_⟩
  · unfold tkV hd7
    rw [v7, e, v8, v1, v2, v3, v4, v5, v6]
  · unfold tkS hd7
    rw [v7, e]
    exact h8
theorem ob_ok (o : POb) (hf : o.fit) (hw : o.W) (s : St) (post : List Int) (h : At zs s (encO o ++ post)) : obV zs s = o ∧ At zs (obS zs s) post := by
  unfold encO at h
  simp only [List.append_assoc] at h
  unfold POb.fit fit1 at hf
  unfold POb.W fit4 at hw
  obtain ⟨v1, h1⟩ := rd_ok h (by omega) (by omega)
  obtain ⟨v2, h2⟩ := rd_ok h1 (by omega) (by omega)
  obtain ⟨v3, h3⟩ := rd_ok h2 (by omega) (by omega)
  obtain ⟨v4, h4⟩ := rd_ok h3 (by omega) (by omega)
  obtain ⟨v5, h5⟩ := rd_ok h4 (by omega) (by omega)
  obtain ⟨v6, h6⟩ := rd_ok h5 (by omega) (by omega)
  obtain ⟨v7, h7⟩ := rd_ok h6 (by omega) (by omega)
  obtain ⟨v8, h8⟩ := row_ok (f := rdV zs 1) (g := rdS zs 1) (enc := fun x => leB x 1) o.rds _ _ (fun x hx s post h => by have := hf.2 x hx; exact rd_ok h (by omega) (by omega)) h7
  obtain ⟨v9, h9⟩ := rd_ok h8 (by omega) (by omega)
  obtain ⟨va, ha⟩ := row_ok (f := rdV zs 4) (g := rdS zs 4) (enc := fun x => leB x 4) o.ini _ _ (fun x hx s post h => by have := hw.2 x hx; exact rd_ok h (by omega) (by omega)) h9
  have e : (o.rds.length : Int).toNat = o.rds.length := by omega
  have e2 : (o.ini.length : Int).toNat = o.ini.length := by omega
  refine ⟨?_, ?_⟩
  · unfold obV hd6
    dsimp only
    rw [v7, e, v9, e2, va, v8, v1, v2, v3, v4, v5, v6]
  · unfold obS hd6
    dsimp only
    rw [v7, e, v9, e2]
    exact ha
variable (hz : ∀ x ∈ zs, 0 ≤ x ∧ x ≤ 255)
include hz
theorem ins_inv (s : St) (h : Good zs (insS zs s)) : Good zs s ∧ zs.drop s.at_ = encI (insV zs s) ++ zs.drop (insS zs s).at_ ∧ ((insV zs s).fit ∧ fit4 (insV zs s).n) := by
  unfold insS at h
  obtain ⟨g4, d5, v5⟩ := rd_inv hz h
  obtain ⟨g3, d4, v4⟩ := rd_inv hz g4
  obtain ⟨g2, d3, v3⟩ := rd_inv hz g3
  obtain ⟨g1, d2, v2⟩ := rd_inv hz g2
  obtain ⟨g0, d1, v1⟩ := rd_inv hz g1
  refine ⟨g0, ?_, ?_⟩
  · unfold encI insV insS
    simp only [List.append_assoc]
    rw [d1, d2, d3, d4, d5]
  · unfold Ins.fit fit1 fit4 insV
    dsimp only
    omega
theorem tk_inv (s : St) (h : Good zs (tkS zs s)) : Good zs s ∧ zs.drop s.at_ = encT (tkV zs s) ++ zs.drop (tkS zs s).at_ ∧ ((tkV zs s).fit ∧ (tkV zs s).W) := by
  unfold tkS at h
  obtain ⟨g7, d8, l8, p8⟩ := row_inv (zs := zs) (f := insV zs) (g := insS zs) (enc := encI) (fun i => i.fit ∧ fit4 i.n) (ins_inv hz) _ _ h
  unfold hd7 at g7
  obtain ⟨g6, d7, v7⟩ := rd_inv hz g7
  obtain ⟨g5, d6, v6⟩ := rd_inv hz g6
  obtain ⟨g4, d5, v5⟩ := rd_inv hz g5
  obtain ⟨g3, d4, v4⟩ := rd_inv hz g4
  obtain ⟨g2, d3, v3⟩ := rd_inv hz g3
  obtain ⟨g1, d2, v2⟩ := rd_inv hz g2
  obtain ⟨g0, d1, v1⟩ := rd_inv hz g1
  have hlen : (((tkV zs s).code.length : Nat) : Int) = rdV zs 1 (rdS zs 1 (rdS zs 4 (rdS zs 4 (rdS zs 4 (rdS zs 1 (rdS zs 1 s)))))) := by
    show (((rowV (insV zs) (insS zs) _ _).length : Nat) : Int) = _
    rw [l8]; omega
  refine ⟨g0, ?_, ?_, fun i hi => (p8 i hi).2⟩
  · unfold encT
    rw [hlen]
    unfold tkS encC
    simp only [List.append_assoc]
    show _ = leB (rdV zs 1 s) 1 ++ (leB (rdV zs 1 (rdS zs 1 s)) 1 ++ (leB (rdV zs 4 (rdS zs 1 (rdS zs 1 s))) 4 ++ (leB (rdV zs 4 (rdS zs 4 (rdS zs 1 (rdS zs 1 s)))) 4 ++ (leB (rdV zs 4 (rdS zs 4 (rdS zs 4 (rdS zs 1 (rdS zs 1 s))))) 4 ++ (leB (rdV zs 1 (rdS zs 4 (rdS zs 4 (rdS zs 4 (rdS zs 1 (rdS zs 1 s)))))) 1 ++ (leB _ 1 ++ (List.flatMap encI (rowV (insV zs) (insS zs) _ (hd7 zs s)) ++ _)))))))
    rw [d1, d2, d3, d4, d5, d6, d7]
    rw [← d8]
    rfl
  · unfold PTk.fit
    rw [hlen]
    refine ⟨?_, ?_, fun i hi => (p8 i hi).1⟩
    · unfold fit1 tkV; dsimp only; omega
    · unfold fit4 tkV; dsimp only; omega
end
end Go.Proofs.Ytkmalnojkjmjiaa.img
