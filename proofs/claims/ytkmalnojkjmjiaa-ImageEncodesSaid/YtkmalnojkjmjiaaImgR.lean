/- Images: the plain law: what is decoded; both ways round; one byte changed. -/
import Derived.Test.YtkmalnojkjmjiaaImgQ
namespace Go.Proofs.Ytkmalnojkjmjiaa.img
open Go Go.Proofs.Ytkmalnojkjmjiaa.codec
set_option linter.unusedVariables false
set_option linter.unusedSimpArgs false
section
variable {zs : List Int}
theorem ob_inv (hz : ∀ x ∈ zs, 0 ≤ x ∧ x ≤ 255) (s : St) (h : Good zs (obS zs s)) : Good zs s ∧ zs.drop s.at_ = encO (obV zs s) ++ zs.drop (obS zs s).at_ ∧ ((obV zs s).fit ∧ (obV zs s).W) := by
  unfold obS at h
  dsimp only at h
  obtain ⟨g9, da, la, pa⟩ := row_inv (zs := zs) (f := rdV zs 4) (g := rdS zs 4) (enc := fun x => leB x 4) fit4 (fun s h => by obtain ⟨h1, h2, h3⟩ := rd_inv hz h; exact ⟨h1, h2, by unfold fit4; omega⟩) _ _ h
  obtain ⟨g8, d9, v9⟩ := rd_inv hz g9
  obtain ⟨g7, d8, l8, p8⟩ := row_inv (zs := zs) (f := rdV zs 1) (g := rdS zs 1) (enc := fun x => leB x 1) fit1 (fun s h => by obtain ⟨h1, h2, h3⟩ := rd_inv hz h; exact ⟨h1, h2, by unfold fit1; omega⟩) _ _ g8
  obtain ⟨g6, d7, v7⟩ := rd_inv hz g7
  unfold hd6 at g6
  obtain ⟨g5, d6, v6⟩ := rd_inv hz g6
  obtain ⟨g4, d5, v5⟩ := rd_inv hz g5
  obtain ⟨g3, d4, v4⟩ := rd_inv hz g4
  obtain ⟨g2, d3, v3⟩ := rd_inv hz g3
  obtain ⟨g1, d2, v2⟩ := rd_inv hz g2
  obtain ⟨g0, d1, v1⟩ := rd_inv hz g1
  have hl1 : (((obV zs s).rds.length : Nat) : Int) = rdV zs 1 (hd6 zs s) := by
    show (((rowV (rdV zs 1) (rdS zs 1) _ _).length : Nat) : Int) = _
    rw [l8]; omega
  have hl2 : (((obV zs s).ini.length : Nat) : Int) = rdV zs 1 (rowS (rdS zs 1) (rdV zs 1 (hd6 zs s)).toNat (rdS zs 1 (hd6 zs s))) := by
    show (((rowV (rdV zs 4) (rdS zs 4) _ _).length : Nat) : Int) = _
    rw [la]; omega
  refine ⟨g0, ?_, ⟨?_, fun r hr => p8 r hr⟩, ?_, fun x hx => pa x hx⟩
  · unfold encO
    rw [hl1, hl2]
    unfold obS enc1 enc4
    dsimp only
    simp only [List.append_assoc]
    show _ = leB (rdV zs 1 s) 1 ++ (leB (rdV zs 1 (rdS zs 1 s)) 1 ++ (leB (rdV zs 1 (rdS zs 1 (rdS zs 1 s))) 1 ++ (leB (rdV zs 1 (rdS zs 1 (rdS zs 1 (rdS zs 1 s)))) 1 ++ (leB (rdV zs 4 (rdS zs 1 (rdS zs 1 (rdS zs 1 (rdS zs 1 s))))) 4 ++ (leB (rdV zs 1 (rdS zs 4 (rdS zs 1 (rdS zs 1 (rdS zs 1 (rdS zs 1 s)))))) 1 ++ (leB _ 1 ++ (List.flatMap (fun x => leB x 1) (rowV (rdV zs 1) (rdS zs 1) _ (rdS zs 1 (hd6 zs s))) ++ (leB _ 1 ++ (List.flatMap (fun x => leB x 4) (rowV (rdV zs 4) (rdS zs 4) _ _) ++ _)))))))))
    rw [d1, d2, d3, d4, d5, d6]
    show _ ++ (_ ++ (_ ++ (_ ++ (_ ++ (_ ++ zs.drop (hd6 zs s).at_))))) = _
    rw [d7, d8, d9]
    rw [← da]
  · rw [hl1, hl2]
    unfold fit1 obV
    dsimp only
    omega
  · unfold fit4 obV
    dsimp only
    omega

/-- behind the head -/
def s5 (zs : List Int) : St := rdS zs 1 (rdS zs 1 (rdS zs 3 ⟨0, false⟩))
def nT (zs : List Int) : Nat := (rdV zs 1 (rdS zs 3 ⟨0, false⟩)).toNat
def nO (zs : List Int) : Nat := (rdV zs 1 (rdS zs 1 (rdS zs 3 ⟨0, false⟩))).toNat
def decT (zs : List Int) : List PTk := rowV (tkV zs) (tkS zs) (nT zs) (s5 zs)
def s6 (zs : List Int) : St := rowS (tkS zs) (nT zs) (s5 zs)
def decO (zs : List Int) : List POb := rowV (obV zs) (obS zs) (nO zs) (s6 zs)
def s7 (zs : List Int) : St := rowS (obS zs) (nO zs) (s6 zs)
def marks (zs : List Int) : Bool := decide (zs.getD 0 0 = 67 ∧ zs.getD 1 0 = 88 ∧ zs.getD 2 0 = 1)
/-- why bytes are no image; 0: they are one -/
def decE (zs : List Int) : Int :=
  if 65536 < zs.length then 6
  else if 3 ≤ zs.length ∧ marks zs = false then 4
  else if (rdS zs 2 (s7 zs)).bad then 2
  else if rdV zs 2 (s7 zs) ≠ sumM (zs.take (s7 zs).at_) then 4
  else if (s7 zs).at_ + 2 < zs.length then 3
  else 0
def decAt (zs : List Int) : Int :=
  if 65536 < zs.length then 0
  else if 3 ≤ zs.length ∧ marks zs = false then 0
  else if (rdS zs 2 (s7 zs)).bad then (zs.length : Int)
  else if rdV zs 2 (s7 zs) ≠ sumM (zs.take (s7 zs).at_) then ((s7 zs).at_ : Int)
  else if (s7 zs).at_ + 2 < zs.length then ((s7 zs).at_ + 2 : Nat)
  else 0

theorem dec_image {ts : List PTk} {os : List POb} (hf : fitS ts os) (hw : (∀ t ∈ ts, t.W) ∧ ∀ o ∈ os, o.W) (hl : (image ts os).length ≤ 65536) : decE (image ts os) = 0 ∧ decT (image ts os) = ts ∧ decO (image ts os) = os := by
  obtain ⟨zs, hzs⟩ : ∃ zs, image ts os = zs := ⟨_, rfl⟩
  rw [hzs] at hl ⊢
  have h0 : At zs ⟨0, false⟩ (leB 88131 3 ++ (leB ts.length 1 ++ (leB os.length 1 ++ (ts.flatMap encT ++ (os.flatMap encO ++ (leB (sumM (bodyB ts os)) 2 ++ [])))))) := by
    refine ⟨rfl, ?_, Nat.zero_le _⟩
    rw [List.drop_zero, ← hzs]
    unfold image
    conv => lhs; unfold bodyB
    simp only [List.append_assoc, List.append_nil]
    rfl
  have hbl : zs.length = (bodyB ts os).length + 2 := by rw [← hzs]; unfold image; rw [List.length_append, leB_length]
  have hmk : marks zs = true := by
    rw [← hzs]
    rfl
  have hf1 := hf.1
  unfold fit1 at hf1
  obtain ⟨v0, h3⟩ := rd_ok h0 (by decide) (by decide)
  obtain ⟨v1, h4⟩ := rd_ok h3 (by omega) (by omega)
  obtain ⟨v2, h5⟩ := rd_ok h4 (by omega) (by omega)
  have e1 : nT zs = ts.length := by unfold nT; rw [v1]; omega
  have e2 : nO zs = os.length := by unfold nO; rw [v2]; omega
  obtain ⟨v3, h6⟩ := row_ok (f := tkV zs) (g := tkS zs) (enc := encT) ts _ _ (fun t ht s post h => tk_ok t (hf.2.1 t ht) (hw.1 t ht) s post h) h5
  obtain ⟨v4, h7⟩ := row_ok (f := obV zs) (g := obS zs) (enc := encO) os _ _ (fun t ht s post h => ob_ok t (hf.2.2 t ht) (hw.2 t ht) s post h) h6
  have hb := sumM_bd (bodyB ts os)
  obtain ⟨v5, h8⟩ := rd_ok h7 hb.1 (by omega)
  have f6 : s6 zs = rowS (tkS zs) ts.length (rdS zs 1 (rdS zs 1 (rdS zs 3 ⟨0, false⟩))) := by unfold s6 s5; rw [e1]
  have f7 : s7 zs = rowS (obS zs) os.length (rowS (tkS zs) ts.length (rdS zs 1 (rdS zs 1 (rdS zs 3 ⟨0, false⟩)))) := by unfold s7; rw [e2, f6]
  rw [← f7] at h7 v5 h8
  have hd := congrArg List.length h7.2.1
  rw [List.length_drop, List.append_nil, leB_length] at hd
  have hat : (s7 zs).at_ = (bodyB ts os).length := by have := h7.2.2; omega
  have htk : zs.take (s7 zs).at_ = bodyB ts os := by rw [hat, ← hzs]; unfold image; exact List.take_left' rfl
  refine ⟨?_, ?_, ?_⟩
  · unfold decE
    rw [if_neg (by omega), if_neg (by rw [hmk]; simp), if_neg (by rw [h8.1]; decide), if_neg (by rw [htk, v5]; simp), if_neg (by omega)]
  · unfold decT s5
    rw [e1]; exact v3
  · unfold decO
    rw [e2, f6]; exact v4
theorem good_rd {n : Nat} {s : St} (h : (rdS zs n s).bad = false) : Good zs (rdS zs n s) := by
  refine ⟨h, ?_⟩
  unfold rdS at h ⊢
  cases hs : s.bad
  · simp only [hs, Bool.false_eq_true, if_false] at h ⊢
    by_cases hn : zs.length < s.at_ + n
    · rw [if_pos hn] at h; cases h
    · rw [if_neg hn]; show s.at_ + n ≤ _; omega
  · simp only [hs, if_true] at h
    cases h
theorem dec_inv (hz : ∀ x ∈ zs, 0 ≤ x ∧ x ≤ 255) (h : decE zs = 0) : image (decT zs) (decO zs) = zs ∧ fitS (decT zs) (decO zs) ∧ ((∀ t ∈ decT zs, t.W) ∧ ∀ o ∈ decO zs, o.W) ∧ zs.length ≤ 65536 := by
  unfold decE at h
  by_cases c1 : 65536 < zs.length
  · rw [if_pos c1] at h; cases h
  rw [if_neg c1] at h
  by_cases c2 : 3 ≤ zs.length ∧ marks zs = false
  · rw [if_pos c2] at h; cases h
  rw [if_neg c2] at h
  cases c3 : (rdS zs 2 (s7 zs)).bad
  rotate_left
  · rw [c3, if_pos rfl] at h; cases h
  rw [c3, if_neg (by decide)] at h
  by_cases c4 : rdV zs 2 (s7 zs) ≠ sumM (zs.take (s7 zs).at_)
  · rw [if_pos c4] at h; cases h
  rw [if_neg c4] at h
  have c4' : rdV zs 2 (s7 zs) = sumM (zs.take (s7 zs).at_) := Classical.not_not.1 c4
  by_cases c5 : (s7 zs).at_ + 2 < zs.length
  · rw [if_pos c5] at h; cases h
  obtain ⟨g7, d8, v8⟩ := rd_inv hz (good_rd c3)
  have hg7 := g7
  unfold s7 at hg7
  obtain ⟨g6, d7, l7, p7⟩ := row_inv (zs := zs) (f := obV zs) (g := obS zs) (enc := encO) (fun o => o.fit ∧ o.W) (ob_inv hz) _ _ hg7
  have hg6 := g6
  unfold s6 at hg6
  obtain ⟨g5, d6, l6, p6⟩ := row_inv (zs := zs) (f := tkV zs) (g := tkS zs) (enc := encT) (fun o => o.fit ∧ o.W) (tk_inv hz) _ _ hg6
  unfold s5 at g5
  obtain ⟨g4, d5, v5⟩ := rd_inv hz g5
  obtain ⟨g3, d4, v4⟩ := rd_inv hz g4
  obtain ⟨g0, d3, v3⟩ := rd_inv hz g3
  have hn3 : 3 ≤ zs.length := by
    have := congrArg List.length d3
    rw [List.length_append, leB_length, List.length_drop] at this
    omega
  have hmk : marks zs = true := by
    cases hm : marks zs
    · exact absurd ⟨hn3, hm⟩ c2
    · rfl
  have hv3 : rdV zs 3 ⟨0, false⟩ = 88131 := by
    unfold rdV
    rw [if_neg (by simp; omega), List.drop_zero]
    unfold marks at hmk
    match zs, hn3 with
    | a :: b :: c :: r, _ =>
      simp at hmk
      obtain ⟨rfl, rfl, rfl⟩ := hmk
      rfl
  have hnT : (((decT zs).length : Nat) : Int) = rdV zs 1 (rdS zs 3 ⟨0, false⟩) := by
    show (((rowV (tkV zs) (tkS zs) _ _).length : Nat) : Int) = _
    rw [l6]; unfold nT; omega
  have hnO : (((decO zs).length : Nat) : Int) = rdV zs 1 (rdS zs 1 (rdS zs 3 ⟨0, false⟩)) := by
    show (((rowV (obV zs) (obS zs) _ _).length : Nat) : Int) = _
    rw [l7]; unfold nO; omega
  have hend : zs.drop (rdS zs 2 (s7 zs)).at_ = [] := by
    have h1 : (rdS zs 2 (s7 zs)).at_ = (s7 zs).at_ + 2 := by
      unfold rdS at c3 ⊢
      rw [if_neg (by rw [g7.1]; decide)] at c3 ⊢
      by_cases hn : zs.length < (s7 zs).at_ + 2
      · rw [if_pos hn] at c3; cases c3
      · rw [if_neg hn]
    rw [h1]; exact List.drop_eq_nil_of_le (by omega)
  have hall : zs = bodyB (decT zs) (decO zs) ++ leB (rdV zs 2 (s7 zs)) 2 := by
    unfold bodyB
    simp only [List.append_assoc]
    rw [show ∀ X : List Int, leB 67 1 ++ (leB 88 1 ++ (leB 1 1 ++ X)) = leB 88131 3 ++ X from fun X => rfl, hnT, hnO]
    have e0 : zs = zs.drop 0 := (List.drop_zero).symm
    conv => lhs; rw [e0]
    show zs.drop (St.mk 0 false).at_ = _
    rw [d3, hv3, d4, d5]
    show _ ++ (_ ++ (_ ++ zs.drop (s5 zs).at_)) = _ ++ (_ ++ (_ ++ (List.flatMap encT (rowV (tkV zs) (tkS zs) (nT zs) (s5 zs)) ++ (List.flatMap encO (rowV (obV zs) (obS zs) (nO zs) (s6 zs)) ++ _))))
    rw [d6]
    show _ ++ (_ ++ (_ ++ (_ ++ zs.drop (s6 zs).at_))) = _
    rw [d7]
    show _ ++ (_ ++ (_ ++ (_ ++ (_ ++ zs.drop (s7 zs).at_)))) = _
    rw [d8, hend, List.append_nil]
  have hlen := congrArg List.length hall
  rw [List.length_append, leB_length] at hlen
  have hat : (s7 zs).at_ = (bodyB (decT zs) (decO zs)).length := by
    have h1 := congrArg List.length d8
    rw [List.length_drop, hend, List.append_nil, leB_length] at h1
    have := g7.2
    omega
  have htk : zs.take (s7 zs).at_ = bodyB (decT zs) (decO zs) := by
    rw [hat]
    have h9 := congrArg (List.take (bodyB (decT zs) (decO zs)).length) hall
    rwa [List.take_left' rfl] at h9
  refine ⟨?_, ⟨?_, fun t ht => (p6 t ht).1, fun o ho => (p7 o ho).1⟩, ⟨fun t ht => (p6 t ht).2, fun o ho => (p7 o ho).2⟩, by omega⟩
  · unfold image
    rw [← htk, ← c4', htk]
    exact hall.symm
  · unfold fit1
    rw [hnT, hnO]
    omega
theorem one_other {ts : List PTk} {os : List POb} (i : Nat) (c : Int) (hz : ∀ x ∈ (image ts os).set i c, 0 ≤ x ∧ x ≤ 255) (hi : i < (image ts os).length) (hc : (image ts os).getD i 0 ≠ c) (h : decE ((image ts os).set i c) = 0) : ¬ (decT ((image ts os).set i c) = ts ∧ decO ((image ts os).set i c) = os) := by
  rintro ⟨h1, h2⟩
  have h3 := (dec_inv hz h).1
  rw [h1, h2] at h3
  have h4 := congrArg (fun l => l.getD i 0) h3
  simp only [List.getD_eq_getElem?_getD, List.getElem?_set_self hi] at h4
  exact hc (by simpa using h4)
theorem leB_bd (x : Int) (n : Nat) : ∀ y ∈ leB x n, 0 ≤ y ∧ y ≤ 255 := fun y hy => by
  have := leB_wf x n y hy
  simp [Lit.wf, IntKind.min, IntKind.max, IntKind.signed, IntKind.bits] at this
  omega
end
end Go.Proofs.Ytkmalnojkjmjiaa.img
