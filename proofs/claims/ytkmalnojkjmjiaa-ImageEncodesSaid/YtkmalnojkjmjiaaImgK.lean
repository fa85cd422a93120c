/- Images: two rows of numbers, two programs: are they the same. -/
import Derived.Test.YtkmalnojkjmjiaaDeep
namespace Go.Proofs.Ytkmalnojkjmjiaa.img
open Go Go.RowKit Go.Proofs.Ytkmalnojkjmjiaa.kit Go.Proofs.Ytkmalnojkjmjiaa.obj Go.Proofs.Ytkmalnojkjmjiaa.mem Go.Proofs.Ytkmalnojkjmjiaa.lay Go.Proofs.Ytkmalnojkjmjiaa.codec
set_option linter.unusedVariables false
set_option linter.unusedSimpArgs false
set_option maxRecDepth 20000
theorem Ints_any (u v : Value) (xs ys : List Int) (w : World) (hu : ReadsN w u xs) (hv : ReadsN w v ys) (hx : xs.length ≤ 1000000) (hy : ys.length ≤ 1000000) :
    Calls Try.prog 44 #[u, v] w fun e w' => e = .returned (.bool (wordsB xs ys)) ∧ Quiet w w' := by
  obtain ⟨ua, uc, rfl, _⟩ := reads_slice hu
  obtain ⟨va, vc, rfl, _⟩ := reads_slice hv
  obtain ⟨b1, o1, ix1, cx1, _⟩ := reads_index (P := Try.prog) Try.underlying51 szI hu
  obtain ⟨b2, o2, ix2, cx2, _⟩ := reads_index (P := Try.prog) Try.underlying51 szI hv
  have hx1 : (xs.length : Int) ≤ 1000000 := by omega
  have hy1 : (ys.length : Int) ≤ 1000000 := by omega
  have CX1 := Lib.hid cx1
  have CX2 := Lib.hid cx2
  have IX1 := Lib.hid ix1
  have IX2 := Lib.hid ix2
  clear hx hy cx1 cx2 ix1 ix2 hu hv
  by_cases hl : xs.length = ys.length
  case neg =>
    have hf : wordsB xs ys = false := by simp only [wordsB, decide_eq_false_iff_not]; rintro rfl; exact hl rfl
    rw [hf]
    have hl2 : (xs.length : Int) ≠ (ys.length : Int) := by omega
    clear hf
    go_enter Try.func44, Try.ntmps44
    go_wp2
    go_ret
    exact ⟨rfl, ⟨0, rfl⟩⟩
  case pos =>
    have HL := Lib.hid hl
    go_enter Try.func44, Try.ntmps44
    rw [← hl]
    clear hl
    go_wp2
    go_loopw [5, 13] (fun _ i wr => ∃ k m : Nat, k ≤ xs.length ∧ i = .int .i64 k ∧ Hid (xs.take k = ys.take k) ∧ wr = w.drewN m) (fun _ i _ => xs.length - (intOf i).toNat)
    case atStart => exact ⟨0, 0, Nat.zero_le _, rfl, Lib.hid (by simp), rfl⟩
    case round =>
      obtain ⟨k, m, hk, rfl, HT, rfl⟩ := hrel
      by_cases hlt : k < xs.length
      · have hlt2 : k < ys.length := by have := HL.out; omega
        have i1 := IX1.out k hlt
        have i2 := IX2.out k hlt2
        rw [← HL.out] at i2
        obtain ⟨p, hp⟩ : ∃ p, xs[k]? = some p := ⟨_, List.getElem?_eq_getElem hlt⟩
        obtain ⟨q, hq⟩ : ∃ q, ys[k]? = some q := ⟨_, List.getElem?_eq_getElem hlt2⟩
        have e1 : (w.drewN m).cell? ⟨b1, o1 + k * 1, none⟩ = some (.int .i64 p) := CX1.out (k * 1) _ (by simp [hp])
        have e2 : (w.drewN m).cell? ⟨b2, o2 + k * 1, none⟩ = some (.int .i64 q) := CX2.out (k * 1) _ (by simp [hq])
        have e1' : (w.drewN m).drew.cell? ⟨b1, o1 + k * 1, none⟩ = some (.int .i64 p) := e1
        have e2' : (w.drewN m).drew.cell? ⟨b2, o2 + k * 1, none⟩ = some (.int .i64 q) := e2
        have HS1 := Lib.hid (show xs.take (k + 1) = xs.take k ++ [p] by rw [List.take_add_one, hp]; rfl)
        have HS2 := Lib.hid (show ys.take (k + 1) = ys.take k ++ [q] by rw [List.take_add_one, hq]; rfl)
        have HXK := Lib.hid hp
        have HYK := Lib.hid hq
        clear hp hq hlt2
        have d1 : ∀ W, Hid (W = (w.drewN m).drew) → W.cell? ⟨b1, o1 + k, none⟩ = some (.int .i64 p) := fun W h => by rw [h.out]; rw [Nat.mul_one] at e1; exact e1
        have d2 : ∀ W, Hid (W = (w.drewN m).drew) → W.cell? ⟨b2, o2 + k, none⟩ = some (.int .i64 q) := fun W h => by rw [h.out]; rw [Nat.mul_one] at e2; exact e2
        have D1 := Lib.hid d1
        have D2 := Lib.hid d2
        clear e1 e2 e1' e2' d1 d2
        go_wp2_with fail
        refine wp_region_tail 8 (by kernel_rfl) (by kernel_rfl) ?_
        intro W hW
        have f1 := D1.out W hW
        have f2 := D2.out W hW
        simp only [List.take_succ_cons, List.take_zero, List.drop_succ_cons, List.drop_zero]
        repeat still_step
        refine wpStill_nil ?_
        by_cases hpq : p = q
        · subst hpq
          go_wp2
          go_roundw
          case rel => exact ⟨k + 1, m + 1, by omega, by go_num, Lib.hid (by rw [HS1.out, HS2.out, HT.out]), hW.out⟩
          case measure => simp [intOf]; omega
        · go_wp2
          go_ret
          refine ⟨?_, ⟨m + 1, hW.out⟩⟩
          have : wordsB xs ys = false := by
            simp only [wordsB, decide_eq_false_iff_not]
            rintro rfl
            have := HXK.out.symm.trans HYK.out
            simp at this
            exact hpq this
          rw [this]; rfl
      · go_wp2
        go_ret
        obtain rfl : k = xs.length := by omega
        refine ⟨?_, ⟨m, rfl⟩⟩
        have : wordsB xs ys = true := by
          simp only [wordsB, decide_eq_true_eq]
          have := HT.out
          rw [List.take_of_length_le (Nat.le_refl _), HL.out, List.take_of_length_le (Nat.le_refl _)] at this
          exact this
        rw [this]; rfl

instance insDec : DecidableEq Ins := fun x y => decidable_of_iff (x.op = y.op ∧ x.a = y.a ∧ x.b = y.b ∧ x.c = y.c ∧ x.n = y.n) (by cases x; cases y; simp)
def codeB (xs ys : List Ins) : Bool := decide (xs = ys)
theorem Code_any (u v : Value) (xs ys : List Ins) (w : World) (hu : ReadsC w u xs) (hv : ReadsC w v ys) (hx : xs.length ≤ 1000000) (hy : ys.length ≤ 1000000) :
    Calls Try.prog 42 #[u, v] w fun e w' => e = .returned (.bool (codeB xs ys)) ∧ Quiet w w' := by
  obtain ⟨ua, uc, rfl, _⟩ := reads_slice hu.1
  obtain ⟨va, vc, rfl, _⟩ := reads_slice hv.1
  obtain ⟨b1, o1, ix1, cx1, _⟩ := reads_index (P := Try.prog) Try.underlying39 szIns hu.1
  obtain ⟨b2, o2, ix2, cx2, _⟩ := reads_index (P := Try.prog) Try.underlying39 szIns hv.1
  have hx1 : (xs.length : Int) ≤ 1000000 := by omega
  have hy1 : (ys.length : Int) ≤ 1000000 := by omega
  have CX1 := Lib.hid cx1
  have CX2 := Lib.hid cx2
  have IX1 := Lib.hid ix1
  have IX2 := Lib.hid ix2
  clear hx hy cx1 cx2 ix1 ix2 hu hv
  by_cases hl : xs.length = ys.length
  case neg =>
    have hf : codeB xs ys = false := by simp only [codeB, decide_eq_false_iff_not]; rintro rfl; exact hl rfl
    rw [hf]
    have hl2 : (xs.length : Int) ≠ (ys.length : Int) := by omega
    clear hf
    go_enter Try.func42, Try.ntmps42
    go_wp2
    go_ret
    exact ⟨rfl, ⟨0, rfl⟩⟩
  case pos =>
    have HL := Lib.hid hl
    go_enter Try.func42, Try.ntmps42
    rw [← hl]
    clear hl
    go_wp2
    go_loopw [5, 13] (fun _ i wr => ∃ k m : Nat, k ≤ xs.length ∧ i = .int .i64 k ∧ Hid (xs.take k = ys.take k) ∧ wr = w.drewN m) (fun _ i _ => xs.length - (intOf i).toNat)
    case atStart => exact ⟨0, 0, Nat.zero_le _, rfl, Lib.hid (by simp), rfl⟩
    case round =>
      obtain ⟨k, m, hk, rfl, HT, rfl⟩ := hrel
      by_cases hlt : k < xs.length
      · have hlt2 : k < ys.length := by have := HL.out; omega
        have i1 := IX1.out k hlt
        have i2 := IX2.out k hlt2
        rw [← HL.out] at i2
        obtain ⟨p, hp⟩ : ∃ p, xs[k]? = some p := ⟨_, List.getElem?_eq_getElem hlt⟩
        obtain ⟨q, hq⟩ : ∃ q, ys[k]? = some q := ⟨_, List.getElem?_eq_getElem hlt2⟩
        obtain ⟨p0, p1, p2, p3, p4⟩ := p
        obtain ⟨q0, q1, q2, q3, q4⟩ := q
        have e0 : (w.drewN m).cell? ⟨b1, o1 + k * 5, none⟩ = some (.int .i64 p0) := by have h9 := CX1.out (k * 5 + 0) _ (by rw [flatMap_get Ins.cells 5 (fun _ => rfl) xs k 0 (by decide) _ hp]; rfl); rwa [Nat.add_zero] at h9
        have g0 : (w.drewN m).cell? ⟨b2, o2 + k * 5, none⟩ = some (.int .i64 q0) := by have h9 := CX2.out (k * 5 + 0) _ (by rw [flatMap_get Ins.cells 5 (fun _ => rfl) ys k 0 (by decide) _ hq]; rfl); rwa [Nat.add_zero] at h9
        have e1 : (w.drewN m).cell? ⟨b1, o1 + k * 5 + 1, none⟩ = some (.int .i64 p1) := by have h9 := CX1.out (k * 5 + 1) _ (by rw [flatMap_get Ins.cells 5 (fun _ => rfl) xs k 1 (by decide) _ hp]; rfl); rwa [← Nat.add_assoc] at h9
        have g1 : (w.drewN m).cell? ⟨b2, o2 + k * 5 + 1, none⟩ = some (.int .i64 q1) := by have h9 := CX2.out (k * 5 + 1) _ (by rw [flatMap_get Ins.cells 5 (fun _ => rfl) ys k 1 (by decide) _ hq]; rfl); rwa [← Nat.add_assoc] at h9
        have e2 : (w.drewN m).cell? ⟨b1, o1 + k * 5 + 2, none⟩ = some (.int .i64 p2) := by have h9 := CX1.out (k * 5 + 2) _ (by rw [flatMap_get Ins.cells 5 (fun _ => rfl) xs k 2 (by decide) _ hp]; rfl); rwa [← Nat.add_assoc] at h9
        have g2 : (w.drewN m).cell? ⟨b2, o2 + k * 5 + 2, none⟩ = some (.int .i64 q2) := by have h9 := CX2.out (k * 5 + 2) _ (by rw [flatMap_get Ins.cells 5 (fun _ => rfl) ys k 2 (by decide) _ hq]; rfl); rwa [← Nat.add_assoc] at h9
        have e3 : (w.drewN m).cell? ⟨b1, o1 + k * 5 + 3, none⟩ = some (.int .i64 p3) := by have h9 := CX1.out (k * 5 + 3) _ (by rw [flatMap_get Ins.cells 5 (fun _ => rfl) xs k 3 (by decide) _ hp]; rfl); rwa [← Nat.add_assoc] at h9
        have g3 : (w.drewN m).cell? ⟨b2, o2 + k * 5 + 3, none⟩ = some (.int .i64 q3) := by have h9 := CX2.out (k * 5 + 3) _ (by rw [flatMap_get Ins.cells 5 (fun _ => rfl) ys k 3 (by decide) _ hq]; rfl); rwa [← Nat.add_assoc] at h9
        have e4 : (w.drewN m).cell? ⟨b1, o1 + k * 5 + 4, none⟩ = some (.int .u32 p4) := by have h9 := CX1.out (k * 5 + 4) _ (by rw [flatMap_get Ins.cells 5 (fun _ => rfl) xs k 4 (by decide) _ hp]; rfl); rwa [← Nat.add_assoc] at h9
        have g4 : (w.drewN m).cell? ⟨b2, o2 + k * 5 + 4, none⟩ = some (.int .u32 q4) := by have h9 := CX2.out (k * 5 + 4) _ (by rw [flatMap_get Ins.cells 5 (fun _ => rfl) ys k 4 (by decide) _ hq]; rfl); rwa [← Nat.add_assoc] at h9
        have HS1 := Lib.hid (show xs.take (k + 1) = xs.take k ++ [⟨p0, p1, p2, p3, p4⟩] by rw [List.take_add_one, hp]; rfl)
        have HS2 := Lib.hid (show ys.take (k + 1) = ys.take k ++ [⟨q0, q1, q2, q3, q4⟩] by rw [List.take_add_one, hq]; rfl)
        have HXK := Lib.hid hp
        have HYK := Lib.hid hq
        clear hp hq hlt2
        have D0 := Lib.hid (fun W (h : Hid (W = (w.drewN m).drew)) => (by rw [h.out]; exact e0 : W.cell? ⟨b1, o1 + k * 5, none⟩ = some (.int .i64 p0)))
        have G0 := Lib.hid (fun W (h : Hid (W = (w.drewN m).drew)) => (by rw [h.out]; exact g0 : W.cell? ⟨b2, o2 + k * 5, none⟩ = some (.int .i64 q0)))
        have D1 := Lib.hid (fun W (h : Hid (W = (w.drewN m).drew)) => (by rw [h.out]; exact e1 : W.cell? ⟨b1, o1 + k * 5 + 1, none⟩ = some (.int .i64 p1)))
        have G1 := Lib.hid (fun W (h : Hid (W = (w.drewN m).drew)) => (by rw [h.out]; exact g1 : W.cell? ⟨b2, o2 + k * 5 + 1, none⟩ = some (.int .i64 q1)))
        have D2 := Lib.hid (fun W (h : Hid (W = (w.drewN m).drew)) => (by rw [h.out]; exact e2 : W.cell? ⟨b1, o1 + k * 5 + 2, none⟩ = some (.int .i64 p2)))
        have G2 := Lib.hid (fun W (h : Hid (W = (w.drewN m).drew)) => (by rw [h.out]; exact g2 : W.cell? ⟨b2, o2 + k * 5 + 2, none⟩ = some (.int .i64 q2)))
        have D3 := Lib.hid (fun W (h : Hid (W = (w.drewN m).drew)) => (by rw [h.out]; exact e3 : W.cell? ⟨b1, o1 + k * 5 + 3, none⟩ = some (.int .i64 p3)))
        have G3 := Lib.hid (fun W (h : Hid (W = (w.drewN m).drew)) => (by rw [h.out]; exact g3 : W.cell? ⟨b2, o2 + k * 5 + 3, none⟩ = some (.int .i64 q3)))
        have D4 := Lib.hid (fun W (h : Hid (W = (w.drewN m).drew)) => (by rw [h.out]; exact e4 : W.cell? ⟨b1, o1 + k * 5 + 4, none⟩ = some (.int .u32 p4)))
        have G4 := Lib.hid (fun W (h : Hid (W = (w.drewN m).drew)) => (by rw [h.out]; exact g4 : W.cell? ⟨b2, o2 + k * 5 + 4, none⟩ = some (.int .u32 q4)))
        clear e0 g0 e1 g1 e2 g2 e3 g3 e4 g4
        go_wp2_with fail
        refine wp_region_tail 8 (by kernel_rfl) (by kernel_rfl) ?_
        intro W hW
        have x0 := D0.out W hW
        have y0 := G0.out W hW
        have x1 := D1.out W hW
        have y1 := G1.out W hW
        have x2 := D2.out W hW
        have y2 := G2.out W hW
        have x3 := D3.out W hW
        have y3 := G3.out W hW
        have x4 := D4.out W hW
        have y4 := G4.out W hW
        simp only [List.take_succ_cons, List.take_zero, List.drop_succ_cons, List.drop_zero]
        repeat still_step
        refine wpStill_nil ?_
        by_cases hpq : p0 = q0
        rotate_left
        · have hpb : (p0 == q0) = false := by simpa using hpq
          go_wp2
          go_ret
          refine ⟨?_, ⟨m + 1, hW.out⟩⟩
          have : codeB xs ys = false := by
            simp only [codeB, decide_eq_false_iff_not]
            rintro rfl
            have h8 := HXK.out.symm.trans HYK.out
            simp at h8
            exact absurd (by first | exact h8.1 | exact h8.2.1 | exact h8.2.2.1 | exact h8.2.2.2.1 | exact h8.2.2.2.2 | exact h8 | exact h8.2 | exact h8.2.2 | exact h8.2.2.2) hpq
          rw [this]; rfl
        subst hpq
        by_cases hpq : p1 = q1
        rotate_left
        · have hpb : (p1 == q1) = false := by simpa using hpq
          go_wp2
          go_ret
          refine ⟨?_, ⟨m + 1, hW.out⟩⟩
          have : codeB xs ys = false := by
            simp only [codeB, decide_eq_false_iff_not]
            rintro rfl
            have h8 := HXK.out.symm.trans HYK.out
            simp at h8
            exact absurd (by first | exact h8.1 | exact h8.2.1 | exact h8.2.2.1 | exact h8.2.2.2.1 | exact h8.2.2.2.2 | exact h8 | exact h8.2 | exact h8.2.2 | exact h8.2.2.2) hpq
          rw [this]; rfl
        subst hpq
        by_cases hpq : p2 = q2
        rotate_left
        · have hpb : (p2 == q2) = false := by simpa using hpq
          go_wp2
          go_ret
          refine ⟨?_, ⟨m + 1, hW.out⟩⟩
          have : codeB xs ys = false := by
            simp only [codeB, decide_eq_false_iff_not]
            rintro rfl
            have h8 := HXK.out.symm.trans HYK.out
            simp at h8
            exact absurd (by first | exact h8.1 | exact h8.2.1 | exact h8.2.2.1 | exact h8.2.2.2.1 | exact h8.2.2.2.2 | exact h8 | exact h8.2 | exact h8.2.2 | exact h8.2.2.2) hpq
          rw [this]; rfl
        subst hpq
        by_cases hpq : p3 = q3
        rotate_left
        · have hpb : (p3 == q3) = false := by simpa using hpq
          go_wp2
          go_ret
          refine ⟨?_, ⟨m + 1, hW.out⟩⟩
          have : codeB xs ys = false := by
            simp only [codeB, decide_eq_false_iff_not]
            rintro rfl
            have h8 := HXK.out.symm.trans HYK.out
            simp at h8
            exact absurd (by first | exact h8.1 | exact h8.2.1 | exact h8.2.2.1 | exact h8.2.2.2.1 | exact h8.2.2.2.2 | exact h8 | exact h8.2 | exact h8.2.2 | exact h8.2.2.2) hpq
          rw [this]; rfl
        subst hpq
        by_cases hpq : p4 = q4
        rotate_left
        · have hpb : (p4 == q4) = false := by simpa using hpq
          go_wp2
          go_ret
          refine ⟨?_, ⟨m + 1, hW.out⟩⟩
          have : codeB xs ys = false := by
            simp only [codeB, decide_eq_false_iff_not]
            rintro rfl
            have h8 := HXK.out.symm.trans HYK.out
            simp at h8
            exact absurd (by first | exact h8.1 | exact h8.2.1 | exact h8.2.2.1 | exact h8.2.2.2.1 | exact h8.2.2.2.2 | exact h8 | exact h8.2 | exact h8.2.2 | exact h8.2.2.2) hpq
          rw [this]; rfl
        subst hpq
        go_wp2
        go_roundw
        case rel => exact ⟨k + 1, m + 1, by omega, by go_num, Lib.hid (by rw [HS1.out, HS2.out, HT.out]), hW.out⟩
        case measure => simp [intOf]; omega
      · go_wp2
        go_ret
        obtain rfl : k = xs.length := by omega
        refine ⟨?_, ⟨m, rfl⟩⟩
        have : codeB xs ys = true := by
          simp only [codeB, decide_eq_true_eq]
          have := HT.out
          rw [List.take_of_length_le (Nat.le_refl _), HL.out, List.take_of_length_le (Nat.le_refl _)] at this
          exact this
        rw [this]; rfl

end Go.Proofs.Ytkmalnojkjmjiaa.img
