/- Scripts: two rows of numbers, of dues, of acts: are they the same (printed by scr3.py). -/
import Derived.Test.YtldbaommeflooaaDoorScrJ
namespace Go.Proofs.YtldbaommeflooaaDoor.scr
open Go Go.RowKit Go.Proofs.YtldbaommeflooaaDoor.kit Go.Proofs.YtldbaommeflooaaDoor.word Go.Shelf
set_option linter.unusedVariables false
set_option linter.unusedSimpArgs false
set_option maxRecDepth 20000
theorem szInt : (Tryd.prog.info? 3).map (·.size) = some 1 := by kernel_rfl
instance duDec : DecidableEq Du := fun x y => decidable_of_iff (x.at_ = y.at_ ∧ x.task = y.task) (by cases x; cases y; simp)
theorem intC_flat (xs : List Int) : intC xs = xs.flatMap fun x => [.int .i64 x] := by
  unfold intC
  induction xs with
  | nil => rfl
  | cons a l ih => simp [ih]
theorem Ints_any (u v : Value) (xs ys : List Int) (w : World) (hu : Reads w 1 u xs.length (xs.flatMap (fun x : Int => [Value.int .i64 x]))) (hv : Reads w 1 v ys.length (ys.flatMap (fun x : Int => [Value.int .i64 x]))) (hx : xs.length ≤ 1000000) (hy : ys.length ≤ 1000000) :
    Calls Tryd.prog 15 #[u, v] w fun e w' => e = .returned (.bool (decide (xs = ys))) ∧ Go.Proofs.YtldbaommeflooaaDoor.kit.Quiet w w' := by
  obtain ⟨ua, uc, rfl, _⟩ := reads_slice hu
  obtain ⟨va, vc, rfl, _⟩ := reads_slice hv
  obtain ⟨b1, o1, ix1, cx1, _⟩ := reads_index (P := Tryd.prog) Tryd.underlying26 szInt hu
  obtain ⟨b2, o2, ix2, cx2, _⟩ := reads_index (P := Tryd.prog) Tryd.underlying26 szInt hv
  have hx1 : (xs.length : Int) ≤ 1000000 := by omega
  have hy1 : (ys.length : Int) ≤ 1000000 := by omega
  have CX1 := Lib.hid cx1
  have CX2 := Lib.hid cx2
  have IX1 := Lib.hid ix1
  have IX2 := Lib.hid ix2
  clear hx hy cx1 cx2 ix1 ix2 hu hv
  by_cases hl : xs.length = ys.length
  case neg =>
    have hf : decide (xs = ys) = false := by simp only [decide_eq_false_iff_not]; rintro rfl; exact hl rfl
    rw [hf]
    have hl2 : (xs.length : Int) ≠ (ys.length : Int) := by omega
    clear hf
    go_enter Tryd.func15, Tryd.ntmps15
    go_wp2
    go_ret
    exact ⟨rfl, ⟨0, rfl⟩⟩
  case pos =>
    have HL := Lib.hid hl
    go_enter Tryd.func15, Tryd.ntmps15
    rw [← hl]
    clear hl
    go_wp2
    go_loopw [5, 13] (fun _ i wr => ∃ k m : Nat, k ≤ xs.length ∧ i = .int .i64 k ∧ Hid (xs.take k = ys.take k) ∧ wr = w.drewN m) (fun _ i _ => xs.length - (intOf i).toNat)
    case atStart => exact ⟨0, 0, Nat.zero_le _, rfl, Lib.hid (by simp), rfl⟩
    case round =>
      obtain ⟨k, m, hk, rfl, HT, rfl⟩ := hrel
      by_cases hlt : k < xs.length
      · have hlt2 : k < ys.length := by have := HL.out; omega
        have i1 := IX1.out k hlt
        have i2 := IX2.out k hlt2
        rw [← HL.out] at i2
        obtain ⟨p, hp⟩ : ∃ p, xs[k]? = some p := ⟨_, List.getElem?_eq_getElem hlt⟩
        obtain ⟨q, hq⟩ : ∃ q, ys[k]? = some q := ⟨_, List.getElem?_eq_getElem hlt2⟩
        obtain ⟨p0, rfl⟩ : ∃ p0, p0 = p := ⟨_, rfl⟩
        obtain ⟨q0, rfl⟩ : ∃ q0, q0 = q := ⟨_, rfl⟩
        have e0 : (w.drewN m).cell? ⟨b1, o1 + k * 1, none⟩ = some (.int .i64 p0) := by have h9 := CX1.out (k * 1 + 0) _ (by rw [flatMap_get (fun x : Int => [Value.int .i64 x]) 1 (fun _ => rfl) xs k 0 (by decide) _ hp]; rfl); rwa [Nat.add_zero] at h9
        have g0 : (w.drewN m).cell? ⟨b2, o2 + k * 1, none⟩ = some (.int .i64 q0) := by have h9 := CX2.out (k * 1 + 0) _ (by rw [flatMap_get (fun x : Int => [Value.int .i64 x]) 1 (fun _ => rfl) ys k 0 (by decide) _ hq]; rfl); rwa [Nat.add_zero] at h9
        rw [Nat.mul_one] at e0 g0
        have HS1 := Lib.hid (show xs.take (k + 1) = xs.take k ++ [p0] by rw [List.take_add_one, hp]; rfl)
        have HS2 := Lib.hid (show ys.take (k + 1) = ys.take k ++ [q0] by rw [List.take_add_one, hq]; rfl)
        have HXK := Lib.hid hp
        have HYK := Lib.hid hq
        clear hp hq hlt2
        have D0 := Lib.hid (fun W (h : Hid (W = (w.drewN m).drew)) => (by rw [h.out]; exact e0 : W.cell? ⟨b1, o1 + k, none⟩ = some (.int .i64 p0)))
        have G0 := Lib.hid (fun W (h : Hid (W = (w.drewN m).drew)) => (by rw [h.out]; exact g0 : W.cell? ⟨b2, o2 + k, none⟩ = some (.int .i64 q0)))
        clear e0 g0
        go_wp2_with fail
        refine wp_region_tail 8 (by kernel_rfl) (by kernel_rfl) ?_
        intro W hW
        have x0 := D0.out W hW
        have y0 := G0.out W hW
        simp only [List.take_succ_cons, List.take_zero, List.drop_succ_cons, List.drop_zero]
        repeat still_step
        refine wpStill_nil ?_
        by_cases hpq : p0 = q0
        rotate_left
        · have hpb : (p0 == q0) = false := by simpa using hpq
          go_wp2
          go_ret
          refine ⟨?_, ⟨m + 1, hW.out⟩⟩
          have : decide (xs = ys) = false := by
            simp only [decide_eq_false_iff_not]
            rintro rfl
            have h8 := HXK.out.symm.trans HYK.out
            simp at h8
            exact absurd (by first | exact h8 | exact h8.1 | exact h8.2) hpq
          rw [this]; rfl
        subst hpq
        go_wp2
        go_roundw
        case rel => exact ⟨k + 1, m + 1, by omega, by go_num, Lib.hid (by rw [HS1.out, HS2.out, HT.out]), hW.out⟩
        case measure => simp [intOf]; omega
      · go_wp2
        go_ret
        obtain rfl : k = xs.length := by omega
        refine ⟨?_, ⟨m, rfl⟩⟩
        have : decide (xs = ys) = true := by
          simp only [decide_eq_true_eq]
          have := HT.out
          rw [List.take_of_length_le (Nat.le_refl _), HL.out, List.take_of_length_le (Nat.le_refl _)] at this
          exact this
        rw [this]; rfl
theorem Dues_any (u v : Value) (xs ys : List Du) (w : World) (hu : Reads w 2 u xs.length (xs.flatMap Du.cells)) (hv : Reads w 2 v ys.length (ys.flatMap Du.cells)) (hx : xs.length ≤ 1000000) (hy : ys.length ≤ 1000000) :
    Calls Tryd.prog 13 #[u, v] w fun e w' => e = .returned (.bool (decide (xs = ys))) ∧ Go.Proofs.YtldbaommeflooaaDoor.kit.Quiet w w' := by
  obtain ⟨ua, uc, rfl, _⟩ := reads_slice hu
  obtain ⟨va, vc, rfl, _⟩ := reads_slice hv
  obtain ⟨b1, o1, ix1, cx1, _⟩ := reads_index (P := Tryd.prog) Tryd.underlying24 szDue hu
  obtain ⟨b2, o2, ix2, cx2, _⟩ := reads_index (P := Tryd.prog) Tryd.underlying24 szDue hv
  have hx1 : (xs.length : Int) ≤ 1000000 := by omega
  have hy1 : (ys.length : Int) ≤ 1000000 := by omega
  have CX1 := Lib.hid cx1
  have CX2 := Lib.hid cx2
  have IX1 := Lib.hid ix1
  have IX2 := Lib.hid ix2
  clear hx hy cx1 cx2 ix1 ix2 hu hv
  by_cases hl : xs.length = ys.length
  case neg =>
    have hf : decide (xs = ys) = false := by simp only [decide_eq_false_iff_not]; rintro rfl; exact hl rfl
    rw [hf]
    have hl2 : (xs.length : Int) ≠ (ys.length : Int) := by omega
    clear hf
    go_enter Tryd.func13, Tryd.ntmps13
    go_wp2
    go_ret
    exact ⟨rfl, ⟨0, rfl⟩⟩
  case pos =>
    have HL := Lib.hid hl
    go_enter Tryd.func13, Tryd.ntmps13
    rw [← hl]
    clear hl
    go_wp2
    go_loopw [5, 13] (fun _ i wr => ∃ k m : Nat, k ≤ xs.length ∧ i = .int .i64 k ∧ Hid (xs.take k = ys.take k) ∧ wr = w.drewN m) (fun _ i _ => xs.length - (intOf i).toNat)
    case atStart => exact ⟨0, 0, Nat.zero_le _, rfl, Lib.hid (by simp), rfl⟩
    case round =>
      obtain ⟨k, m, hk, rfl, HT, rfl⟩ := hrel
      by_cases hlt : k < xs.length
      · have hlt2 : k < ys.length := by have := HL.out; omega
        have i1 := IX1.out k hlt
        have i2 := IX2.out k hlt2
        rw [← HL.out] at i2
        obtain ⟨p, hp⟩ : ∃ p, xs[k]? = some p := ⟨_, List.getElem?_eq_getElem hlt⟩
        obtain ⟨q, hq⟩ : ∃ q, ys[k]? = some q := ⟨_, List.getElem?_eq_getElem hlt2⟩
        obtain ⟨p0, p1⟩ := p
        obtain ⟨q0, q1⟩ := q
        have e0 : (w.drewN m).cell? ⟨b1, o1 + k * 2, none⟩ = some (.int .i64 p0) := by have h9 := CX1.out (k * 2 + 0) _ (by rw [flatMap_get Du.cells 2 (fun _ => rfl) xs k 0 (by decide) _ hp]; rfl); rwa [Nat.add_zero] at h9
        have g0 : (w.drewN m).cell? ⟨b2, o2 + k * 2, none⟩ = some (.int .i64 q0) := by have h9 := CX2.out (k * 2 + 0) _ (by rw [flatMap_get Du.cells 2 (fun _ => rfl) ys k 0 (by decide) _ hq]; rfl); rwa [Nat.add_zero] at h9
        have e1 : (w.drewN m).cell? ⟨b1, o1 + k * 2 + 1, none⟩ = some (.int .i64 p1) := by have h9 := CX1.out (k * 2 + 1) _ (by rw [flatMap_get Du.cells 2 (fun _ => rfl) xs k 1 (by decide) _ hp]; rfl); rwa [← Nat.add_assoc] at h9
        have g1 : (w.drewN m).cell? ⟨b2, o2 + k * 2 + 1, none⟩ = some (.int .i64 q1) := by have h9 := CX2.out (k * 2 + 1) _ (by rw [flatMap_get Du.cells 2 (fun _ => rfl) ys k 1 (by decide) _ hq]; rfl); rwa [← Nat.add_assoc] at h9
        have HS1 := Lib.hid (show xs.take (k + 1) = xs.take k ++ [(⟨p0, p1⟩ : Du)] by rw [List.take_add_one, hp]; rfl)
        have HS2 := Lib.hid (show ys.take (k + 1) = ys.take k ++ [(⟨q0, q1⟩ : Du)] by rw [List.take_add_one, hq]; rfl)
        have HXK := Lib.hid hp
        have HYK := Lib.hid hq
        clear hp hq hlt2
        have D0 := Lib.hid (fun W (h : Hid (W = (w.drewN m).drew)) => (by rw [h.out]; exact e0 : W.cell? ⟨b1, o1 + k * 2, none⟩ = some (.int .i64 p0)))
        have G0 := Lib.hid (fun W (h : Hid (W = (w.drewN m).drew)) => (by rw [h.out]; exact g0 : W.cell? ⟨b2, o2 + k * 2, none⟩ = some (.int .i64 q0)))
        have D1 := Lib.hid (fun W (h : Hid (W = (w.drewN m).drew)) => (by rw [h.out]; exact e1 : W.cell? ⟨b1, o1 + k * 2 + 1, none⟩ = some (.int .i64 p1)))
        have G1 := Lib.hid (fun W (h : Hid (W = (w.drewN m).drew)) => (by rw [h.out]; exact g1 : W.cell? ⟨b2, o2 + k * 2 + 1, none⟩ = some (.int .i64 q1)))
        clear e0 g0 e1 g1
        go_wp2_with fail
        refine wp_region_tail 8 (by kernel_rfl) (by kernel_rfl) ?_
        intro W hW
        have x0 := D0.out W hW
        have y0 := G0.out W hW
        have x1 := D1.out W hW
        have y1 := G1.out W hW
        simp only [List.take_succ_cons, List.take_zero, List.drop_succ_cons, List.drop_zero]
        repeat still_step
        refine wpStill_nil ?_
        by_cases hpq : p0 = q0
        rotate_left
        · have hpb : (p0 == q0) = false := by simpa using hpq
          go_wp2
          go_ret
          refine ⟨?_, ⟨m + 1, hW.out⟩⟩
          have : decide (xs = ys) = false := by
            simp only [decide_eq_false_iff_not]
            rintro rfl
            have h8 := HXK.out.symm.trans HYK.out
            simp at h8
            exact absurd (by first | exact h8 | exact h8.1 | exact h8.2) hpq
          rw [this]; rfl
        subst hpq
        by_cases hpq : p1 = q1
        rotate_left
        · have hpb : (p1 == q1) = false := by simpa using hpq
          go_wp2
          go_ret
          refine ⟨?_, ⟨m + 1, hW.out⟩⟩
          have : decide (xs = ys) = false := by
            simp only [decide_eq_false_iff_not]
            rintro rfl
            have h8 := HXK.out.symm.trans HYK.out
            simp at h8
            exact absurd (by first | exact h8 | exact h8.1 | exact h8.2) hpq
          rw [this]; rfl
        subst hpq
        go_wp2
        go_roundw
        case rel => exact ⟨k + 1, m + 1, by omega, by go_num, Lib.hid (by rw [HS1.out, HS2.out, HT.out]), hW.out⟩
        case measure => simp [intOf]; omega
      · go_wp2
        go_ret
        obtain rfl : k = xs.length := by omega
        refine ⟨?_, ⟨m, rfl⟩⟩
        have : decide (xs = ys) = true := by
          simp only [decide_eq_true_eq]
          have := HT.out
          rw [List.take_of_length_le (Nat.le_refl _), HL.out, List.take_of_length_le (Nat.le_refl _)] at this
          exact this
        rw [this]; rfl
theorem Acts_any (u v : Value) (xs ys : List Ac) (w : World) (hu : Reads w 2 u xs.length (xs.flatMap Ac.cells)) (hv : Reads w 2 v ys.length (ys.flatMap Ac.cells)) (hx : xs.length ≤ 1000000) (hy : ys.length ≤ 1000000) :
    Calls Tryd.prog 21 #[u, v] w fun e w' => e = .returned (.bool (decide (xs = ys))) ∧ Go.Proofs.YtldbaommeflooaaDoor.kit.Quiet w w' := by
  obtain ⟨ua, uc, rfl, _⟩ := reads_slice hu
  obtain ⟨va, vc, rfl, _⟩ := reads_slice hv
  obtain ⟨b1, o1, ix1, cx1, _⟩ := reads_index (P := Tryd.prog) Tryd.underlying22 szAct hu
  obtain ⟨b2, o2, ix2, cx2, _⟩ := reads_index (P := Tryd.prog) Tryd.underlying22 szAct hv
  have hx1 : (xs.length : Int) ≤ 1000000 := by omega
  have hy1 : (ys.length : Int) ≤ 1000000 := by omega
  have CX1 := Lib.hid cx1
  have CX2 := Lib.hid cx2
  have IX1 := Lib.hid ix1
  have IX2 := Lib.hid ix2
  clear hx hy cx1 cx2 ix1 ix2 hu hv
  by_cases hl : xs.length = ys.length
  case neg =>
    have hf : decide (xs = ys) = false := by simp only [decide_eq_false_iff_not]; rintro rfl; exact hl rfl
    rw [hf]
    have hl2 : (xs.length : Int) ≠ (ys.length : Int) := by omega
    clear hf
    go_enter Tryd.func21, Tryd.ntmps21
    go_wp2
    go_ret
    exact ⟨rfl, ⟨0, rfl⟩⟩
  case pos =>
    have HL := Lib.hid hl
    go_enter Tryd.func21, Tryd.ntmps21
    rw [← hl]
    clear hl
    go_wp2
    go_loopw [5, 13] (fun _ i wr => ∃ k m : Nat, k ≤ xs.length ∧ i = .int .i64 k ∧ Hid (xs.take k = ys.take k) ∧ wr = w.drewN m) (fun _ i _ => xs.length - (intOf i).toNat)
    case atStart => exact ⟨0, 0, Nat.zero_le _, rfl, Lib.hid (by simp), rfl⟩
    case round =>
      obtain ⟨k, m, hk, rfl, HT, rfl⟩ := hrel
      by_cases hlt : k < xs.length
      · have hlt2 : k < ys.length := by have := HL.out; omega
        have i1 := IX1.out k hlt
        have i2 := IX2.out k hlt2
        rw [← HL.out] at i2
        obtain ⟨p, hp⟩ : ∃ p, xs[k]? = some p := ⟨_, List.getElem?_eq_getElem hlt⟩
        obtain ⟨q, hq⟩ : ∃ q, ys[k]? = some q := ⟨_, List.getElem?_eq_getElem hlt2⟩
        obtain ⟨p0, p1⟩ := p
        obtain ⟨q0, q1⟩ := q
        have e0 : (w.drewN m).cell? ⟨b1, o1 + k * 2, none⟩ = some (.int .i64 p0) := by have h9 := CX1.out (k * 2 + 0) _ (by rw [flatMap_get Ac.cells 2 (fun _ => rfl) xs k 0 (by decide) _ hp]; rfl); rwa [Nat.add_zero] at h9
        have g0 : (w.drewN m).cell? ⟨b2, o2 + k * 2, none⟩ = some (.int .i64 q0) := by have h9 := CX2.out (k * 2 + 0) _ (by rw [flatMap_get Ac.cells 2 (fun _ => rfl) ys k 0 (by decide) _ hq]; rfl); rwa [Nat.add_zero] at h9
        have e1 : (w.drewN m).cell? ⟨b1, o1 + k * 2 + 1, none⟩ = some (.int .i64 p1) := by have h9 := CX1.out (k * 2 + 1) _ (by rw [flatMap_get Ac.cells 2 (fun _ => rfl) xs k 1 (by decide) _ hp]; rfl); rwa [← Nat.add_assoc] at h9
        have g1 : (w.drewN m).cell? ⟨b2, o2 + k * 2 + 1, none⟩ = some (.int .i64 q1) := by have h9 := CX2.out (k * 2 + 1) _ (by rw [flatMap_get Ac.cells 2 (fun _ => rfl) ys k 1 (by decide) _ hq]; rfl); rwa [← Nat.add_assoc] at h9
        have HS1 := Lib.hid (show xs.take (k + 1) = xs.take k ++ [(⟨p0, p1⟩ : Ac)] by rw [List.take_add_one, hp]; rfl)
        have HS2 := Lib.hid (show ys.take (k + 1) = ys.take k ++ [(⟨q0, q1⟩ : Ac)] by rw [List.take_add_one, hq]; rfl)
        have HXK := Lib.hid hp
        have HYK := Lib.hid hq
        clear hp hq hlt2
        have D0 := Lib.hid (fun W (h : Hid (W = (w.drewN m).drew)) => (by rw [h.out]; exact e0 : W.cell? ⟨b1, o1 + k * 2, none⟩ = some (.int .i64 p0)))
        have G0 := Lib.hid (fun W (h : Hid (W = (w.drewN m).drew)) => (by rw [h.out]; exact g0 : W.cell? ⟨b2, o2 + k * 2, none⟩ = some (.int .i64 q0)))
        have D1 := Lib.hid (fun W (h : Hid (W = (w.drewN m).drew)) => (by rw [h.out]; exact e1 : W.cell? ⟨b1, o1 + k * 2 + 1, none⟩ = some (.int .i64 p1)))
        have G1 := Lib.hid (fun W (h : Hid (W = (w.drewN m).drew)) => (by rw [h.out]; exact g1 : W.cell? ⟨b2, o2 + k * 2 + 1, none⟩ = some (.int .i64 q1)))
        clear e0 g0 e1 g1
        go_wp2_with fail
        refine wp_region_tail 8 (by kernel_rfl) (by kernel_rfl) ?_
        intro W hW
        have x0 := D0.out W hW
        have y0 := G0.out W hW
        have x1 := D1.out W hW
        have y1 := G1.out W hW
        simp only [List.take_succ_cons, List.take_zero, List.drop_succ_cons, List.drop_zero]
        repeat still_step
        refine wpStill_nil ?_
        by_cases hpq : p0 = q0
        rotate_left
        · have hpb : (p0 == q0) = false := by simpa using hpq
          go_wp2
          go_ret
          refine ⟨?_, ⟨m + 1, hW.out⟩⟩
          have : decide (xs = ys) = false := by
            simp only [decide_eq_false_iff_not]
            rintro rfl
            have h8 := HXK.out.symm.trans HYK.out
            simp at h8
            exact absurd (by first | exact h8 | exact h8.1 | exact h8.2) hpq
          rw [this]; rfl
        subst hpq
        by_cases hpq : p1 = q1
        rotate_left
        · have hpb : (p1 == q1) = false := by simpa using hpq
          go_wp2
          go_ret
          refine ⟨?_, ⟨m + 1, hW.out⟩⟩
          have : decide (xs = ys) = false := by
            simp only [decide_eq_false_iff_not]
            rintro rfl
            have h8 := HXK.out.symm.trans HYK.out
            simp at h8
            exact absurd (by first | exact h8 | exact h8.1 | exact h8.2) hpq
          rw [this]; rfl
        subst hpq
        go_wp2
        go_roundw
        case rel => exact ⟨k + 1, m + 1, by omega, by go_num, Lib.hid (by rw [HS1.out, HS2.out, HT.out]), hW.out⟩
        case measure => simp [intOf]; omega
      · go_wp2
        go_ret
        obtain rfl : k = xs.length := by omega
        refine ⟨?_, ⟨m, rfl⟩⟩
        have : decide (xs = ys) = true := by
          simp only [decide_eq_true_eq]
          have := HT.out
          rw [List.take_of_length_le (Nat.le_refl _), HL.out, List.take_of_length_le (Nat.le_refl _)] at this
          exact this
        rw [this]; rfl
end Go.Proofs.YtldbaommeflooaaDoor.scr
