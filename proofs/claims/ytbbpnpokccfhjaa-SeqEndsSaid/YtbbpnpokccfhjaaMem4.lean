/- Package mem: Clone; plain.Words; the law's same. -/
import Derived.Test.YtbbpnpokccfhjaaMem3
namespace Go.Proofs.Ytbbpnpokccfhjaa.mem
open Go Go.RowKit Go.Proofs.Ytbbpnpokccfhjaa.kit
set_option linter.unusedVariables false
set_option maxRecDepth 20000

theorem Clone_ok (b : Nat) (sv : Value) (ws : List Int) (n : Int) (w : World) (h : MemAt w b sv ws n) :
    Calls Try.prog 48 #[.pointer (some ⟨b, 0, none⟩)] w fun e w' => ∃ b' sv', e = .returned (.pointer (some ⟨b', 0, none⟩)) ∧ MemAt w' b' sv' ws n ∧ Chg [] w w' ∧ w.heap.size ≤ b' ∧ ∀ k, sv'.ownBlock = some k → w.heap.size ≤ k := by
  obtain ⟨a, c, rfl, _⟩ := h.slice
  have c0 : w.cell? ⟨b, 0, none⟩ = some (.slice a ws.length c) := h.box.cell rfl
  have c1 : w.cell? ⟨b, 1, none⟩ = some (.int .i64 n) := h.box.cell rfl
  have hbl := h.box.lt
  have HB := Lib.hid hbl
  have HR := Lib.hid (show ReadsW w (.slice a ws.length c) ws from ⟨h.reads.1, h.wf⟩)
  have HZ := Lib.hid (show ws.length ≤ 1000000 by have := h.short; omega)
  have H := Lib.hid h
  clear h hbl
  go_enter Try.func48, Try.ntmps48
  go_wp2_with fail
  go_region_with (go_at_call 84; refine (Clone_words _ _ _ ⟨HR.out.1.drewN _, HR.out.2⟩ HZ.out).mono ?_; rintro e w1 ⟨v1, rfl, hown1, hc1⟩; obtain ⟨a1, cc1, rfl, _⟩ := reads_slice (Reads.of_own hown1 (by decide)); have d0 := hc1.keep (((Chg.refl [] w).drewN _).keep c0 (by simp)) (by simp); have d1 := hc1.keep (((Chg.refl [] w).drewN _).keep c1 (by simp)) (by simp); have HO1 := Lib.hid hown1; have HC1 := Lib.hid hc1; clear hown1 hc1)
  all_goals (
    go_wp2
    go_ret
    have hc : Chg [] w w1 := ((Chg.refl [] w).drewN _).trans HC1.out
    have hsz : w.heap.size ≤ w1.heap.size := hc.size
    have ho : OwnW w1 w.heap.size (.slice a1 ws.length cc1) ws := HO1.out
    refine ⟨_, _, rfl, ⟨Blk.new w1 _ _, own_base (World.ownsRow.alloc ho _) (Nat.zero_le _), fun k hk => ?_, H.out.wf, H.out.short⟩, hc.alloc _, hsz, fun k hk => (World.ownsRow.lt ho k hk).1⟩
    exact Nat.ne_of_lt (World.ownsRow.lt ho k hk).2)

def wordsB (xs ys : List Int) : Bool := decide (xs = ys)
theorem Words_any (u v : Value) (xs ys : List Int) (w : World) (hu : ReadsW w u xs) (hv : ReadsW w v ys) (hx : xs.length ≤ 1000000) (hy : ys.length ≤ 1000000) :
    Calls Try.prog 21 #[u, v] w fun e w' => e = .returned (.bool (wordsB xs ys)) ∧ Quiet w w' := by
  obtain ⟨ua, uc, rfl, _⟩ := reads_slice hu.1
  obtain ⟨va, vc, rfl, _⟩ := reads_slice hv.1
  obtain ⟨b1, o1, ix1, cx1, _⟩ := reads_index (P := Try.prog) Try.underlying23 sz32 hu.1
  obtain ⟨b2, o2, ix2, cx2, _⟩ := reads_index (P := Try.prog) Try.underlying23 sz32 hv.1
  have hx1 : (xs.length : Int) ≤ 1000000 := by omega
  have hy1 : (ys.length : Int) ≤ 1000000 := by omega
  have CX1 := Lib.hid cx1
  have CX2 := Lib.hid cx2
  have IX1 := Lib.hid ix1
  have IX2 := Lib.hid ix2
  clear hx hy cx1 cx2 ix1 ix2 hu hv
  by_cases hl : xs.length = ys.length
  case neg =>
    have hf : wordsB xs ys = false := by simp only [wordsB, decide_eq_false_iff_not]; rintro rfl; exact hl rfl
    rw [hf]
    have hl2 : (xs.length : Int) ≠ (ys.length : Int) := by omega
    clear hf
    go_enter Try.func21, Try.ntmps21
    go_wp2
    go_ret
    exact ⟨rfl, ⟨0, rfl⟩⟩
  case pos =>
    have HL := Lib.hid hl
    go_enter Try.func21, Try.ntmps21
    rw [← hl]
    clear hl
    go_wp2
    go_loopw [5, 13] (fun _ i wr => ∃ k m : Nat, k ≤ xs.length ∧ i = .int .i64 k ∧ Hid (xs.take k = ys.take k) ∧ wr = w.drewN m) (fun _ i _ => xs.length - (intOf i).toNat)
    case atStart => exact ⟨0, 0, Nat.zero_le _, rfl, Lib.hid (by simp), rfl⟩
    case round =>
      obtain ⟨k, m, hk, rfl, HT, rfl⟩ := hrel
      by_cases hlt : k < xs.length
      · have hlt2 : k < ys.length := by have := HL.out; omega
        have i1 := IX1.out k hlt
        have i2 := IX2.out k hlt2
        rw [← HL.out] at i2
        obtain ⟨p, hp⟩ : ∃ p, xs[k]? = some p := ⟨_, List.getElem?_eq_getElem hlt⟩
        obtain ⟨q, hq⟩ : ∃ q, ys[k]? = some q := ⟨_, List.getElem?_eq_getElem hlt2⟩
        have e1 : (w.drewN m).cell? ⟨b1, o1 + k * 1, none⟩ = some (.int .u32 p) := CX1.out (k * 1) _ (by simp [hp])
        have e2 : (w.drewN m).cell? ⟨b2, o2 + k * 1, none⟩ = some (.int .u32 q) := CX2.out (k * 1) _ (by simp [hq])
        have e1' : (w.drewN m).drew.cell? ⟨b1, o1 + k * 1, none⟩ = some (.int .u32 p) := e1
        have e2' : (w.drewN m).drew.cell? ⟨b2, o2 + k * 1, none⟩ = some (.int .u32 q) := e2
        have HS1 := Lib.hid (show xs.take (k + 1) = xs.take k ++ [p] by rw [List.take_add_one, hp]; rfl)
        have HS2 := Lib.hid (show ys.take (k + 1) = ys.take k ++ [q] by rw [List.take_add_one, hq]; rfl)
        have HXK := Lib.hid hp
        have HYK := Lib.hid hq
        clear hp hq hlt2
        have d1 : ∀ W, Hid (W = (w.drewN m).drew) → W.cell? ⟨b1, o1 + k, none⟩ = some (.int .u32 p) := fun W h => by rw [h.out]; rw [Nat.mul_one] at e1; exact e1
        have d2 : ∀ W, Hid (W = (w.drewN m).drew) → W.cell? ⟨b2, o2 + k, none⟩ = some (.int .u32 q) := fun W h => by rw [h.out]; rw [Nat.mul_one] at e2; exact e2
        have D1 := Lib.hid d1
        have D2 := Lib.hid d2
        clear e1 e2 e1' e2' d1 d2
        go_wp2_with fail
        refine wp_region_tail 8 (by kernel_rfl) (by kernel_rfl) ?_
        intro W hW
        have f1 := D1.out W hW
        have f2 := D2.out W hW
        simp only [List.take_succ_cons, List.take_zero, List.drop_succ_cons, List.drop_zero]
        repeat still_step
        refine wpStill_nil ?_
        by_cases hpq : p = q
        · subst hpq
          go_wp2
          go_roundw
          case rel => exact ⟨k + 1, m + 1, by omega, by go_num, Lib.hid (by rw [HS1.out, HS2.out, HT.out]), hW.out⟩
          case measure => simp [intOf]; omega
        · go_wp2
          go_ret
          refine ⟨?_, ⟨m + 1, hW.out⟩⟩
          have : wordsB xs ys = false := by
            simp only [wordsB, decide_eq_false_iff_not]
            rintro rfl
            have := HXK.out.symm.trans HYK.out
            simp at this
            exact hpq this
          rw [this]; rfl
      · go_wp2
        go_ret
        obtain rfl : k = xs.length := by omega
        refine ⟨?_, ⟨m, rfl⟩⟩
        have : wordsB xs ys = true := by
          simp only [wordsB, decide_eq_true_eq]
          have := HT.out
          rw [List.take_of_length_le (Nat.le_refl _), HL.out, List.take_of_length_le (Nat.le_refl _)] at this
          exact this
        rw [this]; rfl

end Go.Proofs.Ytbbpnpokccfhjaa.mem
