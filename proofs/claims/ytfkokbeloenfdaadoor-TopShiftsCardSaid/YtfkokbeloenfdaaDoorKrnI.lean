/- The kernel: bitmap.List, Has, Drop. -/
import Derived.Test.YtfkokbeloenfdaaDoorKrnH
import Derived.Laws.BitsAllLaws
namespace Go.Proofs.YtfkokbeloenfdaaDoor.krn
open Go Go.RowKit Go.Proofs.YtfkokbeloenfdaaDoor.kit Go.Shelf
set_option linter.unusedVariables false
set_option linter.unusedSimpArgs false
set_option maxRecDepth 20000
theorem bitsM_le (m : Nat) : (bitsM m).length ≤ m := by
  induction m using Nat.strongRecOn with
  | ind m ih =>
    by_cases hm : m = 0
    · subst hm; rw [bitsM_zero]; simp
    · rw [bitsM_pos hm]
      have h1 : m &&& (m - 1) ≤ m - 1 := Nat.and_le_right
      have h2 := ih (m &&& (m - 1)) (by omega)
      simp only [List.length_cons]; omega
theorem bitsM_bit (m : Nat) (h : m < 18446744073709551616) : ∀ i ∈ bitsM m, m.testBit i = true := by
  induction m using Nat.strongRecOn with
  | ind m ih =>
    by_cases hm : m = 0
    · subst hm; rw [bitsM_zero]; simp
    · rw [bitsM_pos hm]
      have h1 : m &&& (m - 1) ≤ m - 1 := Nat.and_le_right
      intro i hi
      rcases List.mem_cons.1 hi with rfl | hi
      · have h2 := (Lib.lowest_bit 64 m hm h).1
        have h3 : (2 ^ Lib.ctz 64 m).testBit (Lib.ctz 64 m) = true := Nat.testBit_two_pow_self
        rw [← h2, Nat.testBit_and, Bool.and_eq_true] at h3
        exact h3.1
      · have h2 := ih (m &&& (m - 1)) (by omega) (by omega) i hi
        rw [Nat.testBit_and, Bool.and_eq_true] at h2
        exact h2.1
theorem bit_lt {m i : Nat} (hm : m < 256) (h : m.testBit i = true) : i < 8 := by
  rcases Nat.lt_or_ge i 8 with h1 | h1
  · exact h1
  · have h2 : m < 2 ^ i := Nat.lt_of_lt_of_le hm (Nat.pow_le_pow_right (by decide) h1 : 2 ^ 8 ≤ 2 ^ i)
    rw [Nat.testBit_lt_two_pow h2] at h
    cases h
set_option maxHeartbeats 1000000 in
theorem List_any (m : Nat) (hm8 : m < 256) (w : World) (hT : bitm.Tab w) :
    Calls Tryd.prog 39 #[.int .u64 (m : Int)] w fun e W' => ∃ v, e = .returned v ∧ OwnN W' w.heap.size v (bitsM m) ∧ Chg [] w W' := by
  have h0 := hT.pos
  have hm : m < 18446744073709551616 := by omega
  have hl := bitsM_le m
  have HCO := Lib.hid (Collect_int 57 #[.pointer (some ⟨w.heap.size, 0, none⟩)] (enters_of Tryd.func57 (by kernel_rfl) rfl)
    [w.heap.size] [w.heap.size, 0] _ _ _ (w.alloc (.cells #[.int .u64 (m : Int)] 82))
    (fun w0 h => all1_ok 4 (by omega) w.heap.size m hm w0 ((Blk.new w _ _).keep h (by simp)) ((hT.keep ((Chg.refl [] w).alloc _)).keep h) (by omega))
    (fun b hb => by simp at hb ⊢; omega) (fun b hb => by simp at hb ⊢; omega)
    (fun xs A B' hS hh hz => hS)
    (fun pre x V hR => by have h1 := hR.length_le; simp at h1; omega))
  clear h0 hl hT hm hm8
  go_enter Tryd.func39, Tryd.ntmps39
  go_wp2_with (first | (go_at_call 44; refine (all_any m _).mono ?_; rintro e w' ⟨rfl, rfl⟩) | (go_at_call 49; refine HCO.out.mono ?_; rintro e w2 ⟨xs, v, rfl, rfl, ho, hc⟩))
  go_ret
  exact ⟨_, rfl, own_mono ho (by simp), (((Chg.refl [] w).alloc _).into hc (by simp))⟩
def dropM (m i : Nat) : Nat := m &&& (18446744073709551615 - 2 ^ i)
theorem pow20 {i : Nat} (hi : i ≤ 20) : 2 ^ i < 18446744073709551616 := Nat.lt_of_le_of_lt (Nat.pow_le_pow_right (by decide) hi) (by decide)
theorem dropM_bit (m i j : Nat) (hi : i ≤ 20) (hm : m < 18446744073709551616) : (dropM m i).testBit j = (m.testBit j && !decide (i = j)) := by
  unfold dropM
  have h1 : 18446744073709551615 - 2 ^ i = 2 ^ 64 - (2 ^ i + 1) := by
    have : (2 : Nat) ^ 64 = 18446744073709551616 := by decide
    omega
  rw [Nat.testBit_and, h1, Nat.testBit_two_pow_sub_succ (by rw [show (2 : Nat) ^ 64 = 18446744073709551616 by decide]; exact pow20 hi)]
  rcases Nat.lt_or_ge j 64 with h2 | h2
  · rw [Nat.testBit_two_pow]
    simp [h2]
  · have h3 : m.testBit j = false := Nat.testBit_lt_two_pow (Nat.lt_of_lt_of_le hm (Nat.le_trans (by decide : 18446744073709551616 ≤ 2 ^ 64) (Nat.pow_le_pow_right (by decide) h2)))
    rw [h3]; simp
theorem dropM_le (m i : Nat) : dropM m i ≤ m := Nat.and_le_left
theorem putM_bit (m i j : Nat) : (m ||| 2 ^ i).testBit j = (m.testBit j || decide (i = j)) := by
  rw [Nat.testBit_or, Nat.testBit_two_pow]
theorem putM_lt {m i : Nat} (hm : m < 256) (hi : i < 8) : m ||| 2 ^ i < 256 := by
  have : m ||| 2 ^ i < 2 ^ 8 := Nat.or_lt_two_pow (by exact hm) (Nat.pow_lt_pow_right (by decide) hi)
  exact this
theorem and_pow (m i : Nat) : m &&& 2 ^ i = if m.testBit i = true then 2 ^ i else 0 := by
  apply Nat.eq_of_testBit_eq
  intro j
  rw [Nat.testBit_and, Nat.testBit_two_pow]
  by_cases h : i = j
  · subst h; cases hb : m.testBit i <;> simp [Nat.testBit_two_pow_self]
  · cases hb : m.testBit i <;> simp [h, Nat.testBit_two_pow]
theorem Has_any (m i : Nat) (hm : m < 18446744073709551616) (hi : i ≤ 20) (w : World) :
    Calls Tryd.prog 45 #[.int .u64 (m : Int), .int .i64 (i : Int)] w fun e w' => e = .returned (.bool (m.testBit i)) ∧ w = w' := by
  have han := bits_and_u64_nat m (2 ^ i) hm (pow20 hi)
  have HPP := Lib.hid (fun V => bitm.bit_any i hi V)
  have hand := and_pow m i
  obtain ⟨R, hR⟩ : ∃ R, m.testBit i = R := ⟨_, rfl⟩
  rw [hR] at hand ⊢
  have hpos : 0 < 2 ^ i := Nat.pow_pos (by decide)
  generalize 2 ^ i = p at *
  generalize m &&& p = q at *
  clear hm hi hR
  cases R with
  | false =>
    obtain rfl : q = 0 := by simpa using hand
    clear hand
    go_enter Tryd.func45, Tryd.ntmps45
    go_wp2_with (go_at_call 59; refine (HPP.out _).mono ?_; rintro e w' ⟨rfl, rfl⟩)
    go_ret
    exact ⟨rfl, rfl⟩
  | true =>
    have hq : q = p := by simpa using hand
    have q1 : ¬ (q : Int) = 0 := by omega
    have q2 : ((q : Int) == 0) = false := by simp; omega
    have q3 : ((q : Int) != 0) = true := by simp; omega
    clear hand hq hpos
    go_enter Tryd.func45, Tryd.ntmps45
    go_wp2_with (go_at_call 59; refine (HPP.out _).mono ?_; rintro e w' ⟨rfl, rfl⟩)
    go_ret
    exact ⟨by simp [q3, q1], rfl⟩
theorem Drop_any (m i : Nat) (hm : m < 18446744073709551616) (hi : i ≤ 20) (w : World) :
    Calls Tryd.prog 60 #[.int .u64 (m : Int), .int .i64 (i : Int)] w fun e w' => e = .returned (.int .u64 (dropM m i : Int)) ∧ w = w' := by
  have han := u64_andNot_nat m (2 ^ i) hm (pow20 hi)
  have HPP := Lib.hid (fun V => bitm.bit_any i hi V)
  obtain ⟨R, hR⟩ : ∃ R, dropM m i = R := ⟨_, rfl⟩
  rw [hR]
  rw [show m &&& (18446744073709551615 - 2 ^ i) = dropM m i from rfl, hR] at han
  generalize 2 ^ i = p at *
  clear hm hi hR
  go_enter Tryd.func60, Tryd.ntmps60
  go_wp2_with (go_at_call 59; refine (HPP.out _).mono ?_; rintro e w' ⟨rfl, rfl⟩)
  go_ret
  exact ⟨rfl, rfl⟩
end Go.Proofs.YtfkokbeloenfdaaDoor.krn
