/- The table of math/bits, and the sets of slots: packages bitmap and math/bits. -/
import Derived.Test.YtkedegbpkkgeaaaGreatProg
import Derived.Test.YtkedegbpkkgeaaaGreatTop1
import Derived.OpenShut
import Derived.FnData
import Derived.LaidMore
import Derived.Lib.TrailingZeros
import Derived.Laws.Bits64b
import Derived.BigQuiet
namespace Go.Proofs.YtkedegbpkkgeaaaGreat.bitm
open Go Go.RowKit Go.Proofs.YtkedegbpkkgeaaaGreat.kit
set_option linter.unusedVariables false
set_option linter.unusedSimpArgs false
set_option maxRecDepth 20000

/-- math/bits' table lies where it was laid -/
def Tab (w : World) : Prop := ∀ j, j < 64 → w.cell? ⟨0, j, none⟩ = some (.int .u8 (Lib.deBruijn64tab.getD j 0))
theorem Tab.keep {W W' : World} (h : Tab W) (hc : Chg [] W W') : Tab W' := fun j hj => hc.keep (h j hj) (by simp)
theorem Tab.pos {W : World} (h : Tab W) : 0 < W.heap.size := by
  have h0 := h 0 (by decide)
  rcases Nat.eq_zero_or_pos W.heap.size with he | he
  · have : W.heap = #[] := Array.eq_empty_of_size_eq_zero he
    simp [World.cell?, this] at h0
  · exact he
/-- the set of some slots -/
def bitsOf (l : List Nat) : Nat := l.foldr (fun i a => a ||| 2 ^ i) 0
theorem bitsOf_bit (n : Nat) : ∀ l : List Nat, Nat.testBit (bitsOf l) n = true → n ∈ l
  | [], h => by simp [bitsOf] at h
  | i :: l, h => by
    simp only [bitsOf, List.foldr_cons, Nat.testBit_or, Bool.or_eq_true, Nat.testBit_two_pow, decide_eq_true_eq] at h
    rcases h with h | h
    · exact List.mem_cons_of_mem _ (bitsOf_bit n l h)
    · simp [h]
theorem bitsOf_lt : ∀ l : List Nat, (∀ n ∈ l, n ≤ 20) → bitsOf l < 2 ^ 21
  | [], _ => by decide
  | i :: l, h => by
    simp only [bitsOf, List.foldr_cons]
    exact Nat.or_lt_two_pow (bitsOf_lt l fun n hn => h n (List.mem_cons_of_mem _ hn)) (Nat.pow_lt_pow_right (by decide) (by have := h i (by simp); omega))
theorem range_short : ∀ (f : Nat) (l : List Nat), (∀ n, n < f → n ∈ l) → f ≤ l.length
  | 0, _, _ => Nat.zero_le _
  | f + 1, l, h => by
    have h1 := h f (Nat.lt_succ_self f)
    have h2 := range_short f (l.erase f) fun n hn => (List.mem_erase_of_ne (by omega)).2 (h n (by omega))
    rw [List.length_erase_of_mem h1] at h2
    have h3 : 0 < l.length := List.length_pos_of_mem h1
    omega
theorem ctz_free (l : List Nat) (h : ∀ n ∈ l, n ≤ 20) : Lib.ctz 64 (18446744073709551615 - bitsOf l) ≤ l.length := by
  have hlt := bitsOf_lt l h
  have h21 : (2 : Nat) ^ 21 = 2097152 := by decide
  generalize hx : 18446744073709551615 - bitsOf l = x
  have hx0 : 0 < x := by omega
  obtain ⟨m, hm, _⟩ := Lib.ctzFrom_spec 64 x hx0 (by rw [show (2 : Nat) ^ 64 = 18446744073709551616 from by decide]; omega)
  have hc : Lib.ctz 64 x = Lib.ctzFrom 64 x := by unfold Lib.ctz; rw [if_neg (by omega)]
  rw [hc]
  refine range_short _ _ fun n hn => bitsOf_bit n l ?_
  have hn64 : n < 64 := by omega
  have e1 : Nat.testBit x n = false := by
    rw [hm, Nat.testBit_two_pow_mul]
    simp; omega
  have e2 : x = 2 ^ 64 - (bitsOf l + 1) := by
    have : (2 : Nat) ^ 64 = 18446744073709551616 := by decide
    omega
  rw [e2, Nat.testBit_two_pow_sub_succ (by rw [show (2 : Nat) ^ 64 = 18446744073709551616 from by decide]; omega)] at e1
  simpa [hn64] using e1
/-- so many slots at most are noted -/
def Marks (u : Int) (k : Int) : Prop := ∃ l : List Nat, u = (bitsOf l : Int) ∧ (l.length : Int) ≤ k ∧ ∀ n ∈ l, n ≤ 20
def markU (u s : Int) : Int := ((u.toNat ||| 2 ^ (min s 20).toNat : Nat) : Int)
def freeU (u : Int) : Int := (Lib.ctz 64 (18446744073709551615 - u.toNat) : Nat)
theorem Marks.zero : Marks 0 0 := ⟨[], rfl, by simp, by simp⟩
theorem Marks.more {u k k' : Int} (h : Marks u k) (hk : k ≤ k') : Marks u k' := by obtain ⟨l, h1, h2, h3⟩ := h; exact ⟨l, h1, by omega, h3⟩
theorem Marks.mark {u k s : Int} (h : Marks u k) (hs : 0 ≤ s) : Marks (markU u s) (k + 1) := by
  obtain ⟨l, rfl, h2, h3⟩ := h
  refine ⟨(min s 20).toNat :: l, ?_, by simp; omega, fun n hn => ?_⟩
  · simp [markU, bitsOf]
  · rcases List.mem_cons.1 hn with rfl | hn
    · omega
    · exact h3 n hn
theorem Marks.free {u k : Int} (h : Marks u k) : 0 ≤ freeU u ∧ freeU u ≤ k := by
  obtain ⟨l, rfl, h2, h3⟩ := h
  have := ctz_free l h3
  simp only [freeU, Int.toNat_natCast]
  omega
end Go.Proofs.YtkedegbpkkgeaaaGreat.bitm
