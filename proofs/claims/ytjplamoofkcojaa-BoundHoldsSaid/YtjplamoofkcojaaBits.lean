/- The set of slots, bit by bit. -/
import Derived.Test.YtjplamoofkcojaaTab
import Derived.Test.YtjplamoofkcojaaRefU
namespace Go.Proofs.Ytjplamoofkcojaa.bitm
open Go Go.RowKit Go.Proofs.Ytjplamoofkcojaa.kit
set_option linter.unusedVariables false
set_option linter.unusedSimpArgs false
set_option maxRecDepth 20000

theorem free_bits {u k : Int} (h : Marks u k) : Nat.testBit u.toNat (freeU u).toNat = false ∧ ∀ j, j < (freeU u).toNat → Nat.testBit u.toNat j = true := by
  obtain ⟨l, rfl, h2, h3⟩ := h
  have hlt := bitsOf_lt l h3
  have h21 : (2 : Nat) ^ 21 = 2097152 := by decide
  have h64 : (2 : Nat) ^ 64 = 18446744073709551616 := by decide
  unfold freeU
  simp only [Int.toNat_natCast]
  generalize bitsOf l = B at *
  have e2 : 18446744073709551615 - B = 2 ^ 64 - (B + 1) := by omega
  obtain ⟨m, hm, hk⟩ := Lib.ctzFrom_spec 64 (18446744073709551615 - B) (by omega) (by omega)
  have hc : Lib.ctz 64 (18446744073709551615 - B) = Lib.ctzFrom 64 (18446744073709551615 - B) := by unfold Lib.ctz; rw [if_neg (by omega)]
  rw [hc]
  have key : ∀ j, j < 64 → Nat.testBit (18446744073709551615 - B) j = !Nat.testBit B j := by
    intro j hj
    rw [e2, Nat.testBit_two_pow_sub_succ (by omega)]
    simp [hj]
  generalize Lib.ctzFrom 64 (18446744073709551615 - B) = f at *
  constructor
  · have h1 := key f hk
    rw [hm, Nat.testBit_two_pow_mul] at h1
    simpa using h1
  · intro j hj
    have h1 := key j (by omega)
    rw [hm, Nat.testBit_two_pow_mul] at h1
    simpa [show ¬ f ≤ j by omega] using h1
theorem mark_bit (u s : Int) (hs : 0 ≤ s) (j : Nat) (hj : j < 20) : Nat.testBit (markU u s).toNat j = (Nat.testBit u.toNat j || decide (s = (j : Int))) := by
  unfold markU
  rw [Int.toNat_natCast, Nat.testBit_or, Nat.testBit_two_pow]
  congr 1
  rw [decide_eq_decide]
  omega
end Go.Proofs.Ytjplamoofkcojaa.bitm
namespace Go.Proofs.Ytjplamoofkcojaa.ref
open Go Go.RowKit Go.Proofs.Ytjplamoofkcojaa.kit
set_option linter.unusedVariables false
/-- the slots that the reference has noted are the program's, and the one that it writes last -/
def Agree (n : Int) (used a : Int) (u : Nat → Bool) : Prop := ∀ j : Nat, (j : Int) < n → u j = (Nat.testBit used.toNat j || decide (a = (j : Int)))
theorem Agree.start {n a : Int} (ha : 0 ≤ a) {used : Int} (hu : bitm.Marks used 0) : Agree n used a (noteU n (fun _ => false) a) := by
  obtain ⟨l, rfl, h2, _⟩ := hu
  have hl : l = [] := by cases l with
    | nil => rfl
    | cons x l => simp at h2; omega
  subst hl
  intro j hj
  rw [noteU_eq n _ a ha j hj]
  simp [bitm.bitsOf]
theorem Agree.note {n used a : Int} {u : Nat → Bool} (h : Agree n used a u) (hn : n ≤ 16) (s : Int) (hs : 0 ≤ s) : Agree n (bitm.markU used s) a (noteU n u s) := by
  intro j hj
  rw [noteU_eq n u s hs j hj, h j hj, bitm.mark_bit used s hs j (by omega)]
  cases Nat.testBit used.toNat j <;> cases decide (a = (j : Int)) <;> cases decide (s = (j : Int)) <;> rfl
theorem Agree.free {n used a k : Int} {u : Nat → Bool} (h : Agree n used a u) (hn : n ≤ 16) (ha : 0 ≤ a) (hm : bitm.Marks used k) (hk : k + 1 < n) :
    ((bitm.freeU (bitm.markU used a)).toNat : Int) = bitm.freeU (bitm.markU used a) ∧ (bitm.freeU (bitm.markU used a)).toNat < 20 ∧ u (bitm.freeU (bitm.markU used a)).toNat = false ∧ ∀ j, j < (bitm.freeU (bitm.markU used a)).toNat → u j = true := by
  have h1 := hm.mark ha
  have h2 := h1.free
  have h3 := bitm.free_bits h1
  generalize hf : (bitm.freeU (bitm.markU used a)).toNat = f at *
  refine ⟨by omega, by omega, ?_, fun j hj => ?_⟩
  · rw [h f (by omega), ← bitm.mark_bit used a ha f (by omega)]; exact h3.1
  · rw [h j (by omega), ← bitm.mark_bit used a ha j (by omega)]; exact h3.2 j hj
end Go.Proofs.Ytjplamoofkcojaa.ref
