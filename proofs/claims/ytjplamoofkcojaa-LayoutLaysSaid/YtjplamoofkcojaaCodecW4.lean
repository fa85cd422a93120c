/- Package codec: a reader's methods, walked. -/
import Derived.Test.YtjplamoofkcojaaCodecW3
namespace Go.Proofs.Ytjplamoofkcojaa.codec
open Go Go.RowKit Go.Proofs.Ytjplamoofkcojaa.kit
set_option linter.unusedVariables false
set_option linter.unusedSimpArgs false

/-- bytes as a number, the least first -/
def numL : List Int → Int
  | [] => 0
  | x :: r => x + 256 * numL r
theorem numL_snoc (l : List Int) (x : Int) : numL (l ++ [x]) = numL l + x * 256 ^ l.length := by
  induction l with
  | nil => simp [numL]
  | cons y r ih => simp only [List.cons_append, numL, ih, List.length_cons, Int.pow_succ, Int.mul_add]; rw [Int.add_assoc, ← Int.mul_assoc, Int.mul_comm 256 x, Int.mul_assoc, Int.mul_comm 256, Int.mul_comm 256 (256 ^ _)]
theorem numL_bd (l : List Int) (h : ∀ x ∈ l, (Lit.int .u8 x).wf = true) : 0 ≤ numL l ∧ numL l < 256 ^ l.length := by
  induction l with
  | nil => simp [numL]
  | cons y r ih =>
    have h1 := ih fun x hx => h x (by simp [hx])
    have h2 := h y (by simp)
    simp [Lit.wf, IntKind.min, IntKind.max, IntKind.signed, IntKind.bits] at h2
    simp only [numL, List.length_cons, Int.pow_succ]
    omega

theorem or_lay (A x : Int) (k : Nat) (hk : k < 4) (hA0 : 0 ≤ A) (hA : A < 256 ^ k) (hx0 : 0 ≤ x) (hx : x < 256) :
    bits .or .u32 A (x % 4294967296 * 2 ^ (8 * k) % 4294967296) = A + x * 256 ^ k := by
  have key : ∀ (i : Nat) (p : Int), p = ((2 ^ i : Nat) : Int) → A < p → A < 4294967296 → x * p < 4294967296 → bits .or .u32 A (x * p) = A + x * p := by
    intro i p hp hAp hA2 hxp
    obtain ⟨a, rfl⟩ := Int.eq_ofNat_of_zero_le hA0
    obtain ⟨y, rfl⟩ := Int.eq_ofNat_of_zero_le hx0
    subst hp
    have h1 : a < 2 ^ i := by omega
    have h2 : y * 2 ^ i < 4294967296 := by
      have : ((y * 2 ^ i : Nat) : Int) < 4294967296 := by rw [Int.natCast_mul]; exact hxp
      omega
    rw [show (y : Int) * ((2 ^ i : Nat) : Int) = ((y * 2 ^ i : Nat) : Int) from (Int.natCast_mul _ _).symm]
    rw [u32_or_nat a _ (by omega) h2]
    rw [Nat.or_comm, Nat.mul_comm y, ← Nat.two_pow_add_eq_or_of_lt h1 y]
    omega
  match k, hk with
  | 0, _ =>
    have e : x % 4294967296 * 2 ^ (8 * 0) % 4294967296 = x * 1 := by rw [show (2 : Int) ^ (8 * 0) = 1 from by decide]; omega
    have f : (256 : Int) ^ 0 = 1 := by decide
    rw [f] at hA ⊢
    rw [e]; exact key 0 1 (by decide) (by omega) (by omega) (by omega)
  | 1, _ =>
    have e : x % 4294967296 * 2 ^ (8 * 1) % 4294967296 = x * 256 := by rw [show (2 : Int) ^ (8 * 1) = 256 from by decide]; omega
    have f : (256 : Int) ^ 1 = 256 := by decide
    rw [f] at hA ⊢
    rw [e]; exact key 8 256 (by decide) (by omega) (by omega) (by omega)
  | 2, _ =>
    have e : x % 4294967296 * 2 ^ (8 * 2) % 4294967296 = x * 65536 := by rw [show (2 : Int) ^ (8 * 2) = 65536 from by decide]; omega
    have f : (256 : Int) ^ 2 = 65536 := by decide
    rw [f] at hA ⊢
    rw [e]; exact key 16 65536 (by decide) (by omega) (by omega) (by omega)
  | 3, _ =>
    have e : x % 4294967296 * 2 ^ (8 * 3) % 4294967296 = x * 16777216 := by rw [show (2 : Int) ^ (8 * 3) = 16777216 from by decide]; omega
    have f : (256 : Int) ^ 3 = 16777216 := by decide
    rw [f] at hA ⊢
    rw [e]; exact key 24 16777216 (by decide) (by omega) (by omega) (by omega)

end Go.Proofs.Ytjplamoofkcojaa.codec
