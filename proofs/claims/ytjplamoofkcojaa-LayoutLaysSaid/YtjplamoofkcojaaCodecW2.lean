/- Package codec and its reference: laying numbers as bytes. -/
import Derived.Test.YtjplamoofkcojaaCodecW1
namespace Go.Proofs.Ytjplamoofkcojaa.codec
open Go Go.RowKit Go.Proofs.Ytjplamoofkcojaa.kit
set_option linter.unusedVariables false
set_option linter.unusedSimpArgs false

/-- the first n bytes of a word, the least first -/
def leB (W : Int) : Nat → List Int
  | 0 => []
  | n + 1 => leB W n ++ [W / 256 ^ n % 256]
theorem leB_length (W : Int) (n : Nat) : (leB W n).length = n := by
  induction n with
  | zero => rfl
  | succ n ih => simp [leB, ih]
theorem leB_wf (W : Int) (n : Nat) : ∀ x ∈ leB W n, (Lit.int .u8 x).wf = true := by
  induction n with
  | zero => intro x hx; simp [leB] at hx
  | succ n ih =>
    intro x hx
    simp only [leB, List.mem_append, List.mem_singleton] at hx
    rcases hx with hx | rfl
    · exact ih x hx
    · have h1 := Int.emod_nonneg (W / 256 ^ n) (show (256 : Int) ≠ 0 by decide)
      have h2 := Int.emod_lt_of_pos (W / 256 ^ n) (show (0 : Int) < 256 by decide)
      simp [Lit.wf, IntKind.min, IntKind.max, IntKind.signed, IntKind.bits]; omega

/-- a row of bytes of the call's own -/
def OwnB (w : World) (B : Nat) (v : Value) (zs : List Int) : Prop := w.ownsRow B 5 1 v zs.length (zs.map (Value.int .u8))

theorem pow_next (W : Int) (k : Nat) : W / 256 ^ k / 256 = W / 256 ^ (k + 1) := by
  rw [Int.ediv_ediv_of_nonneg (Int.pow_nonneg (by decide)), ← Int.pow_succ]

theorem pow_bd {W : Int} (h0 : 0 ≤ W) (h1 : W ≤ 4294967295) (k : Nat) : 0 ≤ W / 256 ^ k ∧ W / 256 ^ k ≤ 4294967295 :=
  ⟨Int.ediv_nonneg h0 (Int.pow_nonneg (by decide)), Int.le_trans (Int.ediv_le_self _ h0) h1⟩

end Go.Proofs.Ytjplamoofkcojaa.codec
