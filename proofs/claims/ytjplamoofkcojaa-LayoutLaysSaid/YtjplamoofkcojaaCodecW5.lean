/- Package codec: laying numbers; the chapter's example. -/
import Derived.Test.YtjplamoofkcojaaCodecW4
namespace Go.Proofs.Ytjplamoofkcojaa.codec
open Go Go.RowKit Go.Proofs.Ytjplamoofkcojaa.kit
set_option linter.unusedVariables false
set_option linter.unusedSimpArgs false

theorem OwnB.reads {w : World} {B : Nat} {v : Value} {zs : List Int} (h : OwnB w B v zs) (hw : ∀ n ∈ zs, (Lit.int .u8 n).wf = true) : ReadsB w v zs := ⟨Reads.of_own h (by decide), hw⟩
theorem ReadsB.chg {w w' : World} {v : Value} {zs : List Int} (h : ReadsB w v zs) (k : Chg [] w w') : ReadsB w' v zs := ⟨h.1.fresh k, h.2⟩
theorem wf_append {xs ys : List Int} (hx : ∀ n ∈ xs, (Lit.int .u8 n).wf = true) (hy : ∀ n ∈ ys, (Lit.int .u8 n).wf = true) : ∀ n ∈ xs ++ ys, (Lit.int .u8 n).wf = true :=
  fun n hn => (List.mem_append.1 hn).elim (hx n) (hy n)
theorem ReadsB.nil (w : World) : ReadsB w (.slice none 0 0) [] := ⟨Reads.nil w 1, by simp⟩

theorem u32_of (n : Int) : 0 ≤ n % 4294967296 ∧ n % 4294967296 ≤ 4294967295 := by omega

theorem numL_leB (W : Int) (n : Nat) : numL (leB W n) = W % 256 ^ n := by
  induction n with
  | zero => simp [leB, numL, Int.emod_one]
  | succ n ih =>
    rw [leB, numL_snoc, ih, leB_length, Int.pow_succ]
    have h := Int.emod_emod_of_dvd W (show (256 : Int) ^ n ∣ 256 ^ n * 256 from ⟨256, rfl⟩)
    have hp : (0 : Int) < 256 ^ n := Int.pow_pos (by decide)
    have h1 := Int.mul_ediv_add_emod (W % (256 ^ n * 256)) (256 ^ n)
    rw [h] at h1
    have h2 : W % (256 ^ n * 256) / 256 ^ n = W / 256 ^ n % 256 := by
      rw [Int.emod_def, Int.emod_def, Int.ediv_ediv_of_nonneg (Int.le_of_lt hp)]
      rw [show W - 256 ^ n * 256 * (W / (256 ^ n * 256)) = W + 256 ^ n * (-(256 * (W / (256 ^ n * 256)))) by rw [Int.mul_assoc, Int.mul_neg, Int.sub_eq_add_neg]]
      rw [Int.add_mul_ediv_left _ _ (by omega)]
      omega
    rw [h2] at h1
    rw [← h1, Int.mul_comm]; omega

end Go.Proofs.Ytjplamoofkcojaa.codec
