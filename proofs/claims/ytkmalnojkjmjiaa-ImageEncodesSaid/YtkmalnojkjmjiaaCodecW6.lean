/- The reference's reader of bytes: the walks. -/
import Derived.Test.YtkmalnojkjmjiaaCodecW5
namespace Go.Proofs.Ytkmalnojkjmjiaa.codec
open Go Go.RowKit Go.Proofs.Ytkmalnojkjmjiaa.kit
set_option linter.unusedVariables false
set_option linter.unusedSimpArgs false

theorem sz5 : (Try.prog.info? 5).map (·.size) = some 1 := by kernel_rfl

theorem pow3 (l : Nat) (h : l ≤ 3) : (256 : Int) ^ l ≤ 16777216 := by
  match l, h with
  | 0, _ => decide
  | 1, _ => decide
  | 2, _ => decide
  | 3, _ => decide
theorem wf_u8' {x : Int} (h : (Lit.int .u8 x).wf = true) : 0 ≤ x ∧ x ≤ 255 := by
  simpa [Lit.wf, IntKind.min, IntKind.max, IntKind.signed, IntKind.bits] using h

end Go.Proofs.Ytkmalnojkjmjiaa.codec
