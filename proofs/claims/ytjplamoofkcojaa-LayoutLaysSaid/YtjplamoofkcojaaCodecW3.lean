/- Package codec: a reader of bytes: the walks. -/
import Derived.Test.YtjplamoofkcojaaCodecW2
namespace Go.Proofs.Ytjplamoofkcojaa.codec
open Go Go.RowKit Go.Proofs.Ytjplamoofkcojaa.kit
set_option linter.unusedVariables false
set_option linter.unusedSimpArgs false

section
variable {b g : Nat} {zs : List Int} {a : Nat} {bad : Bool} {w : World}
end

theorem wf_piece {zs : List Int} (h : ∀ x ∈ zs, (Lit.int .u8 x).wf = true) (a n : Nat) : ∀ x ∈ (zs.drop a).take n, (Lit.int .u8 x).wf = true :=
  fun x hx => h x (List.mem_of_mem_drop (List.mem_of_mem_take hx))
end Go.Proofs.Ytjplamoofkcojaa.codec
