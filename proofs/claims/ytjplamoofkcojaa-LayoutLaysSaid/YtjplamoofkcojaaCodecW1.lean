/- Package codec, its reference and plain.Bytes: the walks, part 1. -/
import Derived.Test.YtjplamoofkcojaaProg
import Derived.Test.YtjplamoofkcojaaKit
namespace Go.Proofs.Ytjplamoofkcojaa.codec
open Go Go.RowKit Go.Proofs.Ytjplamoofkcojaa.kit
set_option linter.unusedVariables false
set_option linter.unusedSimpArgs false

theorem info5 : (Try.prog.info? 5).map (fun i => (i.zero, i.size, i.bytes)) = some (some (.int .u8 0), 1, 1) := by kernel_rfl

/-- a row of bytes, read as numbers -/
def ReadsB (w : World) (v : Value) (zs : List Int) : Prop := Reads w 1 v zs.length (zs.map (Value.int .u8)) ∧ ∀ n ∈ zs, (Lit.int .u8 n).wf = true

end Go.Proofs.Ytjplamoofkcojaa.codec
