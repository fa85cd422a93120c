/- Package micro: the slots that are in use; a word that is changed if it is as it was. -/
import Derived.Test.YtkedegbpkkgeaaaGreatTop6
import Derived.Test.YtkedegbpkkgeaaaGreatTab
namespace Go.Proofs.YtkedegbpkkgeaaaGreat.core
open Go Go.RowKit Go.Proofs.YtkedegbpkkgeaaaGreat.kit Go.Proofs.YtkedegbpkkgeaaaGreat.mem Go.Proofs.YtkedegbpkkgeaaaGreat.rop
set_option linter.unusedVariables false
set_option linter.unusedSimpArgs false
set_option maxRecDepth 20000

/-- a word that is changed if it is as it was -/
def swapL (ws : List Int) (i : Nat) (was now : Int) : List Int := if ws.getD i 0 = was then ws.set i now else ws
theorem swapL_length (ws : List Int) (i : Nat) (was now : Int) : (swapL ws i was now).length = ws.length := by unfold swapL; split <;> simp
end Go.Proofs.YtkedegbpkkgeaaaGreat.core
