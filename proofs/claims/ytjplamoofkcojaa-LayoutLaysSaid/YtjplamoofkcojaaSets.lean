/- Package micro: the slots that are in use; a word that is changed if it is as it was. -/
import Derived.Test.YtjplamoofkcojaaLoad
import Derived.Test.YtjplamoofkcojaaTab
namespace Go.Proofs.Ytjplamoofkcojaa.core
open Go Go.RowKit Go.Proofs.Ytjplamoofkcojaa.kit Go.Proofs.Ytjplamoofkcojaa.mem Go.Proofs.Ytjplamoofkcojaa.rop
set_option linter.unusedVariables false
set_option linter.unusedSimpArgs false
set_option maxRecDepth 20000

/-- the table lies where it was laid, wherever an operation goes on -/
theorem St.tab {T : TypeId} {bx mb : Nat} {sv r0 : Value} {W0 : World} (hT : bitm.Tab W0) (h1 : bx ≠ 0) (h2 : mb ≠ 0) (h3 : sv.ownBlock ≠ some 0) (h4 : r0.ownBlock ≠ some 0) :
    ∀ V x' rec' ws' n', St T bx mb sv W0 r0 V x' rec' ws' n' → bitm.Tab V := by
  rintro V x' rec' ws' n' ⟨v, hp, he⟩ j hj
  refine he.chg.keep (hT j hj) ?_
  simp only [List.mem_cons, List.mem_append, Option.mem_toList, Option.mem_def]
  rintro (h | h | h | h)
  · exact h1 h.symm
  · exact h2 h.symm
  · exact h3 h
  · exact h4 h
/-- a word that is changed if it is as it was -/
def swapL (ws : List Int) (i : Nat) (was now : Int) : List Int := if ws.getD i 0 = was then ws.set i now else ws
theorem swapL_length (ws : List Int) (i : Nat) (was now : Int) : (swapL ws i was now).length = ws.length := by unfold swapL; split <;> simp
end Go.Proofs.Ytjplamoofkcojaa.core
