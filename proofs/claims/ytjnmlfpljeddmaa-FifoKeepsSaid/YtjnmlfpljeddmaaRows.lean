/-
  No cell of these rows narrows 'for every input' (looked for: loops, veiled, ifaces, maps, wideKeys, modest, calm, conditions, laid).
  DERIVED. THE GIVEN ROWS OF THIS SEAT. 10 by the template 'for every input the law returns true; each argument reads behind the call as it read before'; 0 by the template 'total and deterministic' (their statements: YtjnmlfpljeddmaaTotals.lean).
  GIVEN WITH THE SEED: the statements are not yours to turn. If you find one false, say at which input.
  Laid BY PROGRAM, IN A SANDBOX (cutbox-rows.mjs): the forced cells as the released guide's own fill.sh prints them over the translation 83a86a7948ac587e… (all of the seat's roots in one cut). By AI agents, Wed Nov 11 2026. No macro, syntax, notation, axiom, sorry.
-/
import Derived.Test.YtjnmlfpljeddmaaChecked
import GoSem.Claim
import GoSem.ClaimJoined
import GoSem.ClaimMapViews
import Derived.JoinedTies
import Derived.KernelRfl
namespace Go.Proofs.Ytjnmlfpljeddmaa
/- THE CELL 'sum', in the pinned program and in every row, IS THE sha256 OF THE DUMP (.gsa) THAT YtjnmlfpljeddmaaProg.lean LOADS. Nothing in Lean hashes anything: it is a label: what it is worth is what the hold of that sum in a sandbox is worth. -/
noncomputable def Try.pinned : Pinned := { name := "ytjnmlfpljeddmaa", sum := "83a86a7948ac587ec99fa9e15eb372f29acb23d135e68dde976136c2e7bf2880", checked := Try.checked }
namespace Rows
def none {H : Type} : Left H := { results := [], args := [] }

/-- 'coxswainlaw19.FifoShapes': WHATEVER THE INPUT: true; the input reads as it did. -/
def fifoShapesSpec : ChangeSpec := { name := "fifoShapes", fn := fun _ => fun
  | [d1, d2] => { results := [.lit (.bool true)], args := [d1, d2] }
  | _ => none }
def fifoShapesRow : OpenClaim := { program := "ytjnmlfpljeddmaa", sum := "83a86a7948ac587ec99fa9e15eb372f29acb23d135e68dde976136c2e7bf2880", func := "coxswain/coxswainlaw19.FifoShapes", spec := "fifoShapes", apart := false }
def FifoShapesSaid : Prop := fifoShapesRow.holds Try.pinned (OpenSpec.ofChange fifoShapesSpec)

/-- ITS FALSE NEIGHBOUR: 'it returns false'. Refute it at one input. -/
def fifoShapesWrong : ChangeSpec := { name := "fifoShapes", fn := fun _ => fun
  | [d1, d2] => { results := [.lit (.bool false)], args := [d1, d2] }
  | _ => none }
def FifoShapesWrongFalsely : Prop := fifoShapesRow.holds Try.pinned (OpenSpec.ofChange fifoShapesWrong)

/-- 'coxswainlaw19.FifoEnds': WHATEVER THE INPUT: true; the input reads as it did. -/
def fifoEndsSpec : ChangeSpec := { name := "fifoEnds", fn := fun _ => fun
  | [d] => { results := [.lit (.bool true)], args := [d] }
  | _ => none }
def fifoEndsRow : OpenClaim := { program := "ytjnmlfpljeddmaa", sum := "83a86a7948ac587ec99fa9e15eb372f29acb23d135e68dde976136c2e7bf2880", func := "coxswain/coxswainlaw19.FifoEnds", spec := "fifoEnds", apart := false }
def FifoEndsSaid : Prop := fifoEndsRow.holds Try.pinned (OpenSpec.ofChange fifoEndsSpec)

/-- ITS FALSE NEIGHBOUR: 'it returns false'. Refute it at one input. -/
def fifoEndsWrong : ChangeSpec := { name := "fifoEnds", fn := fun _ => fun
  | [d] => { results := [.lit (.bool false)], args := [d] }
  | _ => none }
def FifoEndsWrongFalsely : Prop := fifoEndsRow.holds Try.pinned (OpenSpec.ofChange fifoEndsWrong)

/-- 'coxswainlaw17.RingShapes': WHATEVER THE INPUT: true; the input reads as it did. -/
def ringShapesSpec : ChangeSpec := { name := "ringShapes", fn := fun _ => fun
  | [d1, d2] => { results := [.lit (.bool true)], args := [d1, d2] }
  | _ => none }
def ringShapesRow : OpenClaim := { program := "ytjnmlfpljeddmaa", sum := "83a86a7948ac587ec99fa9e15eb372f29acb23d135e68dde976136c2e7bf2880", func := "coxswain/coxswainlaw17.RingShapes", spec := "ringShapes", apart := false }
def RingShapesSaid : Prop := ringShapesRow.holds Try.pinned (OpenSpec.ofChange ringShapesSpec)

/-- ITS FALSE NEIGHBOUR: 'it returns false'. Refute it at one input. -/
def ringShapesWrong : ChangeSpec := { name := "ringShapes", fn := fun _ => fun
  | [d1, d2] => { results := [.lit (.bool false)], args := [d1, d2] }
  | _ => none }
def RingShapesWrongFalsely : Prop := ringShapesRow.holds Try.pinned (OpenSpec.ofChange ringShapesWrong)

/-- 'coxswainlaw17.RingEnds': WHATEVER THE INPUT: true; the input reads as it did. -/
def ringEndsSpec : ChangeSpec := { name := "ringEnds", fn := fun _ => fun
  | [d] => { results := [.lit (.bool true)], args := [d] }
  | _ => none }
def ringEndsRow : OpenClaim := { program := "ytjnmlfpljeddmaa", sum := "83a86a7948ac587ec99fa9e15eb372f29acb23d135e68dde976136c2e7bf2880", func := "coxswain/coxswainlaw17.RingEnds", spec := "ringEnds", apart := false }
def RingEndsSaid : Prop := ringEndsRow.holds Try.pinned (OpenSpec.ofChange ringEndsSpec)

/-- ITS FALSE NEIGHBOUR: 'it returns false'. Refute it at one input. -/
def ringEndsWrong : ChangeSpec := { name := "ringEnds", fn := fun _ => fun
  | [d] => { results := [.lit (.bool false)], args := [d] }
  | _ => none }
def RingEndsWrongFalsely : Prop := ringEndsRow.holds Try.pinned (OpenSpec.ofChange ringEndsWrong)

/-- 'coxswainlaw17.RingKeeps': WHATEVER THE INPUT: true; the input reads as it did. -/
def ringKeepsSpec : ChangeSpec := { name := "ringKeeps", fn := fun _ => fun
  | [d1, d2] => { results := [.lit (.bool true)], args := [d1, d2] }
  | _ => none }
def ringKeepsRow : OpenClaim := { program := "ytjnmlfpljeddmaa", sum := "83a86a7948ac587ec99fa9e15eb372f29acb23d135e68dde976136c2e7bf2880", func := "coxswain/coxswainlaw17.RingKeeps", spec := "ringKeeps", apart := false }
def RingKeepsSaid : Prop := ringKeepsRow.holds Try.pinned (OpenSpec.ofChange ringKeepsSpec)

/-- ITS FALSE NEIGHBOUR: 'it returns false'. Refute it at one input. -/
def ringKeepsWrong : ChangeSpec := { name := "ringKeeps", fn := fun _ => fun
  | [d1, d2] => { results := [.lit (.bool false)], args := [d1, d2] }
  | _ => none }
def RingKeepsWrongFalsely : Prop := ringKeepsRow.holds Try.pinned (OpenSpec.ofChange ringKeepsWrong)

/-- 'coxswainlaw19.FifoKeeps': WHATEVER THE INPUT: true; the input reads as it did. -/
def fifoKeepsSpec : ChangeSpec := { name := "fifoKeeps", fn := fun _ => fun
  | [d1, d2] => { results := [.lit (.bool true)], args := [d1, d2] }
  | _ => none }
def fifoKeepsRow : OpenClaim := { program := "ytjnmlfpljeddmaa", sum := "83a86a7948ac587ec99fa9e15eb372f29acb23d135e68dde976136c2e7bf2880", func := "coxswain/coxswainlaw19.FifoKeeps", spec := "fifoKeeps", apart := false }
def FifoKeepsSaid : Prop := fifoKeepsRow.holds Try.pinned (OpenSpec.ofChange fifoKeepsSpec)

/-- ITS FALSE NEIGHBOUR: 'it returns false'. Refute it at one input. -/
def fifoKeepsWrong : ChangeSpec := { name := "fifoKeeps", fn := fun _ => fun
  | [d1, d2] => { results := [.lit (.bool false)], args := [d1, d2] }
  | _ => none }
def FifoKeepsWrongFalsely : Prop := fifoKeepsRow.holds Try.pinned (OpenSpec.ofChange fifoKeepsWrong)

/-- 'coxswainlaw17.RingSteps': WHATEVER THE INPUT: true; the input reads as it did. -/
def ringStepsSpec : ChangeSpec := { name := "ringSteps", fn := fun _ => fun
  | [d] => { results := [.lit (.bool true)], args := [d] }
  | _ => none }
def ringStepsRow : OpenClaim := { program := "ytjnmlfpljeddmaa", sum := "83a86a7948ac587ec99fa9e15eb372f29acb23d135e68dde976136c2e7bf2880", func := "coxswain/coxswainlaw17.RingSteps", spec := "ringSteps", apart := false }
def RingStepsSaid : Prop := ringStepsRow.holds Try.pinned (OpenSpec.ofChange ringStepsSpec)

/-- ITS FALSE NEIGHBOUR: 'it returns false'. Refute it at one input. -/
def ringStepsWrong : ChangeSpec := { name := "ringSteps", fn := fun _ => fun
  | [d] => { results := [.lit (.bool false)], args := [d] }
  | _ => none }
def RingStepsWrongFalsely : Prop := ringStepsRow.holds Try.pinned (OpenSpec.ofChange ringStepsWrong)

/-- 'coxswainlaw17.RingClones': WHATEVER THE INPUT: true; the input reads as it did. -/
def ringClonesSpec : ChangeSpec := { name := "ringClones", fn := fun _ => fun
  | [d1, d2] => { results := [.lit (.bool true)], args := [d1, d2] }
  | _ => none }
def ringClonesRow : OpenClaim := { program := "ytjnmlfpljeddmaa", sum := "83a86a7948ac587ec99fa9e15eb372f29acb23d135e68dde976136c2e7bf2880", func := "coxswain/coxswainlaw17.RingClones", spec := "ringClones", apart := false }
def RingClonesSaid : Prop := ringClonesRow.holds Try.pinned (OpenSpec.ofChange ringClonesSpec)

/-- ITS FALSE NEIGHBOUR: 'it returns false'. Refute it at one input. -/
def ringClonesWrong : ChangeSpec := { name := "ringClones", fn := fun _ => fun
  | [d1, d2] => { results := [.lit (.bool false)], args := [d1, d2] }
  | _ => none }
def RingClonesWrongFalsely : Prop := ringClonesRow.holds Try.pinned (OpenSpec.ofChange ringClonesWrong)

/-- 'coxswainlaw19.FifoSteps': WHATEVER THE INPUT: true; the input reads as it did. -/
def fifoStepsSpec : ChangeSpec := { name := "fifoSteps", fn := fun _ => fun
  | [d] => { results := [.lit (.bool true)], args := [d] }
  | _ => none }
def fifoStepsRow : OpenClaim := { program := "ytjnmlfpljeddmaa", sum := "83a86a7948ac587ec99fa9e15eb372f29acb23d135e68dde976136c2e7bf2880", func := "coxswain/coxswainlaw19.FifoSteps", spec := "fifoSteps", apart := false }
def FifoStepsSaid : Prop := fifoStepsRow.holds Try.pinned (OpenSpec.ofChange fifoStepsSpec)

/-- ITS FALSE NEIGHBOUR: 'it returns false'. Refute it at one input. -/
def fifoStepsWrong : ChangeSpec := { name := "fifoSteps", fn := fun _ => fun
  | [d] => { results := [.lit (.bool false)], args := [d] }
  | _ => none }
def FifoStepsWrongFalsely : Prop := fifoStepsRow.holds Try.pinned (OpenSpec.ofChange fifoStepsWrong)

/-- 'coxswainlaw19.FifoClones': WHATEVER THE INPUT: true; the input reads as it did. -/
def fifoClonesSpec : ChangeSpec := { name := "fifoClones", fn := fun _ => fun
  | [d1, d2] => { results := [.lit (.bool true)], args := [d1, d2] }
  | _ => none }
def fifoClonesRow : OpenClaim := { program := "ytjnmlfpljeddmaa", sum := "83a86a7948ac587ec99fa9e15eb372f29acb23d135e68dde976136c2e7bf2880", func := "coxswain/coxswainlaw19.FifoClones", spec := "fifoClones", apart := false }
def FifoClonesSaid : Prop := fifoClonesRow.holds Try.pinned (OpenSpec.ofChange fifoClonesSpec)

/-- ITS FALSE NEIGHBOUR: 'it returns false'. Refute it at one input. -/
def fifoClonesWrong : ChangeSpec := { name := "fifoClones", fn := fun _ => fun
  | [d1, d2] => { results := [.lit (.bool false)], args := [d1, d2] }
  | _ => none }
def FifoClonesWrongFalsely : Prop := fifoClonesRow.holds Try.pinned (OpenSpec.ofChange fifoClonesWrong)

/- THE SECOND FORM. 'bulk': how many values and letters a reading holds, each counted each time it is reached (what is shared counts as often as it is met; a slice's spare places count too). A statement '..UptoSaid' is the law's where the arguments, and the package variables that the reading takes, are together of bulk at most 1048576: NARROWER than '..Said'. Prove '..Said' where nothing that the law and all that it calls make is longer than what came in: it says more and counts as full. Else prove '..UptoSaid'. A law counts once. -/
mutual
def uptoBulk {H : Type} : DataW H → Nat
  | .lit (.string bytes) => bytes.length + 1
  | .lit _ => 1
  | .nil => 1
  | .ptr d => uptoBulk d + 1
  | .slice elems spare => uptoBulkAll elems + uptoBulkAll spare + 1
  | .agg parts => uptoBulkAll parts + 1
  | .iface _ d => uptoBulk d + 1
  | .map entries => uptoBulkEntries entries + 1
  | .held _ => 1
def uptoBulkAll {H : Type} : List (DataW H) → Nat
  | [] => 0
  | d :: r => uptoBulk d + uptoBulkAll r
def uptoBulkEntries {H : Type} : List (Lit × DataW H) → Nat
  | [] => 0
  | x :: r => uptoBulkEntry x + uptoBulkEntries r
def uptoBulkEntry {H : Type} : Lit × DataW H → Nat
  | (.string bytes, d) => bytes.length + uptoBulk d + 1
  | (_, d) => uptoBulk d + 1
 end
def uptoSmall : (H : Type) → List (DataW H) → Bool := fun _ ds => decide (uptoBulkAll ds ≤ 1048576)
def OpenSpec.upto (s : _root_.Go.ChangeSpec) : _root_.Go.OpenSpec := { _root_.Go.OpenSpec.ofChange s with cond := some uptoSmall }

/-- 'coxswainlaw19.FifoShapes', WHERE WHAT IT READS IS OF BULK AT MOST 1048576: true; the input reads as it did. -/
def fifoShapesUptoRow : OpenClaim := { program := "ytjnmlfpljeddmaa", sum := "83a86a7948ac587ec99fa9e15eb372f29acb23d135e68dde976136c2e7bf2880", func := "coxswain/coxswainlaw19.FifoShapes", spec := "fifoShapes", apart := false, narrowed := true }
def FifoShapesUptoSaid : Prop := fifoShapesUptoRow.holds Try.pinned (OpenSpec.upto fifoShapesSpec)

/-- 'coxswainlaw19.FifoEnds', WHERE WHAT IT READS IS OF BULK AT MOST 1048576: true; the input reads as it did. -/
def fifoEndsUptoRow : OpenClaim := { program := "ytjnmlfpljeddmaa", sum := "83a86a7948ac587ec99fa9e15eb372f29acb23d135e68dde976136c2e7bf2880", func := "coxswain/coxswainlaw19.FifoEnds", spec := "fifoEnds", apart := false, narrowed := true }
def FifoEndsUptoSaid : Prop := fifoEndsUptoRow.holds Try.pinned (OpenSpec.upto fifoEndsSpec)

/-- 'coxswainlaw17.RingShapes', WHERE WHAT IT READS IS OF BULK AT MOST 1048576: true; the input reads as it did. -/
def ringShapesUptoRow : OpenClaim := { program := "ytjnmlfpljeddmaa", sum := "83a86a7948ac587ec99fa9e15eb372f29acb23d135e68dde976136c2e7bf2880", func := "coxswain/coxswainlaw17.RingShapes", spec := "ringShapes", apart := false, narrowed := true }
def RingShapesUptoSaid : Prop := ringShapesUptoRow.holds Try.pinned (OpenSpec.upto ringShapesSpec)

/-- 'coxswainlaw17.RingEnds', WHERE WHAT IT READS IS OF BULK AT MOST 1048576: true; the input reads as it did. -/
def ringEndsUptoRow : OpenClaim := { program := "ytjnmlfpljeddmaa", sum := "83a86a7948ac587ec99fa9e15eb372f29acb23d135e68dde976136c2e7bf2880", func := "coxswain/coxswainlaw17.RingEnds", spec := "ringEnds", apart := false, narrowed := true }
def RingEndsUptoSaid : Prop := ringEndsUptoRow.holds Try.pinned (OpenSpec.upto ringEndsSpec)

/-- 'coxswainlaw17.RingKeeps', WHERE WHAT IT READS IS OF BULK AT MOST 1048576: true; the input reads as it did. -/
def ringKeepsUptoRow : OpenClaim := { program := "ytjnmlfpljeddmaa", sum := "83a86a7948ac587ec99fa9e15eb372f29acb23d135e68dde976136c2e7bf2880", func := "coxswain/coxswainlaw17.RingKeeps", spec := "ringKeeps", apart := false, narrowed := true }
def RingKeepsUptoSaid : Prop := ringKeepsUptoRow.holds Try.pinned (OpenSpec.upto ringKeepsSpec)

/-- 'coxswainlaw19.FifoKeeps', WHERE WHAT IT READS IS OF BULK AT MOST 1048576: true; the input reads as it did. -/
def fifoKeepsUptoRow : OpenClaim := { program := "ytjnmlfpljeddmaa", sum := "83a86a7948ac587ec99fa9e15eb372f29acb23d135e68dde976136c2e7bf2880", func := "coxswain/coxswainlaw19.FifoKeeps", spec := "fifoKeeps", apart := false, narrowed := true }
def FifoKeepsUptoSaid : Prop := fifoKeepsUptoRow.holds Try.pinned (OpenSpec.upto fifoKeepsSpec)

/-- 'coxswainlaw17.RingSteps', WHERE WHAT IT READS IS OF BULK AT MOST 1048576: true; the input reads as it did. -/
def ringStepsUptoRow : OpenClaim := { program := "ytjnmlfpljeddmaa", sum := "83a86a7948ac587ec99fa9e15eb372f29acb23d135e68dde976136c2e7bf2880", func := "coxswain/coxswainlaw17.RingSteps", spec := "ringSteps", apart := false, narrowed := true }
def RingStepsUptoSaid : Prop := ringStepsUptoRow.holds Try.pinned (OpenSpec.upto ringStepsSpec)

/-- 'coxswainlaw17.RingClones', WHERE WHAT IT READS IS OF BULK AT MOST 1048576: true; the input reads as it did. -/
def ringClonesUptoRow : OpenClaim := { program := "ytjnmlfpljeddmaa", sum := "83a86a7948ac587ec99fa9e15eb372f29acb23d135e68dde976136c2e7bf2880", func := "coxswain/coxswainlaw17.RingClones", spec := "ringClones", apart := false, narrowed := true }
def RingClonesUptoSaid : Prop := ringClonesUptoRow.holds Try.pinned (OpenSpec.upto ringClonesSpec)

/-- 'coxswainlaw19.FifoSteps', WHERE WHAT IT READS IS OF BULK AT MOST 1048576: true; the input reads as it did. -/
def fifoStepsUptoRow : OpenClaim := { program := "ytjnmlfpljeddmaa", sum := "83a86a7948ac587ec99fa9e15eb372f29acb23d135e68dde976136c2e7bf2880", func := "coxswain/coxswainlaw19.FifoSteps", spec := "fifoSteps", apart := false, narrowed := true }
def FifoStepsUptoSaid : Prop := fifoStepsUptoRow.holds Try.pinned (OpenSpec.upto fifoStepsSpec)

/-- 'coxswainlaw19.FifoClones', WHERE WHAT IT READS IS OF BULK AT MOST 1048576: true; the input reads as it did. -/
def fifoClonesUptoRow : OpenClaim := { program := "ytjnmlfpljeddmaa", sum := "83a86a7948ac587ec99fa9e15eb372f29acb23d135e68dde976136c2e7bf2880", func := "coxswain/coxswainlaw19.FifoClones", spec := "fifoClones", apart := false, narrowed := true }
def FifoClonesUptoSaid : Prop := fifoClonesUptoRow.holds Try.pinned (OpenSpec.upto fifoClonesSpec)

end Rows
end Go.Proofs.Ytjnmlfpljeddmaa
