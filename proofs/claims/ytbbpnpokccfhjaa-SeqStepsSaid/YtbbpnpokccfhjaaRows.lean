/-
  No cell of these rows narrows 'for every input' (looked for: loops, veiled, ifaces, maps, wideKeys, modest, calm, conditions, laid).
  DERIVED. THE GIVEN ROWS OF THIS SEAT. 10 by the template 'for every input the law returns true; each argument reads behind the call as it read before'; 0 by the template 'total and deterministic' (their statements: YtbbpnpokccfhjaaTotals.lean).
  GIVEN WITH THE SEED: the statements are not yours to turn. If you find one false, say at which input.
  Laid BY PROGRAM, IN A SANDBOX (cutbox-rows.mjs): the forced cells as the released guide's own fill.sh prints them over the translation 1f5326d0e7d3b4a0… (all of the seat's roots in one cut). By AI agents, Wed Nov 11 2026. No macro, syntax, notation, axiom, sorry.
-/
import Derived.Test.YtbbpnpokccfhjaaChecked
import GoSem.Claim
import GoSem.ClaimJoined
import GoSem.ClaimMapViews
import Derived.JoinedTies
import Derived.KernelRfl
namespace Go.Proofs.Ytbbpnpokccfhjaa
/- THE CELL 'sum', in the pinned program and in every row, IS THE sha256 OF THE DUMP (.gsa) THAT YtbbpnpokccfhjaaProg.lean LOADS. Nothing in Lean hashes anything: it is a label: what it is worth is what the hold of that sum in a sandbox is worth. -/
noncomputable def Try.pinned : Pinned := { name := "ytbbpnpokccfhjaa", sum := "1f5326d0e7d3b4a0c78fed2f9c1323c8f34900c2c16b91098423aa39ab0aa3c5", checked := Try.checked }
namespace Rows
def none {H : Type} : Left H := { results := [], args := [] }

/-- 'coxswainlaw14.FourShapes': WHATEVER THE INPUT: true; the input reads as it did. -/
def fourShapesSpec : ChangeSpec := { name := "fourShapes", fn := fun _ => fun
  | [d1, d2] => { results := [.lit (.bool true)], args := [d1, d2] }
  | _ => none }
def fourShapesRow : OpenClaim := { program := "ytbbpnpokccfhjaa", sum := "1f5326d0e7d3b4a0c78fed2f9c1323c8f34900c2c16b91098423aa39ab0aa3c5", func := "coxswain/coxswainlaw14.FourShapes", spec := "fourShapes", apart := false }
def FourShapesSaid : Prop := fourShapesRow.holds Try.pinned (OpenSpec.ofChange fourShapesSpec)

/-- ITS FALSE NEIGHBOUR: 'it returns false'. Refute it at one input. -/
def fourShapesWrong : ChangeSpec := { name := "fourShapes", fn := fun _ => fun
  | [d1, d2] => { results := [.lit (.bool false)], args := [d1, d2] }
  | _ => none }
def FourShapesWrongFalsely : Prop := fourShapesRow.holds Try.pinned (OpenSpec.ofChange fourShapesWrong)

/-- 'coxswainlaw14.FourEnds': WHATEVER THE INPUT: true; the input reads as it did. -/
def fourEndsSpec : ChangeSpec := { name := "fourEnds", fn := fun _ => fun
  | [d] => { results := [.lit (.bool true)], args := [d] }
  | _ => none }
def fourEndsRow : OpenClaim := { program := "ytbbpnpokccfhjaa", sum := "1f5326d0e7d3b4a0c78fed2f9c1323c8f34900c2c16b91098423aa39ab0aa3c5", func := "coxswain/coxswainlaw14.FourEnds", spec := "fourEnds", apart := false }
def FourEndsSaid : Prop := fourEndsRow.holds Try.pinned (OpenSpec.ofChange fourEndsSpec)

/-- ITS FALSE NEIGHBOUR: 'it returns false'. Refute it at one input. -/
def fourEndsWrong : ChangeSpec := { name := "fourEnds", fn := fun _ => fun
  | [d] => { results := [.lit (.bool false)], args := [d] }
  | _ => none }
def FourEndsWrongFalsely : Prop := fourEndsRow.holds Try.pinned (OpenSpec.ofChange fourEndsWrong)

/-- 'coxswainlaw14.FourKeeps': WHATEVER THE INPUT: true; the input reads as it did. -/
def fourKeepsSpec : ChangeSpec := { name := "fourKeeps", fn := fun _ => fun
  | [d1, d2] => { results := [.lit (.bool true)], args := [d1, d2] }
  | _ => none }
def fourKeepsRow : OpenClaim := { program := "ytbbpnpokccfhjaa", sum := "1f5326d0e7d3b4a0c78fed2f9c1323c8f34900c2c16b91098423aa39ab0aa3c5", func := "coxswain/coxswainlaw14.FourKeeps", spec := "fourKeeps", apart := false }
def FourKeepsSaid : Prop := fourKeepsRow.holds Try.pinned (OpenSpec.ofChange fourKeepsSpec)

/-- ITS FALSE NEIGHBOUR: 'it returns false'. Refute it at one input. -/
def fourKeepsWrong : ChangeSpec := { name := "fourKeeps", fn := fun _ => fun
  | [d1, d2] => { results := [.lit (.bool false)], args := [d1, d2] }
  | _ => none }
def FourKeepsWrongFalsely : Prop := fourKeepsRow.holds Try.pinned (OpenSpec.ofChange fourKeepsWrong)

/-- 'coxswainlaw16.SeqShapes': WHATEVER THE INPUT: true; the input reads as it did. -/
def seqShapesSpec : ChangeSpec := { name := "seqShapes", fn := fun _ => fun
  | [d1, d2] => { results := [.lit (.bool true)], args := [d1, d2] }
  | _ => none }
def seqShapesRow : OpenClaim := { program := "ytbbpnpokccfhjaa", sum := "1f5326d0e7d3b4a0c78fed2f9c1323c8f34900c2c16b91098423aa39ab0aa3c5", func := "coxswain/coxswainlaw16.SeqShapes", spec := "seqShapes", apart := false }
def SeqShapesSaid : Prop := seqShapesRow.holds Try.pinned (OpenSpec.ofChange seqShapesSpec)

/-- ITS FALSE NEIGHBOUR: 'it returns false'. Refute it at one input. -/
def seqShapesWrong : ChangeSpec := { name := "seqShapes", fn := fun _ => fun
  | [d1, d2] => { results := [.lit (.bool false)], args := [d1, d2] }
  | _ => none }
def SeqShapesWrongFalsely : Prop := seqShapesRow.holds Try.pinned (OpenSpec.ofChange seqShapesWrong)

/-- 'coxswainlaw16.SeqEnds': WHATEVER THE INPUT: true; the input reads as it did. -/
def seqEndsSpec : ChangeSpec := { name := "seqEnds", fn := fun _ => fun
  | [d] => { results := [.lit (.bool true)], args := [d] }
  | _ => none }
def seqEndsRow : OpenClaim := { program := "ytbbpnpokccfhjaa", sum := "1f5326d0e7d3b4a0c78fed2f9c1323c8f34900c2c16b91098423aa39ab0aa3c5", func := "coxswain/coxswainlaw16.SeqEnds", spec := "seqEnds", apart := false }
def SeqEndsSaid : Prop := seqEndsRow.holds Try.pinned (OpenSpec.ofChange seqEndsSpec)

/-- ITS FALSE NEIGHBOUR: 'it returns false'. Refute it at one input. -/
def seqEndsWrong : ChangeSpec := { name := "seqEnds", fn := fun _ => fun
  | [d] => { results := [.lit (.bool false)], args := [d] }
  | _ => none }
def SeqEndsWrongFalsely : Prop := seqEndsRow.holds Try.pinned (OpenSpec.ofChange seqEndsWrong)

/-- 'coxswainlaw16.SeqKeeps': WHATEVER THE INPUT: true; the input reads as it did. -/
def seqKeepsSpec : ChangeSpec := { name := "seqKeeps", fn := fun _ => fun
  | [d1, d2] => { results := [.lit (.bool true)], args := [d1, d2] }
  | _ => none }
def seqKeepsRow : OpenClaim := { program := "ytbbpnpokccfhjaa", sum := "1f5326d0e7d3b4a0c78fed2f9c1323c8f34900c2c16b91098423aa39ab0aa3c5", func := "coxswain/coxswainlaw16.SeqKeeps", spec := "seqKeeps", apart := false }
def SeqKeepsSaid : Prop := seqKeepsRow.holds Try.pinned (OpenSpec.ofChange seqKeepsSpec)

/-- ITS FALSE NEIGHBOUR: 'it returns false'. Refute it at one input. -/
def seqKeepsWrong : ChangeSpec := { name := "seqKeeps", fn := fun _ => fun
  | [d1, d2] => { results := [.lit (.bool false)], args := [d1, d2] }
  | _ => none }
def SeqKeepsWrongFalsely : Prop := seqKeepsRow.holds Try.pinned (OpenSpec.ofChange seqKeepsWrong)

/-- 'coxswainlaw14.FourSteps': WHATEVER THE INPUT: true; the input reads as it did. -/
def fourStepsSpec : ChangeSpec := { name := "fourSteps", fn := fun _ => fun
  | [d] => { results := [.lit (.bool true)], args := [d] }
  | _ => none }
def fourStepsRow : OpenClaim := { program := "ytbbpnpokccfhjaa", sum := "1f5326d0e7d3b4a0c78fed2f9c1323c8f34900c2c16b91098423aa39ab0aa3c5", func := "coxswain/coxswainlaw14.FourSteps", spec := "fourSteps", apart := false }
def FourStepsSaid : Prop := fourStepsRow.holds Try.pinned (OpenSpec.ofChange fourStepsSpec)

/-- ITS FALSE NEIGHBOUR: 'it returns false'. Refute it at one input. -/
def fourStepsWrong : ChangeSpec := { name := "fourSteps", fn := fun _ => fun
  | [d] => { results := [.lit (.bool false)], args := [d] }
  | _ => none }
def FourStepsWrongFalsely : Prop := fourStepsRow.holds Try.pinned (OpenSpec.ofChange fourStepsWrong)

/-- 'coxswainlaw14.FourClones': WHATEVER THE INPUT: true; the input reads as it did. -/
def fourClonesSpec : ChangeSpec := { name := "fourClones", fn := fun _ => fun
  | [d1, d2] => { results := [.lit (.bool true)], args := [d1, d2] }
  | _ => none }
def fourClonesRow : OpenClaim := { program := "ytbbpnpokccfhjaa", sum := "1f5326d0e7d3b4a0c78fed2f9c1323c8f34900c2c16b91098423aa39ab0aa3c5", func := "coxswain/coxswainlaw14.FourClones", spec := "fourClones", apart := false }
def FourClonesSaid : Prop := fourClonesRow.holds Try.pinned (OpenSpec.ofChange fourClonesSpec)

/-- ITS FALSE NEIGHBOUR: 'it returns false'. Refute it at one input. -/
def fourClonesWrong : ChangeSpec := { name := "fourClones", fn := fun _ => fun
  | [d1, d2] => { results := [.lit (.bool false)], args := [d1, d2] }
  | _ => none }
def FourClonesWrongFalsely : Prop := fourClonesRow.holds Try.pinned (OpenSpec.ofChange fourClonesWrong)

/-- 'coxswainlaw16.SeqSteps': WHATEVER THE INPUT: true; the input reads as it did. -/
def seqStepsSpec : ChangeSpec := { name := "seqSteps", fn := fun _ => fun
  | [d] => { results := [.lit (.bool true)], args := [d] }
  | _ => none }
def seqStepsRow : OpenClaim := { program := "ytbbpnpokccfhjaa", sum := "1f5326d0e7d3b4a0c78fed2f9c1323c8f34900c2c16b91098423aa39ab0aa3c5", func := "coxswain/coxswainlaw16.SeqSteps", spec := "seqSteps", apart := false }
def SeqStepsSaid : Prop := seqStepsRow.holds Try.pinned (OpenSpec.ofChange seqStepsSpec)

/-- ITS FALSE NEIGHBOUR: 'it returns false'. Refute it at one input. -/
def seqStepsWrong : ChangeSpec := { name := "seqSteps", fn := fun _ => fun
  | [d] => { results := [.lit (.bool false)], args := [d] }
  | _ => none }
def SeqStepsWrongFalsely : Prop := seqStepsRow.holds Try.pinned (OpenSpec.ofChange seqStepsWrong)

/-- 'coxswainlaw16.SeqClones': WHATEVER THE INPUT: true; the input reads as it did. -/
def seqClonesSpec : ChangeSpec := { name := "seqClones", fn := fun _ => fun
  | [d1, d2] => { results := [.lit (.bool true)], args := [d1, d2] }
  | _ => none }
def seqClonesRow : OpenClaim := { program := "ytbbpnpokccfhjaa", sum := "1f5326d0e7d3b4a0c78fed2f9c1323c8f34900c2c16b91098423aa39ab0aa3c5", func := "coxswain/coxswainlaw16.SeqClones", spec := "seqClones", apart := false }
def SeqClonesSaid : Prop := seqClonesRow.holds Try.pinned (OpenSpec.ofChange seqClonesSpec)

/-- ITS FALSE NEIGHBOUR: 'it returns false'. Refute it at one input. -/
def seqClonesWrong : ChangeSpec := { name := "seqClones", fn := fun _ => fun
  | [d1, d2] => { results := [.lit (.bool false)], args := [d1, d2] }
  | _ => none }
def SeqClonesWrongFalsely : Prop := seqClonesRow.holds Try.pinned (OpenSpec.ofChange seqClonesWrong)

/- THE SECOND FORM. 'bulk': how many values and letters a reading holds, each counted each time it is reached (what is shared counts as often as it is met; a slice's spare places count too). A statement '..UptoSaid' is the law's where the arguments, and the package variables that the reading takes, are together of bulk at most 1048576: NARROWER than '..Said'. Prove '..Said' where nothing that the law and all that it calls make is longer than what came in: it says more and counts as full. Else prove '..UptoSaid'. A law counts once. -/
mutual
def uptoBulk {H : Type} : DataW H → Nat
  | .lit (.string bytes) => bytes.length + 1
  | .lit _ => 1
  | .nil => 1
  | .ptr d => uptoBulk d + 1
  | .slice elems spare => uptoBulkAll elems + uptoBulkAll spare + 1
  | .agg parts => uptoBulkAll parts + 1
  | .iface _ d => uptoBulk d + 1
  | .map entries => uptoBulkEntries entries + 1
  | .held _ => 1
def uptoBulkAll {H : Type} : List (DataW H) → Nat
  | [] => 0
  | d :: r => uptoBulk d + uptoBulkAll r
def uptoBulkEntries {H : Type} : List (Lit × DataW H) → Nat
  | [] => 0
  | x :: r => uptoBulkEntry x + uptoBulkEntries r
def uptoBulkEntry {H : Type} : Lit × DataW H → Nat
  | (.string bytes, d) => bytes.length + uptoBulk d + 1
  | (_, d) => uptoBulk d + 1
 end
def uptoSmall : (H : Type) → List (DataW H) → Bool := fun _ ds => decide (uptoBulkAll ds ≤ 1048576)
def OpenSpec.upto (s : _root_.Go.ChangeSpec) : _root_.Go.OpenSpec := { _root_.Go.OpenSpec.ofChange s with cond := some uptoSmall }

/-- 'coxswainlaw14.FourShapes', WHERE WHAT IT READS IS OF BULK AT MOST 1048576: true; the input reads as it did. -/
def fourShapesUptoRow : OpenClaim := { program := "ytbbpnpokccfhjaa", sum := "1f5326d0e7d3b4a0c78fed2f9c1323c8f34900c2c16b91098423aa39ab0aa3c5", func := "coxswain/coxswainlaw14.FourShapes", spec := "fourShapes", apart := false, narrowed := true }
def FourShapesUptoSaid : Prop := fourShapesUptoRow.holds Try.pinned (OpenSpec.upto fourShapesSpec)

/-- 'coxswainlaw14.FourEnds', WHERE WHAT IT READS IS OF BULK AT MOST 1048576: true; the input reads as it did. -/
def fourEndsUptoRow : OpenClaim := { program := "ytbbpnpokccfhjaa", sum := "1f5326d0e7d3b4a0c78fed2f9c1323c8f34900c2c16b91098423aa39ab0aa3c5", func := "coxswain/coxswainlaw14.FourEnds", spec := "fourEnds", apart := false, narrowed := true }
def FourEndsUptoSaid : Prop := fourEndsUptoRow.holds Try.pinned (OpenSpec.upto fourEndsSpec)

/-- 'coxswainlaw14.FourKeeps', WHERE WHAT IT READS IS OF BULK AT MOST 1048576: true; the input reads as it did. -/
def fourKeepsUptoRow : OpenClaim := { program := "ytbbpnpokccfhjaa", sum := "1f5326d0e7d3b4a0c78fed2f9c1323c8f34900c2c16b91098423aa39ab0aa3c5", func := "coxswain/coxswainlaw14.FourKeeps", spec := "fourKeeps", apart := false, narrowed := true }
def FourKeepsUptoSaid : Prop := fourKeepsUptoRow.holds Try.pinned (OpenSpec.upto fourKeepsSpec)

/-- 'coxswainlaw16.SeqShapes', WHERE WHAT IT READS IS OF BULK AT MOST 1048576: true; the input reads as it did. -/
def seqShapesUptoRow : OpenClaim := { program := "ytbbpnpokccfhjaa", sum := "1f5326d0e7d3b4a0c78fed2f9c1323c8f34900c2c16b91098423aa39ab0aa3c5", func := "coxswain/coxswainlaw16.SeqShapes", spec := "seqShapes", apart := false, narrowed := true }
def SeqShapesUptoSaid : Prop := seqShapesUptoRow.holds Try.pinned (OpenSpec.upto seqShapesSpec)

/-- 'coxswainlaw16.SeqEnds', WHERE WHAT IT READS IS OF BULK AT MOST 1048576: true; the input reads as it did. -/
def seqEndsUptoRow : OpenClaim := { program := "ytbbpnpokccfhjaa", sum := "1f5326d0e7d3b4a0c78fed2f9c1323c8f34900c2c16b91098423aa39ab0aa3c5", func := "coxswain/coxswainlaw16.SeqEnds", spec := "seqEnds", apart := false, narrowed := true }
def SeqEndsUptoSaid : Prop := seqEndsUptoRow.holds Try.pinned (OpenSpec.upto seqEndsSpec)

/-- 'coxswainlaw16.SeqKeeps', WHERE WHAT IT READS IS OF BULK AT MOST 1048576: true; the input reads as it did. -/
def seqKeepsUptoRow : OpenClaim := { program := "ytbbpnpokccfhjaa", sum := "1f5326d0e7d3b4a0c78fed2f9c1323c8f34900c2c16b91098423aa39ab0aa3c5", func := "coxswain/coxswainlaw16.SeqKeeps", spec := "seqKeeps", apart := false, narrowed := true }
def SeqKeepsUptoSaid : Prop := seqKeepsUptoRow.holds Try.pinned (OpenSpec.upto seqKeepsSpec)

/-- 'coxswainlaw14.FourSteps', WHERE WHAT IT READS IS OF BULK AT MOST 1048576: true; the input reads as it did. -/
def fourStepsUptoRow : OpenClaim := { program := "ytbbpnpokccfhjaa", sum := "1f5326d0e7d3b4a0c78fed2f9c1323c8f34900c2c16b91098423aa39ab0aa3c5", func := "coxswain/coxswainlaw14.FourSteps", spec := "fourSteps", apart := false, narrowed := true }
def FourStepsUptoSaid : Prop := fourStepsUptoRow.holds Try.pinned (OpenSpec.upto fourStepsSpec)

/-- 'coxswainlaw14.FourClones', WHERE WHAT IT READS IS OF BULK AT MOST 1048576: true; the input reads as it did. -/
def fourClonesUptoRow : OpenClaim := { program := "ytbbpnpokccfhjaa", sum := "1f5326d0e7d3b4a0c78fed2f9c1323c8f34900c2c16b91098423aa39ab0aa3c5", func := "coxswain/coxswainlaw14.FourClones", spec := "fourClones", apart := false, narrowed := true }
def FourClonesUptoSaid : Prop := fourClonesUptoRow.holds Try.pinned (OpenSpec.upto fourClonesSpec)

/-- 'coxswainlaw16.SeqSteps', WHERE WHAT IT READS IS OF BULK AT MOST 1048576: true; the input reads as it did. -/
def seqStepsUptoRow : OpenClaim := { program := "ytbbpnpokccfhjaa", sum := "1f5326d0e7d3b4a0c78fed2f9c1323c8f34900c2c16b91098423aa39ab0aa3c5", func := "coxswain/coxswainlaw16.SeqSteps", spec := "seqSteps", apart := false, narrowed := true }
def SeqStepsUptoSaid : Prop := seqStepsUptoRow.holds Try.pinned (OpenSpec.upto seqStepsSpec)

/-- 'coxswainlaw16.SeqClones', WHERE WHAT IT READS IS OF BULK AT MOST 1048576: true; the input reads as it did. -/
def seqClonesUptoRow : OpenClaim := { program := "ytbbpnpokccfhjaa", sum := "1f5326d0e7d3b4a0c78fed2f9c1323c8f34900c2c16b91098423aa39ab0aa3c5", func := "coxswain/coxswainlaw16.SeqClones", spec := "seqClones", apart := false, narrowed := true }
def SeqClonesUptoSaid : Prop := seqClonesUptoRow.holds Try.pinned (OpenSpec.upto seqClonesSpec)

end Rows
end Go.Proofs.Ytbbpnpokccfhjaa
