/-
  NARROWER THAN 'FOR EVERY INPUT', by the rows' own cells (each row's printed sentence says how): CabShapes: laid · ChenShapes: laid · CabEnds: laid · CabKeeps: laid · ChenEnds: laid · ChenKeeps: laid · CabSteps: laid · CabClones: laid · ChenSteps: laid · ChenClones: laid.
  DERIVED. THE GIVEN ROWS OF THIS SEAT. 10 by the template 'for every input the law returns true; each argument reads behind the call as it read before'; 0 by the template 'total and deterministic' (their statements: YtapaolaemkhbdaaDoorTotals.lean).
  GIVEN WITH THE SEED: the statements are not yours to turn. If you find one false, say at which input.
  Laid BY PROGRAM, IN A SANDBOX (cutbox-rows.mjs): the forced cells as the released guide's own fill.sh prints them over the translation 762f775a0acd028f… (all of the seat's roots in one cut). By AI agents, Wed Nov 11 2026. No macro, syntax, notation, axiom, sorry.
-/
import Derived.Test.YtapaolaemkhbdaaDoorChecked
import GoSem.Claim
import GoSem.ClaimJoined
import GoSem.ClaimMapViews
import Derived.JoinedTies
import Derived.KernelRfl
namespace Go.Proofs.YtapaolaemkhbdaaDoor
/- THE CELL 'sum', in the pinned program and in every row, IS THE sha256 OF THE DUMP (.gsa) THAT YtapaolaemkhbdaaDoorProg.lean LOADS. Nothing in Lean hashes anything: it is a label: what it is worth is what the hold of that sum in a sandbox is worth. -/
noncomputable def Tryd.pinned : Pinned := { name := "ytapaolaemkhbdaadoor", sum := "762f775a0acd028f1724fd94988e117375388895cd0436a4efbdeb781374be4a", checked := Tryd.checked }
namespace Rows
def none {H : Type} : Left H := { results := [], args := [] }

/- WHAT THE LISTED PACKAGE-LEVEL VARIABLES READ AS WHEN THE CALL BEGINS. Each datum BY PROGRAM (the guide's laid-datum.mjs) off the statement by which the dump's own 'gosem.cut.vars' lays the variable. In a bare row this is a premise. The card (YtapaolaemkhbdaaDoorCards.lean) ties it to the program's text. -/
def laid_math_bits_deBruijn64tab {H : Type} : DataW H := .agg [.lit (.int .u8 0), .lit (.int .u8 1), .lit (.int .u8 56), .lit (.int .u8 2), .lit (.int .u8 57), .lit (.int .u8 49), .lit (.int .u8 28), .lit (.int .u8 3), .lit (.int .u8 61), .lit (.int .u8 58), .lit (.int .u8 42), .lit (.int .u8 50), .lit (.int .u8 38), .lit (.int .u8 29), .lit (.int .u8 17), .lit (.int .u8 4), .lit (.int .u8 62), .lit (.int .u8 47), .lit (.int .u8 59), .lit (.int .u8 36), .lit (.int .u8 45), .lit (.int .u8 43), .lit (.int .u8 51), .lit (.int .u8 22), .lit (.int .u8 53), .lit (.int .u8 39), .lit (.int .u8 33), .lit (.int .u8 30), .lit (.int .u8 24), .lit (.int .u8 18), .lit (.int .u8 12), .lit (.int .u8 5), .lit (.int .u8 63), .lit (.int .u8 55), .lit (.int .u8 48), .lit (.int .u8 27), .lit (.int .u8 60), .lit (.int .u8 41), .lit (.int .u8 37), .lit (.int .u8 16), .lit (.int .u8 46), .lit (.int .u8 35), .lit (.int .u8 44), .lit (.int .u8 21), .lit (.int .u8 52), .lit (.int .u8 32), .lit (.int .u8 23), .lit (.int .u8 11), .lit (.int .u8 54), .lit (.int .u8 26), .lit (.int .u8 40), .lit (.int .u8 15), .lit (.int .u8 34), .lit (.int .u8 20), .lit (.int .u8 31), .lit (.int .u8 10), .lit (.int .u8 25), .lit (.int .u8 14), .lit (.int .u8 19), .lit (.int .u8 9), .lit (.int .u8 13), .lit (.int .u8 8), .lit (.int .u8 7), .lit (.int .u8 6)]

/-- 'coxswainlaw18.CabShapes': WHATEVER THE INPUT: true; the input reads as it did. -/
def cabShapesSpec : ChangeSpec := { name := "cabShapes", fn := fun _ => fun
  | [d1, d2] => { results := [.lit (.bool true)], args := [d1, d2] }
  | _ => none }
def cabShapesRow : OpenClaim := { program := "ytapaolaemkhbdaadoor", sum := "762f775a0acd028f1724fd94988e117375388895cd0436a4efbdeb781374be4a", func := "coxswain/coxswainlaw18.CabShapes", spec := "cabShapes", named := ["math/bits.deBruijn64tab"], apart := false, laid := [("math/bits.deBruijn64tab", laid_math_bits_deBruijn64tab)] }
def CabShapesSaid : Prop := cabShapesRow.holds Tryd.pinned (OpenSpec.ofChange cabShapesSpec)

/-- ITS FALSE NEIGHBOUR: 'it returns false'. Refute it at one input. -/
def cabShapesWrong : ChangeSpec := { name := "cabShapes", fn := fun _ => fun
  | [d1, d2] => { results := [.lit (.bool false)], args := [d1, d2] }
  | _ => none }
def CabShapesWrongFalsely : Prop := cabShapesRow.holds Tryd.pinned (OpenSpec.ofChange cabShapesWrong)

/-- 'coxswainlaw15.ChenShapes': WHATEVER THE INPUT: true; the input reads as it did. -/
def chenShapesSpec : ChangeSpec := { name := "chenShapes", fn := fun _ => fun
  | [d1, d2] => { results := [.lit (.bool true)], args := [d1, d2] }
  | _ => none }
def chenShapesRow : OpenClaim := { program := "ytapaolaemkhbdaadoor", sum := "762f775a0acd028f1724fd94988e117375388895cd0436a4efbdeb781374be4a", func := "coxswain/coxswainlaw15.ChenShapes", spec := "chenShapes", named := ["math/bits.deBruijn64tab"], apart := false, laid := [("math/bits.deBruijn64tab", laid_math_bits_deBruijn64tab)] }
def ChenShapesSaid : Prop := chenShapesRow.holds Tryd.pinned (OpenSpec.ofChange chenShapesSpec)

/-- ITS FALSE NEIGHBOUR: 'it returns false'. Refute it at one input. -/
def chenShapesWrong : ChangeSpec := { name := "chenShapes", fn := fun _ => fun
  | [d1, d2] => { results := [.lit (.bool false)], args := [d1, d2] }
  | _ => none }
def ChenShapesWrongFalsely : Prop := chenShapesRow.holds Tryd.pinned (OpenSpec.ofChange chenShapesWrong)

/-- 'coxswainlaw18.CabEnds': WHATEVER THE INPUT: true; the input reads as it did. -/
def cabEndsSpec : ChangeSpec := { name := "cabEnds", fn := fun _ => fun
  | [d] => { results := [.lit (.bool true)], args := [d] }
  | _ => none }
def cabEndsRow : OpenClaim := { program := "ytapaolaemkhbdaadoor", sum := "762f775a0acd028f1724fd94988e117375388895cd0436a4efbdeb781374be4a", func := "coxswain/coxswainlaw18.CabEnds", spec := "cabEnds", named := ["math/bits.deBruijn64tab"], apart := false, laid := [("math/bits.deBruijn64tab", laid_math_bits_deBruijn64tab)] }
def CabEndsSaid : Prop := cabEndsRow.holds Tryd.pinned (OpenSpec.ofChange cabEndsSpec)

/-- ITS FALSE NEIGHBOUR: 'it returns false'. Refute it at one input. -/
def cabEndsWrong : ChangeSpec := { name := "cabEnds", fn := fun _ => fun
  | [d] => { results := [.lit (.bool false)], args := [d] }
  | _ => none }
def CabEndsWrongFalsely : Prop := cabEndsRow.holds Tryd.pinned (OpenSpec.ofChange cabEndsWrong)

/-- 'coxswainlaw18.CabKeeps': WHATEVER THE INPUT: true; the input reads as it did. -/
def cabKeepsSpec : ChangeSpec := { name := "cabKeeps", fn := fun _ => fun
  | [d1, d2] => { results := [.lit (.bool true)], args := [d1, d2] }
  | _ => none }
def cabKeepsRow : OpenClaim := { program := "ytapaolaemkhbdaadoor", sum := "762f775a0acd028f1724fd94988e117375388895cd0436a4efbdeb781374be4a", func := "coxswain/coxswainlaw18.CabKeeps", spec := "cabKeeps", named := ["math/bits.deBruijn64tab"], apart := false, laid := [("math/bits.deBruijn64tab", laid_math_bits_deBruijn64tab)] }
def CabKeepsSaid : Prop := cabKeepsRow.holds Tryd.pinned (OpenSpec.ofChange cabKeepsSpec)

/-- ITS FALSE NEIGHBOUR: 'it returns false'. Refute it at one input. -/
def cabKeepsWrong : ChangeSpec := { name := "cabKeeps", fn := fun _ => fun
  | [d1, d2] => { results := [.lit (.bool false)], args := [d1, d2] }
  | _ => none }
def CabKeepsWrongFalsely : Prop := cabKeepsRow.holds Tryd.pinned (OpenSpec.ofChange cabKeepsWrong)

/-- 'coxswainlaw15.ChenEnds': WHATEVER THE INPUT: true; the input reads as it did. -/
def chenEndsSpec : ChangeSpec := { name := "chenEnds", fn := fun _ => fun
  | [d] => { results := [.lit (.bool true)], args := [d] }
  | _ => none }
def chenEndsRow : OpenClaim := { program := "ytapaolaemkhbdaadoor", sum := "762f775a0acd028f1724fd94988e117375388895cd0436a4efbdeb781374be4a", func := "coxswain/coxswainlaw15.ChenEnds", spec := "chenEnds", named := ["math/bits.deBruijn64tab"], apart := false, laid := [("math/bits.deBruijn64tab", laid_math_bits_deBruijn64tab)] }
def ChenEndsSaid : Prop := chenEndsRow.holds Tryd.pinned (OpenSpec.ofChange chenEndsSpec)

/-- ITS FALSE NEIGHBOUR: 'it returns false'. Refute it at one input. -/
def chenEndsWrong : ChangeSpec := { name := "chenEnds", fn := fun _ => fun
  | [d] => { results := [.lit (.bool false)], args := [d] }
  | _ => none }
def ChenEndsWrongFalsely : Prop := chenEndsRow.holds Tryd.pinned (OpenSpec.ofChange chenEndsWrong)

/-- 'coxswainlaw15.ChenKeeps': WHATEVER THE INPUT: true; the input reads as it did. -/
def chenKeepsSpec : ChangeSpec := { name := "chenKeeps", fn := fun _ => fun
  | [d1, d2] => { results := [.lit (.bool true)], args := [d1, d2] }
  | _ => none }
def chenKeepsRow : OpenClaim := { program := "ytapaolaemkhbdaadoor", sum := "762f775a0acd028f1724fd94988e117375388895cd0436a4efbdeb781374be4a", func := "coxswain/coxswainlaw15.ChenKeeps", spec := "chenKeeps", named := ["math/bits.deBruijn64tab"], apart := false, laid := [("math/bits.deBruijn64tab", laid_math_bits_deBruijn64tab)] }
def ChenKeepsSaid : Prop := chenKeepsRow.holds Tryd.pinned (OpenSpec.ofChange chenKeepsSpec)

/-- ITS FALSE NEIGHBOUR: 'it returns false'. Refute it at one input. -/
def chenKeepsWrong : ChangeSpec := { name := "chenKeeps", fn := fun _ => fun
  | [d1, d2] => { results := [.lit (.bool false)], args := [d1, d2] }
  | _ => none }
def ChenKeepsWrongFalsely : Prop := chenKeepsRow.holds Tryd.pinned (OpenSpec.ofChange chenKeepsWrong)

/-- 'coxswainlaw18.CabSteps': WHATEVER THE INPUT: true; the input reads as it did. -/
def cabStepsSpec : ChangeSpec := { name := "cabSteps", fn := fun _ => fun
  | [d] => { results := [.lit (.bool true)], args := [d] }
  | _ => none }
def cabStepsRow : OpenClaim := { program := "ytapaolaemkhbdaadoor", sum := "762f775a0acd028f1724fd94988e117375388895cd0436a4efbdeb781374be4a", func := "coxswain/coxswainlaw18.CabSteps", spec := "cabSteps", named := ["math/bits.deBruijn64tab"], apart := false, laid := [("math/bits.deBruijn64tab", laid_math_bits_deBruijn64tab)] }
def CabStepsSaid : Prop := cabStepsRow.holds Tryd.pinned (OpenSpec.ofChange cabStepsSpec)

/-- ITS FALSE NEIGHBOUR: 'it returns false'. Refute it at one input. -/
def cabStepsWrong : ChangeSpec := { name := "cabSteps", fn := fun _ => fun
  | [d] => { results := [.lit (.bool false)], args := [d] }
  | _ => none }
def CabStepsWrongFalsely : Prop := cabStepsRow.holds Tryd.pinned (OpenSpec.ofChange cabStepsWrong)

/-- 'coxswainlaw18.CabClones': WHATEVER THE INPUT: true; the input reads as it did. -/
def cabClonesSpec : ChangeSpec := { name := "cabClones", fn := fun _ => fun
  | [d1, d2] => { results := [.lit (.bool true)], args := [d1, d2] }
  | _ => none }
def cabClonesRow : OpenClaim := { program := "ytapaolaemkhbdaadoor", sum := "762f775a0acd028f1724fd94988e117375388895cd0436a4efbdeb781374be4a", func := "coxswain/coxswainlaw18.CabClones", spec := "cabClones", named := ["math/bits.deBruijn64tab"], apart := false, laid := [("math/bits.deBruijn64tab", laid_math_bits_deBruijn64tab)] }
def CabClonesSaid : Prop := cabClonesRow.holds Tryd.pinned (OpenSpec.ofChange cabClonesSpec)

/-- ITS FALSE NEIGHBOUR: 'it returns false'. Refute it at one input. -/
def cabClonesWrong : ChangeSpec := { name := "cabClones", fn := fun _ => fun
  | [d1, d2] => { results := [.lit (.bool false)], args := [d1, d2] }
  | _ => none }
def CabClonesWrongFalsely : Prop := cabClonesRow.holds Tryd.pinned (OpenSpec.ofChange cabClonesWrong)

/-- 'coxswainlaw15.ChenSteps': WHATEVER THE INPUT: true; the input reads as it did. -/
def chenStepsSpec : ChangeSpec := { name := "chenSteps", fn := fun _ => fun
  | [d] => { results := [.lit (.bool true)], args := [d] }
  | _ => none }
def chenStepsRow : OpenClaim := { program := "ytapaolaemkhbdaadoor", sum := "762f775a0acd028f1724fd94988e117375388895cd0436a4efbdeb781374be4a", func := "coxswain/coxswainlaw15.ChenSteps", spec := "chenSteps", named := ["math/bits.deBruijn64tab"], apart := false, laid := [("math/bits.deBruijn64tab", laid_math_bits_deBruijn64tab)] }
def ChenStepsSaid : Prop := chenStepsRow.holds Tryd.pinned (OpenSpec.ofChange chenStepsSpec)

/-- ITS FALSE NEIGHBOUR: 'it returns false'. Refute it at one input. -/
def chenStepsWrong : ChangeSpec := { name := "chenSteps", fn := fun _ => fun
  | [d] => { results := [.lit (.bool false)], args := [d] }
  | _ => none }
def ChenStepsWrongFalsely : Prop := chenStepsRow.holds Tryd.pinned (OpenSpec.ofChange chenStepsWrong)

/-- 'coxswainlaw15.ChenClones': WHATEVER THE INPUT: true; the input reads as it did. -/
def chenClonesSpec : ChangeSpec := { name := "chenClones", fn := fun _ => fun
  | [d1, d2] => { results := [.lit (.bool true)], args := [d1, d2] }
  | _ => none }
def chenClonesRow : OpenClaim := { program := "ytapaolaemkhbdaadoor", sum := "762f775a0acd028f1724fd94988e117375388895cd0436a4efbdeb781374be4a", func := "coxswain/coxswainlaw15.ChenClones", spec := "chenClones", named := ["math/bits.deBruijn64tab"], apart := false, laid := [("math/bits.deBruijn64tab", laid_math_bits_deBruijn64tab)] }
def ChenClonesSaid : Prop := chenClonesRow.holds Tryd.pinned (OpenSpec.ofChange chenClonesSpec)

/-- ITS FALSE NEIGHBOUR: 'it returns false'. Refute it at one input. -/
def chenClonesWrong : ChangeSpec := { name := "chenClones", fn := fun _ => fun
  | [d1, d2] => { results := [.lit (.bool false)], args := [d1, d2] }
  | _ => none }
def ChenClonesWrongFalsely : Prop := chenClonesRow.holds Tryd.pinned (OpenSpec.ofChange chenClonesWrong)

/- THE SECOND FORM. 'bulk': how many values and letters a reading holds, each counted each time it is reached (what is shared counts as often as it is met; a slice's spare places count too). A statement '..UptoSaid' is the law's where the arguments, and the package variables that the reading takes, are together of bulk at most 1048576: NARROWER than '..Said'. Prove '..Said' where nothing that the law and all that it calls make is longer than what came in: it says more and counts as full. Else prove '..UptoSaid'. A law counts once. -/
mutual
def uptoBulk {H : Type} : DataW H → Nat
  | .lit (.string bytes) => bytes.length + 1
  | .lit _ => 1
  | .nil => 1
  | .ptr d => uptoBulk d + 1
  | .slice elems spare => uptoBulkAll elems + uptoBulkAll spare + 1
  | .agg parts => uptoBulkAll parts + 1
  | .iface _ d => uptoBulk d + 1
  | .map entries => uptoBulkEntries entries + 1
  | .held _ => 1
def uptoBulkAll {H : Type} : List (DataW H) → Nat
  | [] => 0
  | d :: r => uptoBulk d + uptoBulkAll r
def uptoBulkEntries {H : Type} : List (Lit × DataW H) → Nat
  | [] => 0
  | x :: r => uptoBulkEntry x + uptoBulkEntries r
def uptoBulkEntry {H : Type} : Lit × DataW H → Nat
  | (.string bytes, d) => bytes.length + uptoBulk d + 1
  | (_, d) => uptoBulk d + 1
 end
def uptoSmall : (H : Type) → List (DataW H) → Bool := fun _ ds => decide (uptoBulkAll ds ≤ 1048576)
def OpenSpec.upto (s : _root_.Go.ChangeSpec) : _root_.Go.OpenSpec := { _root_.Go.OpenSpec.ofChange s with cond := some uptoSmall }

/-- 'coxswainlaw18.CabShapes', WHERE WHAT IT READS IS OF BULK AT MOST 1048576: true; the input reads as it did. -/
def cabShapesUptoRow : OpenClaim := { program := "ytapaolaemkhbdaadoor", sum := "762f775a0acd028f1724fd94988e117375388895cd0436a4efbdeb781374be4a", func := "coxswain/coxswainlaw18.CabShapes", spec := "cabShapes", named := ["math/bits.deBruijn64tab"], apart := false, laid := [("math/bits.deBruijn64tab", laid_math_bits_deBruijn64tab)], narrowed := true }
def CabShapesUptoSaid : Prop := cabShapesUptoRow.holds Tryd.pinned (OpenSpec.upto cabShapesSpec)

/-- 'coxswainlaw15.ChenShapes', WHERE WHAT IT READS IS OF BULK AT MOST 1048576: true; the input reads as it did. -/
def chenShapesUptoRow : OpenClaim := { program := "ytapaolaemkhbdaadoor", sum := "762f775a0acd028f1724fd94988e117375388895cd0436a4efbdeb781374be4a", func := "coxswain/coxswainlaw15.ChenShapes", spec := "chenShapes", named := ["math/bits.deBruijn64tab"], apart := false, laid := [("math/bits.deBruijn64tab", laid_math_bits_deBruijn64tab)], narrowed := true }
def ChenShapesUptoSaid : Prop := chenShapesUptoRow.holds Tryd.pinned (OpenSpec.upto chenShapesSpec)

/-- 'coxswainlaw18.CabEnds', WHERE WHAT IT READS IS OF BULK AT MOST 1048576: true; the input reads as it did. -/
def cabEndsUptoRow : OpenClaim := { program := "ytapaolaemkhbdaadoor", sum := "762f775a0acd028f1724fd94988e117375388895cd0436a4efbdeb781374be4a", func := "coxswain/coxswainlaw18.CabEnds", spec := "cabEnds", named := ["math/bits.deBruijn64tab"], apart := false, laid := [("math/bits.deBruijn64tab", laid_math_bits_deBruijn64tab)], narrowed := true }
def CabEndsUptoSaid : Prop := cabEndsUptoRow.holds Tryd.pinned (OpenSpec.upto cabEndsSpec)

/-- 'coxswainlaw18.CabKeeps', WHERE WHAT IT READS IS OF BULK AT MOST 1048576: true; the input reads as it did. -/
def cabKeepsUptoRow : OpenClaim := { program := "ytapaolaemkhbdaadoor", sum := "762f775a0acd028f1724fd94988e117375388895cd0436a4efbdeb781374be4a", func := "coxswain/coxswainlaw18.CabKeeps", spec := "cabKeeps", named := ["math/bits.deBruijn64tab"], apart := false, laid := [("math/bits.deBruijn64tab", laid_math_bits_deBruijn64tab)], narrowed := true }
def CabKeepsUptoSaid : Prop := cabKeepsUptoRow.holds Tryd.pinned (OpenSpec.upto cabKeepsSpec)

/-- 'coxswainlaw15.ChenEnds', WHERE WHAT IT READS IS OF BULK AT MOST 1048576: true; the input reads as it did. -/
def chenEndsUptoRow : OpenClaim := { program := "ytapaolaemkhbdaadoor", sum := "762f775a0acd028f1724fd94988e117375388895cd0436a4efbdeb781374be4a", func := "coxswain/coxswainlaw15.ChenEnds", spec := "chenEnds", named := ["math/bits.deBruijn64tab"], apart := false, laid := [("math/bits.deBruijn64tab", laid_math_bits_deBruijn64tab)], narrowed := true }
def ChenEndsUptoSaid : Prop := chenEndsUptoRow.holds Tryd.pinned (OpenSpec.upto chenEndsSpec)

/-- 'coxswainlaw15.ChenKeeps', WHERE WHAT IT READS IS OF BULK AT MOST 1048576: true; the input reads as it did. -/
def chenKeepsUptoRow : OpenClaim := { program := "ytapaolaemkhbdaadoor", sum := "762f775a0acd028f1724fd94988e117375388895cd0436a4efbdeb781374be4a", func := "coxswain/coxswainlaw15.ChenKeeps", spec := "chenKeeps", named := ["math/bits.deBruijn64tab"], apart := false, laid := [("math/bits.deBruijn64tab", laid_math_bits_deBruijn64tab)], narrowed := true }
def ChenKeepsUptoSaid : Prop := chenKeepsUptoRow.holds Tryd.pinned (OpenSpec.upto chenKeepsSpec)

/-- 'coxswainlaw18.CabSteps', WHERE WHAT IT READS IS OF BULK AT MOST 1048576: true; the input reads as it did. -/
def cabStepsUptoRow : OpenClaim := { program := "ytapaolaemkhbdaadoor", sum := "762f775a0acd028f1724fd94988e117375388895cd0436a4efbdeb781374be4a", func := "coxswain/coxswainlaw18.CabSteps", spec := "cabSteps", named := ["math/bits.deBruijn64tab"], apart := false, laid := [("math/bits.deBruijn64tab", laid_math_bits_deBruijn64tab)], narrowed := true }
def CabStepsUptoSaid : Prop := cabStepsUptoRow.holds Tryd.pinned (OpenSpec.upto cabStepsSpec)

/-- 'coxswainlaw18.CabClones', WHERE WHAT IT READS IS OF BULK AT MOST 1048576: true; the input reads as it did. -/
def cabClonesUptoRow : OpenClaim := { program := "ytapaolaemkhbdaadoor", sum := "762f775a0acd028f1724fd94988e117375388895cd0436a4efbdeb781374be4a", func := "coxswain/coxswainlaw18.CabClones", spec := "cabClones", named := ["math/bits.deBruijn64tab"], apart := false, laid := [("math/bits.deBruijn64tab", laid_math_bits_deBruijn64tab)], narrowed := true }
def CabClonesUptoSaid : Prop := cabClonesUptoRow.holds Tryd.pinned (OpenSpec.upto cabClonesSpec)

/-- 'coxswainlaw15.ChenSteps', WHERE WHAT IT READS IS OF BULK AT MOST 1048576: true; the input reads as it did. -/
def chenStepsUptoRow : OpenClaim := { program := "ytapaolaemkhbdaadoor", sum := "762f775a0acd028f1724fd94988e117375388895cd0436a4efbdeb781374be4a", func := "coxswain/coxswainlaw15.ChenSteps", spec := "chenSteps", named := ["math/bits.deBruijn64tab"], apart := false, laid := [("math/bits.deBruijn64tab", laid_math_bits_deBruijn64tab)], narrowed := true }
def ChenStepsUptoSaid : Prop := chenStepsUptoRow.holds Tryd.pinned (OpenSpec.upto chenStepsSpec)

/-- 'coxswainlaw15.ChenClones', WHERE WHAT IT READS IS OF BULK AT MOST 1048576: true; the input reads as it did. -/
def chenClonesUptoRow : OpenClaim := { program := "ytapaolaemkhbdaadoor", sum := "762f775a0acd028f1724fd94988e117375388895cd0436a4efbdeb781374be4a", func := "coxswain/coxswainlaw15.ChenClones", spec := "chenClones", named := ["math/bits.deBruijn64tab"], apart := false, laid := [("math/bits.deBruijn64tab", laid_math_bits_deBruijn64tab)], narrowed := true }
def ChenClonesUptoSaid : Prop := chenClonesUptoRow.holds Tryd.pinned (OpenSpec.upto chenClonesSpec)

end Rows
end Go.Proofs.YtapaolaemkhbdaaDoor
