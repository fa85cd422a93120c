/-
  No cell of these rows narrows 'for every input' (looked for: loops, veiled, ifaces, maps, wideKeys, modest, calm, conditions, laid).
  DERIVED. THE GIVEN ROWS OF THIS SEAT. 5 by the template 'for every input the law returns true; each argument reads behind the call as it read before'; 0 by the template 'total and deterministic' (their statements: YtjplamoofkcojaaTotals.lean).
  GIVEN WITH THE SEED: the statements are not yours to turn. If you find one false, say at which input.
  Laid BY PROGRAM, IN A SANDBOX (cutbox-rows.mjs): the forced cells as the released guide's own fill.sh prints them over the translation 70582cc2e4c1f61f… (all of the seat's roots in one cut). By AI agents, Wed Nov 11 2026. No macro, syntax, notation, axiom, sorry.
-/
import Derived.Test.YtjplamoofkcojaaChecked
import GoSem.Claim
import GoSem.ClaimJoined
import GoSem.ClaimMapViews
import Derived.JoinedTies
import Derived.KernelRfl
namespace Go.Proofs.Ytjplamoofkcojaa
/- THE CELL 'sum', in the pinned program and in every row, IS THE sha256 OF THE DUMP (.gsa) THAT YtjplamoofkcojaaProg.lean LOADS. Nothing in Lean hashes anything: it is a label: what it is worth is what the hold of that sum in a sandbox is worth. -/
noncomputable def Try.pinned : Pinned := { name := "ytjplamoofkcojaa", sum := "70582cc2e4c1f61fc33456822b1a4f143fc8aa034797262daa1237d7efcd3f6d", checked := Try.checked }
namespace Rows
def none {H : Type} : Left H := { results := [], args := [] }

/-- 'coxswainlaw35.BoundTells': WHATEVER THE INPUT: true; the input reads as it did. -/
def boundTellsSpec : ChangeSpec := { name := "boundTells", fn := fun _ => fun
  | [d1, d2, d3] => { results := [.lit (.bool true)], args := [d1, d2, d3] }
  | _ => none }
def boundTellsRow : OpenClaim := { program := "ytjplamoofkcojaa", sum := "70582cc2e4c1f61fc33456822b1a4f143fc8aa034797262daa1237d7efcd3f6d", func := "coxswain/coxswainlaw35.BoundTells", spec := "boundTells", apart := false }
def BoundTellsSaid : Prop := boundTellsRow.holds Try.pinned (OpenSpec.ofChange boundTellsSpec)

/-- ITS FALSE NEIGHBOUR: 'it returns false'. Refute it at one input. -/
def boundTellsWrong : ChangeSpec := { name := "boundTells", fn := fun _ => fun
  | [d1, d2, d3] => { results := [.lit (.bool false)], args := [d1, d2, d3] }
  | _ => none }
def BoundTellsWrongFalsely : Prop := boundTellsRow.holds Try.pinned (OpenSpec.ofChange boundTellsWrong)

/-- 'coxswainlaw35.BoundHolds': WHATEVER THE INPUT: true; the input reads as it did. -/
def boundHoldsSpec : ChangeSpec := { name := "boundHolds", fn := fun _ => fun
  | [d] => { results := [.lit (.bool true)], args := [d] }
  | _ => none }
def boundHoldsRow : OpenClaim := { program := "ytjplamoofkcojaa", sum := "70582cc2e4c1f61fc33456822b1a4f143fc8aa034797262daa1237d7efcd3f6d", func := "coxswain/coxswainlaw35.BoundHolds", spec := "boundHolds", apart := false }
def BoundHoldsSaid : Prop := boundHoldsRow.holds Try.pinned (OpenSpec.ofChange boundHoldsSpec)

/-- ITS FALSE NEIGHBOUR: 'it returns false'. Refute it at one input. -/
def boundHoldsWrong : ChangeSpec := { name := "boundHolds", fn := fun _ => fun
  | [d] => { results := [.lit (.bool false)], args := [d] }
  | _ => none }
def BoundHoldsWrongFalsely : Prop := boundHoldsRow.holds Try.pinned (OpenSpec.ofChange boundHoldsWrong)

/-- 'coxswainlaw31.LayoutOwners': WHATEVER THE INPUT: true; the input reads as it did. -/
def layoutOwnersSpec : ChangeSpec := { name := "layoutOwners", fn := fun _ => fun
  | [d1, d2] => { results := [.lit (.bool true)], args := [d1, d2] }
  | _ => none }
def layoutOwnersRow : OpenClaim := { program := "ytjplamoofkcojaa", sum := "70582cc2e4c1f61fc33456822b1a4f143fc8aa034797262daa1237d7efcd3f6d", func := "coxswain/coxswainlaw31.LayoutOwners", spec := "layoutOwners", unfollowed := true, recurses := true, apart := false }
def LayoutOwnersSaid : Prop := layoutOwnersRow.holds Try.pinned (OpenSpec.ofChange layoutOwnersSpec)

/-- ITS FALSE NEIGHBOUR: 'it returns false'. Refute it at one input. -/
def layoutOwnersWrong : ChangeSpec := { name := "layoutOwners", fn := fun _ => fun
  | [d1, d2] => { results := [.lit (.bool false)], args := [d1, d2] }
  | _ => none }
def LayoutOwnersWrongFalsely : Prop := layoutOwnersRow.holds Try.pinned (OpenSpec.ofChange layoutOwnersWrong)

/-- 'coxswainlaw31.LayoutAny': WHATEVER THE INPUT: true; the input reads as it did. -/
def layoutAnySpec : ChangeSpec := { name := "layoutAny", fn := fun _ => fun
  | [d1, d2] => { results := [.lit (.bool true)], args := [d1, d2] }
  | _ => none }
def layoutAnyRow : OpenClaim := { program := "ytjplamoofkcojaa", sum := "70582cc2e4c1f61fc33456822b1a4f143fc8aa034797262daa1237d7efcd3f6d", func := "coxswain/coxswainlaw31.LayoutAny", spec := "layoutAny", unfollowed := true, recurses := true, apart := false }
def LayoutAnySaid : Prop := layoutAnyRow.holds Try.pinned (OpenSpec.ofChange layoutAnySpec)

/-- ITS FALSE NEIGHBOUR: 'it returns false'. Refute it at one input. -/
def layoutAnyWrong : ChangeSpec := { name := "layoutAny", fn := fun _ => fun
  | [d1, d2] => { results := [.lit (.bool false)], args := [d1, d2] }
  | _ => none }
def LayoutAnyWrongFalsely : Prop := layoutAnyRow.holds Try.pinned (OpenSpec.ofChange layoutAnyWrong)

/-- 'coxswainlaw31.LayoutLays': WHATEVER THE INPUT: true; the input reads as it did. -/
def layoutLaysSpec : ChangeSpec := { name := "layoutLays", fn := fun _ => fun
  | [d] => { results := [.lit (.bool true)], args := [d] }
  | _ => none }
def layoutLaysRow : OpenClaim := { program := "ytjplamoofkcojaa", sum := "70582cc2e4c1f61fc33456822b1a4f143fc8aa034797262daa1237d7efcd3f6d", func := "coxswain/coxswainlaw31.LayoutLays", spec := "layoutLays", unfollowed := true, recurses := true, apart := false }
def LayoutLaysSaid : Prop := layoutLaysRow.holds Try.pinned (OpenSpec.ofChange layoutLaysSpec)

/-- ITS FALSE NEIGHBOUR: 'it returns false'. Refute it at one input. -/
def layoutLaysWrong : ChangeSpec := { name := "layoutLays", fn := fun _ => fun
  | [d] => { results := [.lit (.bool false)], args := [d] }
  | _ => none }
def LayoutLaysWrongFalsely : Prop := layoutLaysRow.holds Try.pinned (OpenSpec.ofChange layoutLaysWrong)

/- THE SECOND FORM. 'bulk': how many values and letters a reading holds, each counted each time it is reached (what is shared counts as often as it is met; a slice's spare places count too). A statement '..UptoSaid' is the law's where the arguments, and the package variables that the reading takes, are together of bulk at most 1048576: NARROWER than '..Said'. Prove '..Said' where nothing that the law and all that it calls make is longer than what came in: it says more and counts as full. Else prove '..UptoSaid'. A law counts once. -/
mutual
def uptoBulk {H : Type} : DataW H → Nat
  | .lit (.string bytes) => bytes.length + 1
  | .lit _ => 1
  | .nil => 1
  | .ptr d => uptoBulk d + 1
  | .slice elems spare => uptoBulkAll elems + uptoBulkAll spare + 1
  | .agg parts => uptoBulkAll parts + 1
  | .iface _ d => uptoBulk d + 1
  | .map entries => uptoBulkEntries entries + 1
  | .held _ => 1
def uptoBulkAll {H : Type} : List (DataW H) → Nat
  | [] => 0
  | d :: r => uptoBulk d + uptoBulkAll r
def uptoBulkEntries {H : Type} : List (Lit × DataW H) → Nat
  | [] => 0
  | x :: r => uptoBulkEntry x + uptoBulkEntries r
def uptoBulkEntry {H : Type} : Lit × DataW H → Nat
  | (.string bytes, d) => bytes.length + uptoBulk d + 1
  | (_, d) => uptoBulk d + 1
 end
def uptoSmall : (H : Type) → List (DataW H) → Bool := fun _ ds => decide (uptoBulkAll ds ≤ 1048576)
def OpenSpec.upto (s : _root_.Go.ChangeSpec) : _root_.Go.OpenSpec := { _root_.Go.OpenSpec.ofChange s with cond := some uptoSmall }

/-- 'coxswainlaw35.BoundTells', WHERE WHAT IT READS IS OF BULK AT MOST 1048576: true; the input reads as it did. -/
def boundTellsUptoRow : OpenClaim := { program := "ytjplamoofkcojaa", sum := "70582cc2e4c1f61fc33456822b1a4f143fc8aa034797262daa1237d7efcd3f6d", func := "coxswain/coxswainlaw35.BoundTells", spec := "boundTells", apart := false, narrowed := true }
def BoundTellsUptoSaid : Prop := boundTellsUptoRow.holds Try.pinned (OpenSpec.upto boundTellsSpec)

/-- 'coxswainlaw35.BoundHolds', WHERE WHAT IT READS IS OF BULK AT MOST 1048576: true; the input reads as it did. -/
def boundHoldsUptoRow : OpenClaim := { program := "ytjplamoofkcojaa", sum := "70582cc2e4c1f61fc33456822b1a4f143fc8aa034797262daa1237d7efcd3f6d", func := "coxswain/coxswainlaw35.BoundHolds", spec := "boundHolds", apart := false, narrowed := true }
def BoundHoldsUptoSaid : Prop := boundHoldsUptoRow.holds Try.pinned (OpenSpec.upto boundHoldsSpec)

/-- 'coxswainlaw31.LayoutOwners', WHERE WHAT IT READS IS OF BULK AT MOST 1048576: true; the input reads as it did. -/
def layoutOwnersUptoRow : OpenClaim := { program := "ytjplamoofkcojaa", sum := "70582cc2e4c1f61fc33456822b1a4f143fc8aa034797262daa1237d7efcd3f6d", func := "coxswain/coxswainlaw31.LayoutOwners", spec := "layoutOwners", unfollowed := true, recurses := true, apart := false, narrowed := true }
def LayoutOwnersUptoSaid : Prop := layoutOwnersUptoRow.holds Try.pinned (OpenSpec.upto layoutOwnersSpec)

/-- 'coxswainlaw31.LayoutAny', WHERE WHAT IT READS IS OF BULK AT MOST 1048576: true; the input reads as it did. -/
def layoutAnyUptoRow : OpenClaim := { program := "ytjplamoofkcojaa", sum := "70582cc2e4c1f61fc33456822b1a4f143fc8aa034797262daa1237d7efcd3f6d", func := "coxswain/coxswainlaw31.LayoutAny", spec := "layoutAny", unfollowed := true, recurses := true, apart := false, narrowed := true }
def LayoutAnyUptoSaid : Prop := layoutAnyUptoRow.holds Try.pinned (OpenSpec.upto layoutAnySpec)

/-- 'coxswainlaw31.LayoutLays', WHERE WHAT IT READS IS OF BULK AT MOST 1048576: true; the input reads as it did. -/
def layoutLaysUptoRow : OpenClaim := { program := "ytjplamoofkcojaa", sum := "70582cc2e4c1f61fc33456822b1a4f143fc8aa034797262daa1237d7efcd3f6d", func := "coxswain/coxswainlaw31.LayoutLays", spec := "layoutLays", unfollowed := true, recurses := true, apart := false, narrowed := true }
def LayoutLaysUptoSaid : Prop := layoutLaysUptoRow.holds Try.pinned (OpenSpec.upto layoutLaysSpec)

end Rows
end Go.Proofs.Ytjplamoofkcojaa
