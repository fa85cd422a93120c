/- Parts joined: MemPlain, Mem, Mem2, Mem3, Mem4, Mem5, L13. -/
import Derived.Test.YtkedegbpkkgeaaaGreatProg
import Derived.Test.YtkedegbpkkgeaaaGreatTop1
import Derived.WalkSpells
import Derived.Deep.RegionWith
import Derived.StillTailTactics
/- Package mem: plain words (no program in sight). -/
namespace Go.Proofs.YtkedegbpkkgeaaaGreat.mem
set_option linter.unusedVariables false
set_option linter.unusedSimpArgs false

/-- does a region lie within so many words -/
def insB (size at_ len : Int) : Bool := decide (0 ≤ at_ ∧ 0 ≤ len ∧ at_ ≤ size ∧ len ≤ size - at_)
def regB (at_ len : Int) : Bool := decide (0 ≤ at_ ∧ 0 ≤ len)
end Go.Proofs.YtkedegbpkkgeaaaGreat.mem

/- Package mem: the walks. -/
namespace Go.Proofs.YtkedegbpkkgeaaaGreat.mem
open Go Go.RowKit Go.Proofs.YtkedegbpkkgeaaaGreat.kit
set_option linter.unusedVariables false
set_option linter.unusedSimpArgs false

/-- a row of words, read as numbers -/
def ReadsW (w : World) (v : Value) (zs : List Int) : Prop := Reads w 1 v zs.length (zs.map (Value.int .u32)) ∧ ∀ n ∈ zs, (Lit.int .u32 n).wf = true
theorem ReadsW.chg {w w' : World} {v : Value} {zs : List Int} (h : ReadsW w v zs) (k : Chg [] w w') : ReadsW w' v zs := ⟨h.1.fresh k, h.2⟩
theorem ReadsW.far {w w' : World} {v : Value} {zs : List Int} {L : List Nat} (h : ReadsW w v zs) (k : Chg L w w') (hn : ∀ b, v.ownBlock = some b → b ∉ L) : ReadsW w' v zs := ⟨h.1.chg k hn, h.2⟩
theorem ReadsW.nil (w : World) : ReadsW w (.slice none 0 0) [] := ⟨Reads.nil w 1, by simp⟩
/-- a row of words of the call's own -/
def OwnW (w : World) (B : Nat) (v : Value) (zs : List Int) : Prop := w.ownsRow B 43 1 v zs.length (zs.map (Value.int .u32))
theorem OwnW.reads {w : World} {B : Nat} {v : Value} {zs : List Int} (h : OwnW w B v zs) (hw : ∀ n ∈ zs, (Lit.int .u32 n).wf = true) : ReadsW w v zs := ⟨Reads.of_own h (by decide), hw⟩
theorem own_chg {w w' : World} {B e size n : Nat} {v : Value} {xs : List Value} {L : List Nat} (h : w.ownsRow B e size v n xs) (k : Chg L w w') (hn : ∀ b, v.ownBlock = some b → b ∉ L) : w'.ownsRow B e size v n xs := by
  refine ⟨h.1, ?_⟩
  rcases h.2 with h0 | ⟨g, cap, cur, rfl, hb, hg, r⟩
  · exact .inl h0
  · exact .inr ⟨g, cap, cur, rfl, hb, k.heap hg (hn g rfl), r⟩
theorem own_base {w : World} {B B' e size n : Nat} {v : Value} {xs : List Value} (h : w.ownsRow B e size v n xs) (hb : B' ≤ B) : w.ownsRow B' e size v n xs := by
  refine ⟨h.1, ?_⟩
  rcases h.2 with h0 | ⟨g, cap, cur, rfl, hg, r⟩
  · exact .inl h0
  · exact .inr ⟨g, cap, cur, rfl, Nat.le_trans hb hg, r⟩

section
variable {w w' : World} {b : Nat} {sv : Value} {ws : List Int} {n : Int} {L : List Nat}
end

end Go.Proofs.YtkedegbpkkgeaaaGreat.mem

/- Package mem: the walks, part 2. -/
namespace Go.Proofs.YtkedegbpkkgeaaaGreat.mem
open Go Go.RowKit Go.Proofs.YtkedegbpkkgeaaaGreat.kit
set_option linter.unusedVariables false
set_option linter.unusedSimpArgs false
set_option maxRecDepth 20000

end Go.Proofs.YtkedegbpkkgeaaaGreat.mem

/- Package mem: Fill, Clone, and what is told of nobody's memory; plain.Words. -/
namespace Go.Proofs.YtkedegbpkkgeaaaGreat.mem
open Go Go.RowKit Go.Proofs.YtkedegbpkkgeaaaGreat.kit
set_option linter.unusedVariables false
set_option linter.unusedSimpArgs false
set_option maxRecDepth 20000

/-- words laid over others from a place on -/
def fillL (ws : List Int) (i : Nat) (l : List Int) : List Int := ws.take i ++ (l ++ ws.drop (i + l.length))
end Go.Proofs.YtkedegbpkkgeaaaGreat.mem

/- Package mem: Clone; plain.Words; the law's same. -/
namespace Go.Proofs.YtkedegbpkkgeaaaGreat.mem
open Go Go.RowKit Go.Proofs.YtkedegbpkkgeaaaGreat.kit
set_option linter.unusedVariables false
set_option linter.unusedSimpArgs false
set_option maxRecDepth 20000

def wordsB (xs ys : List Int) : Bool := decide (xs = ys)
end Go.Proofs.YtkedegbpkkgeaaaGreat.mem

/- The memory's law: its example; Write of any place. -/
namespace Go.Proofs.YtkedegbpkkgeaaaGreat.mem
open Go Go.RowKit Go.Proofs.YtkedegbpkkgeaaaGreat.kit
set_option linter.unusedVariables false
set_option linter.unusedSimpArgs false
set_option maxRecDepth 20000

def wrL (ws : List Int) (i x : Int) : List Int := if 0 ≤ i ∧ i < ws.length then ws.set i.toNat x else ws
end Go.Proofs.YtkedegbpkkgeaaaGreat.mem

/- A memory of words, and a memory's words. -/
namespace Go.Proofs.YtkedegbpkkgeaaaGreat.mem
open Go Go.RowKit Go.Proofs.YtkedegbpkkgeaaaGreat.kit
set_option linter.unusedVariables false
set_option linter.unusedSimpArgs false
set_option maxRecDepth 20000

end Go.Proofs.YtkedegbpkkgeaaaGreat.mem
