/- Parts joined: MemPlain, Mem, Mem2, Mem3, Mem4, Mem5, L13. -/
import Derived.Test.YtkmalnojkjmjiaaProg
import Derived.Test.YtkmalnojkjmjiaaKit
import Derived.WalkSpells
import Derived.Deep.RegionWith
import Derived.StillTailTactics
/- Package mem: plain words (no program in sight). -/
namespace Go.Proofs.Ytkmalnojkjmjiaa.mem
set_option linter.unusedVariables false
set_option linter.unusedSimpArgs false

/-- does a region lie within so many words -/
def insB (size at_ len : Int) : Bool := decide (0 ≤ at_ ∧ 0 ≤ len ∧ at_ ≤ size ∧ len ≤ size - at_)
theorem insB_true {size at_ len : Int} (h : 0 ≤ at_ ∧ 0 ≤ len ∧ at_ ≤ size ∧ len ≤ size - at_) : insB size at_ len = true := decide_eq_true h
theorem insB_false {size at_ len : Int} (h : ¬ (0 ≤ at_ ∧ 0 ≤ len ∧ at_ ≤ size ∧ len ≤ size - at_)) : insB size at_ len = false := decide_eq_false h
def regB (at_ len : Int) : Bool := decide (0 ≤ at_ ∧ 0 ≤ len)
theorem regB_true {at_ len : Int} (h1 : 0 ≤ at_) (h2 : 0 ≤ len) : regB at_ len = true := decide_eq_true ⟨h1, h2⟩
theorem regB_false {at_ len : Int} (h : ¬ (0 ≤ at_ ∧ 0 ≤ len)) : regB at_ len = false := decide_eq_false h
end Go.Proofs.Ytkmalnojkjmjiaa.mem

/- Package mem: the walks. -/
namespace Go.Proofs.Ytkmalnojkjmjiaa.mem
open Go Go.RowKit Go.Proofs.Ytkmalnojkjmjiaa.kit
set_option linter.unusedVariables false
set_option linter.unusedSimpArgs false

theorem info32 : (Try.prog.info? 49).map (fun i => (i.zero, i.size, i.bytes)) = some (some (.int .u32 0), 1, 4) := by kernel_rfl
theorem sz32 : (Try.prog.info? 49).map (·.size) = some 1 := by kernel_rfl

/-- a row of words, read as numbers -/
def ReadsW (w : World) (v : Value) (zs : List Int) : Prop := Reads w 1 v zs.length (zs.map (Value.int .u32)) ∧ ∀ n ∈ zs, (Lit.int .u32 n).wf = true
theorem ReadsW.chg {w w' : World} {v : Value} {zs : List Int} (h : ReadsW w v zs) (k : Chg [] w w') : ReadsW w' v zs := ⟨h.1.fresh k, h.2⟩
theorem ReadsW.far {w w' : World} {v : Value} {zs : List Int} {L : List Nat} (h : ReadsW w v zs) (k : Chg L w w') (hn : ∀ b, v.ownBlock = some b → b ∉ L) : ReadsW w' v zs := ⟨h.1.chg k hn, h.2⟩
theorem ReadsW.nil (w : World) : ReadsW w (.slice none 0 0) [] := ⟨Reads.nil w 1, by simp⟩
/-- a row of words of the call's own -/
def OwnW (w : World) (B : Nat) (v : Value) (zs : List Int) : Prop := w.ownsRow B 49 1 v zs.length (zs.map (Value.int .u32))
theorem OwnW.reads {w : World} {B : Nat} {v : Value} {zs : List Int} (h : OwnW w B v zs) (hw : ∀ n ∈ zs, (Lit.int .u32 n).wf = true) : ReadsW w v zs := ⟨Reads.of_own h (by decide), hw⟩
theorem own_chg {w w' : World} {B e size n : Nat} {v : Value} {xs : List Value} {L : List Nat} (h : w.ownsRow B e size v n xs) (k : Chg L w w') (hn : ∀ b, v.ownBlock = some b → b ∉ L) : w'.ownsRow B e size v n xs := by
  refine ⟨h.1, ?_⟩
  rcases h.2 with h0 | ⟨g, cap, cur, rfl, hb, hg, r⟩
  · exact .inl h0
  · exact .inr ⟨g, cap, cur, rfl, hb, k.heap hg (hn g rfl), r⟩
theorem own_base {w : World} {B B' e size n : Nat} {v : Value} {xs : List Value} (h : w.ownsRow B e size v n xs) (hb : B' ≤ B) : w.ownsRow B' e size v n xs := by
  refine ⟨h.1, ?_⟩
  rcases h.2 with h0 | ⟨g, cap, cur, rfl, hg, r⟩
  · exact .inl h0
  · exact .inr ⟨g, cap, cur, rfl, Nat.le_trans hb hg, r⟩

section
variable {w w' : World} {b : Nat} {sv : Value} {ws : List Int} {n : Int} {L : List Nat}
end

end Go.Proofs.Ytkmalnojkjmjiaa.mem

/- Package mem: the walks, part 2. -/
namespace Go.Proofs.Ytkmalnojkjmjiaa.mem
open Go Go.RowKit Go.Proofs.Ytkmalnojkjmjiaa.kit
set_option linter.unusedVariables false
set_option linter.unusedSimpArgs false
set_option maxRecDepth 20000

end Go.Proofs.Ytkmalnojkjmjiaa.mem

/- Package mem: Fill, Clone, and what is told of nobody's memory; plain.Words. -/
namespace Go.Proofs.Ytkmalnojkjmjiaa.mem
open Go Go.RowKit Go.Proofs.Ytkmalnojkjmjiaa.kit
set_option linter.unusedVariables false
set_option linter.unusedSimpArgs false
set_option maxRecDepth 20000

/-- words laid over others from a place on -/
def fillL (ws : List Int) (i : Nat) (l : List Int) : List Int := ws.take i ++ (l ++ ws.drop (i + l.length))
theorem fillL_length (ws : List Int) (i : Nat) (l : List Int) (h : i + l.length ≤ ws.length) : (fillL ws i l).length = ws.length := by simp [fillL]; omega
theorem take_splice {α : Type} (L : List α) (i n : Nat) (cs : List α) (h : i + cs.length ≤ n) (hn : n ≤ L.length) : (splice L i cs).take n = splice (L.take n) i cs := by
  unfold splice
  rw [List.take_append (l₁ := L.take i), List.take_take, Nat.min_eq_right (show i ≤ n by omega), List.length_take, Nat.min_eq_left (show i ≤ L.length by omega), List.take_append (l₁ := cs),
    List.take_of_length_le (l := cs) (show cs.length ≤ n - i by omega), List.take_take, Nat.min_eq_left (show i ≤ n by omega), List.drop_take, Nat.sub_sub]

end Go.Proofs.Ytkmalnojkjmjiaa.mem

/- Package mem: Clone; plain.Words; the law's same. -/
namespace Go.Proofs.Ytkmalnojkjmjiaa.mem
open Go Go.RowKit Go.Proofs.Ytkmalnojkjmjiaa.kit
set_option linter.unusedVariables false
set_option linter.unusedSimpArgs false
set_option maxRecDepth 20000

def wordsB (xs ys : List Int) : Bool := decide (xs = ys)
theorem Words_any (u v : Value) (xs ys : List Int) (w : World) (hu : ReadsW w u xs) (hv : ReadsW w v ys) (hx : xs.length ≤ 1000000) (hy : ys.length ≤ 1000000) :
    Calls Try.prog 43 #[u, v] w fun e w' => e = .returned (.bool (wordsB xs ys)) ∧ Quiet w w' := by
  obtain ⟨ua, uc, rfl, _⟩ := reads_slice hu.1
  obtain ⟨va, vc, rfl, _⟩ := reads_slice hv.1
  obtain ⟨b1, o1, ix1, cx1, _⟩ := reads_index (P := Try.prog) Try.underlying50 sz32 hu.1
  obtain ⟨b2, o2, ix2, cx2, _⟩ := reads_index (P := Try.prog) Try.underlying50 sz32 hv.1
  have hx1 : (xs.length : Int) ≤ 1000000 := by omega
  have hy1 : (ys.length : Int) ≤ 1000000 := by omega
  have CX1 := Lib.hid cx1
  have CX2 := Lib.hid cx2
  have IX1 := Lib.hid ix1
  have IX2 := Lib.hid ix2
  clear hx hy cx1 cx2 ix1 ix2 hu hv
  by_cases hl : xs.length = ys.length
  case neg =>
    have hf : wordsB xs ys = false := by simp only [wordsB, decide_eq_false_iff_not]; rintro rfl; exact hl rfl
    rw [hf]
    have hl2 : (xs.length : Int) ≠ (ys.length : Int) := by omega
    clear hf
    go_enter Try.func43, Try.ntmps43
    go_wp2
    go_ret
    exact ⟨rfl, ⟨0, rfl⟩⟩
  case pos =>
    have HL := Lib.hid hl
    go_enter Try.func43, Try.ntmps43
    rw [← hl]
    clear hl
    go_wp2
    go_loopw [5, 13] (fun _ i wr => ∃ k m : Nat, k ≤ xs.length ∧ i = .int .i64 k ∧ Hid (xs.take k = ys.take k) ∧ wr = w.drewN m) (fun _ i _ => xs.length - (intOf i).toNat)
    case atStart => exact ⟨0, 0, Nat.zero_le _, rfl, Lib.hid (by simp), rfl⟩
    case round =>
      obtain ⟨k, m, hk, rfl, HT, rfl⟩ := hrel
      by_cases hlt : k < xs.length
      · have hlt2 : k < ys.length := by have := HL.out; omega
        have i1 := IX1.out k hlt
        have i2 := IX2.out k hlt2
        rw [← HL.out] at i2
        obtain ⟨p, hp⟩ : ∃ p, xs[k]? = some p := ⟨_, List.getElem?_eq_getElem hlt⟩
        obtain ⟨q, hq⟩ : ∃ q, ys[k]? = some q := ⟨_, List.getElem?_eq_getElem hlt2⟩
        have e1 : (w.drewN m).cell? ⟨b1, o1 + k * 1, none⟩ = some (.int .u32 p) := CX1.out (k * 1) _ (by simp [hp])
        have e2 : (w.drewN m).cell? ⟨b2, o2 + k * 1, none⟩ = some (.int .u32 q) := CX2.out (k * 1) _ (by simp [hq])
        have e1' : (w.drewN m).drew.cell? ⟨b1, o1 + k * 1, none⟩ = some (.int .u32 p) := e1
        have e2' : (w.drewN m).drew.cell? ⟨b2, o2 + k * 1, none⟩ = some (.int .u32 q) := e2
        have HS1 := Lib.hid (show xs.take (k + 1) = xs.take k ++ [p] by rw [List.take_add_one, hp]; rfl)
        have HS2 := Lib.hid (show ys.take (k + 1) = ys.take k ++ [q] by rw [List.take_add_one, hq]; rfl)
        have HXK := Lib.hid hp
        have HYK := Lib.hid hq
        clear hp hq hlt2
        have d1 : ∀ W, Hid (W = (w.drewN m).drew) → W.cell? ⟨b1, o1 + k, none⟩ = some (.int .u32 p) := fun W h => by rw [h.out]; rw [Nat.mul_one] at e1; exact e1
        have d2 : ∀ W, Hid (W = (w.drewN m).drew) → W.cell? ⟨b2, o2 + k, none⟩ = some (.int .u32 q) := fun W h => by rw [h.out]; rw [Nat.mul_one] at e2; exact e2
        have D1 := Lib.hid d1
        have D2 := Lib.hid d2
        clear e1 e2 e1' e2' d1 d2
        go_wp2_with fail
        refine wp_region_tail 8 (by kernel_rfl) (by kernel_rfl) ?_
        intro W hW
        have f1 := D1.out W hW
        have f2 := D2.out W hW
        simp only [List.take_succ_cons, List.take_zero, List.drop_succ_cons, List.drop_zero]
        repeat still_step
        refine wpStill_nil ?_
        by_cases hpq : p = q
        · subst hpq
          go_wp2
          go_roundw
          case rel => exact ⟨k + 1, m + 1, by omega, by go_num, Lib.hid (by rw [HS1.out, HS2.out, HT.out]), hW.out⟩
          case measure => simp [intOf]; omega
        · go_wp2
          go_ret
          refine ⟨?_, ⟨m + 1, hW.out⟩⟩
          have : wordsB xs ys = false := by
            simp only [wordsB, decide_eq_false_iff_not]
            rintro rfl
            have := HXK.out.symm.trans HYK.out
            simp at this
            exact hpq this
          rw [this]; rfl
      · go_wp2
        go_ret
        obtain rfl : k = xs.length := by omega
        refine ⟨?_, ⟨m, rfl⟩⟩
        have : wordsB xs ys = true := by
          simp only [wordsB, decide_eq_true_eq]
          have := HT.out
          rw [List.take_of_length_le (Nat.le_refl _), HL.out, List.take_of_length_le (Nat.le_refl _)] at this
          exact this
        rw [this]; rfl

end Go.Proofs.Ytkmalnojkjmjiaa.mem

/- The memory's law: its example; Write of any place. -/
namespace Go.Proofs.Ytkmalnojkjmjiaa.mem
open Go Go.RowKit Go.Proofs.Ytkmalnojkjmjiaa.kit
set_option linter.unusedVariables false
set_option linter.unusedSimpArgs false
set_option maxRecDepth 20000

def wrL (ws : List Int) (i x : Int) : List Int := if 0 ≤ i ∧ i < ws.length then ws.set i.toNat x else ws
theorem wrL_length (ws : List Int) (i x : Int) : (wrL ws i x).length = ws.length := by unfold wrL; split <;> simp
end Go.Proofs.Ytkmalnojkjmjiaa.mem

/- A memory of words, and a memory's words. -/
namespace Go.Proofs.Ytkmalnojkjmjiaa.mem
open Go Go.RowKit Go.Proofs.Ytkmalnojkjmjiaa.kit
set_option linter.unusedVariables false
set_option linter.unusedSimpArgs false
set_option maxRecDepth 20000

theorem fill_all (l : List Int) : fillL (List.replicate l.length 0) 0 l = l := by simp [fillL]
end Go.Proofs.Ytkmalnojkjmjiaa.mem
