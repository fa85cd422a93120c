/- The reference's operation at a core of the program; a step of it, as the program's. -/
import Derived.Test.YtapaolaemkhbdaaDoorRefA
import Derived.Test.YtapaolaemkhbdaaDoorRopL
import Derived.Test.YtapaolaemkhbdaaDoorCore
import Derived.Test.YtapaolaemkhbdaaDoorRop8
namespace Go.Proofs.YtapaolaemkhbdaaDoor.ref
open Go Go.RowKit Go.Proofs.YtapaolaemkhbdaaDoor.kit Go.Proofs.YtapaolaemkhbdaaDoor.obj Go.Proofs.YtapaolaemkhbdaaDoor.rop Go.Proofs.YtapaolaemkhbdaaDoor.mem Go.Proofs.YtapaolaemkhbdaaDoor.core
set_option linter.unusedVariables false
set_option linter.unusedSimpArgs false
set_option maxRecDepth 20000

/-- the reference's operation that stands where a core does -/
def ropOf (x : Core) (a : Int) (u : Nat → Bool) (v : Value) : ROp :=
  { k := x.k, w := x.w, s := x.s, c := x.c, st := x.st, ia := x.ia, il := x.il, ic := x.ic, wr := x.wr, ra := x.ra, rl := x.rl, rc := x.rc, at_ := x.base, op := x.op, reader := x.reader, row := x.phase, i := x.i, tries := x.tries, code := x.code, steps := x.steps, a := a, b := x.b, u := u, rcd := v, over := x.over }

/-- an operation of the reference, its record, and a list beside it -/
structure Ref (bx g tn : Nat) (W : World) (z : ROp) (rec ls : List Int) : Prop where
  box : RAt W bx z
  own : mem.OwnW W 0 z.rcd rec
  lst : LT tn W g ls
  ne : bx ≠ g
  nv : ∀ y, z.rcd.ownBlock = some y → y ≠ bx ∧ y ≠ g
theorem Ref.keep {bx g tn : Nat} {W W' : World} {z : ROp} {rec ls : List Int} (h : Ref bx g tn W z rec ls) (k : Chg [] W W') : Ref bx g tn W' z rec ls :=
  ⟨Blk.keep h.box k (by simp), mem.own_chg h.own k (by simp), h.lst.keep k (by simp), h.ne, h.nv⟩

/-- what a step of the reference leaves -/
def After (Rel : Core → ROp → Prop) (bx g tn : Nat) (W : World) (v : Value) (q : Q) (W' : World) : Prop :=
  ∃ z', Rel q.1 z' ∧ Ref bx g tn W' z' q.2.1 q.2.2 ∧ Chg (bx :: g :: v.ownBlock.toList) W W' ∧ ∀ y, z'.rcd.ownBlock = some y → v.ownBlock = some y ∨ W.heap.size ≤ y
section
variable {Rel : Core → ROp → Prop} {bx g tn : Nat} {W W1 W' : World} {z z' : ROp} {rec ls ls' : List Int} {x' : Core}
/-- the record stays -/
theorem After.same (h : Ref bx g tn W z rec ls) (hc1 : Chg [bx] W W1) (hc : Chg [bx, g] W1 W') (hr : RAt W' bx z') (hz : z'.rcd = z.rcd) (hl : LT tn W' g ls') (hrel : Rel x' z') : After Rel bx g tn W z.rcd (x', rec, ls') W' := by
  have hcc : Chg [bx, g] W W' := (hc1.mono (by simp)).trans hc
  refine ⟨z', hrel, ⟨hr, ?_, hl, h.ne, by rw [hz]; exact h.nv⟩, hcc.mono (by simp), fun y hy => .inl (by rw [← hz]; exact hy)⟩
  rw [hz]
  exact mem.own_chg h.own hcc (fun y hy => by have := h.nv y hy; simp; exact this)
/-- the record is gone -/
theorem After.none (h : Ref bx g tn W z rec ls) (hc1 : Chg [bx] W W1) (hc : Chg [bx, g] W1 W') (hr : RAt W' bx z') (hz : z'.rcd = .slice none 0 0) (hl : LT tn W' g ls') (hrel : Rel x' z') : After Rel bx g tn W z.rcd (x', [], ls') W' := by
  have hcc : Chg [bx, g] W W' := (hc1.mono (by simp)).trans hc
  have hn : ∀ y, z'.rcd.ownBlock = some y → False := by rw [hz]; intro y hy; cases hy
  refine ⟨z', hrel, ⟨hr, ?_, hl, h.ne, fun y hy => (hn y hy).elim⟩, hcc.mono (by simp), fun y hy => (hn y hy).elim⟩
  rw [hz]
  exact ⟨rfl, .inl ⟨rfl, rfl⟩⟩
/-- one more word is read -/
theorem After.more {rec' : List Int} (h : Ref bx g tn W z rec ls) (hc1 : Chg [bx] W W1) (hc : Chg (bx :: z.rcd.ownBlock.toList) W1 W') (hr : RAt W' bx z') (ho : mem.OwnW W' 0 z'.rcd rec') (hv : ∀ y, z'.rcd.ownBlock = some y → z.rcd.ownBlock = some y ∨ W1.heap.size ≤ y) (hl : LT tn W' g ls) (hrel : Rel x' z') : After Rel bx g tn W z.rcd (x', rec', ls) W' := by
  have hs := hc1.size
  refine ⟨z', hrel, ⟨hr, ho, hl, h.ne, fun y hy => ?_⟩, (hc1.mono (by simp)).trans (hc.mono (by intro b hb; simp at hb ⊢; rcases hb with hb | hb <;> simp [hb])), fun y hy => (hv y hy).imp id (fun hh => Nat.le_trans hs hh)⟩
  rcases hv y hy with h1 | h1
  · exact h.nv y h1
  · have hb := h.box.lt
    have hg := h.lst.lt
    exact ⟨by omega, by omega⟩
end
theorem slot_le {wN iN s n : Nat} (hs : s < n) (hi : iN < wN) : s * wN + iN < n * wN := by
  have h1 : (s + 1) * wN ≤ n * wN := Nat.mul_le_mul_right _ hs
  rw [Nat.add_mul, Nat.one_mul] at h1
  omega
theorem own_slice {W : World} {v : Value} {rec : List Int} (h : mem.OwnW W 0 v rec) : ∃ rp rcap, v = .slice rp rec.length rcap := by
  obtain ⟨h1, h2⟩ := h
  rcases h2 with ⟨h0, h3⟩ | ⟨rg, rcap, cur, he, _⟩
  · exact ⟨_, _, by rw [h3]; exact h0⟩
  · exact ⟨_, _, he⟩
theorem own_some {W : World} {v : Value} {rec : List Int} (h : mem.OwnW W 0 v rec) (hp : 0 < rec.length) : ∃ rg rcap, v = .slice (some ⟨rg, 0, none⟩) rec.length rcap ∧ ∀ i, i < rec.length → W.cell? ⟨rg, i, none⟩ = some (.int .u32 (rec.getD i 0)) := by
  obtain ⟨_, h2⟩ := h
  rcases h2 with ⟨_, h0⟩ | ⟨rg, rcap, cur, he, hb, hg, hn, hc, hs, ht⟩
  · omega
  · refine ⟨rg, rcap, he, fun i hi => ?_⟩
    rw [Nat.mul_one] at ht
    refine Blk.cell hg ?_
    have h1 : (cur.toList.take rec.length)[i]? = some (.int .u32 (rec.getD i 0)) := by rw [ht]; simp [List.getD, hi]
    rw [List.getElem?_take_of_lt hi] at h1
    simpa using h1
end Go.Proofs.YtapaolaemkhbdaaDoor.ref
