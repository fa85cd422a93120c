/- Parts joined: ObjI, Case, Case2. -/
import Derived.Test.YtphfnjcboellhaaGreatDoorObjA
import Derived.Test.YtphfnjcboellhaaGreatDoorMemo
import Derived.Test.YtphfnjcboellhaaGreatDoorCore
import Derived.Deep.Cut
/- An object's first record, as an argument. -/
namespace Go.Proofs.YtphfnjcboellhaaGreatDoor.obj
open Go Go.RowKit kit mem
set_option linter.unusedVariables false
set_option linter.unusedSimpArgs false
set_option maxRecDepth 20000

theorem init_open {w : World} {n : Nat} {k w' s c st : Int} {ia : Option Addr} {il ic : Nat} {wr : Int} {ra : Option Addr} {rl rc : Nat}
    (h : kit.Opens Tryz.prog w (n + 3) 26 [.int .i64 k, .int .i64 w', .int .i64 s, .int .i64 c, .int .u32 st, .slice ia il ic, .int .i64 wr, .slice ra rl rc]) : ∃ ini, ReadsW w (.slice ia il ic) ini := by
  have h5 := h.field Tryz.underlying26 5 _ rfl 5 1 rfl cellsWs
  obtain ⟨zs, _, hr, hw⟩ := kit.Opens.ints (n := n) (a := ia) (len := il) (cap := ic) (by simpa using h5) Tryz.underlying23 Tryz.underlying22 cellsU32
  exact ⟨zs, hr, hw⟩
end Go.Proofs.YtphfnjcboellhaaGreatDoor.obj

/- A case: an operation on an object, a memory's words, and what others do. -/
namespace Go.Proofs.YtphfnjcboellhaaGreatDoor.obj
open Go Go.RowKit kit mem
set_option linter.unusedVariables false
set_option linter.unusedSimpArgs false
set_option maxRecDepth 20000

structure Poke where
  turn : Int
  at_ : Int
  w : Int
def Poke.cells (p : Poke) : List Value := [.int .i64 p.turn, .int .i64 p.at_, .int .u32 p.w]
def Poke.ok (p : Poke) : Prop := (-9223372036854775808 ≤ p.turn ∧ p.turn ≤ 9223372036854775807) ∧ (-9223372036854775808 ≤ p.at_ ∧ p.at_ ≤ 9223372036854775807) ∧ (0 ≤ p.w ∧ p.w ≤ 4294967295)
/-- the pokes of a case, in memory -/
def ReadsP (w : World) (v : Value) (ps : List Poke) : Prop := Reads w 3 v ps.length (ps.flatMap Poke.cells) ∧ ∀ p ∈ ps, p.ok
theorem ReadsP.chg {w w' : World} {v : Value} {ps : List Poke} (h : ReadsP w v ps) (k : Chg [] w w') : ReadsP w' v ps := ⟨h.1.fresh k, h.2⟩
def lightB (il rl ql ll pl : Nat) : Bool := decide (il ≤ 100 ∧ rl ≤ 100) && decide (ql ≤ 100) && decide (ll ≤ 400) && decide (pl ≤ 100)
end Go.Proofs.YtphfnjcboellhaaGreatDoor.obj

/- What others do to a memory, and to a list of its words. -/
namespace Go.Proofs.YtphfnjcboellhaaGreatDoor.obj
open Go Go.RowKit kit mem
set_option linter.unusedVariables false
set_option linter.unusedSimpArgs false
set_option maxRecDepth 20000

def pokeOne (turn : Int) (ws : List Int) (p : Poke) : List Int := if p.turn = turn ∧ 0 ≤ p.at_ ∧ p.at_ < ws.length then ws.set p.at_.toNat p.w else ws
/-- the words behind what others do ahead of a turn -/
def pokeL (turn : Int) (ps : List Poke) (ws : List Int) : List Int := ps.foldl (pokeOne turn) ws
theorem OwnW.put {w : World} {g c : Nat} {ws : List Int} (h : OwnW w 0 (.slice (some ⟨g, 0, none⟩) ws.length c) ws) (i : Nat) (x : Int) : OwnW (w.setCell ⟨g, i, none⟩ (.int .u32 x)) 0 (.slice (some ⟨g, 0, none⟩) ws.length c) (ws.set i x) := by
  have hs := (World.ownsRow.stored h i (.int .u32 x)).1
  have hl : (ws.set i x).length = ws.length := by simp
  unfold OwnW
  rw [hl, List.map_set]
  exact hs
theorem ReadsP.lt {w : World} {v : Value} {ps : List Poke} (h : ReadsP w v ps) (hp : 0 < ps.length) : ∀ y, v.ownBlock = some y → y < w.heap.size := by
  intro y hy
  obtain ⟨hl, _, ⟨h0, _⟩ | ⟨_, b, off, c, rfl, _, _, hx⟩⟩ := h.1
  · omega
  · simp [Value.ownBlock] at hy
    subst hy
    have hlen : 0 < (ps.flatMap Poke.cells).length := by omega
    exact World.block_lt_of_cell? w _ (hx 0 _ (List.getElem?_eq_getElem hlen))
end Go.Proofs.YtphfnjcboellhaaGreatDoor.obj
