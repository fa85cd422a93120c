import Derived.Test.YtphfnjcboellhaaGreatDoorObjA
import Derived.Test.YtphfnjcboellhaaGreatDoorMemo
import Derived.Test.YtphfnjcboellhaaGreatDoorCore
import Derived.Deep.Cut
namespace Go.Proofs.YtphfnjcboellhaaGreatDoor.obj
open Go Go.RowKit kit mem
set_option maxRecDepth 20000
theorem init_open {w : World} {n : Nat} {k w' s c st : Int} {ia : Option Addr} {il ic : Nat} {wr : Int} {ra : Option Addr} {rl rc : Nat}
 (h : kit.Opens Tryz.prog w (n + 3) 26 [.int .i64 k, .int .i64 w', .int .i64 s, .int .i64 c, .int .u32 st, .slice ia il ic, .int .i64 wr, .slice ra rl rc]) : ∃ ini, ReadsW w (.slice ia il ic) ini := by
 have h5 := h.field Tryz.underlying26 5 _ rfl 5 1 rfl cellsWs
 obtain ⟨zs, _, hr, hw⟩ := kit.Opens.ints (n := n) (a := ia) (len := il) (cap := ic) (by simpa using h5) Tryz.underlying23 Tryz.underlying22 cellsU32
 exact ⟨zs, hr, hw⟩
structure Poke where
 turn : Int
 at_ : Int
 w : Int
def Poke.cells (p : Poke) : List Value := [.int .i64 p.turn, .int .i64 p.at_, .int .u32 p.w]
def Poke.ok (p : Poke) : Prop := (-9223372036854775808 <= p.turn /\ p.turn <= 9223372036854775807) /\ (-9223372036854775808 <= p.at_ /\ p.at_ <= 9223372036854775807) /\ (0 <= p.w /\ p.w <= 4294967295)
def ReadsP (w : World) (v : Value) (ps : List Poke) : Prop := Reads w 3 v ps.length (ps.flatMap Poke.cells) /\ ∀ p ∈ ps, p.ok
def lightB (il rl ql ll pl : Nat) : Bool := decide (il <= 100 /\ rl <= 100) && decide (ql <= 100) && decide (ll <= 400) && decide (pl <= 100)
def pokeOne (turn : Int) (ws : List Int) (p : Poke) : List Int := if p.turn = turn /\ 0 <= p.at_ /\ p.at_ < ws.length then ws.set p.at_.toNat p.w else ws
def pokeL (turn : Int) (ps : List Poke) (ws : List Int) : List Int := ps.foldl (pokeOne turn) ws
end Go.Proofs.YtphfnjcboellhaaGreatDoor.obj
