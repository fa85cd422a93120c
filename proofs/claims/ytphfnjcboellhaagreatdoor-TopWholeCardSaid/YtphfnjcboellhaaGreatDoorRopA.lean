import Derived.Test.YtphfnjcboellhaaGreatDoorObjA
import Derived.Test.YtphfnjcboellhaaGreatDoorPlans
namespace Go.Proofs.YtphfnjcboellhaaGreatDoor.rop
open Go Go.RowKit kit obj
set_option maxRecDepth 20000
structure ROp where
 k : Int
 w : Int
 s : Int
 c : Int
 st : Int
 ia : Option Addr
 il : Nat
 ic : Nat
 wr : Int
 ra : Option Addr
 rl : Nat
 rc : Nat
 at_ : Int
 op : Int
 reader : Int
 row : Int
 i : Int
 tries : Int
 code : Int
 steps : Int
 a : Int
 b : Int
 u : Nat -> Bool
 rcd : Value
 over : Bool
def ROp.cells (x : ROp) : Array Value := #[.int .i64 x.k, .int .i64 x.w, .int .i64 x.s, .int .i64 x.c, .int .u32 x.st, .slice x.ia x.il x.ic, .int .i64 x.wr, .slice x.ra x.rl x.rc, .int .i64 x.at_, .int .i64 x.op, .int .i64 x.reader, .int .i64 x.row, .int .i64 x.i, .int .i64 x.tries, .int .i64 x.code, .int .i64 x.steps, .int .u32 x.a, .int .u32 x.b, .bool (x.u 0), .bool (x.u 1), .bool (x.u 2), .bool (x.u 3), .bool (x.u 4), .bool (x.u 5), .bool (x.u 6), .bool (x.u 7), .bool (x.u 8), .bool (x.u 9), .bool (x.u 10), .bool (x.u 11), .bool (x.u 12), .bool (x.u 13), .bool (x.u 14), .bool (x.u 15), .bool (x.u 16), .bool (x.u 17), .bool (x.u 18), .bool (x.u 19), x.rcd, .bool x.over]
theorem code_gen {C : Code} {P : Program} {Q : Exit -> Act -> World -> Prop} {a : Act} {W : World} {R : World -> Prop} (hp : R W) (h : ∀ W', R W' -> C.wp P Q a W') : C.wp P Q a W := h W hp
def ROp.ended (x : ROp) (cd : Int) : ROp := { x with over := true, code := cd, rcd := if cd ≠ 0 \/ x.op = writesI x.k then .slice none 0 0 else x.rcd }
def headI (k : Int) (rl : Nat) : Int := if k = 1 then 4 else if k = 2 \/ k = 5 then 1 + rl else if k = 6 then 2 else 1
def LB (W : World) (g : Nat) (ws : List Int) : Prop := Blk W g (ws.map (Value.int .u32)).toArray 22
theorem then_gen {K : Act -> World -> Prop} {Q : Exit -> Act -> World -> Prop} {e : Exit} {a : Act} {W : World} {R : World -> Prop} (hp : R W) (h : ∀ W', R W' -> Exit.then K Q e a W') : Exit.then K Q e a W := h W hp
theorem LB.put {W : World} {g : Nat} {ws : List Int} (h : LB W g ws) (j : Nat) (v : Int) : LB (W.setCell ⟨g, j, none⟩ (.int .u32 v)) g (ws.set j v) := by
 have h1 := Blk.set h j (.int .u32 v)
 unfold LB
 rw [List.map_set]
 simpa using h1
def nextR (x : ROp) (iN : Nat) (row : Int) (v : Value) : ROp :=
 if (iN : Int) + 1 < x.w then { x with i := (iN : Int) + 1, rcd := v } else if row < 0 then { x with i := (iN : Int) + 1, rcd := v, over := true, code := 0 } else { x with row := row, i := 0, rcd := v }
end Go.Proofs.YtphfnjcboellhaaGreatDoor.rop
