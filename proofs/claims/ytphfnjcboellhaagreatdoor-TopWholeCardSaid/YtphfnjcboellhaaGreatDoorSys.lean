import Derived.Test.YtphfnjcboellhaaGreatDoorLay1
import Derived.Deep.CutBlock
namespace Go.Proofs.YtphfnjcboellhaaGreatDoor.lay
open Go Go.RowKit kit obj mem
set_option maxRecDepth 20000
theorem szInt : (Tryz.prog.info? 3).map (·.size) = some 1 := by kernel_rfl
structure Tk where
 kind : Int
 prio : Int
 period : Int
 offset : Int
 deadline : Int
 own : Int
 ca : Option Addr
 cl : Nat
 cc : Nat
def Tk.cells (t : Tk) : List Value := [.int .i64 t.kind, .int .i64 t.prio, .int .i64 t.period, .int .i64 t.offset, .int .i64 t.deadline, .int .i64 t.own, .slice t.ca t.cl t.cc]
structure Ob where
 k : Int
 w : Int
 s : Int
 c : Int
 st : Int
 ia : Option Addr
 il : Nat
 ic : Nat
 wr : Int
 ra : Option Addr
 rl : Nat
 rc : Nat
def Ob.cells (o : Ob) : List Value := [.int .i64 o.k, .int .i64 o.w, .int .i64 o.s, .int .i64 o.c, .int .u32 o.st, .slice o.ia o.il o.ic, .int .i64 o.wr, .slice o.ra o.rl o.rc]
def Ob.W (o : Ob) : Prop := ObjW o.k o.w o.s o.c o.st o.il o.rl
def Ob.small (o : Ob) : Bool := decide (o.il <= 100 /\ o.rl <= 100)
def ReadsT (w : World) (v : Value) (ts : List Tk) : Prop := Reads w 7 v ts.length (ts.flatMap Tk.cells) /\ ∀ t ∈ ts, i64B t.own
def ReadsO (w : World) (v : Value) (os : List Ob) : Prop := Reads w 8 v os.length (os.flatMap Ob.cells)
def OwnI (w : World) (B : Nat) (v : Value) (zs : List Int) : Prop := w.ownsRow B 3 1 v zs.length (zs.map (Value.int .i64))
end Go.Proofs.YtphfnjcboellhaaGreatDoor.lay
