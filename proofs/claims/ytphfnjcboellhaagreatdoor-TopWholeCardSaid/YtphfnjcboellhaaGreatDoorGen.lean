import Derived.Test.YtphfnjcboellhaaGreatDoorCoreB
import Derived.Test.YtphfnjcboellhaaGreatDoorObjA
import Derived.Test.YtphfnjcboellhaaGreatDoorPlans
namespace Go.Proofs.YtphfnjcboellhaaGreatDoor.four
open Go Go.RowKit kit mem rop core obj
set_option maxRecDepth 20000
theorem mBegin_yes (k w s c st : Int) (ia : Option Addr) (il ic : Nat) (wr : Int) (ra : Option Addr) (rl rc : Nat) (size at_ op rd_ o0 o1 : Int) (rv : Value) (rec : List Int) (W : World) (hr : ReadsW W rv rec) (hl : rec.length <= 1000) (hb : begI w rl size at_ op rd_ o0 o1 rec.length = 0) :
 Calls Tryz.prog 125 #[.agg #[.int .i64 k, .int .i64 w, .int .i64 s, .int .i64 c, .int .u32 st, .slice ia il ic, .int .i64 wr, .slice ra rl rc], .int .i64 size, .int .i64 at_, .int .i64 op, .int .i64 rd_, rv, .agg #[.int .i64 o0, .int .i64 o1]] W fun e W' => ∃ v', e = .returned (.tuple #[.agg (({ k := k, w := w, s := s, c := c, st := st, ia := ia, il := il, ic := ic, wr := wr, ra := ra, rl := rl, rc := rc, op := op, reader := rd_, phase := 0, i := 0, tries := 0, a := 0, b := 0, used := 0, m := .pointer none, base := at_, size := size, code := 0, steps := 0, over := false } : Core).cells v'), .int .i64 0]) /\ OwnW W' W.heap.size v' rec /\ Chg [] W W' := by
 unfold begI at hb
 split at hb
 · omega
 · rename_i h1
   split at hb
   · rename_i h2
     split at hb
     · omega
     · rename_i h3
       split at hb
       · omega
       · rename_i h4
         exact Begin_ok0 k w s c st ia il ic wr ra rl rc size at_ op rd_ o0 o1 rv rec W hr hl (by omega) (by omega) h2 (by omega) (by omega)
   · rename_i h2
     split at hb
     · rename_i h3
       split at hb
       · omega
       · rename_i h4
         split at hb
         · omega
         · rename_i h5
           exact Begin_ok1 k w s c st ia il ic wr ra rl rc size at_ op rd_ o0 o1 rv rec W hr hl (by omega) (by omega) h2 h3 (by omega) (by omega) (by omega)
     · omega
end Go.Proofs.YtphfnjcboellhaaGreatDoor.four
