import Derived.Test.YtphfnjcboellhaaGreatDoorWvSim
import Derived.Test.YtphfnjcboellhaaGreatDoorWvFin
namespace Go.Proofs.YtphfnjcboellhaaGreatDoor.wv
open Go Go.RowKit kit obj mem core
set_option maxRecDepth 20000
def caseCells (o : ObV) (pv qv : Value) : Array Value := #[.int .i64 o.k, .int .i64 o.w, .int .i64 o.s, .int .i64 o.c, .int .u32 o.st, .slice o.ia o.il o.ic, .int .i64 o.wr, .slice o.ra o.rl o.rc, pv, qv]
end Go.Proofs.YtphfnjcboellhaaGreatDoor.wv
