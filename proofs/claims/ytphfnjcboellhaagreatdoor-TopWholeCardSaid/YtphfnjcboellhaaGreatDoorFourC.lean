import Derived.Test.YtphfnjcboellhaaGreatDoorFourB
import Derived.Test.YtphfnjcboellhaaGreatDoorFourA
import Derived.Test.YtphfnjcboellhaaGreatDoorMemo
import Derived.Deep.Cut
import Derived.Test.YtphfnjcboellhaaGreatDoorCore
namespace Go.Proofs.YtphfnjcboellhaaGreatDoor.four
open Go Go.RowKit kit mem rop core obj
set_option maxRecDepth 20000
open Go Go.RowKit kit mem rop core
end Go.Proofs.YtphfnjcboellhaaGreatDoor.four
