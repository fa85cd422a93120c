/- Objects: whether one is right as a ring, or as a queue: the program's. -/
import Derived.Test.YtapaolaemkhbdaaDoorObjA
namespace Go.Proofs.YtapaolaemkhbdaaDoor.obj
open Go Go.RowKit Go.Proofs.YtapaolaemkhbdaaDoor.kit
set_option linter.unusedVariables false
set_option linter.unusedSimpArgs false
set_option maxRecDepth 20000

end Go.Proofs.YtapaolaemkhbdaaDoor.obj
