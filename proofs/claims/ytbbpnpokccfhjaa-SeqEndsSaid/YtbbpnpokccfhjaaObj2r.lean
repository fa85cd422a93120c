/- Objects: whether one is right as a ring, or as a queue: the program's. -/
import Derived.Test.YtbbpnpokccfhjaaObj2
namespace Go.Proofs.Ytbbpnpokccfhjaa.obj
open Go Go.RowKit Go.Proofs.Ytbbpnpokccfhjaa.kit
set_option linter.unusedVariables false
set_option maxRecDepth 20000

end Go.Proofs.Ytbbpnpokccfhjaa.obj
