/- Parts joined: Four8, Four9. -/
import Derived.Test.YtphfnjcboellhaaGreatDoorFourB
import Derived.Test.YtphfnjcboellhaaGreatDoorFourA
import Derived.Test.YtphfnjcboellhaaGreatDoorMemo
import Derived.Deep.Cut
import Derived.Test.YtphfnjcboellhaaGreatDoorCore
/- Package four: what must come. -/
namespace Go.Proofs.YtphfnjcboellhaaGreatDoor.four
open Go Go.RowKit kit mem rop core obj
set_option linter.unusedVariables false
set_option linter.unusedSimpArgs false
set_option maxRecDepth 20000

end Go.Proofs.YtphfnjcboellhaaGreatDoor.four

/- Package four: the steps hang not on where the memory lies. -/
namespace Go.Proofs.YtphfnjcboellhaaGreatDoor.four
open Go Go.RowKit kit mem rop core
set_option linter.unusedVariables false
set_option linter.unusedSimpArgs false
set_option maxRecDepth 20000

theorem free : K.Free where
  free x a mv rec ws := rfl
  relabel x mv mv' rec ws := by
    show step x mv' rec ws = ({ (step x mv rec ws).1 with m := mv' }, (step x mv rec ws).2.1, (step x mv rec ws).2.2)
    simp only [step, stepW, stepR]
    (repeat' split) <;> rfl
end Go.Proofs.YtphfnjcboellhaaGreatDoor.four
