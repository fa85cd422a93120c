/- An object's first record, as an argument. -/
import Derived.Test.YtbbpnpokccfhjaaObjO
import Derived.Test.YtbbpnpokccfhjaaMem5
namespace Go.Proofs.Ytbbpnpokccfhjaa.obj
open Go Go.RowKit Go.Proofs.Ytbbpnpokccfhjaa.kit Go.Proofs.Ytbbpnpokccfhjaa.mem
set_option linter.unusedVariables false
set_option maxRecDepth 20000

theorem init_open {w : World} {n : Nat} {k w' s c st : Int} {ia : Option Addr} {il ic : Nat} {wr : Int} {ra : Option Addr} {rl rc : Nat}
    (h : kit.Opens Try.prog w (n + 3) 26 [.int .i64 k, .int .i64 w', .int .i64 s, .int .i64 c, .int .u32 st, .slice ia il ic, .int .i64 wr, .slice ra rl rc]) : ∃ ini, ReadsW w (.slice ia il ic) ini := by
  have h5 := h.field Try.underlying26 5 _ rfl 5 1 rfl cellsWs
  obtain ⟨zs, _, hr, hw⟩ := kit.Opens.ints (n := n) (a := ia) (len := il) (cap := ic) (by simpa using h5) Try.underlying23 Try.underlying22 cellsU32
  exact ⟨zs, hr, hw⟩
end Go.Proofs.Ytbbpnpokccfhjaa.obj
