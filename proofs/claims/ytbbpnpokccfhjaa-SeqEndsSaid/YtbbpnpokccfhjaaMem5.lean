/- The memory's law: its example; Write of any place. -/
import Derived.Test.YtbbpnpokccfhjaaMem4
namespace Go.Proofs.Ytbbpnpokccfhjaa.mem
open Go Go.RowKit Go.Proofs.Ytbbpnpokccfhjaa.kit
set_option linter.unusedVariables false
set_option maxRecDepth 20000

def wrL (ws : List Int) (i x : Int) : List Int := if 0 ≤ i ∧ i < ws.length then ws.set i.toNat x else ws
theorem wrL_length (ws : List Int) (i x : Int) : (wrL ws i x).length = ws.length := by unfold wrL; split <;> simp
theorem Write_any (b : Nat) (sv : Value) (ws : List Int) (n : Int) (i x : Int) (w : World) (h : MemAt w b sv ws n) (hn0 : 0 ≤ n) (hn : n ≤ 1000000000000) (hx : (Lit.int .u32 x).wf = true) :
    Calls Try.prog 63 #[.pointer (some ⟨b, 0, none⟩), .int .i64 i, .int .u32 x] w fun e w' => ∃ k m, e = .returned (.int .i64 k) ∧ MemAt w' b sv (wrL ws i x) m ∧ 0 ≤ m ∧ m ≤ n + 1 ∧ Chg (b :: sv.ownBlock.toList) w w' := by
  by_cases hin : 0 ≤ i ∧ i < ws.length
  · obtain ⟨j, rfl⟩ := Int.eq_ofNat_of_zero_le hin.1
    have hj : j < ws.length := by omega
    obtain ⟨g, c, rfl⟩ := h.live (by omega)
    refine (Write_ok b g c ws n j x w h hj hn0 hn hx).mono ?_
    rintro e w' ⟨rfl, h', hc⟩
    refine ⟨0, n + 1, rfl, ?_, by omega, by omega, hc⟩
    have : wrL ws (j : Int) x = ws.set j x := by unfold wrL; rw [if_pos hin]; simp
    rw [this]; exact h'
  · have : wrL ws i x = ws := by unfold wrL; rw [if_neg hin]
    rw [this]
    refine (Write_out b sv ws n i x w h (by omega)).mono ?_
    rintro e w' ⟨rfl, rfl⟩
    exact ⟨5, n, rfl, h, hn0, by omega, Chg.refl _ _⟩

end Go.Proofs.Ytbbpnpokccfhjaa.mem
