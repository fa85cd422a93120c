/- The kind of four slots, and the reference's. -/
import Derived.Test.YtbbpnpokccfhjaaTies
import Derived.Test.YtbbpnpokccfhjaaSimF
namespace Go.Proofs.Ytbbpnpokccfhjaa.ref
open Go Go.RowKit Go.Proofs.Ytbbpnpokccfhjaa.kit Go.Proofs.Ytbbpnpokccfhjaa.obj Go.Proofs.Ytbbpnpokccfhjaa.rop Go.Proofs.Ytbbpnpokccfhjaa.mem Go.Proofs.Ytbbpnpokccfhjaa.core
set_option linter.unusedVariables false
set_option linter.unusedSimpArgs false
set_option maxRecDepth 20000

theorem tiesF : Ties four.K RelF where
  yes := by
    intro bx g tn cp x z rec ls W mv hI hrel ho hs hln hcp hwf h
    rcases (show x.op = 2 ∨ x.op = 1 from (four.Shape.op hI).imp And.left And.left) with hop | hop
    · exact fourW_yes bx g tn cp x z rec ls W mv hop hI hrel ho hs hln hcp hwf h
    · exact fourR_yes bx g tn cp x z rec ls W mv hop hI hrel ho hs hln hcp hwf h
  no := by
    intro x z rec n hI hrel ho
    obtain ⟨hz, hk, hO, hR, hB⟩ := hrel
    have hsz : x.size = 4 + 4 * x.w := four.Shape.size hI
    have hb : 0 ≤ x.base := four.Shape.base hI
    have hw : 1 ≤ x.w ∧ x.w ≤ 8 := four.Shape.w hI
    have hsize : sizeI 1 x.w x.s x.c x.st x.il x.rl = 4 + 4 * x.w := by simp [sizeI, hR, headI, recordsI]
    rw [hz]
    refine ⟨?_, ⟨hb, hB⟩, by show ObjW x.k x.w x.s x.c x.st x.il x.rl; rw [hk]; exact hO⟩
    show x.over = true ∨ (n : Int) < x.base ∨ (n : Int) - x.base < sizeI x.k x.w x.s x.c x.st x.il x.rl
    rw [hk, hsize]
    cases hov : x.over
    · right
      simp only [opens, hov, Bool.not_false, Bool.true_and, insB, decide_eq_false_iff_not, hsz] at ho
      omega
    · exact .inl rfl
  over := by rintro x z ⟨hz, -⟩; rw [hz]; rfl
  steps := by rintro x z ⟨hz, -⟩; rw [hz]; rfl
  code := by rintro x z ⟨hz, -⟩; rw [hz]; rfl
end Go.Proofs.Ytbbpnpokccfhjaa.ref
