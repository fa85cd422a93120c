/- A kind's steps, and the reference's. -/
import Derived.Test.YtapaolaemkhbdaaDoorTrio
namespace Go.Proofs.YtapaolaemkhbdaaDoor.ref
open Go Go.RowKit Go.Proofs.YtapaolaemkhbdaaDoor.kit Go.Proofs.YtapaolaemkhbdaaDoor.obj Go.Proofs.YtapaolaemkhbdaaDoor.rop Go.Proofs.YtapaolaemkhbdaaDoor.mem Go.Proofs.YtapaolaemkhbdaaDoor.core
set_option linter.unusedVariables false
set_option linter.unusedSimpArgs false
set_option maxRecDepth 20000

/-- the reference's operation goes as the kind's does -/
structure Ties (K : Kind) (Rel : Core → ROp → Prop) : Prop where
  yes : ∀ {bx g tn cp : Nat} {x : Core} {z : ROp} {rec ls : List Int} {W : World} (mv : Value), K.Shape x rec → Rel x z → opens x ls.length = true → (0 ≤ x.steps ∧ x.steps ≤ 1000000) → ls.length ≤ 100000 → ls.length ≤ cp → (∀ c ∈ ls, 0 ≤ c ∧ c ≤ 4294967295) → Ref bx g tn W z rec ls →
    Calls Tryd.prog 46 #[.pointer (some ⟨bx, 0, none⟩), .slice (some ⟨g, 0, none⟩) ls.length cp] W fun e W' => e = .returned (.bool true) ∧ After Rel bx g tn W z.rcd (K.step x mv rec ls) W'
  no : ∀ {x : Core} {z : ROp} {rec : List Int} {n : Nat}, K.Shape x rec → Rel x z → opens x n = false → rop.stuck z n ∧ (0 ≤ z.at_ ∧ z.at_ ≤ 9223372036854775807) ∧ ObjW z.k z.w z.s z.c z.st z.il z.rl
  over : ∀ {x : Core} {z : ROp}, Rel x z → z.over = x.over
  steps : ∀ {x : Core} {z : ROp}, Rel x z → z.steps = x.steps
  code : ∀ {x : Core} {z : ROp}, Rel x z → z.code = x.code
section
variable {K : Kind} {Rel : Core → ROp → Prop} {T : TypeId} {w0 W W' : World} {bx mb ry : Nat} {sv : Value} {x x' : Core} {rec rec' ws' ls : List Int} {n : Int} {z : ROp}
theorem Ties.step {g ln cp : Nat} (H : Ties K Rel) (mv : Value) (h : Trio T w0 bx mb sv (.slice (some ⟨g, 0, none⟩) ln cp) W x' rec' ws' n ry z rec ls) (hI : K.Shape x rec) (hrel : Rel x z) (ho : opens x ls.length = true) (hs : 0 ≤ x.steps ∧ x.steps ≤ 1000000) (hln : ls.length ≤ 100000) (hwf : ∀ z ∈ ls, 0 ≤ z ∧ z ≤ 4294967295) :
    Calls Tryd.prog 46 #[.pointer (some ⟨ry, 0, none⟩), .slice (some ⟨g, 0, none⟩) ln cp] W fun e W' => e = .returned (.bool true) ∧ ∃ z', Rel (K.step x mv rec ls).1 z' ∧ Trio T w0 bx mb sv (.slice (some ⟨g, 0, none⟩) ln cp) W' x' rec' ws' n ry z' (K.step x mv rec ls).2.1 (K.step x mv rec ls).2.2 := by
  obtain ⟨hk, hcp, href⟩ := h.ref
  subst hk
  refine (H.yes mv hI hrel ho hs hln hcp hwf href).mono ?_
  rintro e w1 ⟨rfl, ha⟩
  exact ⟨rfl, h.theirs (K.len _ _ _ _) ha⟩
theorem Ties.stay {la : Option Addr} {ln cp : Nat} (H : Ties K Rel) (h : Trio T w0 bx mb sv (.slice la ln cp) W x' rec' ws' n ry z rec ls) (hI : K.Shape x rec) (hrel : Rel x z) (ho : opens x ls.length = false) (hln : ls.length ≤ 100000) (hl : ln = ls.length) :
    Calls Tryd.prog 46 #[.pointer (some ⟨ry, 0, none⟩), .slice la ln cp] W fun e W' => e = .returned (.bool false) ∧ Chg [] W W' := by
  subst hl
  obtain ⟨h1, h2, h3⟩ := H.no hI hrel ho
  exact Step_no ry z la ls.length cp hln h2 h3 W h.box h1
end
end Go.Proofs.YtapaolaemkhbdaaDoor.ref
