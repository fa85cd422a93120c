/- Steps as long as they may be made; the same beside another memory. -/
import Derived.Test.YtbbpnpokccfhjaaKind
namespace Go.Proofs.Ytbbpnpokccfhjaa.core
open Go Go.RowKit Go.Proofs.Ytbbpnpokccfhjaa.kit Go.Proofs.Ytbbpnpokccfhjaa.mem
set_option linter.unusedVariables false
set_option maxRecDepth 20000

/-- a turn: a step, if one may be made -/
def Kind.next (K : Kind) (mv : Value) (q : Q) : Q := if opens q.1 q.2.2.length = true then K.step q.1 mv q.2.1 q.2.2 else q
def Kind.iter (K : Kind) (mv : Value) : Nat → Q → Q
  | 0, q => q
  | t + 1, q => K.next mv (K.iter mv t q)
/-- what a step does hangs not on where the memory lies -/
structure Kind.Free (K : Kind) : Prop where
  free : ∀ (x : Core) (a mv : Value) (rec ws : List Int), K.step { x with m := a } mv rec ws = K.step x mv rec ws
  relabel : ∀ (x : Core) (mv mv' : Value) (rec ws : List Int), K.step x mv' rec ws = ({ (K.step x mv rec ws).1 with m := mv' }, (K.step x mv rec ws).2.1, (K.step x mv rec ws).2.2)
/-- the same, but for where the memory lies -/
def Same (q q' : Q) : Prop := ∃ a, q' = ({ q.1 with m := a }, q.2.1, q.2.2)
theorem Same.next {K : Kind} (hK : K.Free) {q q' : Q} (h : Same q q') (mv mv' : Value) : Same (K.next mv q) (K.next mv' q') := by
  obtain ⟨a, rfl⟩ := h
  unfold Kind.next
  have e : opens ({ q.1 with m := a } : Core) q.2.2.length = opens q.1 q.2.2.length := rfl
  simp only [e]
  split
  · refine ⟨mv', ?_⟩
    rw [hK.free, hK.relabel q.1 mv mv']
  · exact ⟨a, rfl⟩
theorem Same.iter {K : Kind} (hK : K.Free) {q q' : Q} (h : Same q q') (mv mv' : Value) : ∀ t, Same (K.iter mv t q) (K.iter mv' t q')
  | 0 => h
  | t + 1 => (Same.iter hK h mv mv' t).next hK mv mv'
theorem Kind.iter_stop (K : Kind) (mv : Value) (q : Q) {t : Nat} (h : opens (K.iter mv t q).1 (K.iter mv t q).2.2.length = false) : ∀ u, t ≤ u → K.iter mv u q = K.iter mv t q
  | 0, hu => by obtain rfl : t = 0 := by omega
                rfl
  | u + 1, hu => by
    by_cases e : t = u + 1
    · rw [e]
    · have ih := K.iter_stop mv q h u (by omega)
      show K.next mv (K.iter mv u q) = _
      rw [ih]
      unfold Kind.next
      rw [h]
      rfl
/-- t turns behind the beginning q0 -/
structure Kind.Nx (K : Kind) (T : TypeId) (bx mb : Nat) (sv : Value) (W0 : World) (r0 : Value) (q0 : Q) (n0 : Int) (wr : World) (t : Nat) : Prop where
  st : ∃ n, St T bx mb sv W0 r0 wr (K.iter (.pointer (some ⟨mb, 0, none⟩)) t q0).1 (K.iter (.pointer (some ⟨mb, 0, none⟩)) t q0).2.1 (K.iter (.pointer (some ⟨mb, 0, none⟩)) t q0).2.2 n ∧ n0 ≤ n ∧ n ≤ n0 + t
  shape : K.Shape (K.iter (.pointer (some ⟨mb, 0, none⟩)) t q0).1 (K.iter (.pointer (some ⟨mb, 0, none⟩)) t q0).2.1
  steps : q0.1.steps ≤ (K.iter (.pointer (some ⟨mb, 0, none⟩)) t q0).1.steps ∧ (K.iter (.pointer (some ⟨mb, 0, none⟩)) t q0).1.steps ≤ q0.1.steps + t
  one : (K.iter (.pointer (some ⟨mb, 0, none⟩)) t q0).1.m.oneCell' = true
section
variable {K : Kind} {T : TypeId} {bx mb : Nat} {sv r0 : Value} {W0 wr wr' : World} {q0 : Q} {n0 : Int} {t : Nat}
theorem Kind.Nx.start (h : St T bx mb sv W0 r0 wr q0.1 q0.2.1 q0.2.2 n0) (hs : K.Shape q0.1 q0.2.1) (hm : q0.1.m.oneCell' = true) : K.Nx T bx mb sv W0 r0 q0 n0 wr 0 :=
  ⟨⟨n0, h, by omega, by omega⟩, hs, ⟨by show q0.1.steps ≤ q0.1.steps; omega, by show q0.1.steps ≤ q0.1.steps + ((0 : Nat) : Int); omega⟩, hm⟩
theorem Kind.Nx.keep (h : K.Nx T bx mb sv W0 r0 q0 n0 wr t) (hc : Chg [] wr wr') : K.Nx T bx mb sv W0 r0 q0 n0 wr' t := by
  obtain ⟨n, h1, h2⟩ := h.st
  exact ⟨⟨n, h1.keep hc, h2⟩, h.shape, h.steps, h.one⟩
theorem Kind.Nx.made (h : K.Nx T bx mb sv W0 r0 q0 n0 wr t) (ho : opens (K.iter (.pointer (some ⟨mb, 0, none⟩)) t q0).1 (K.iter (.pointer (some ⟨mb, 0, none⟩)) t q0).2.2.length = true) (hv : (K.iter (.pointer (some ⟨mb, 0, none⟩)) t q0).1.over = false) {n : Int} (hn : n0 ≤ n ∧ n ≤ n0 + t)
    (hst : St T bx mb sv W0 r0 wr' (K.step (K.iter (.pointer (some ⟨mb, 0, none⟩)) t q0).1 (.pointer (some ⟨mb, 0, none⟩)) (K.iter (.pointer (some ⟨mb, 0, none⟩)) t q0).2.1 (K.iter (.pointer (some ⟨mb, 0, none⟩)) t q0).2.2).1
      (K.step (K.iter (.pointer (some ⟨mb, 0, none⟩)) t q0).1 (.pointer (some ⟨mb, 0, none⟩)) (K.iter (.pointer (some ⟨mb, 0, none⟩)) t q0).2.1 (K.iter (.pointer (some ⟨mb, 0, none⟩)) t q0).2.2).2.1
      (K.step (K.iter (.pointer (some ⟨mb, 0, none⟩)) t q0).1 (.pointer (some ⟨mb, 0, none⟩)) (K.iter (.pointer (some ⟨mb, 0, none⟩)) t q0).2.1 (K.iter (.pointer (some ⟨mb, 0, none⟩)) t q0).2.2).2.2 (n + 1)) :
    K.Nx T bx mb sv W0 r0 q0 n0 wr' (t + 1) := by
  have e : K.iter (.pointer (some ⟨mb, 0, none⟩)) (t + 1) q0 = K.step (K.iter (.pointer (some ⟨mb, 0, none⟩)) t q0).1 (.pointer (some ⟨mb, 0, none⟩)) (K.iter (.pointer (some ⟨mb, 0, none⟩)) t q0).2.1 (K.iter (.pointer (some ⟨mb, 0, none⟩)) t q0).2.2 := by
    show K.next _ _ = _
    unfold Kind.next
    rw [if_pos ho]
  obtain ⟨_, hst0, _⟩ := h.st
  obtain ⟨h1, h2, h3, h4, h5, h6⟩ := K.ok (.pointer (some ⟨mb, 0, none⟩)) h.shape hv hst0.memory.range
  have hs := h.steps
  refine ⟨⟨n + 1, by rw [e]; exact hst, by omega, by omega⟩, by rw [e]; exact h1, ?_, by rw [e, h4]; rfl⟩
  rw [e, h3]
  constructor <;> omega
theorem Kind.Nx.idle (h : K.Nx T bx mb sv W0 r0 q0 n0 wr t) (ho : opens (K.iter (.pointer (some ⟨mb, 0, none⟩)) t q0).1 (K.iter (.pointer (some ⟨mb, 0, none⟩)) t q0).2.2.length = false) (hc : Chg [] wr wr') : K.Nx T bx mb sv W0 r0 q0 n0 wr' (t + 1) := by
  have e : K.iter (.pointer (some ⟨mb, 0, none⟩)) (t + 1) q0 = K.iter (.pointer (some ⟨mb, 0, none⟩)) t q0 := K.iter_stop _ _ ho (t + 1) (by omega)
  obtain ⟨n, h1, h2, h3⟩ := (h.keep hc).st
  have hs := h.steps
  exact ⟨⟨n, by rw [e]; exact h1, h2, by omega⟩, by rw [e]; exact h.shape, by rw [e]; omega, by rw [e]; exact h.one⟩
end
end Go.Proofs.Ytbbpnpokccfhjaa.core
