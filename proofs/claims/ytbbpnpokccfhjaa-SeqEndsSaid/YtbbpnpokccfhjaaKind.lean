/- What all kinds of operations have in common: steps, one behind the other. -/
import Derived.Test.YtbbpnpokccfhjaaCore5
namespace Go.Proofs.Ytbbpnpokccfhjaa.core
open Go Go.RowKit Go.Proofs.Ytbbpnpokccfhjaa.kit Go.Proofs.Ytbbpnpokccfhjaa.mem
set_option linter.unusedVariables false
set_option maxRecDepth 20000

abbrev Q := Core × List Int × List Int
/-- a kind: what a step does, what an operation keeps, how many steps are left at most -/
structure Kind where
  step : Core → Value → List Int → List Int → Q
  Shape : Core → List Int → Prop
  left : Core → Int
  ok : ∀ {x : Core} {rec ws : List Int} (mv : Value), Shape x rec → x.over = false → (∀ z ∈ ws, 0 ≤ z ∧ z ≤ 4294967295) →
    Shape (step x mv rec ws).1 (step x mv rec ws).2.1 ∧ left (step x mv rec ws).1 + 1 ≤ left x ∧ (step x mv rec ws).1.steps = x.steps + 1 ∧ (step x mv rec ws).1.m = mv ∧
    (step x mv rec ws).1.base = x.base ∧ (step x mv rec ws).1.size = x.size
  len : ∀ (x : Core) (mv : Value) (rec ws : List Int), (step x mv rec ws).2.2.length = ws.length
  pos : ∀ {x : Core} {rec : List Int}, Shape x rec → x.over = false → 1 ≤ left x
  zero : ∀ {x : Core}, x.over = true → left x = 0
theorem opens_iff {x : Core} {l : Nat} (h0 : 0 ≤ x.base) (h1 : 0 ≤ x.size) (h2 : x.base + x.size ≤ l) : opens x l = !x.over := by
  have : insB (l : Int) x.base x.size = true := insB_true ⟨h0, h1, by omega, by omega⟩
  simp [opens, this]
def Kind.run (K : Kind) (mv : Value) : Nat → Q → Q
  | 0, q => q
  | k + 1, q => K.step (K.run mv k q).1 mv (K.run mv k q).2.1 (K.run mv k q).2.2
theorem Kind.run_len (K : Kind) (mv : Value) (q : Q) : ∀ k, (K.run mv k q).2.2.length = q.2.2.length
  | 0 => rfl
  | k + 1 => (K.len _ _ _ _).trans (K.run_len mv q k)
theorem _root_.Go.Proofs.Ytbbpnpokccfhjaa.mem.MemAt.range {W : World} {b : Nat} {sv : Value} {ws : List Int} {n : Int} (h : MemAt W b sv ws n) : ∀ z ∈ ws, 0 ≤ z ∧ z ≤ 4294967295 := fun z hz => wf_u32 (h.wf z hz)
/-- k steps behind the beginning q0 -/
structure Kind.At (K : Kind) (T : TypeId) (bx mb : Nat) (sv : Value) (W0 : World) (r0 : Value) (q0 : Q) (n0 : Int) (wr : World) (k : Nat) : Prop where
  st : St T bx mb sv W0 r0 wr (K.run (.pointer (some ⟨mb, 0, none⟩)) k q0).1 (K.run (.pointer (some ⟨mb, 0, none⟩)) k q0).2.1 (K.run (.pointer (some ⟨mb, 0, none⟩)) k q0).2.2 (n0 + k)
  shape : K.Shape (K.run (.pointer (some ⟨mb, 0, none⟩)) k q0).1 (K.run (.pointer (some ⟨mb, 0, none⟩)) k q0).2.1
  left : K.left (K.run (.pointer (some ⟨mb, 0, none⟩)) k q0).1 + k ≤ K.left q0.1
  steps : (K.run (.pointer (some ⟨mb, 0, none⟩)) k q0).1.steps = q0.1.steps + k
  base : (K.run (.pointer (some ⟨mb, 0, none⟩)) k q0).1.base = q0.1.base
  size : (K.run (.pointer (some ⟨mb, 0, none⟩)) k q0).1.size = q0.1.size
section
variable {K : Kind} {T : TypeId} {bx mb : Nat} {sv r0 : Value} {W0 wr wr' : World} {q0 : Q} {n0 : Int} {k : Nat}
theorem Kind.At.start (h : St T bx mb sv W0 r0 wr q0.1 q0.2.1 q0.2.2 n0) (hs : K.Shape q0.1 q0.2.1) : K.At T bx mb sv W0 r0 q0 n0 wr 0 :=
  ⟨by simpa [Kind.run] using h, hs, by simp [Kind.run], by simp [Kind.run], rfl, rfl⟩
theorem Kind.At.next (h : K.At T bx mb sv W0 r0 q0 n0 wr k) (ho : (K.run (.pointer (some ⟨mb, 0, none⟩)) k q0).1.over = false)
    (hst : St T bx mb sv W0 r0 wr' (K.step (K.run (.pointer (some ⟨mb, 0, none⟩)) k q0).1 (.pointer (some ⟨mb, 0, none⟩)) (K.run (.pointer (some ⟨mb, 0, none⟩)) k q0).2.1 (K.run (.pointer (some ⟨mb, 0, none⟩)) k q0).2.2).1
      (K.step (K.run (.pointer (some ⟨mb, 0, none⟩)) k q0).1 (.pointer (some ⟨mb, 0, none⟩)) (K.run (.pointer (some ⟨mb, 0, none⟩)) k q0).2.1 (K.run (.pointer (some ⟨mb, 0, none⟩)) k q0).2.2).2.1
      (K.step (K.run (.pointer (some ⟨mb, 0, none⟩)) k q0).1 (.pointer (some ⟨mb, 0, none⟩)) (K.run (.pointer (some ⟨mb, 0, none⟩)) k q0).2.1 (K.run (.pointer (some ⟨mb, 0, none⟩)) k q0).2.2).2.2 (n0 + k + 1)) :
    K.At T bx mb sv W0 r0 q0 n0 wr' (k + 1) := by
  obtain ⟨h1, h2, h3, h4, h5, h6⟩ := K.ok (.pointer (some ⟨mb, 0, none⟩)) h.shape ho h.st.memory.range
  have := h.left; have := h.steps
  exact ⟨by have e : n0 + ((k + 1 : Nat) : Int) = n0 + k + 1 := by omega
            rw [e]; exact hst, h1, by show K.left (K.step _ _ _ _).1 + _ ≤ _; omega, by show (K.step _ _ _ _).1.steps = _; omega, h5.trans h.base, h6.trans h.size⟩
theorem Kind.At.keep (h : K.At T bx mb sv W0 r0 q0 n0 wr k) (hc : Chg [] wr wr') : K.At T bx mb sv W0 r0 q0 n0 wr' k := ⟨h.st.keep hc, h.shape, h.left, h.steps, h.base, h.size⟩
theorem Kind.At.most (h : K.At T bx mb sv W0 r0 q0 n0 wr k) : (k : Int) ≤ K.left q0.1 := by
  have := h.left
  cases ho : (K.run (.pointer (some ⟨mb, 0, none⟩)) k q0).1.over
  · have := K.pos h.shape ho; omega
  · have := K.zero ho; omega
theorem Kind.At.opens (h : K.At T bx mb sv W0 r0 q0 n0 wr k) (h0 : 0 ≤ q0.1.base) (h1 : 0 ≤ q0.1.size) (h2 : q0.1.base + q0.1.size ≤ q0.2.2.length) :
    core.opens (K.run (.pointer (some ⟨mb, 0, none⟩)) k q0).1 (K.run (.pointer (some ⟨mb, 0, none⟩)) k q0).2.2.length = !(K.run (.pointer (some ⟨mb, 0, none⟩)) k q0).1.over :=
  opens_iff (by rw [h.base]; exact h0) (by rw [h.size]; exact h1) (by rw [h.base, h.size, K.run_len]; exact h2)
end
/-- how many steps an operation at bx made -/
def stepsOf (wr : World) (bx : Nat) : Nat := match wr.cell? ⟨bx, 21, none⟩ with
  | some (.int _ n) => n.toNat
  | _ => 0
theorem Kind.At.made {K : Kind} {T : TypeId} {bx mb : Nat} {sv r0 : Value} {W0 wr : World} {q0 : Q} {n0 : Int} {k : Nat} (h : K.At T bx mb sv W0 r0 q0 n0 wr k) (h0 : q0.1.steps = 0) : stepsOf wr bx = k := by
  have e := h.st.cell 21 _ (fun _ => rfl)
  have hs := h.steps
  rw [h0, Int.zero_add] at hs
  simp only [stepsOf, e, hs]
  simp
/-- an operation that was begun, and a memory that was made behind it -/
theorem Pair.make {T : TypeId} {bx mb B : Nat} {sv v : Value} {W1 W2 : World} {x : Core} {rec ws : List Int} {n : Int} (hb : Blk W1 bx (x.cells v) T) (ho : OwnW W1 B v rec) (hv : ∀ y, v.ownBlock = some y → y ≠ bx) (hw : ∀ z ∈ rec, (Lit.int .u32 z).wf = true)
    (hl : rec.length ≤ 1000) (hc : Chg [] W1 W2) (hm : MemAt W2 mb sv ws n) (h1 : W1.heap.size ≤ mb) (h2 : ∀ y, sv.ownBlock = some y → W1.heap.size ≤ y) : Pair T bx mb sv W2 x v rec ws n := by
  have h3 := hb.lt
  have ho0 : OwnW W1 0 v rec := own_base ho (Nat.zero_le _)
  refine ⟨hb.keep hc (by simp), mem.own_chg ho0 hc (by simp), hw, hl, hm, by omega, fun y hy => by have := h2 y hy; omega, fun y hy => ?_⟩
  have h4 := own_lt ho0 hy
  exact ⟨hv y hy, by omega, fun hh => by have := h2 y hh; omega⟩
end Go.Proofs.Ytbbpnpokccfhjaa.core
