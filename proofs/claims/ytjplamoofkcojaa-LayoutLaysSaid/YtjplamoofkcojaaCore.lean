/- Parts joined: Core1, Core2, Core3, Core4, Core5, Kind, Next. -/
import Derived.Test.YtjplamoofkcojaaMemo
import Derived.Test.YtjplamoofkcojaaRopA
import Derived.Test.YtjplamoofkcojaaPlans
/- Package micro: an operation's words in memory, beside the memory; go, each, end, made. -/
namespace Go.Proofs.Ytjplamoofkcojaa.core
open Go Go.RowKit Go.Proofs.Ytjplamoofkcojaa.kit Go.Proofs.Ytjplamoofkcojaa.mem
set_option linter.unusedVariables false
set_option linter.unusedSimpArgs false
set_option maxRecDepth 20000

/-- an operation as the program has it, without its record -/
structure Core where
  k : Int
  w : Int
  s : Int
  c : Int
  st : Int
  ia : Option Addr
  il : Nat
  ic : Nat
  wr : Int
  ra : Option Addr
  rl : Nat
  rc : Nat
  op : Int
  reader : Int
  phase : Int
  i : Int
  tries : Int
  a : Int
  b : Int
  used : Int
  m : Value
  base : Int
  size : Int
  code : Int
  steps : Int
  over : Bool
def Core.cells (x : Core) (v : Value) : Array Value := #[.int .i64 x.k, .int .i64 x.w, .int .i64 x.s, .int .i64 x.c, .int .u32 x.st, .slice x.ia x.il x.ic, .int .i64 x.wr, .slice x.ra x.rl x.rc, .int .i64 x.op, .int .i64 x.reader, .int .i64 x.phase, .int .i64 x.i, .int .i64 x.tries, .int .u32 x.a, .int .u32 x.b, .int .u64 x.used, v, x.m, .int .i64 x.base, .int .i64 x.size, .int .i64 x.code, .int .i64 x.steps, .bool x.over]

/-- an operation at bx, its record in v, beside a memory at mb -/
structure Pair (T : TypeId) (bx mb : Nat) (sv : Value) (W : World) (x : Core) (v : Value) (rec ws : List Int) (n : Int) : Prop where
  box : Blk W bx (x.cells v) T
  row : OwnW W 0 v rec
  wf : ∀ z ∈ rec, (Lit.int .u32 z).wf = true
  short : rec.length ≤ 1000
  mem : MemAt W mb sv ws n
  ne : bx ≠ mb
  ns : ∀ y, sv.ownBlock = some y → y ≠ bx
  nv : ∀ y, v.ownBlock = some y → y ≠ bx ∧ y ≠ mb ∧ sv.ownBlock ≠ some y
/-- what was changed since W0, when the record lay in r0 -/
structure Ev (bx mb : Nat) (sv : Value) (W0 : World) (r0 : Value) (W : World) (v : Value) : Prop where
  chg : Chg (bx :: mb :: (sv.ownBlock.toList ++ r0.ownBlock.toList)) W0 W
  own : ∀ y, v.ownBlock = some y → r0.ownBlock = some y ∨ W0.heap.size ≤ y
theorem Ev.refl (bx mb : Nat) (sv : Value) (W0 : World) (r0 : Value) : Ev bx mb sv W0 r0 W0 r0 := ⟨Chg.refl _ _, fun y h => .inl h⟩
theorem Ev.trans {bx mb : Nat} {sv r0 r1 r2 : Value} {W0 W1 W2 : World} (h : Ev bx mb sv W0 r0 W1 r1) (k : Ev bx mb sv W1 r1 W2 r2) : Ev bx mb sv W0 r0 W2 r2 := by
  refine ⟨h.chg.into k.chg fun z hz => ?_, fun y hy => ?_⟩
  · simp only [List.mem_cons, List.mem_append, Option.mem_toList, Option.mem_def] at hz ⊢
    rcases hz with hz | hz | hz | hz
    · exact .inl (.inl hz)
    · exact .inl (.inr (.inl hz))
    · exact .inl (.inr (.inr (.inl hz)))
    · rcases h.own z hz with h1 | h1
      · exact .inl (.inr (.inr (.inr h1)))
      · exact .inr h1
  · rcases k.own y hy with h1 | h1
    · exact h.own y h1
    · exact .inr (Nat.le_trans h.chg.size h1)
/-- the pair, wherever the record lies now, and what was changed since W0 -/
def St (T : TypeId) (bx mb : Nat) (sv : Value) (W0 : World) (r0 : Value) (W : World) (x : Core) (rec ws : List Int) (n : Int) : Prop :=
  ∃ v, Pair T bx mb sv W x v rec ws n ∧ Ev bx mb sv W0 r0 W v

section
variable {T : TypeId} {bx mb : Nat} {sv r0 v : Value} {W0 W W' : World} {x x' : Core} {rec ws : List Int} {n : Int}
theorem Pair.keep (h : Pair T bx mb sv W x v rec ws n) (k : Chg [] W W') : Pair T bx mb sv W' x v rec ws n :=
  ⟨h.box.keep k (by simp), mem.own_chg h.row k (by simp), h.wf, h.short, h.mem.fresh k, h.ne, h.ns, h.nv⟩
theorem Pair.put (h : Pair T bx mb sv W x v rec ws n) (o : Nat) (u : Value) (hx : (x.cells v).setIfInBounds o u = x'.cells v) : Pair T bx mb sv (W.setCell ⟨bx, o, none⟩ u) x' v rec ws n :=
  ⟨by rw [← hx]; exact h.box.set o u, mem.own_chg h.row ((Chg.refl [bx] W).setCell (.inl (by simp)) _) (fun y hy => by simp; exact (h.nv y hy).1), h.wf, h.short,
   h.mem.keep ((Chg.refl [bx] W).setCell (p := ⟨bx, o, none⟩) (.inl (by simp)) u) (by simp; exact h.ne.symm) (fun y hy => by simp; exact h.ns y hy), h.ne, h.ns, h.nv⟩
theorem St.keep (h : St T bx mb sv W0 r0 W x rec ws n) (k : Chg [] W W') : St T bx mb sv W0 r0 W' x rec ws n := by
  obtain ⟨v, hp, he⟩ := h
  exact ⟨v, hp.keep k, he.chg.fresh k, he.own⟩
theorem St.put (h : St T bx mb sv W0 r0 W x rec ws n) (o : Nat) (u : Value) (x' : Core) (hx : ∀ v, (x.cells v).setIfInBounds o u = x'.cells v) : St T bx mb sv W0 r0 (W.setCell ⟨bx, o, none⟩ u) x' rec ws n := by
  obtain ⟨v, hp, he⟩ := h
  exact ⟨v, hp.put o u (hx v), he.chg.setCell (.inl (by simp)) _, he.own⟩
theorem St.nil (h : St T bx mb sv W0 r0 W x rec ws n) : St T bx mb sv W0 r0 (W.setCell ⟨bx, 16, none⟩ (.slice none 0 0)) x [] ws n := by
  obtain ⟨v, hp, he⟩ := h
  refine ⟨.slice none 0 0, ⟨hp.box.set 16 _, ⟨by simp, .inl ⟨rfl, rfl⟩⟩, by simp, by simp, ?_, hp.ne, hp.ns, fun y hy => by cases hy⟩, he.chg.setCell (.inl (by simp)) _, fun y hy => by cases hy⟩
  exact hp.mem.keep ((Chg.refl [bx] W).setCell (p := ⟨bx, 16, none⟩) (.inl (by simp)) _) (by simp; exact hp.ne.symm) (fun y hy => by simp; exact hp.ns y hy)
theorem St.cell (h : St T bx mb sv W0 r0 W x rec ws n) (o : Nat) (u : Value) (hx : ∀ v, (x.cells v)[o]? = some u) : W.cell? ⟨bx, o, none⟩ = some u := by
  obtain ⟨v, hp, he⟩ := h
  exact hp.box.cell (hx v)
theorem St.free (h : St T bx mb sv W0 r0 W x rec ws n) (o : Nat) : W.frozen? ⟨bx, o, none⟩ = false := by
  obtain ⟨v, hp, he⟩ := h
  exact hp.box.free o
theorem St.rowc (h : St T bx mb sv W0 r0 W x rec ws n) : ∃ a c, W.cell? ⟨bx, 16, none⟩ = some (.slice a rec.length c) := by
  obtain ⟨v, hp, he⟩ := h
  obtain ⟨a, c, rfl, _⟩ := reads_slice (Reads.of_own hp.row (by decide))
  exact ⟨a, c, hp.box.cell rfl⟩
theorem St.start (h : Pair T bx mb sv W x v rec ws n) : St T bx mb sv W v W x rec ws n := ⟨v, h, Ev.refl _ _ _ _ _⟩
theorem St.memory (h : St T bx mb sv W0 r0 W x rec ws n) : MemAt W mb sv ws n := by
  obtain ⟨v, hp, he⟩ := h; exact hp.mem
theorem St.byMem (h : St T bx mb sv W0 r0 W x rec ws n) {ws' : List Int} {n' : Int} (k : Chg (mb :: sv.ownBlock.toList) W W') (hm : MemAt W' mb sv ws' n') : St T bx mb sv W0 r0 W' x rec ws' n' := by
  obtain ⟨v, hp, he⟩ := h
  have hb : bx ∉ (mb :: sv.ownBlock.toList) := by simp; exact ⟨hp.ne, fun hh => hp.ns bx hh rfl⟩
  refine ⟨v, ⟨hp.box.keep k hb, mem.own_chg hp.row k (fun y hy => by simp; exact ⟨(hp.nv y hy).2.1, (hp.nv y hy).2.2⟩), hp.wf, hp.short, hm, hp.ne, hp.ns, hp.nv⟩, ?_, he.own⟩
  exact he.chg.trans (k.mono (by intro z hz; simp at hz ⊢; rcases hz with hz | hz <;> simp [hz]))
end

def wkind (op : Int) : Bool := decide (op = 2 ∨ op = 3)
def endRec (op cd : Int) (rec : List Int) : List Int := if cd ≠ 0 ∨ op = 2 ∨ op = 3 then [] else rec
end Go.Proofs.Ytjplamoofkcojaa.core

/- Package micro: a word is read, or written; a step is opened; an attempt fails. -/
namespace Go.Proofs.Ytjplamoofkcojaa.core
open Go Go.RowKit Go.Proofs.Ytjplamoofkcojaa.kit Go.Proofs.Ytjplamoofkcojaa.mem
set_option linter.unusedVariables false
set_option linter.unusedSimpArgs false
set_option maxRecDepth 20000

theorem u32_wf {u : Int} (h : 0 ≤ u ∧ u ≤ 4294967295) : (Lit.int .u32 u).wf = true := by simp [Lit.wf, IntKind.min, IntKind.max, IntKind.signed, IntKind.bits]; omega
theorem lenm {W : World} {mb : Nat} {sv : Value} {ws : List Int} {n : Int} (h : MemAt W mb sv ws n) :
    Calls Try.prog 58 #[.pointer (some ⟨mb, 0, none⟩)] W fun e w' => e = .returned (.int .i64 ws.length) ∧ Chg [] W w' := (Len_any mb sv ws n W h).mono (by rintro e w' ⟨h1, rfl⟩; exact ⟨h1, Chg.refl _ _⟩)

end Go.Proofs.Ytjplamoofkcojaa.core

/- Package micro: a step is opened; an attempt fails; a word of a record goes over; what is told. -/
namespace Go.Proofs.Ytjplamoofkcojaa.core
open Go Go.RowKit Go.Proofs.Ytjplamoofkcojaa.kit Go.Proofs.Ytjplamoofkcojaa.mem Go.Proofs.Ytjplamoofkcojaa.rop
set_option linter.unusedVariables false
set_option linter.unusedSimpArgs false
set_option maxRecDepth 20000

/-- may a step be made? -/
def opens (x : Core) (l : Nat) : Bool := !x.over && insB (l : Int) x.base x.size
end Go.Proofs.Ytjplamoofkcojaa.core

/- Package micro: an attempt fails; a word of a record goes over; what is told. -/
namespace Go.Proofs.Ytjplamoofkcojaa.core
open Go Go.RowKit Go.Proofs.Ytjplamoofkcojaa.kit Go.Proofs.Ytjplamoofkcojaa.mem Go.Proofs.Ytjplamoofkcojaa.rop
set_option linter.unusedVariables false
set_option linter.unusedSimpArgs false
set_option maxRecDepth 20000

end Go.Proofs.Ytjplamoofkcojaa.core

/- Package micro: a word of a record is read; what is told. -/
namespace Go.Proofs.Ytjplamoofkcojaa.core
open Go Go.RowKit Go.Proofs.Ytjplamoofkcojaa.kit Go.Proofs.Ytjplamoofkcojaa.mem Go.Proofs.Ytjplamoofkcojaa.rop
set_option linter.unusedVariables false
set_option linter.unusedSimpArgs false
set_option maxRecDepth 20000

theorem own_lt {W : World} {v : Value} {l : List Int} {y : Nat} (h : OwnW W 0 v l) (hy : v.ownBlock = some y) : y < W.heap.size := by
  rcases h.2 with ⟨rfl, _⟩ | ⟨g, cap, cur, rfl, hbg, hg, _⟩
  · cases hy
  · obtain rfl : g = y := by simpa [Value.ownBlock] using hy
    exact lt_of_block hg
section
variable {T : TypeId} {bx mb : Nat} {sv r0 v v' : Value} {W0 W W' : World} {x x' : Core} {rec ws : List Int} {n : Int}
theorem Pair.byMem (hp : Pair T bx mb sv W x v rec ws n) {ws' : List Int} {n' : Int} (k : Chg (mb :: sv.ownBlock.toList) W W') (hm : MemAt W' mb sv ws' n') : Pair T bx mb sv W' x v rec ws' n' := by
  have hb : bx ∉ (mb :: sv.ownBlock.toList) := by simp; exact ⟨hp.ne, fun hh => hp.ns bx hh rfl⟩
  exact ⟨hp.box.keep k hb, mem.own_chg hp.row k (fun y hy => by simp; exact ⟨(hp.nv y hy).2.1, (hp.nv y hy).2.2⟩), hp.wf, hp.short, hm, hp.ne, hp.ns, hp.nv⟩
theorem St.push (hp : Pair T bx mb sv W x v rec ws n) (he : Ev bx mb sv W0 r0 W v) (hc : Chg v.ownBlock.toList W W') {u : Int} (ho : W'.ownsRow 0 22 1 v' (rec.length + 1) (rec.map (Value.int .u32) ++ [.int .u32 u]))
    (hb : ∀ y, v'.ownBlock = some y → v.ownBlock = some y ∨ W.heap.size ≤ y) (hu : (Lit.int .u32 u).wf = true) (hl : rec.length + 1 ≤ 1000) : St T bx mb sv W0 r0 (W'.setCell ⟨bx, 16, none⟩ v') x (rec ++ [u]) ws n := by
  have hbx : bx ∉ v.ownBlock.toList := fun hh => (hp.nv bx (by simpa using hh)).1 rfl
  have hmb : mb ∉ v.ownBlock.toList := fun hh => (hp.nv mb (by simpa using hh)).2.1 rfl
  have hnv : ∀ y, v'.ownBlock = some y → y ≠ bx ∧ y ≠ mb ∧ sv.ownBlock ≠ some y := by
    intro y hy
    rcases hb y hy with h1 | h1
    · exact hp.nv y h1
    · have h2 := hp.box.lt
      have h3 := hp.mem.box.lt
      exact ⟨by omega, by omega, fun hh => by have := own_lt hp.mem.row hh; omega⟩
  refine ⟨v', ⟨(hp.box.keep hc hbx).set 16 v', ?_, ?_, by simp; omega, ?_, hp.ne, hp.ns, hnv⟩, ?_, ?_⟩
  · refine mem.own_chg (L := [bx]) ?_ ((Chg.refl [bx] W').setCell (.inl (by simp)) _) (fun y hy => by simp; exact (hnv y hy).1)
    simpa using ho
  · intro z hz
    simp at hz
    rcases hz with hz | rfl
    · exact hp.wf z hz
    · exact hu
  · refine (hp.mem.keep hc hmb (fun y hy hh => (hp.nv y (by simpa using hh)).2.2 hy)).keep ((Chg.refl [bx] W').setCell (p := ⟨bx, 16, none⟩) (.inl (by simp)) v') (by simp; exact hp.ne.symm) (fun y hy => by simp; exact hp.ns y hy)
  · refine (he.chg.into hc fun z hz => ?_).setCell (.inl (by simp)) _
    rcases he.own z (by simpa using hz) with h1 | h1
    · left; simp [h1]
    · exact .inr h1
  · intro y hy
    rcases hb y hy with h1 | h1
    · exact he.own y h1
    · exact .inr (Nat.le_trans he.chg.size h1)
end

end Go.Proofs.Ytjplamoofkcojaa.core

/- What all kinds of operations have in common: steps, one behind the other. -/
namespace Go.Proofs.Ytjplamoofkcojaa.core
open Go Go.RowKit Go.Proofs.Ytjplamoofkcojaa.kit Go.Proofs.Ytjplamoofkcojaa.mem
set_option linter.unusedVariables false
set_option linter.unusedSimpArgs false
set_option maxRecDepth 20000

abbrev Q := Core × List Int × List Int
/-- a kind: what a step does, what an operation keeps, how many steps are left at most -/
structure Kind where
  step : Core → Value → List Int → List Int → Q
  Shape : Core → List Int → Prop
  left : Core → Int
  ok : ∀ {x : Core} {rec ws : List Int} (mv : Value), Shape x rec → x.over = false → (∀ z ∈ ws, 0 ≤ z ∧ z ≤ 4294967295) →
    Shape (step x mv rec ws).1 (step x mv rec ws).2.1 ∧ left (step x mv rec ws).1 + 1 ≤ left x ∧ (step x mv rec ws).1.steps = x.steps + 1 ∧ (step x mv rec ws).1.m = mv ∧
    (step x mv rec ws).1.base = x.base ∧ (step x mv rec ws).1.size = x.size
  len : ∀ (x : Core) (mv : Value) (rec ws : List Int), (step x mv rec ws).2.2.length = ws.length
  pos : ∀ {x : Core} {rec : List Int}, Shape x rec → x.over = false → 1 ≤ left x
  zero : ∀ {x : Core}, x.over = true → left x = 0
theorem opens_iff {x : Core} {l : Nat} (h0 : 0 ≤ x.base) (h1 : 0 ≤ x.size) (h2 : x.base + x.size ≤ l) : opens x l = !x.over := by
  have : insB (l : Int) x.base x.size = true := insB_true ⟨h0, h1, by omega, by omega⟩
  simp [opens, this]
def Kind.run (K : Kind) (mv : Value) : Nat → Q → Q
  | 0, q => q
  | k + 1, q => K.step (K.run mv k q).1 mv (K.run mv k q).2.1 (K.run mv k q).2.2
theorem Kind.run_len (K : Kind) (mv : Value) (q : Q) : ∀ k, (K.run mv k q).2.2.length = q.2.2.length
  | 0 => rfl
  | k + 1 => (K.len _ _ _ _).trans (K.run_len mv q k)
theorem _root_.Go.Proofs.Ytjplamoofkcojaa.mem.MemAt.range {W : World} {b : Nat} {sv : Value} {ws : List Int} {n : Int} (h : MemAt W b sv ws n) : ∀ z ∈ ws, 0 ≤ z ∧ z ≤ 4294967295 := fun z hz => wf_u32 (h.wf z hz)
/-- k steps behind the beginning q0 -/
structure Kind.At (K : Kind) (T : TypeId) (bx mb : Nat) (sv : Value) (W0 : World) (r0 : Value) (q0 : Q) (n0 : Int) (wr : World) (k : Nat) : Prop where
  st : St T bx mb sv W0 r0 wr (K.run (.pointer (some ⟨mb, 0, none⟩)) k q0).1 (K.run (.pointer (some ⟨mb, 0, none⟩)) k q0).2.1 (K.run (.pointer (some ⟨mb, 0, none⟩)) k q0).2.2 (n0 + k)
  shape : K.Shape (K.run (.pointer (some ⟨mb, 0, none⟩)) k q0).1 (K.run (.pointer (some ⟨mb, 0, none⟩)) k q0).2.1
  left : K.left (K.run (.pointer (some ⟨mb, 0, none⟩)) k q0).1 + k ≤ K.left q0.1
  steps : (K.run (.pointer (some ⟨mb, 0, none⟩)) k q0).1.steps = q0.1.steps + k
  base : (K.run (.pointer (some ⟨mb, 0, none⟩)) k q0).1.base = q0.1.base
  size : (K.run (.pointer (some ⟨mb, 0, none⟩)) k q0).1.size = q0.1.size
section
variable {K : Kind} {T : TypeId} {bx mb : Nat} {sv r0 : Value} {W0 wr wr' : World} {q0 : Q} {n0 : Int} {k : Nat}
theorem Kind.At.start (h : St T bx mb sv W0 r0 wr q0.1 q0.2.1 q0.2.2 n0) (hs : K.Shape q0.1 q0.2.1) : K.At T bx mb sv W0 r0 q0 n0 wr 0 :=
  ⟨by simpa [Kind.run] using h, hs, by simp [Kind.run], by simp [Kind.run], rfl, rfl⟩
theorem Kind.At.next (h : K.At T bx mb sv W0 r0 q0 n0 wr k) (ho : (K.run (.pointer (some ⟨mb, 0, none⟩)) k q0).1.over = false)
    (hst : St T bx mb sv W0 r0 wr' (K.step (K.run (.pointer (some ⟨mb, 0, none⟩)) k q0).1 (.pointer (some ⟨mb, 0, none⟩)) (K.run (.pointer (some ⟨mb, 0, none⟩)) k q0).2.1 (K.run (.pointer (some ⟨mb, 0, none⟩)) k q0).2.2).1
      (K.step (K.run (.pointer (some ⟨mb, 0, none⟩)) k q0).1 (.pointer (some ⟨mb, 0, none⟩)) (K.run (.pointer (some ⟨mb, 0, none⟩)) k q0).2.1 (K.run (.pointer (some ⟨mb, 0, none⟩)) k q0).2.2).2.1
      (K.step (K.run (.pointer (some ⟨mb, 0, none⟩)) k q0).1 (.pointer (some ⟨mb, 0, none⟩)) (K.run (.pointer (some ⟨mb, 0, none⟩)) k q0).2.1 (K.run (.pointer (some ⟨mb, 0, none⟩)) k q0).2.2).2.2 (n0 + k + 1)) :
    K.At T bx mb sv W0 r0 q0 n0 wr' (k + 1) := by
  obtain ⟨h1, h2, h3, h4, h5, h6⟩ := K.ok (.pointer (some ⟨mb, 0, none⟩)) h.shape ho h.st.memory.range
  have := h.left; have := h.steps
  exact ⟨by have e : n0 + ((k + 1 : Nat) : Int) = n0 + k + 1 := by omega
            rw [e]; exact hst, h1, by show K.left (K.step _ _ _ _).1 + _ ≤ _; omega, by show (K.step _ _ _ _).1.steps = _; omega, h5.trans h.base, h6.trans h.size⟩
theorem Kind.At.keep (h : K.At T bx mb sv W0 r0 q0 n0 wr k) (hc : Chg [] wr wr') : K.At T bx mb sv W0 r0 q0 n0 wr' k := ⟨h.st.keep hc, h.shape, h.left, h.steps, h.base, h.size⟩
theorem Kind.At.most (h : K.At T bx mb sv W0 r0 q0 n0 wr k) : (k : Int) ≤ K.left q0.1 := by
  have := h.left
  cases ho : (K.run (.pointer (some ⟨mb, 0, none⟩)) k q0).1.over
  · have := K.pos h.shape ho; omega
  · have := K.zero ho; omega
theorem Kind.At.opens (h : K.At T bx mb sv W0 r0 q0 n0 wr k) (h0 : 0 ≤ q0.1.base) (h1 : 0 ≤ q0.1.size) (h2 : q0.1.base + q0.1.size ≤ q0.2.2.length) :
    core.opens (K.run (.pointer (some ⟨mb, 0, none⟩)) k q0).1 (K.run (.pointer (some ⟨mb, 0, none⟩)) k q0).2.2.length = !(K.run (.pointer (some ⟨mb, 0, none⟩)) k q0).1.over :=
  opens_iff (by rw [h.base]; exact h0) (by rw [h.size]; exact h1) (by rw [h.base, h.size, K.run_len]; exact h2)
end
/-- how many steps an operation at bx made -/
def stepsOf (wr : World) (bx : Nat) : Nat := match wr.cell? ⟨bx, 21, none⟩ with
  | some (.int _ n) => n.toNat
  | _ => 0
theorem Kind.At.made {K : Kind} {T : TypeId} {bx mb : Nat} {sv r0 : Value} {W0 wr : World} {q0 : Q} {n0 : Int} {k : Nat} (h : K.At T bx mb sv W0 r0 q0 n0 wr k) (h0 : q0.1.steps = 0) : stepsOf wr bx = k := by
  have e := h.st.cell 21 _ (fun _ => rfl)
  have hs := h.steps
  rw [h0, Int.zero_add] at hs
  simp only [stepsOf, e, hs]
  simp
/-- an operation that was begun, and a memory that was made behind it -/
theorem Pair.make {T : TypeId} {bx mb B : Nat} {sv v : Value} {W1 W2 : World} {x : Core} {rec ws : List Int} {n : Int} (hb : Blk W1 bx (x.cells v) T) (ho : OwnW W1 B v rec) (hv : ∀ y, v.ownBlock = some y → y ≠ bx) (hw : ∀ z ∈ rec, (Lit.int .u32 z).wf = true)
    (hl : rec.length ≤ 1000) (hc : Chg [] W1 W2) (hm : MemAt W2 mb sv ws n) (h1 : W1.heap.size ≤ mb) (h2 : ∀ y, sv.ownBlock = some y → W1.heap.size ≤ y) : Pair T bx mb sv W2 x v rec ws n := by
  have h3 := hb.lt
  have ho0 : OwnW W1 0 v rec := own_base ho (Nat.zero_le _)
  refine ⟨hb.keep hc (by simp), mem.own_chg ho0 hc (by simp), hw, hl, hm, by omega, fun y hy => by have := h2 y hy; omega, fun y hy => ?_⟩
  have h4 := own_lt ho0 hy
  exact ⟨hv y hy, by omega, fun hh => by have := h2 y hh; omega⟩
end Go.Proofs.Ytjplamoofkcojaa.core

/- Steps as long as they may be made; the same beside another memory. -/
namespace Go.Proofs.Ytjplamoofkcojaa.core
open Go Go.RowKit Go.Proofs.Ytjplamoofkcojaa.kit Go.Proofs.Ytjplamoofkcojaa.mem
set_option linter.unusedVariables false
set_option linter.unusedSimpArgs false
set_option maxRecDepth 20000

/-- a turn: a step, if one may be made -/
def Kind.next (K : Kind) (mv : Value) (q : Q) : Q := if opens q.1 q.2.2.length = true then K.step q.1 mv q.2.1 q.2.2 else q
def Kind.iter (K : Kind) (mv : Value) : Nat → Q → Q
  | 0, q => q
  | t + 1, q => K.next mv (K.iter mv t q)
/-- what a step does hangs not on where the memory lies -/
structure Kind.Free (K : Kind) : Prop where
  free : ∀ (x : Core) (a mv : Value) (rec ws : List Int), K.step { x with m := a } mv rec ws = K.step x mv rec ws
  relabel : ∀ (x : Core) (mv mv' : Value) (rec ws : List Int), K.step x mv' rec ws = ({ (K.step x mv rec ws).1 with m := mv' }, (K.step x mv rec ws).2.1, (K.step x mv rec ws).2.2)
/-- the same, but for where the memory lies -/
def Same (q q' : Q) : Prop := ∃ a, q' = ({ q.1 with m := a }, q.2.1, q.2.2)
theorem Same.next {K : Kind} (hK : K.Free) {q q' : Q} (h : Same q q') (mv mv' : Value) : Same (K.next mv q) (K.next mv' q') := by
  obtain ⟨a, rfl⟩ := h
  unfold Kind.next
  have e : opens ({ q.1 with m := a } : Core) q.2.2.length = opens q.1 q.2.2.length := rfl
  simp only [e]
  split
  · refine ⟨mv', ?_⟩
    rw [hK.free, hK.relabel q.1 mv mv']
  · exact ⟨a, rfl⟩
theorem Same.iter {K : Kind} (hK : K.Free) {q q' : Q} (h : Same q q') (mv mv' : Value) : ∀ t, Same (K.iter mv t q) (K.iter mv' t q')
  | 0 => h
  | t + 1 => (Same.iter hK h mv mv' t).next hK mv mv'
theorem Kind.iter_stop (K : Kind) (mv : Value) (q : Q) {t : Nat} (h : opens (K.iter mv t q).1 (K.iter mv t q).2.2.length = false) : ∀ u, t ≤ u → K.iter mv u q = K.iter mv t q
  | 0, hu => by obtain rfl : t = 0 := by omega
                rfl
  | u + 1, hu => by
    by_cases e : t = u + 1
    · rw [e]
    · have ih := K.iter_stop mv q h u (by omega)
      show K.next mv (K.iter mv u q) = _
      rw [ih]
      unfold Kind.next
      rw [h]
      rfl
/-- t turns behind the beginning q0 -/
structure Kind.Nx (K : Kind) (T : TypeId) (bx mb : Nat) (sv : Value) (W0 : World) (r0 : Value) (q0 : Q) (n0 : Int) (wr : World) (t : Nat) : Prop where
  st : ∃ n, St T bx mb sv W0 r0 wr (K.iter (.pointer (some ⟨mb, 0, none⟩)) t q0).1 (K.iter (.pointer (some ⟨mb, 0, none⟩)) t q0).2.1 (K.iter (.pointer (some ⟨mb, 0, none⟩)) t q0).2.2 n ∧ n0 ≤ n ∧ n ≤ n0 + t
  shape : K.Shape (K.iter (.pointer (some ⟨mb, 0, none⟩)) t q0).1 (K.iter (.pointer (some ⟨mb, 0, none⟩)) t q0).2.1
  steps : q0.1.steps ≤ (K.iter (.pointer (some ⟨mb, 0, none⟩)) t q0).1.steps ∧ (K.iter (.pointer (some ⟨mb, 0, none⟩)) t q0).1.steps ≤ q0.1.steps + t
  one : (K.iter (.pointer (some ⟨mb, 0, none⟩)) t q0).1.m.oneCell' = true
section
variable {K : Kind} {T : TypeId} {bx mb : Nat} {sv r0 : Value} {W0 wr wr' : World} {q0 : Q} {n0 : Int} {t : Nat}
theorem Kind.Nx.start (h : St T bx mb sv W0 r0 wr q0.1 q0.2.1 q0.2.2 n0) (hs : K.Shape q0.1 q0.2.1) (hm : q0.1.m.oneCell' = true) : K.Nx T bx mb sv W0 r0 q0 n0 wr 0 :=
  ⟨⟨n0, h, by omega, by omega⟩, hs, ⟨by show q0.1.steps ≤ q0.1.steps; omega, by show q0.1.steps ≤ q0.1.steps + ((0 : Nat) : Int); omega⟩, hm⟩
theorem Kind.Nx.keep (h : K.Nx T bx mb sv W0 r0 q0 n0 wr t) (hc : Chg [] wr wr') : K.Nx T bx mb sv W0 r0 q0 n0 wr' t := by
  obtain ⟨n, h1, h2⟩ := h.st
  exact ⟨⟨n, h1.keep hc, h2⟩, h.shape, h.steps, h.one⟩
theorem Kind.Nx.made (h : K.Nx T bx mb sv W0 r0 q0 n0 wr t) (ho : opens (K.iter (.pointer (some ⟨mb, 0, none⟩)) t q0).1 (K.iter (.pointer (some ⟨mb, 0, none⟩)) t q0).2.2.length = true) (hv : (K.iter (.pointer (some ⟨mb, 0, none⟩)) t q0).1.over = false) {n : Int} (hn : n0 ≤ n ∧ n ≤ n0 + t)
    (hst : St T bx mb sv W0 r0 wr' (K.step (K.iter (.pointer (some ⟨mb, 0, none⟩)) t q0).1 (.pointer (some ⟨mb, 0, none⟩)) (K.iter (.pointer (some ⟨mb, 0, none⟩)) t q0).2.1 (K.iter (.pointer (some ⟨mb, 0, none⟩)) t q0).2.2).1
      (K.step (K.iter (.pointer (some ⟨mb, 0, none⟩)) t q0).1 (.pointer (some ⟨mb, 0, none⟩)) (K.iter (.pointer (some ⟨mb, 0, none⟩)) t q0).2.1 (K.iter (.pointer (some ⟨mb, 0, none⟩)) t q0).2.2).2.1
      (K.step (K.iter (.pointer (some ⟨mb, 0, none⟩)) t q0).1 (.pointer (some ⟨mb, 0, none⟩)) (K.iter (.pointer (some ⟨mb, 0, none⟩)) t q0).2.1 (K.iter (.pointer (some ⟨mb, 0, none⟩)) t q0).2.2).2.2 (n + 1)) :
    K.Nx T bx mb sv W0 r0 q0 n0 wr' (t + 1) := by
  have e : K.iter (.pointer (some ⟨mb, 0, none⟩)) (t + 1) q0 = K.step (K.iter (.pointer (some ⟨mb, 0, none⟩)) t q0).1 (.pointer (some ⟨mb, 0, none⟩)) (K.iter (.pointer (some ⟨mb, 0, none⟩)) t q0).2.1 (K.iter (.pointer (some ⟨mb, 0, none⟩)) t q0).2.2 := by
    show K.next _ _ = _
    unfold Kind.next
    rw [if_pos ho]
  obtain ⟨_, hst0, _⟩ := h.st
  obtain ⟨h1, h2, h3, h4, h5, h6⟩ := K.ok (.pointer (some ⟨mb, 0, none⟩)) h.shape hv hst0.memory.range
  have hs := h.steps
  refine ⟨⟨n + 1, by rw [e]; exact hst, by omega, by omega⟩, by rw [e]; exact h1, ?_, by rw [e, h4]; rfl⟩
  rw [e, h3]
  constructor <;> omega
theorem Kind.Nx.idle (h : K.Nx T bx mb sv W0 r0 q0 n0 wr t) (ho : opens (K.iter (.pointer (some ⟨mb, 0, none⟩)) t q0).1 (K.iter (.pointer (some ⟨mb, 0, none⟩)) t q0).2.2.length = false) (hc : Chg [] wr wr') : K.Nx T bx mb sv W0 r0 q0 n0 wr' (t + 1) := by
  have e : K.iter (.pointer (some ⟨mb, 0, none⟩)) (t + 1) q0 = K.iter (.pointer (some ⟨mb, 0, none⟩)) t q0 := K.iter_stop _ _ ho (t + 1) (by omega)
  obtain ⟨n, h1, h2, h3⟩ := (h.keep hc).st
  have hs := h.steps
  exact ⟨⟨n, by rw [e]; exact h1, h2, by omega⟩, by rw [e]; exact h.shape, by rw [e]; omega, by rw [e]; exact h.one⟩
end
end Go.Proofs.Ytjplamoofkcojaa.core
