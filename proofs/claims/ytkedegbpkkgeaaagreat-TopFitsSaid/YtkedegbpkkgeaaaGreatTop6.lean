import Derived.Test.YtkedegbpkkgeaaaGreatMemo
import Derived.Test.YtkedegbpkkgeaaaGreatTop5
import Derived.Test.YtkedegbpkkgeaaaGreatPlans
import Derived.Deep.MidRow
/- Parts joined: Core1, Core2, Core3, Core4, Core5, Kind, Next. -/
/- Package micro: an operation's words in memory, beside the memory; go, each, end, made. -/
namespace Go.Proofs.YtkedegbpkkgeaaaGreat.core
open Go Go.RowKit Go.Proofs.YtkedegbpkkgeaaaGreat.kit Go.Proofs.YtkedegbpkkgeaaaGreat.mem
set_option linter.unusedVariables false
set_option linter.unusedSimpArgs false
set_option maxRecDepth 20000

/-- an operation as the program has it, without its record -/
structure Core where
  k : Int
  w : Int
  s : Int
  c : Int
  st : Int
  ia : Option Addr
  il : Nat
  ic : Nat
  wr : Int
  ra : Option Addr
  rl : Nat
  rc : Nat
  op : Int
  reader : Int
  phase : Int
  i : Int
  tries : Int
  a : Int
  b : Int
  used : Int
  m : Value
  base : Int
  size : Int
  code : Int
  steps : Int
  over : Bool
def Core.cells (x : Core) (v : Value) : Array Value := #[.int .i64 x.k, .int .i64 x.w, .int .i64 x.s, .int .i64 x.c, .int .u32 x.st, .slice x.ia x.il x.ic, .int .i64 x.wr, .slice x.ra x.rl x.rc, .int .i64 x.op, .int .i64 x.reader, .int .i64 x.phase, .int .i64 x.i, .int .i64 x.tries, .int .u32 x.a, .int .u32 x.b, .int .u64 x.used, v, x.m, .int .i64 x.base, .int .i64 x.size, .int .i64 x.code, .int .i64 x.steps, .bool x.over]

/-- what was changed since W0, when the record lay in r0 -/
structure Ev (bx mb : Nat) (sv : Value) (W0 : World) (r0 : Value) (W : World) (v : Value) : Prop where
  chg : Chg (bx :: mb :: (sv.ownBlock.toList ++ r0.ownBlock.toList)) W0 W
  own : ∀ y, v.ownBlock = some y → r0.ownBlock = some y ∨ W0.heap.size ≤ y
theorem Ev.refl (bx mb : Nat) (sv : Value) (W0 : World) (r0 : Value) : Ev bx mb sv W0 r0 W0 r0 := ⟨Chg.refl _ _, fun y h => .inl h⟩
theorem Ev.trans {bx mb : Nat} {sv r0 r1 r2 : Value} {W0 W1 W2 : World} (h : Ev bx mb sv W0 r0 W1 r1) (k : Ev bx mb sv W1 r1 W2 r2) : Ev bx mb sv W0 r0 W2 r2 := by
  refine ⟨h.chg.into k.chg fun z hz => ?_, fun y hy => ?_⟩
  · simp only [List.mem_cons, List.mem_append, Option.mem_toList, Option.mem_def] at hz ⊢
    rcases hz with hz | hz | hz | hz
    · exact .inl (.inl hz)
    · exact .inl (.inr (.inl hz))
    · exact .inl (.inr (.inr (.inl hz)))
    · rcases h.own z hz with h1 | h1
      · exact .inl (.inr (.inr (.inr h1)))
      · exact .inr h1
  · rcases k.own y hy with h1 | h1
    · exact h.own y h1
    · exact .inr (Nat.le_trans h.chg.size h1)
section
variable {T : TypeId} {bx mb : Nat} {sv r0 v : Value} {W0 W W' : World} {x x' : Core} {rec ws : List Int} {n : Int}
end

def wkind (op : Int) : Bool := decide (op = 2 ∨ op = 3)
def endRec (op cd : Int) (rec : List Int) : List Int := if cd ≠ 0 ∨ op = 2 ∨ op = 3 then [] else rec
end Go.Proofs.YtkedegbpkkgeaaaGreat.core

/- Package micro: a word is read, or written; a step is opened; an attempt fails. -/
namespace Go.Proofs.YtkedegbpkkgeaaaGreat.core
open Go Go.RowKit Go.Proofs.YtkedegbpkkgeaaaGreat.kit Go.Proofs.YtkedegbpkkgeaaaGreat.mem
set_option linter.unusedVariables false
set_option linter.unusedSimpArgs false
set_option maxRecDepth 20000

end Go.Proofs.YtkedegbpkkgeaaaGreat.core

/- Package micro: a step is opened; an attempt fails; a word of a record goes over; what is told. -/
namespace Go.Proofs.YtkedegbpkkgeaaaGreat.core
open Go Go.RowKit Go.Proofs.YtkedegbpkkgeaaaGreat.kit Go.Proofs.YtkedegbpkkgeaaaGreat.mem Go.Proofs.YtkedegbpkkgeaaaGreat.rop
set_option linter.unusedVariables false
set_option linter.unusedSimpArgs false
set_option maxRecDepth 20000

/-- may a step be made? -/
def opens (x : Core) (l : Nat) : Bool := !x.over && insB (l : Int) x.base x.size
end Go.Proofs.YtkedegbpkkgeaaaGreat.core

/- Package micro: an attempt fails; a word of a record goes over; what is told. -/
namespace Go.Proofs.YtkedegbpkkgeaaaGreat.core
open Go Go.RowKit Go.Proofs.YtkedegbpkkgeaaaGreat.kit Go.Proofs.YtkedegbpkkgeaaaGreat.mem Go.Proofs.YtkedegbpkkgeaaaGreat.rop
set_option linter.unusedVariables false
set_option linter.unusedSimpArgs false
set_option maxRecDepth 20000

end Go.Proofs.YtkedegbpkkgeaaaGreat.core

/- Package micro: a word of a record is read; what is told. -/
namespace Go.Proofs.YtkedegbpkkgeaaaGreat.core
open Go Go.RowKit Go.Proofs.YtkedegbpkkgeaaaGreat.kit Go.Proofs.YtkedegbpkkgeaaaGreat.mem Go.Proofs.YtkedegbpkkgeaaaGreat.rop
set_option linter.unusedVariables false
set_option linter.unusedSimpArgs false
set_option maxRecDepth 20000

section
variable {T : TypeId} {bx mb : Nat} {sv r0 v v' : Value} {W0 W W' : World} {x x' : Core} {rec ws : List Int} {n : Int}
end

end Go.Proofs.YtkedegbpkkgeaaaGreat.core

/- What all kinds of operations have in common: steps, one behind the other. -/
namespace Go.Proofs.YtkedegbpkkgeaaaGreat.core
open Go Go.RowKit Go.Proofs.YtkedegbpkkgeaaaGreat.kit Go.Proofs.YtkedegbpkkgeaaaGreat.mem
set_option linter.unusedVariables false
set_option linter.unusedSimpArgs false
set_option maxRecDepth 20000

abbrev Q := Core × List Int × List Int
/-- a kind: what a step does, what an operation keeps, how many steps are left at most -/
structure Kind where
  step : Core → Value → List Int → List Int → Q
  Shape : Core → List Int → Prop
  left : Core → Int
  ok : ∀ {x : Core} {rec ws : List Int} (mv : Value), Shape x rec → x.over = false → (∀ z ∈ ws, 0 ≤ z ∧ z ≤ 4294967295) →
    Shape (step x mv rec ws).1 (step x mv rec ws).2.1 ∧ left (step x mv rec ws).1 + 1 ≤ left x ∧ (step x mv rec ws).1.steps = x.steps + 1 ∧ (step x mv rec ws).1.m = mv ∧
    (step x mv rec ws).1.base = x.base ∧ (step x mv rec ws).1.size = x.size
  len : ∀ (x : Core) (mv : Value) (rec ws : List Int), (step x mv rec ws).2.2.length = ws.length
  pos : ∀ {x : Core} {rec : List Int}, Shape x rec → x.over = false → 1 ≤ left x
  zero : ∀ {x : Core}, x.over = true → left x = 0
def Kind.run (K : Kind) (mv : Value) : Nat → Q → Q
  | 0, q => q
  | k + 1, q => K.step (K.run mv k q).1 mv (K.run mv k q).2.1 (K.run mv k q).2.2
section
variable {K : Kind} {T : TypeId} {bx mb : Nat} {sv r0 : Value} {W0 wr wr' : World} {q0 : Q} {n0 : Int} {k : Nat}
end
/-- how many steps an operation at bx made -/
def stepsOf (wr : World) (bx : Nat) : Nat := match wr.cell? ⟨bx, 21, none⟩ with
  | some (.int _ n) => n.toNat
  | _ => 0
end Go.Proofs.YtkedegbpkkgeaaaGreat.core

/- Steps as long as they may be made; the same beside another memory. -/
namespace Go.Proofs.YtkedegbpkkgeaaaGreat.core
open Go Go.RowKit Go.Proofs.YtkedegbpkkgeaaaGreat.kit Go.Proofs.YtkedegbpkkgeaaaGreat.mem
set_option linter.unusedVariables false
set_option linter.unusedSimpArgs false
set_option maxRecDepth 20000

/-- a turn: a step, if one may be made -/
def Kind.next (K : Kind) (mv : Value) (q : Q) : Q := if opens q.1 q.2.2.length = true then K.step q.1 mv q.2.1 q.2.2 else q
def Kind.iter (K : Kind) (mv : Value) : Nat → Q → Q
  | 0, q => q
  | t + 1, q => K.next mv (K.iter mv t q)
/-- what a step does hangs not on where the memory lies -/
structure Kind.Free (K : Kind) : Prop where
  free : ∀ (x : Core) (a mv : Value) (rec ws : List Int), K.step { x with m := a } mv rec ws = K.step x mv rec ws
  relabel : ∀ (x : Core) (mv mv' : Value) (rec ws : List Int), K.step x mv' rec ws = ({ (K.step x mv rec ws).1 with m := mv' }, (K.step x mv rec ws).2.1, (K.step x mv rec ws).2.2)
/-- the same, but for where the memory lies -/
def Same (q q' : Q) : Prop := ∃ a, q' = ({ q.1 with m := a }, q.2.1, q.2.2)
theorem Same.next {K : Kind} (hK : K.Free) {q q' : Q} (h : Same q q') (mv mv' : Value) : Same (K.next mv q) (K.next mv' q') := by
  obtain ⟨a, rfl⟩ := h
  unfold Kind.next
  have e : opens ({ q.1 with m := a } : Core) q.2.2.length = opens q.1 q.2.2.length := rfl
  simp only [e]
  split
  · refine ⟨mv', ?_⟩
    rw [hK.free, hK.relabel q.1 mv mv']
  · exact ⟨a, rfl⟩
theorem Same.iter {K : Kind} (hK : K.Free) {q q' : Q} (h : Same q q') (mv mv' : Value) : ∀ t, Same (K.iter mv t q) (K.iter mv' t q')
  | 0 => h
  | t + 1 => (Same.iter hK h mv mv' t).next hK mv mv'
section
variable {K : Kind} {T : TypeId} {bx mb : Nat} {sv r0 : Value} {W0 wr wr' : World} {q0 : Q} {n0 : Int} {t : Nat}
end
end Go.Proofs.YtkedegbpkkgeaaaGreat.core
/- The object that an operation is on, as one value out of the operation's block. -/
namespace Go.Proofs.YtkedegbpkkgeaaaGreat.kit
open Go Go.RowKit
section
variable {P : Program} {ops : Array Oper} {Q : Exit → Act → World → Prop} {S : World → Prop}
theorem exec_load {o : Oper} {a : Act} {ty : TypeId} {x : Operand} {p v : Value} {w : World} (ho : o.op = .load ty x) (hx : a.eval x = p) (h : (Instr.loadAt ty p).run P w = .ok v w) : (execOp a.eval o).run P w = .ok (.value v) w := by
  unfold execOp
  simp only [ho, hx, Sem.run_bind, Sem.run_pure, h, Result.andThen_ok]
theorem planWp_load {i : Nat} {d : Option Nat} {r : List (Nat × Bool × Option Nat)} {a : Act} {w : World} {o : Oper} {v : Value} (hi : ops[i]? = some o) (hd : o.dst = d) (hw : Region.wanted o (yielded ops a.tmps) = true)
    (ty : TypeId) (x : Operand) (ho : o.op = .load ty x) (p : Value) (hx : a.eval x = p) (hS : ∀ w, S w → (Instr.loadAt ty p).run P w = .ok v w) (h : planWp P ops Q S r (a.put d v) w) : planWp P ops Q S ((i, true, d) :: r) a w :=
  planWp_read hi hd hw (fun w hs => exec_load ho hx (hS w hs)) h
end
end Go.Proofs.YtkedegbpkkgeaaaGreat.kit
namespace Go.Proofs.YtkedegbpkkgeaaaGreat.core
open Go Go.RowKit Go.Proofs.YtkedegbpkkgeaaaGreat.kit Go.Proofs.YtkedegbpkkgeaaaGreat.mem Go.Proofs.YtkedegbpkkgeaaaGreat.rop
set_option linter.unusedVariables false
set_option linter.unusedSimpArgs false
set_option maxRecDepth 20000

theorem objSize : (Tryz.prog.info? 46).map (·.size) = some 8 := by kernel_rfl
end Go.Proofs.YtkedegbpkkgeaaaGreat.core
