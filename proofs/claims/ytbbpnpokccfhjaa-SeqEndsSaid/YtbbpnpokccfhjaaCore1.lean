/- Package micro: an operation's words in memory, beside the memory; go, each, end, made. -/
import Derived.Test.YtbbpnpokccfhjaaMem5
import Derived.Test.YtbbpnpokccfhjaaRop4
namespace Go.Proofs.Ytbbpnpokccfhjaa.core
open Go Go.RowKit Go.Proofs.Ytbbpnpokccfhjaa.kit Go.Proofs.Ytbbpnpokccfhjaa.mem
set_option linter.unusedVariables false
set_option maxRecDepth 20000

/-- an operation as the program has it, without its record -/
structure Core where
  k : Int
  w : Int
  s : Int
  c : Int
  st : Int
  ia : Option Addr
  il : Nat
  ic : Nat
  wr : Int
  ra : Option Addr
  rl : Nat
  rc : Nat
  op : Int
  reader : Int
  phase : Int
  i : Int
  tries : Int
  a : Int
  b : Int
  used : Int
  m : Value
  base : Int
  size : Int
  code : Int
  steps : Int
  over : Bool
def Core.cells (x : Core) (v : Value) : Array Value := #[.int .i64 x.k, .int .i64 x.w, .int .i64 x.s, .int .i64 x.c, .int .u32 x.st, .slice x.ia x.il x.ic, .int .i64 x.wr, .slice x.ra x.rl x.rc, .int .i64 x.op, .int .i64 x.reader, .int .i64 x.phase, .int .i64 x.i, .int .i64 x.tries, .int .u32 x.a, .int .u32 x.b, .int .u64 x.used, v, x.m, .int .i64 x.base, .int .i64 x.size, .int .i64 x.code, .int .i64 x.steps, .bool x.over]

/-- an operation at bx, its record in v, beside a memory at mb -/
structure Pair (T : TypeId) (bx mb : Nat) (sv : Value) (W : World) (x : Core) (v : Value) (rec ws : List Int) (n : Int) : Prop where
  box : Blk W bx (x.cells v) T
  row : OwnW W 0 v rec
  wf : ∀ z ∈ rec, (Lit.int .u32 z).wf = true
  short : rec.length ≤ 1000
  mem : MemAt W mb sv ws n
  ne : bx ≠ mb
  ns : ∀ y, sv.ownBlock = some y → y ≠ bx
  nv : ∀ y, v.ownBlock = some y → y ≠ bx ∧ y ≠ mb ∧ sv.ownBlock ≠ some y
/-- what was changed since W0, when the record lay in r0 -/
structure Ev (bx mb : Nat) (sv : Value) (W0 : World) (r0 : Value) (W : World) (v : Value) : Prop where
  chg : Chg (bx :: mb :: (sv.ownBlock.toList ++ r0.ownBlock.toList)) W0 W
  own : ∀ y, v.ownBlock = some y → r0.ownBlock = some y ∨ W0.heap.size ≤ y
theorem Ev.refl (bx mb : Nat) (sv : Value) (W0 : World) (r0 : Value) : Ev bx mb sv W0 r0 W0 r0 := ⟨Chg.refl _ _, fun y h => .inl h⟩
theorem Ev.trans {bx mb : Nat} {sv r0 r1 r2 : Value} {W0 W1 W2 : World} (h : Ev bx mb sv W0 r0 W1 r1) (k : Ev bx mb sv W1 r1 W2 r2) : Ev bx mb sv W0 r0 W2 r2 := by
  refine ⟨h.chg.into k.chg fun z hz => ?_, fun y hy => ?_⟩
  · simp only [List.mem_cons, List.mem_append, Option.mem_toList, Option.mem_def] at hz ⊢
    rcases hz with hz | hz | hz | hz
    · exact .inl (.inl hz)
    · exact .inl (.inr (.inl hz))
    · exact .inl (.inr (.inr (.inl hz)))
    · rcases h.own z hz with h1 | h1
      · exact .inl (.inr (.inr (.inr h1)))
      · exact .inr h1
  · rcases k.own y hy with h1 | h1
    · exact h.own y h1
    · exact .inr (Nat.le_trans h.chg.size h1)
/-- the pair, wherever the record lies now, and what was changed since W0 -/
def St (T : TypeId) (bx mb : Nat) (sv : Value) (W0 : World) (r0 : Value) (W : World) (x : Core) (rec ws : List Int) (n : Int) : Prop :=
  ∃ v, Pair T bx mb sv W x v rec ws n ∧ Ev bx mb sv W0 r0 W v

section
variable {T : TypeId} {bx mb : Nat} {sv r0 v : Value} {W0 W W' : World} {x x' : Core} {rec ws : List Int} {n : Int}
theorem Pair.keep (h : Pair T bx mb sv W x v rec ws n) (k : Chg [] W W') : Pair T bx mb sv W' x v rec ws n :=
  ⟨h.box.keep k (by simp), mem.own_chg h.row k (by simp), h.wf, h.short, h.mem.fresh k, h.ne, h.ns, h.nv⟩
theorem Pair.put (h : Pair T bx mb sv W x v rec ws n) (o : Nat) (u : Value) (hx : (x.cells v).setIfInBounds o u = x'.cells v) : Pair T bx mb sv (W.setCell ⟨bx, o, none⟩ u) x' v rec ws n :=
  ⟨by rw [← hx]; exact h.box.set o u, mem.own_chg h.row ((Chg.refl [bx] W).setCell (.inl (by simp)) _) (fun y hy => by simp; exact (h.nv y hy).1), h.wf, h.short,
   h.mem.keep ((Chg.refl [bx] W).setCell (p := ⟨bx, o, none⟩) (.inl (by simp)) u) (by simp; exact h.ne.symm) (fun y hy => by simp; exact h.ns y hy), h.ne, h.ns, h.nv⟩
theorem St.keep (h : St T bx mb sv W0 r0 W x rec ws n) (k : Chg [] W W') : St T bx mb sv W0 r0 W' x rec ws n := by
  obtain ⟨v, hp, he⟩ := h
  exact ⟨v, hp.keep k, he.chg.fresh k, he.own⟩
theorem St.put (h : St T bx mb sv W0 r0 W x rec ws n) (o : Nat) (u : Value) (x' : Core) (hx : ∀ v, (x.cells v).setIfInBounds o u = x'.cells v) : St T bx mb sv W0 r0 (W.setCell ⟨bx, o, none⟩ u) x' rec ws n := by
  obtain ⟨v, hp, he⟩ := h
  exact ⟨v, hp.put o u (hx v), he.chg.setCell (.inl (by simp)) _, he.own⟩
theorem St.nil (h : St T bx mb sv W0 r0 W x rec ws n) : St T bx mb sv W0 r0 (W.setCell ⟨bx, 16, none⟩ (.slice none 0 0)) x [] ws n := by
  obtain ⟨v, hp, he⟩ := h
  refine ⟨.slice none 0 0, ⟨hp.box.set 16 _, ⟨by simp, .inl ⟨rfl, rfl⟩⟩, by simp, by simp, ?_, hp.ne, hp.ns, fun y hy => by cases hy⟩, he.chg.setCell (.inl (by simp)) _, fun y hy => by cases hy⟩
  exact hp.mem.keep ((Chg.refl [bx] W).setCell (p := ⟨bx, 16, none⟩) (.inl (by simp)) _) (by simp; exact hp.ne.symm) (fun y hy => by simp; exact hp.ns y hy)
theorem St.cell (h : St T bx mb sv W0 r0 W x rec ws n) (o : Nat) (u : Value) (hx : ∀ v, (x.cells v)[o]? = some u) : W.cell? ⟨bx, o, none⟩ = some u := by
  obtain ⟨v, hp, he⟩ := h
  exact hp.box.cell (hx v)
theorem St.free (h : St T bx mb sv W0 r0 W x rec ws n) (o : Nat) : W.frozen? ⟨bx, o, none⟩ = false := by
  obtain ⟨v, hp, he⟩ := h
  exact hp.box.free o
theorem St.rowc (h : St T bx mb sv W0 r0 W x rec ws n) : ∃ a c, W.cell? ⟨bx, 16, none⟩ = some (.slice a rec.length c) := by
  obtain ⟨v, hp, he⟩ := h
  obtain ⟨a, c, rfl, _⟩ := reads_slice (Reads.of_own hp.row (by decide))
  exact ⟨a, c, hp.box.cell rfl⟩
theorem St.start (h : Pair T bx mb sv W x v rec ws n) : St T bx mb sv W v W x rec ws n := ⟨v, h, Ev.refl _ _ _ _ _⟩
theorem St.memory (h : St T bx mb sv W0 r0 W x rec ws n) : MemAt W mb sv ws n := by
  obtain ⟨v, hp, he⟩ := h; exact hp.mem
theorem St.byMem (h : St T bx mb sv W0 r0 W x rec ws n) {ws' : List Int} {n' : Int} (k : Chg (mb :: sv.ownBlock.toList) W W') (hm : MemAt W' mb sv ws' n') : St T bx mb sv W0 r0 W' x rec ws' n' := by
  obtain ⟨v, hp, he⟩ := h
  have hb : bx ∉ (mb :: sv.ownBlock.toList) := by simp; exact ⟨hp.ne, fun hh => hp.ns bx hh rfl⟩
  refine ⟨v, ⟨hp.box.keep k hb, mem.own_chg hp.row k (fun y hy => by simp; exact ⟨(hp.nv y hy).2.1, (hp.nv y hy).2.2⟩), hp.wf, hp.short, hm, hp.ne, hp.ns, hp.nv⟩, ?_, he.own⟩
  exact he.chg.trans (k.mono (by intro z hz; simp at hz ⊢; rcases hz with hz | hz <;> simp [hz]))
end

theorem Go_any {T : TypeId} {bx mb : Nat} {sv r0 : Value} {W0 W : World} {x : Core} {rec ws : List Int} {n : Int} (r : Int) (h : St T bx mb sv W0 r0 W x rec ws n) :
    Calls Try.prog 87 #[.pointer (some ⟨bx, 0, none⟩), .int .i64 r] W fun e W' => e = .returned (.tuple #[]) ∧ St T bx mb sv W0 r0 W' { x with phase := r, i := 0 } rec ws n := by
  have H := Lib.hid h
  have e10 : W.cell? ⟨bx, 10, none⟩ = some (.int .i64 x.phase) := H.out.cell 10 _ (fun _ => rfl)
  have e11 : W.cell? ⟨bx, 11, none⟩ = some (.int .i64 x.i) := H.out.cell 11 _ (fun _ => rfl)
  have f10 := H.out.free 10
  have f11 := H.out.free 11
  clear h
  go_enter Try.func87, Try.ntmps87
  go_wp2
  go_end0
  exact ⟨rfl, (H.out.put 10 (.int .i64 r) { x with phase := r } (fun _ => rfl)).put 11 (.int .i64 0) { x with phase := r, i := 0 } (fun _ => rfl)⟩
theorem Each_any {T : TypeId} {bx mb : Nat} {sv r0 : Value} {W0 W : World} {x : Core} {rec ws : List Int} {n : Int} (r : Int) (hi : 0 ≤ x.i ∧ x.i ≤ 1000000) (h : St T bx mb sv W0 r0 W x rec ws n) :
    Calls Try.prog 104 #[.pointer (some ⟨bx, 0, none⟩), .int .i64 r] W fun e W' => e = .returned (.bool (decide (r ≤ x.i + 1))) ∧ St T bx mb sv W0 r0 W' { x with i := x.i + 1 } rec ws n := by
  have H := Lib.hid h
  have e11 : W.cell? ⟨bx, 11, none⟩ = some (.int .i64 x.i) := H.out.cell 11 _ (fun _ => rfl)
  have f11 := H.out.free 11
  clear h
  go_enter Try.func104, Try.ntmps104
  go_wp2
  go_ret
  exact ⟨rfl, H.out.put 11 (.int .i64 (x.i + 1)) { x with i := x.i + 1 } (fun _ => rfl)⟩
theorem Ended_any {T : TypeId} {bx mb : Nat} {sv r0 : Value} {W0 W : World} {x : Core} {rec ws : List Int} {n : Int} (h : St T bx mb sv W0 r0 W x rec ws n) :
    Calls Try.prog 62 #[.pointer (some ⟨bx, 0, none⟩)] W fun e W' => e = .returned (.bool x.over) ∧ W = W' := by
  have e22 : W.cell? ⟨bx, 22, none⟩ = some (.bool x.over) := h.cell 22 _ (fun _ => rfl)
  clear h
  go_enter Try.func62, Try.ntmps62
  go_wp2
  go_ret
  exact ⟨rfl, rfl⟩
theorem Made_any {T : TypeId} {bx mb : Nat} {sv r0 : Value} {W0 W : World} {x : Core} {rec ws : List Int} {n : Int} (h : St T bx mb sv W0 r0 W x rec ws n) :
    Calls Try.prog 64 #[.pointer (some ⟨bx, 0, none⟩)] W fun e W' => e = .returned (.int .i64 x.steps) ∧ W = W' := by
  have e21 : W.cell? ⟨bx, 21, none⟩ = some (.int .i64 x.steps) := h.cell 21 _ (fun _ => rfl)
  clear h
  go_enter Try.func64, Try.ntmps64
  go_wp2
  go_ret
  exact ⟨rfl, rfl⟩
def wkind (op : Int) : Bool := decide (op = 2 ∨ op = 3)
def endRec (op cd : Int) (rec : List Int) : List Int := if cd ≠ 0 ∨ op = 2 ∨ op = 3 then [] else rec
set_option maxHeartbeats 1000000 in
theorem End_any {T : TypeId} {bx mb : Nat} {sv r0 : Value} {W0 W : World} {x : Core} {rec ws : List Int} {n : Int} (cd : Int) (h : St T bx mb sv W0 r0 W x rec ws n) :
    Calls Try.prog 91 #[.pointer (some ⟨bx, 0, none⟩), .int .i64 cd] W fun e W' => e = .returned (.tuple #[]) ∧ St T bx mb sv W0 r0 W' { x with over := true, code := cd } (endRec x.op cd rec) ws n := by
  have H := Lib.hid h
  have e22 : W.cell? ⟨bx, 22, none⟩ = some (.bool x.over) := H.out.cell 22 _ (fun _ => rfl)
  have e20 : W.cell? ⟨bx, 20, none⟩ = some (.int .i64 x.code) := H.out.cell 20 _ (fun _ => rfl)
  have e8 : W.cell? ⟨bx, 8, none⟩ = some (.int .i64 x.op) := H.out.cell 8 _ (fun _ => rfl)
  obtain ⟨ra, rcap, e16⟩ := H.out.rowc
  have f22 := H.out.free 22
  have f20 := H.out.free 20
  have f16 := H.out.free 16
  have HN : Hid (St T bx mb sv W0 r0 ((W.setCell ⟨bx, 22, none⟩ (.bool true)).setCell ⟨bx, 20, none⟩ (.int .i64 cd)) { x with over := true, code := cd } rec ws n) := Lib.hid ((H.out.put 22 (.bool true) { x with over := true } (fun _ => rfl)).put 20 (.int .i64 cd) { x with over := true, code := cd } (fun _ => rfl))
  obtain ⟨rr, hrr⟩ : ∃ rr, endRec x.op cd rec = rr := ⟨_, rfl⟩
  rw [hrr]
  have HRR := Lib.hid hrr
  clear hrr
  clear h H
  by_cases hc : cd = 0
  · subst hc
    by_cases h2 : x.op = 2
    · rw [h2] at e8
      have HRR2 : Hid (rr = []) := Lib.hid (by rw [← HRR.out]; simp [endRec, h2])
      clear h2
      go_enter Try.func91, Try.ntmps91
      go_wp2
      go_end0
      exact ⟨rfl, by rw [HRR2.out]; exact HN.out.nil⟩
    · by_cases h3 : x.op = 3
      · rw [h3] at e8
        have HRR2 : Hid (rr = []) := Lib.hid (by rw [← HRR.out]; simp [endRec, h3])
        clear h2 h3
        go_enter Try.func91, Try.ntmps91
        go_wp2
        go_end0
        exact ⟨rfl, by rw [HRR2.out]; exact HN.out.nil⟩
      · have HRR2 : Hid (rr = rec) := Lib.hid (by rw [← HRR.out]; simp [endRec, h2, h3])
        have b2 : (x.op == 2) = false := by simpa using h2
        have b3 : (x.op == 3) = false := by simpa using h3
        clear h2 h3
        go_enter Try.func91, Try.ntmps91
        go_wp2
        go_end0
        exact ⟨rfl, by rw [HRR2.out]; exact HN.out⟩
  · have HRR2 : Hid (rr = []) := Lib.hid (by rw [← HRR.out]; simp [endRec, hc])
    have b2 : (cd != 0) = true := by simp [hc]
    have b3 : (cd == 0) = false := by simp [hc]
    clear hc
    go_enter Try.func91, Try.ntmps91
    go_wp2
    go_end0
    exact ⟨rfl, by rw [HRR2.out]; exact HN.out.nil⟩
end Go.Proofs.Ytbbpnpokccfhjaa.core
