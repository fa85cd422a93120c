/- Parts joined: Sim, Duo, Trio, Ties. -/
import Derived.Test.YtjplamoofkcojaaRefA
import Derived.Test.YtjplamoofkcojaaRopL
import Derived.Test.YtjplamoofkcojaaCore
import Derived.Test.YtjplamoofkcojaaRop8
import Derived.Test.YtjplamoofkcojaaCaseA
import Derived.Test.YtjplamoofkcojaaRBeg
/- The reference's operation at a core of the program; a step of it, as the program's. -/
namespace Go.Proofs.Ytjplamoofkcojaa.ref
open Go Go.RowKit Go.Proofs.Ytjplamoofkcojaa.kit Go.Proofs.Ytjplamoofkcojaa.obj Go.Proofs.Ytjplamoofkcojaa.rop Go.Proofs.Ytjplamoofkcojaa.mem Go.Proofs.Ytjplamoofkcojaa.core
set_option linter.unusedVariables false
set_option linter.unusedSimpArgs false
set_option maxRecDepth 20000

/-- the reference's operation that stands where a core does -/
def ropOf (x : Core) (a : Int) (u : Nat → Bool) (v : Value) : ROp :=
  { k := x.k, w := x.w, s := x.s, c := x.c, st := x.st, ia := x.ia, il := x.il, ic := x.ic, wr := x.wr, ra := x.ra, rl := x.rl, rc := x.rc, at_ := x.base, op := x.op, reader := x.reader, row := x.phase, i := x.i, tries := x.tries, code := x.code, steps := x.steps, a := a, b := x.b, u := u, rcd := v, over := x.over }

/-- an operation of the reference, its record, and a list beside it -/
structure Ref (bx g tn : Nat) (W : World) (z : ROp) (rec ls : List Int) : Prop where
  box : RAt W bx z
  own : mem.OwnW W 0 z.rcd rec
  lst : LT tn W g ls
  ne : bx ≠ g
  nv : ∀ y, z.rcd.ownBlock = some y → y ≠ bx ∧ y ≠ g
theorem Ref.keep {bx g tn : Nat} {W W' : World} {z : ROp} {rec ls : List Int} (h : Ref bx g tn W z rec ls) (k : Chg [] W W') : Ref bx g tn W' z rec ls :=
  ⟨Blk.keep h.box k (by simp), mem.own_chg h.own k (by simp), h.lst.keep k (by simp), h.ne, h.nv⟩

/-- what a step of the reference leaves -/
def After (Rel : Core → ROp → Prop) (bx g tn : Nat) (W : World) (v : Value) (q : Q) (W' : World) : Prop :=
  ∃ z', Rel q.1 z' ∧ Ref bx g tn W' z' q.2.1 q.2.2 ∧ Chg (bx :: g :: v.ownBlock.toList) W W' ∧ ∀ y, z'.rcd.ownBlock = some y → v.ownBlock = some y ∨ W.heap.size ≤ y
section
variable {Rel : Core → ROp → Prop} {bx g tn : Nat} {W W1 W' : World} {z z' : ROp} {rec ls ls' : List Int} {x' : Core}
/-- the record stays -/
theorem After.same (h : Ref bx g tn W z rec ls) (hc1 : Chg [bx] W W1) (hc : Chg [bx, g] W1 W') (hr : RAt W' bx z') (hz : z'.rcd = z.rcd) (hl : LT tn W' g ls') (hrel : Rel x' z') : After Rel bx g tn W z.rcd (x', rec, ls') W' := by
  have hcc : Chg [bx, g] W W' := (hc1.mono (by simp)).trans hc
  refine ⟨z', hrel, ⟨hr, ?_, hl, h.ne, by rw [hz]; exact h.nv⟩, hcc.mono (by simp), fun y hy => .inl (by rw [← hz]; exact hy)⟩
  rw [hz]
  exact mem.own_chg h.own hcc (fun y hy => by have := h.nv y hy; simp; exact this)
/-- the record is gone -/
theorem After.none (h : Ref bx g tn W z rec ls) (hc1 : Chg [bx] W W1) (hc : Chg [bx, g] W1 W') (hr : RAt W' bx z') (hz : z'.rcd = .slice none 0 0) (hl : LT tn W' g ls') (hrel : Rel x' z') : After Rel bx g tn W z.rcd (x', [], ls') W' := by
  have hcc : Chg [bx, g] W W' := (hc1.mono (by simp)).trans hc
  have hn : ∀ y, z'.rcd.ownBlock = some y → False := by rw [hz]; intro y hy; cases hy
  refine ⟨z', hrel, ⟨hr, ?_, hl, h.ne, fun y hy => (hn y hy).elim⟩, hcc.mono (by simp), fun y hy => (hn y hy).elim⟩
  rw [hz]
  exact ⟨rfl, .inl ⟨rfl, rfl⟩⟩
/-- one more word is read -/
theorem After.more {rec' : List Int} (h : Ref bx g tn W z rec ls) (hc1 : Chg [bx] W W1) (hc : Chg (bx :: z.rcd.ownBlock.toList) W1 W') (hr : RAt W' bx z') (ho : mem.OwnW W' 0 z'.rcd rec') (hv : ∀ y, z'.rcd.ownBlock = some y → z.rcd.ownBlock = some y ∨ W1.heap.size ≤ y) (hl : LT tn W' g ls) (hrel : Rel x' z') : After Rel bx g tn W z.rcd (x', rec', ls) W' := by
  have hs := hc1.size
  refine ⟨z', hrel, ⟨hr, ho, hl, h.ne, fun y hy => ?_⟩, (hc1.mono (by simp)).trans (hc.mono (by intro b hb; simp at hb ⊢; rcases hb with hb | hb <;> simp [hb])), fun y hy => (hv y hy).imp id (fun hh => Nat.le_trans hs hh)⟩
  rcases hv y hy with h1 | h1
  · exact h.nv y h1
  · have hb := h.box.lt
    have hg := h.lst.lt
    exact ⟨by omega, by omega⟩
end
theorem slot_le {wN iN s n : Nat} (hs : s < n) (hi : iN < wN) : s * wN + iN < n * wN := by
  have h1 : (s + 1) * wN ≤ n * wN := Nat.mul_le_mul_right _ hs
  rw [Nat.add_mul, Nat.one_mul] at h1
  omega
theorem own_slice {W : World} {v : Value} {rec : List Int} (h : mem.OwnW W 0 v rec) : ∃ rp rcap, v = .slice rp rec.length rcap := by
  obtain ⟨h1, h2⟩ := h
  rcases h2 with ⟨h0, h3⟩ | ⟨rg, rcap, cur, he, _⟩
  · exact ⟨_, _, by rw [h3]; exact h0⟩
  · exact ⟨_, _, he⟩
theorem own_some {W : World} {v : Value} {rec : List Int} (h : mem.OwnW W 0 v rec) (hp : 0 < rec.length) : ∃ rg rcap, v = .slice (some ⟨rg, 0, none⟩) rec.length rcap ∧ ∀ i, i < rec.length → W.cell? ⟨rg, i, none⟩ = some (.int .u32 (rec.getD i 0)) := by
  obtain ⟨_, h2⟩ := h
  rcases h2 with ⟨_, h0⟩ | ⟨rg, rcap, cur, he, hb, hg, hn, hc, hs, ht⟩
  · omega
  · refine ⟨rg, rcap, he, fun i hi => ?_⟩
    rw [Nat.mul_one] at ht
    refine Blk.cell hg ?_
    have h1 : (cur.toList.take rec.length)[i]? = some (.int .u32 (rec.getD i 0)) := by rw [ht]; simp [List.getD, hi]
    rw [List.getElem?_take_of_lt hi] at h1
    simpa using h1
end Go.Proofs.Ytjplamoofkcojaa.ref

/- An operation, its memory, and a list of words beside them. -/
namespace Go.Proofs.Ytjplamoofkcojaa.core
open Go Go.RowKit Go.Proofs.Ytjplamoofkcojaa.kit Go.Proofs.Ytjplamoofkcojaa.mem Go.Proofs.Ytjplamoofkcojaa.obj
set_option linter.unusedVariables false
set_option linter.unusedSimpArgs false
set_option maxRecDepth 20000

/-- all of it was made since w0, each apart from the others -/
structure Duo (T : TypeId) (w0 : World) (bx mb : Nat) (sv lv : Value) (W : World) (x : Core) (rec ws ls : List Int) (n : Int) : Prop where
  pair : ∃ v, Pair T bx mb sv W x v rec ws n ∧ ∀ y, v.ownBlock = some y → w0.heap.size ≤ y ∧ lv.ownBlock ≠ some y
  row : OwnW W 0 lv ls
  fb : w0.heap.size ≤ bx
  fm : w0.heap.size ≤ mb
  fs : ∀ y, sv.ownBlock = some y → w0.heap.size ≤ y
  fl : ∀ y, lv.ownBlock = some y → w0.heap.size ≤ y ∧ y ≠ bx ∧ y ≠ mb ∧ sv.ownBlock ≠ some y
  chg : Chg [] w0 W
section
variable {T : TypeId} {w0 W W' : World} {bx mb : Nat} {sv lv v : Value} {x x' : Core} {rec rec' ws ws' ls : List Int} {n n' : Int}
theorem Duo.keep (h : Duo T w0 bx mb sv lv W x rec ws ls n) (k : Chg [] W W') : Duo T w0 bx mb sv lv W' x rec ws ls n := by
  obtain ⟨v, hp, hv⟩ := h.pair
  exact ⟨⟨v, hp.keep k, hv⟩, mem.own_chg h.row k (by simp), h.fb, h.fm, h.fs, h.fl, h.chg.trans k⟩
theorem Duo.st (h : Duo T w0 bx mb sv lv W x rec ws ls n) : ∃ v, St T bx mb sv W v W x rec ws n := by
  obtain ⟨v, hp, hv⟩ := h.pair
  exact ⟨v, St.start hp⟩
theorem Duo.make {w4 : World} (hp : Pair T bx mb sv w4 x v rec ws n) (hc : Chg [] w0 w4) (hb : w0.heap.size ≤ bx) (hm : w0.heap.size ≤ mb) (hs : ∀ y, sv.ownBlock = some y → w0.heap.size ≤ y) (hv : OwnW w4 w0.heap.size v rec)
    (ho : OwnW W w4.heap.size lv ls) (k : Chg [] w4 W) : Duo T w0 bx mb sv lv W x rec ws ls n := by
  have h1 := hp.box.lt
  have h2 := hp.mem.box.lt
  have hge : ∀ {B : Nat} {V : World} {u : Value} {xs : List Int}, OwnW V B u xs → ∀ y, u.ownBlock = some y → B ≤ y := fun h y hy => by
    rcases h.2 with ⟨rfl, _⟩ | ⟨g, _, _, rfl, hg, _⟩
    · cases hy
    · simp [Value.ownBlock] at hy; omega
  refine ⟨⟨v, hp.keep k, fun y hy => ⟨hge hv y hy, fun hh => ?_⟩⟩, own_base ho (Nat.zero_le _), hb, hm, hs, fun y hy => ?_, hc.trans k⟩
  · have h3 := hge ho y hh
    have h4 := own_lt (own_base hv (Nat.zero_le _)) hy
    omega
  · have h3 := hge ho y hy
    have h4 := hc.size
    exact ⟨by omega, by omega, by omega, fun hh => by have := own_lt hp.mem.row hh; omega⟩
/-- a step was made -/
theorem Duo.after (h : Duo T w0 bx mb sv lv W x rec ws ls n) (hv : ∀ y, v.ownBlock = some y → w0.heap.size ≤ y ∧ lv.ownBlock ≠ some y) (hst : St T bx mb sv W v W' x' rec' ws' n') : Duo T w0 bx mb sv lv W' x' rec' ws' ls n' := by
  obtain ⟨v', hp', he⟩ := hst
  have hsz := h.chg.size
  refine ⟨⟨v', hp', fun y hy => ?_⟩, ?_, h.fb, h.fm, h.fs, h.fl, ?_⟩
  · rcases he.own y hy with h1 | h1
    · exact hv y h1
    · exact ⟨Nat.le_trans hsz h1, fun hh => by have := own_lt h.row hh; omega⟩
  · refine mem.own_chg h.row he.chg fun y hy => ?_
    have hf := h.fl y hy
    simp only [List.mem_cons, List.mem_append, Option.mem_toList, Option.mem_def]
    rintro (h1 | h1 | h1 | h1)
    · exact hf.2.1 h1
    · exact hf.2.2.1 h1
    · exact hf.2.2.2 h1
    · exact (hv y h1).2 hy
  · refine h.chg.into he.chg fun y hy => ?_
    simp only [List.mem_cons, List.mem_append, Option.mem_toList, Option.mem_def] at hy
    right
    rcases hy with rfl | rfl | hy | hy
    · exact h.fb
    · exact h.fm
    · exact h.fs y hy
    · exact (hv y hy).1
/-- others wrote into the memory, and into the list -/
theorem Duo.poke {ls' : List Int} (h : Duo T w0 bx mb sv lv W x rec ws ls n) (hm : MemAt W' mb sv ws' n') (hl : OwnW W' 0 lv ls') (k : Chg (mb :: (sv.ownBlock.toList ++ lv.ownBlock.toList)) W W') : Duo T w0 bx mb sv lv W' x rec ws' ls' n' := by
  obtain ⟨v, hp, hv⟩ := h.pair
  have hb : bx ∉ (mb :: (sv.ownBlock.toList ++ lv.ownBlock.toList)) := by
    simp only [List.mem_cons, List.mem_append, Option.mem_toList, Option.mem_def]
    rintro (h1 | h1 | h1)
    · exact hp.ne h1
    · exact hp.ns bx h1 rfl
    · exact (h.fl bx h1).2.1 rfl
  refine ⟨⟨v, ⟨hp.box.keep k hb, mem.own_chg hp.row k fun y hy => ?_, hp.wf, hp.short, hm, hp.ne, hp.ns, hp.nv⟩, hv⟩, hl, h.fb, h.fm, h.fs, h.fl, ?_⟩
  · simp only [List.mem_cons, List.mem_append, Option.mem_toList, Option.mem_def]
    rintro (h1 | h1 | h1)
    · exact (hp.nv y hy).2.1 h1
    · exact (hp.nv y hy).2.2 h1
    · exact (hv y hy).2 h1
  · refine h.chg.into k fun y hy => ?_
    simp only [List.mem_cons, List.mem_append, Option.mem_toList, Option.mem_def] at hy
    right
    rcases hy with rfl | hy | hy
    · exact h.fm
    · exact h.fs y hy
    · exact (h.fl y hy).1
theorem Duo.far (h : Duo T w0 bx mb sv lv W x rec ws ls n) {z : Nat} (hz : z < w0.heap.size) : z ∉ (mb :: (sv.ownBlock.toList ++ lv.ownBlock.toList)) := by
  simp only [List.mem_cons, List.mem_append, Option.mem_toList, Option.mem_def]
  rintro (h1 | h1 | h1)
  · have := h.fm; omega
  · have := h.fs z h1; omega
  · have := (h.fl z h1).1; omega
theorem Duo.memory (h : Duo T w0 bx mb sv lv W x rec ws ls n) : MemAt W mb sv ws n := by
  obtain ⟨v, hp, _⟩ := h.pair; exact hp.mem
end
end Go.Proofs.Ytjplamoofkcojaa.core

/- An operation of the program, its memory, a list, and an operation of the reference. -/
namespace Go.Proofs.Ytjplamoofkcojaa.ref
open Go Go.RowKit Go.Proofs.Ytjplamoofkcojaa.kit Go.Proofs.Ytjplamoofkcojaa.obj Go.Proofs.Ytjplamoofkcojaa.rop Go.Proofs.Ytjplamoofkcojaa.mem Go.Proofs.Ytjplamoofkcojaa.core
set_option linter.unusedVariables false
set_option linter.unusedSimpArgs false
set_option maxRecDepth 20000

structure Trio (T : TypeId) (w0 : World) (bx mb : Nat) (sv lv : Value) (W : World) (x : Core) (rec ws : List Int) (n : Int) (ry : Nat) (z : ROp) (rz ls : List Int) : Prop where
  pair : ∃ v, Pair T bx mb sv W x v rec ws n ∧ ∀ y, v.ownBlock = some y → w0.heap.size ≤ y ∧ lv.ownBlock ≠ some y ∧ y ≠ ry ∧ z.rcd.ownBlock ≠ some y
  row : mem.OwnW W 0 lv ls
  fb : w0.heap.size ≤ bx
  fm : w0.heap.size ≤ mb
  fs : ∀ y, sv.ownBlock = some y → w0.heap.size ≤ y
  fl : ∀ y, lv.ownBlock = some y → w0.heap.size ≤ y ∧ y ≠ bx ∧ y ≠ mb ∧ sv.ownBlock ≠ some y
  chg : Chg [] w0 W
  box : RAt W ry z
  own : mem.OwnW W 0 z.rcd rz
  fr : w0.heap.size ≤ ry ∧ ry ≠ bx ∧ ry ≠ mb ∧ sv.ownBlock ≠ some ry ∧ lv.ownBlock ≠ some ry
  fz : ∀ y, z.rcd.ownBlock = some y → w0.heap.size ≤ y ∧ y ≠ bx ∧ y ≠ mb ∧ sv.ownBlock ≠ some y ∧ lv.ownBlock ≠ some y ∧ y ≠ ry
section
variable {T : TypeId} {w0 W W' : World} {bx mb ry : Nat} {sv lv : Value} {x x' : Core} {rec rec' ws ws' rz ls ls' : List Int} {n n' : Int} {z : ROp}
theorem own_ge {W : World} {B : Nat} {v : Value} {l : List Int} (h : mem.OwnW W B v l) : ∀ y, v.ownBlock = some y → B ≤ y := by
  intro y hy
  rcases h.2 with ⟨rfl, _⟩ | ⟨g, _, _, rfl, hg, _⟩
  · cases hy
  · simp [Value.ownBlock] at hy; omega
theorem Trio.memory (h : Trio T w0 bx mb sv lv W x rec ws n ry z rz ls) : MemAt W mb sv ws n := by
  obtain ⟨v, hp, _⟩ := h.pair; exact hp.mem
theorem Trio.keep (h : Trio T w0 bx mb sv lv W x rec ws n ry z rz ls) (k : Chg [] W W') : Trio T w0 bx mb sv lv W' x rec ws n ry z rz ls := by
  obtain ⟨v, hp, hv⟩ := h.pair
  exact ⟨⟨v, hp.keep k, hv⟩, mem.own_chg h.row k (by simp), h.fb, h.fm, h.fs, h.fl, h.chg.trans k, Blk.keep h.box k (by simp), mem.own_chg h.own k (by simp), h.fr, h.fz⟩
theorem Trio.far (h : Trio T w0 bx mb sv lv W x rec ws n ry z rz ls) {b : Nat} (hb : b < w0.heap.size) : b ∉ (mb :: (sv.ownBlock.toList ++ lv.ownBlock.toList)) := by
  simp only [List.mem_cons, List.mem_append, Option.mem_toList, Option.mem_def]
  rintro (h1 | h1 | h1)
  · have := h.fm; omega
  · have := h.fs b h1; omega
  · have := (h.fl b h1).1; omega
/-- others wrote into the memory, and into the list -/
theorem Trio.poke (h : Trio T w0 bx mb sv lv W x rec ws n ry z rz ls) (hm : MemAt W' mb sv ws' n') (hl : mem.OwnW W' 0 lv ls') (k : Chg (mb :: (sv.ownBlock.toList ++ lv.ownBlock.toList)) W W') : Trio T w0 bx mb sv lv W' x rec ws' n' ry z rz ls' := by
  obtain ⟨v, hp, hv⟩ := h.pair
  have hb : bx ∉ (mb :: (sv.ownBlock.toList ++ lv.ownBlock.toList)) := by
    simp only [List.mem_cons, List.mem_append, Option.mem_toList, Option.mem_def]
    rintro (h1 | h1 | h1)
    · exact hp.ne h1
    · exact hp.ns bx h1 rfl
    · exact (h.fl bx h1).2.1 rfl
  refine ⟨⟨v, ⟨hp.box.keep k hb, mem.own_chg hp.row k fun y hy => ?_, hp.wf, hp.short, hm, hp.ne, hp.ns, hp.nv⟩, hv⟩, hl, h.fb, h.fm, h.fs, h.fl, ?_, Blk.keep h.box k ?_, mem.own_chg h.own k fun y hy => ?_, h.fr, h.fz⟩
  · simp only [List.mem_cons, List.mem_append, Option.mem_toList, Option.mem_def]
    rintro (h1 | h1 | h1)
    · exact (hp.nv y hy).2.1 h1
    · exact (hp.nv y hy).2.2 h1
    · exact (hv y hy).2.1 h1
  · refine h.chg.into k fun y hy => ?_
    simp only [List.mem_cons, List.mem_append, Option.mem_toList, Option.mem_def] at hy
    right
    rcases hy with rfl | hy | hy
    · exact h.fm
    · exact h.fs y hy
    · exact (h.fl y hy).1
  · simp only [List.mem_cons, List.mem_append, Option.mem_toList, Option.mem_def]
    rintro (h1 | h1 | h1)
    · exact h.fr.2.2.1 h1
    · exact h.fr.2.2.2.1 h1
    · exact h.fr.2.2.2.2 h1
  · have hf := h.fz y hy
    simp only [List.mem_cons, List.mem_append, Option.mem_toList, Option.mem_def]
    rintro (h1 | h1 | h1)
    · exact hf.2.2.1 h1
    · exact hf.2.2.2.1 h1
    · exact hf.2.2.2.2.1 h1
/-- the program's operation made a step -/
theorem Trio.mine {v : Value} (h : Trio T w0 bx mb sv lv W x rec ws n ry z rz ls) (hv : ∀ y, v.ownBlock = some y → w0.heap.size ≤ y ∧ lv.ownBlock ≠ some y ∧ y ≠ ry ∧ z.rcd.ownBlock ≠ some y) (hst : St T bx mb sv W v W' x' rec' ws' n') : Trio T w0 bx mb sv lv W' x' rec' ws' n' ry z rz ls := by
  obtain ⟨v', hp, he⟩ := hst
  have hsz := h.chg.size
  refine ⟨⟨v', hp, fun y hy => ?_⟩, ?_, h.fb, h.fm, h.fs, h.fl, ?_, Blk.keep h.box he.chg ?_, mem.own_chg h.own he.chg fun y hy => ?_, h.fr, h.fz⟩
  · rcases he.own y hy with h1 | h1
    · exact hv y h1
    · have hb := Blk.lt h.box
      exact ⟨Nat.le_trans hsz h1, fun hh => by have := own_lt h.row hh; omega, by omega, fun hh => by have := own_lt h.own hh; omega⟩
  · refine mem.own_chg h.row he.chg fun y hy => ?_
    have hf := h.fl y hy
    simp only [List.mem_cons, List.mem_append, Option.mem_toList, Option.mem_def]
    rintro (h1 | h1 | h1 | h1)
    · exact hf.2.1 h1
    · exact hf.2.2.1 h1
    · exact hf.2.2.2 h1
    · exact (hv y h1).2.1 hy
  · refine h.chg.into he.chg fun y hy => ?_
    simp only [List.mem_cons, List.mem_append, Option.mem_toList, Option.mem_def] at hy
    right
    rcases hy with rfl | rfl | hy | hy
    · exact h.fb
    · exact h.fm
    · exact h.fs y hy
    · exact (hv y hy).1
  · simp only [List.mem_cons, List.mem_append, Option.mem_toList, Option.mem_def]
    rintro (h1 | h1 | h1 | h1)
    · exact h.fr.2.1 h1
    · exact h.fr.2.2.1 h1
    · exact h.fr.2.2.2.1 h1
    · exact (hv ry h1).2.2.1 rfl
  · have hf := h.fz y hy
    simp only [List.mem_cons, List.mem_append, Option.mem_toList, Option.mem_def]
    rintro (h1 | h1 | h1 | h1)
    · exact hf.2.1 h1
    · exact hf.2.2.1 h1
    · exact hf.2.2.2.1 h1
    · exact (hv y h1).2.2.2 hy
/-- the reference's operation beside the list -/
theorem Trio.ref {g k cp : Nat} (h : Trio T w0 bx mb sv (.slice (some ⟨g, 0, none⟩) k cp) W x rec ws n ry z rz ls) : k = ls.length ∧ ls.length ≤ cp ∧ Ref ry g (cp - ls.length) W z rz ls := by
  obtain ⟨h1, h2, h3, h4, h5⟩ := LT.of_own h.row
  exact ⟨h1, h2, h.box, h.own, h5, fun hh => h.fr.2.2.2.2 (by rw [hh]; rfl), fun y hy => ⟨(h.fz y hy).2.2.2.2.2, fun hh => (h.fz y hy).2.2.2.2.1 (by rw [hh]; rfl)⟩⟩
/-- it made a step -/
theorem Trio.theirs {Rel : Core → ROp → Prop} {g cp : Nat} {q : Q} (h : Trio T w0 bx mb sv (.slice (some ⟨g, 0, none⟩) ls.length cp) W x rec ws n ry z rz ls) (hq : q.2.2.length = ls.length) (ha : After Rel ry g (cp - ls.length) W z.rcd q W') :
    ∃ z', Rel q.1 z' ∧ Trio T w0 bx mb sv (.slice (some ⟨g, 0, none⟩) ls.length cp) W' x rec ws n ry z' q.2.1 q.2.2 := by
  obtain ⟨z', hrel, hr, hc, hv'⟩ := ha
  obtain ⟨v, hp, hv⟩ := h.pair
  obtain ⟨k1, k2, k3, k4, k5⟩ := LT.of_own h.row
  have hsz := h.chg.size
  have hmem : ∀ y, y ∈ (ry :: g :: z.rcd.ownBlock.toList) → y = ry ∨ y = g ∨ z.rcd.ownBlock = some y := by
    intro y hy
    simp only [List.mem_cons, Option.mem_toList, Option.mem_def] at hy
    exact hy
  have hg : (Value.slice (some ⟨g, 0, none⟩) ls.length cp).ownBlock = some g := rfl
  have hfg := h.fl g hg
  have hbx : bx ∉ (ry :: g :: z.rcd.ownBlock.toList) := fun hy => by
    rcases hmem _ hy with h1 | h1 | h1
    · exact h.fr.2.1 h1.symm
    · exact hfg.2.1 h1.symm
    · exact (h.fz bx h1).2.1 rfl
  have hmb : mb ∉ (ry :: g :: z.rcd.ownBlock.toList) := fun hy => by
    rcases hmem _ hy with h1 | h1 | h1
    · exact h.fr.2.2.1 h1.symm
    · exact hfg.2.2.1 h1.symm
    · exact (h.fz mb h1).2.2.1 rfl
  have hsb : ∀ b, sv.ownBlock = some b → b ∉ (ry :: g :: z.rcd.ownBlock.toList) := fun b hb hy => by
    rcases hmem _ hy with h1 | h1 | h1
    · exact h.fr.2.2.2.1 (by rw [← h1]; exact hb)
    · exact hfg.2.2.2 (by rw [← h1]; exact hb)
    · exact (h.fz b h1).2.2.2.1 hb
  have hvb : ∀ b, v.ownBlock = some b → b ∉ (ry :: g :: z.rcd.ownBlock.toList) := fun b hb hy => by
    rcases hmem _ hy with h1 | h1 | h1
    · exact (hv b hb).2.2.1 h1
    · exact (hv b hb).2.1 (by rw [h1]; rfl)
    · exact (hv b hb).2.2.2 h1
  refine ⟨z', hrel, ⟨v, ⟨hp.box.keep hc hbx, mem.own_chg hp.row hc hvb, hp.wf, hp.short, hp.mem.keep hc hmb hsb, hp.ne, hp.ns, hp.nv⟩, fun y hy => ⟨(hv y hy).1, (hv y hy).2.1, (hv y hy).2.2.1, fun hh => ?_⟩⟩, ?_, h.fb, h.fm, h.fs, h.fl, ?_, hr.box, hr.own, h.fr, fun y hy => ?_⟩
  · rcases hv' y hh with h1 | h1
    · exact (hv y hy).2.2.2 h1
    · have := own_lt hp.row hy; omega
  · rw [← hq]
    exact LT.own (by rw [hq]; exact hr.lst) (by rw [hq]; exact k2) k3 (Nat.zero_le _)
  · refine h.chg.into hc fun y hy => ?_
    right
    rcases hmem y hy with rfl | rfl | h1
    · exact h.fr.1
    · exact hfg.1
    · exact (h.fz y h1).1
  · rcases hv' y hy with h1 | h1
    · exact h.fz y h1
    · have hb1 := Blk.lt hp.box
      have hb2 := Blk.lt h.box
      have hb3 := Blk.lt hp.mem.box
      exact ⟨Nat.le_trans hsz h1, by omega, by omega, fun hh => by have := own_lt hp.mem.row hh; omega, fun hh => by have := own_lt h.row hh; omega, by omega⟩
/-- the beginning -/
theorem Trio.make {w1 w2 w4 : World} {v : Value} (hp : Pair T bx mb sv w4 x v rec ws n) (h1 : Chg [] w0 w1) (h2 : Chg [] w1 w2) (h4 : Chg [] w2 w4) (hb : w0.heap.size ≤ bx ∧ bx < w1.heap.size) (hm : w2.heap.size ≤ mb) (hs : ∀ y, sv.ownBlock = some y → w2.heap.size ≤ y)
    (hv : mem.OwnW w1 w0.heap.size v rec) (hr : RAt w2 ry z) (hz : mem.OwnW w2 w1.heap.size z.rcd rz) (hzn : ∀ y, z.rcd.ownBlock = some y → y ≠ ry) (hry : w1.heap.size ≤ ry) (ho : mem.OwnW W w4.heap.size lv ls) (k : Chg [] w4 W) : Trio T w0 bx mb sv lv W x rec ws n ry z rz ls := by
  have s1 := h1.size
  have s2 := h2.size
  have s4 := h4.size
  have hrl := Blk.lt hr
  have hmb := Blk.lt hp.mem.box
  have hvl : ∀ y, v.ownBlock = some y → w0.heap.size ≤ y ∧ y < w1.heap.size := fun y hy => ⟨own_ge hv y hy, own_lt (own_base hv (Nat.zero_le _)) hy⟩
  have hzl : ∀ y, z.rcd.ownBlock = some y → w1.heap.size ≤ y ∧ y < w2.heap.size := fun y hy => ⟨own_ge hz y hy, own_lt (own_base hz (Nat.zero_le _)) hy⟩
  have hsl : ∀ y, sv.ownBlock = some y → w2.heap.size ≤ y ∧ y < w4.heap.size := fun y hy => ⟨hs y hy, own_lt hp.mem.row hy⟩
  have hll : ∀ y, lv.ownBlock = some y → w4.heap.size ≤ y := fun y hy => own_ge ho y hy
  refine ⟨⟨v, hp.keep k, fun y hy => ⟨(hvl y hy).1, fun hh => by have := hvl y hy; have := hll y hh; omega, by have := hvl y hy; omega, fun hh => by have := hvl y hy; have := hzl y hh; omega⟩⟩, own_base ho (Nat.zero_le _), hb.1, by omega, fun y hy => by have := hsl y hy; omega, fun y hy => ?_, ((h1.trans h2).trans h4).trans k, Blk.keep hr (h4.trans k) (by simp), mem.own_chg (own_base hz (Nat.zero_le _)) (h4.trans k) (by simp), ?_, fun y hy => ?_⟩
  · have := hll y hy
    exact ⟨by omega, by omega, by omega, fun hh => by have := hsl y hh; omega⟩
  · exact ⟨by omega, by omega, by omega, fun hh => by have := hsl _ hh; omega, fun hh => by have := hll _ hh; omega⟩
  · have := hzl y hy
    exact ⟨by omega, by omega, by omega, fun hh => by have := hsl _ hh; omega, fun hh => by have := hll _ hh; omega, hzn y hy⟩
end
end Go.Proofs.Ytjplamoofkcojaa.ref

/- A kind's steps, and the reference's. -/
namespace Go.Proofs.Ytjplamoofkcojaa.ref
open Go Go.RowKit Go.Proofs.Ytjplamoofkcojaa.kit Go.Proofs.Ytjplamoofkcojaa.obj Go.Proofs.Ytjplamoofkcojaa.rop Go.Proofs.Ytjplamoofkcojaa.mem Go.Proofs.Ytjplamoofkcojaa.core
set_option linter.unusedVariables false
set_option linter.unusedSimpArgs false
set_option maxRecDepth 20000

/-- the reference's operation goes as the kind's does -/
structure Ties (K : Kind) (Rel : Core → ROp → Prop) : Prop where
  yes : ∀ {bx g tn cp : Nat} {x : Core} {z : ROp} {rec ls : List Int} {W : World} (mv : Value), K.Shape x rec → Rel x z → opens x ls.length = true → (0 ≤ x.steps ∧ x.steps ≤ 1000000) → ls.length ≤ 100000 → ls.length ≤ cp → (∀ c ∈ ls, 0 ≤ c ∧ c ≤ 4294967295) → Ref bx g tn W z rec ls →
    Calls Try.prog 19 #[.pointer (some ⟨bx, 0, none⟩), .slice (some ⟨g, 0, none⟩) ls.length cp] W fun e W' => e = .returned (.bool true) ∧ After Rel bx g tn W z.rcd (K.step x mv rec ls) W'
  no : ∀ {x : Core} {z : ROp} {rec : List Int} {n : Nat}, K.Shape x rec → Rel x z → opens x n = false → rop.stuck z n ∧ (0 ≤ z.at_ ∧ z.at_ ≤ 9223372036854775807) ∧ ObjW z.k z.w z.s z.c z.st z.il z.rl
  over : ∀ {x : Core} {z : ROp}, Rel x z → z.over = x.over
  steps : ∀ {x : Core} {z : ROp}, Rel x z → z.steps = x.steps
  code : ∀ {x : Core} {z : ROp}, Rel x z → z.code = x.code
section
variable {K : Kind} {Rel : Core → ROp → Prop} {T : TypeId} {w0 W W' : World} {bx mb ry : Nat} {sv : Value} {x x' : Core} {rec rec' ws' ls : List Int} {n : Int} {z : ROp}
theorem Ties.step {g ln cp : Nat} (H : Ties K Rel) (mv : Value) (h : Trio T w0 bx mb sv (.slice (some ⟨g, 0, none⟩) ln cp) W x' rec' ws' n ry z rec ls) (hI : K.Shape x rec) (hrel : Rel x z) (ho : opens x ls.length = true) (hs : 0 ≤ x.steps ∧ x.steps ≤ 1000000) (hln : ls.length ≤ 100000) (hwf : ∀ z ∈ ls, 0 ≤ z ∧ z ≤ 4294967295) :
    Calls Try.prog 19 #[.pointer (some ⟨ry, 0, none⟩), .slice (some ⟨g, 0, none⟩) ln cp] W fun e W' => e = .returned (.bool true) ∧ ∃ z', Rel (K.step x mv rec ls).1 z' ∧ Trio T w0 bx mb sv (.slice (some ⟨g, 0, none⟩) ln cp) W' x' rec' ws' n ry z' (K.step x mv rec ls).2.1 (K.step x mv rec ls).2.2 := by
  obtain ⟨hk, hcp, href⟩ := h.ref
  subst hk
  refine (H.yes mv hI hrel ho hs hln hcp hwf href).mono ?_
  rintro e w1 ⟨rfl, ha⟩
  exact ⟨rfl, h.theirs (K.len _ _ _ _) ha⟩
theorem Ties.stay {la : Option Addr} {ln cp : Nat} (H : Ties K Rel) (h : Trio T w0 bx mb sv (.slice la ln cp) W x' rec' ws' n ry z rec ls) (hI : K.Shape x rec) (hrel : Rel x z) (ho : opens x ls.length = false) (hln : ls.length ≤ 100000) (hl : ln = ls.length) :
    Calls Try.prog 19 #[.pointer (some ⟨ry, 0, none⟩), .slice la ln cp] W fun e W' => e = .returned (.bool false) ∧ Chg [] W W' := by
  subst hl
  obtain ⟨h1, h2, h3⟩ := H.no hI hrel ho
  exact Step_no ry z la ls.length cp hln h2 h3 W h.box h1
end
end Go.Proofs.Ytjplamoofkcojaa.ref
