/- An operation, its memory, and a list of words beside them. -/
import Derived.Test.YtapaolaemkhbdaaDoorCore
import Derived.Test.YtapaolaemkhbdaaDoorCaseA
namespace Go.Proofs.YtapaolaemkhbdaaDoor.core
open Go Go.RowKit Go.Proofs.YtapaolaemkhbdaaDoor.kit Go.Proofs.YtapaolaemkhbdaaDoor.mem Go.Proofs.YtapaolaemkhbdaaDoor.obj
set_option linter.unusedVariables false
set_option linter.unusedSimpArgs false
set_option maxRecDepth 20000

/-- all of it was made since w0, each apart from the others -/
structure Duo (T : TypeId) (w0 : World) (bx mb : Nat) (sv lv : Value) (W : World) (x : Core) (rec ws ls : List Int) (n : Int) : Prop where
  pair : ∃ v, Pair T bx mb sv W x v rec ws n ∧ ∀ y, v.ownBlock = some y → w0.heap.size ≤ y ∧ lv.ownBlock ≠ some y
  row : OwnW W 0 lv ls
  fb : w0.heap.size ≤ bx
  fm : w0.heap.size ≤ mb
  fs : ∀ y, sv.ownBlock = some y → w0.heap.size ≤ y
  fl : ∀ y, lv.ownBlock = some y → w0.heap.size ≤ y ∧ y ≠ bx ∧ y ≠ mb ∧ sv.ownBlock ≠ some y
  chg : Chg [] w0 W
section
variable {T : TypeId} {w0 W W' : World} {bx mb : Nat} {sv lv v : Value} {x x' : Core} {rec rec' ws ws' ls : List Int} {n n' : Int}
theorem Duo.keep (h : Duo T w0 bx mb sv lv W x rec ws ls n) (k : Chg [] W W') : Duo T w0 bx mb sv lv W' x rec ws ls n := by
  obtain ⟨v, hp, hv⟩ := h.pair
  exact ⟨⟨v, hp.keep k, hv⟩, mem.own_chg h.row k (by simp), h.fb, h.fm, h.fs, h.fl, h.chg.trans k⟩
theorem Duo.st (h : Duo T w0 bx mb sv lv W x rec ws ls n) : ∃ v, St T bx mb sv W v W x rec ws n := by
  obtain ⟨v, hp, hv⟩ := h.pair
  exact ⟨v, St.start hp⟩
theorem Duo.make {w4 : World} (hp : Pair T bx mb sv w4 x v rec ws n) (hc : Chg [] w0 w4) (hb : w0.heap.size ≤ bx) (hm : w0.heap.size ≤ mb) (hs : ∀ y, sv.ownBlock = some y → w0.heap.size ≤ y) (hv : OwnW w4 w0.heap.size v rec)
    (ho : OwnW W w4.heap.size lv ls) (k : Chg [] w4 W) : Duo T w0 bx mb sv lv W x rec ws ls n := by
  have h1 := hp.box.lt
  have h2 := hp.mem.box.lt
  have hge : ∀ {B : Nat} {V : World} {u : Value} {xs : List Int}, OwnW V B u xs → ∀ y, u.ownBlock = some y → B ≤ y := fun h y hy => by
    rcases h.2 with ⟨rfl, _⟩ | ⟨g, _, _, rfl, hg, _⟩
    · cases hy
    · simp [Value.ownBlock] at hy; omega
  refine ⟨⟨v, hp.keep k, fun y hy => ⟨hge hv y hy, fun hh => ?_⟩⟩, own_base ho (Nat.zero_le _), hb, hm, hs, fun y hy => ?_, hc.trans k⟩
  · have h3 := hge ho y hh
    have h4 := own_lt (own_base hv (Nat.zero_le _)) hy
    omega
  · have h3 := hge ho y hy
    have h4 := hc.size
    exact ⟨by omega, by omega, by omega, fun hh => by have := own_lt hp.mem.row hh; omega⟩
/-- a step was made -/
theorem Duo.after (h : Duo T w0 bx mb sv lv W x rec ws ls n) (hv : ∀ y, v.ownBlock = some y → w0.heap.size ≤ y ∧ lv.ownBlock ≠ some y) (hst : St T bx mb sv W v W' x' rec' ws' n') : Duo T w0 bx mb sv lv W' x' rec' ws' ls n' := by
  obtain ⟨v', hp', he⟩ := hst
  have hsz := h.chg.size
  refine ⟨⟨v', hp', fun y hy => ?_⟩, ?_, h.fb, h.fm, h.fs, h.fl, ?_⟩
  · rcases he.own y hy with h1 | h1
    · exact hv y h1
    · exact ⟨Nat.le_trans hsz h1, fun hh => by have := own_lt h.row hh; omega⟩
  · refine mem.own_chg h.row he.chg fun y hy => ?_
    have hf := h.fl y hy
    simp only [List.mem_cons, List.mem_append, Option.mem_toList, Option.mem_def]
    rintro (h1 | h1 | h1 | h1)
    · exact hf.2.1 h1
    · exact hf.2.2.1 h1
    · exact hf.2.2.2 h1
    · exact (hv y h1).2 hy
  · refine h.chg.into he.chg fun y hy => ?_
    simp only [List.mem_cons, List.mem_append, Option.mem_toList, Option.mem_def] at hy
    right
    rcases hy with rfl | rfl | hy | hy
    · exact h.fb
    · exact h.fm
    · exact h.fs y hy
    · exact (hv y hy).1
/-- others wrote into the memory, and into the list -/
theorem Duo.poke {ls' : List Int} (h : Duo T w0 bx mb sv lv W x rec ws ls n) (hm : MemAt W' mb sv ws' n') (hl : OwnW W' 0 lv ls') (k : Chg (mb :: (sv.ownBlock.toList ++ lv.ownBlock.toList)) W W') : Duo T w0 bx mb sv lv W' x rec ws' ls' n' := by
  obtain ⟨v, hp, hv⟩ := h.pair
  have hb : bx ∉ (mb :: (sv.ownBlock.toList ++ lv.ownBlock.toList)) := by
    simp only [List.mem_cons, List.mem_append, Option.mem_toList, Option.mem_def]
    rintro (h1 | h1 | h1)
    · exact hp.ne h1
    · exact hp.ns bx h1 rfl
    · exact (h.fl bx h1).2.1 rfl
  refine ⟨⟨v, ⟨hp.box.keep k hb, mem.own_chg hp.row k fun y hy => ?_, hp.wf, hp.short, hm, hp.ne, hp.ns, hp.nv⟩, hv⟩, hl, h.fb, h.fm, h.fs, h.fl, ?_⟩
  · simp only [List.mem_cons, List.mem_append, Option.mem_toList, Option.mem_def]
    rintro (h1 | h1 | h1)
    · exact (hp.nv y hy).2.1 h1
    · exact (hp.nv y hy).2.2 h1
    · exact (hv y hy).2 h1
  · refine h.chg.into k fun y hy => ?_
    simp only [List.mem_cons, List.mem_append, Option.mem_toList, Option.mem_def] at hy
    right
    rcases hy with rfl | hy | hy
    · exact h.fm
    · exact h.fs y hy
    · exact (h.fl y hy).1
theorem Duo.far (h : Duo T w0 bx mb sv lv W x rec ws ls n) {z : Nat} (hz : z < w0.heap.size) : z ∉ (mb :: (sv.ownBlock.toList ++ lv.ownBlock.toList)) := by
  simp only [List.mem_cons, List.mem_append, Option.mem_toList, Option.mem_def]
  rintro (h1 | h1 | h1)
  · have := h.fm; omega
  · have := h.fs z h1; omega
  · have := (h.fl z h1).1; omega
theorem Duo.memory (h : Duo T w0 bx mb sv lv W x rec ws ls n) : MemAt W mb sv ws n := by
  obtain ⟨v, hp, _⟩ := h.pair; exact hp.mem
end
end Go.Proofs.YtapaolaemkhbdaaDoor.core
