/- Parts joined: Whole, Core6, Core7. -/
import Derived.Test.YtjplamoofkcojaaKit
import Derived.Laws.Rows
import Derived.Laws.Tables
import Derived.Test.YtjplamoofkcojaaCore
import Derived.Deep.Cut
/- A struct as one value, out of a block and into it (no project text). -/
namespace Go.Proofs.Ytjplamoofkcojaa.kit
open Go Go.RowKit
set_option linter.unusedVariables false
set_option linter.unusedSimpArgs false

section
variable {P : Program} {w w0 : World} {ops : Array Oper} {rest : List Oper} {o : Oper} {a : Act} {K : Act → World → Prop} {Q : Exit → Act → World → Prop}
theorem Blk.row {b : Nat} {c c' : Array Value} {T : TypeId} (h : Blk w b c T) : Blk (w.setRow b c') b c' T := setRow_heap w b c c' T (0, 0) h
theorem Chg.setRow {L : List Nat} {b : Nat} {c' : Array Value} (h : Chg L w0 w) (hb : b ∈ L ∨ w0.heap.size ≤ b) : Chg L w0 (w.setRow b c') :=
  h.into (L := [b]) ⟨rfl, rfl, rfl, by simp [World.setRow], fun k hk hn => by
    simp only [World.setRow]
    rw [Array.getElem?_modify]
    have : ¬ b = k := fun e => hn (by simp [e])
    simp [this]⟩ fun x hx => by
    simp only [List.mem_singleton] at hx; subst hx; exact hb
theorem wp_store_blk (ty : TypeId) (x y : Operand) (ho : o.op = .store ty x y) (g : Nat) (cells : Array Value) (hx : a.eval x = .pointer (some ⟨g, 0, none⟩)) (hy : a.eval y = .agg cells)
    {t : TypeId} {old : Array Value} (hb : Blk w g old t) (hi : (P.info? ty).map (·.size) = some cells.size) (hold : old.size = cells.size) (h1 : cells.all (·.oneCell') = true)
    (h : ∀ w', Blk w' g cells t → Chg [g] w w' → K (a.put o.dst undef) w') : o.wp P a w K Q :=
  wp_store_row ty x y ho g cells hx hy t old hb hi hold h1 (h _ (Blk.row hb) ((Chg.refl _ _).setRow (.inl (by simp))))
theorem wpList_store_blk (hgd : o.guard = none) (ty : TypeId) (x y : Operand) (ho : o.op = .store ty x y) (g : Nat) (cells : Array Value) (hx : a.eval x = .pointer (some ⟨g, 0, none⟩)) (hy : a.eval y = .agg cells)
    {t : TypeId} {old : Array Value} (hb : Blk w g old t) (hi : (P.info? ty).map (·.size) = some cells.size) (hold : old.size = cells.size) (h1 : cells.all (·.oneCell') = true)
    (h : ∀ w', Blk w' g cells t → Chg [g] w w' → wpList P ops Q rest (a.put o.dst undef) w') : wpList P ops Q (o :: rest) a w :=
  wpList_store_row hgd ty x y ho g cells hx hy t old hb hi hold h1 (h _ (Blk.row hb) ((Chg.refl _ _).setRow (.inl (by simp))))
theorem wpList_load_blk (hgd : o.guard = none) (ty : TypeId) (x : Operand) (ho : o.op = .load ty x) (g : Nat) (hx : a.eval x = .pointer (some ⟨g, 0, none⟩))
    {t : TypeId} {cs : Array Value} (hb : Blk w g cs t) (d : TypeDesc) (hu : P.underlying ty = some d) (hd : (match d with | .struct _ | .array _ _ => true | _ => false) = true) (hi : (P.info? ty).map (·.size) = some cs.size)
    (h : wpList P ops Q rest (a.put o.dst (.agg cs)) w) : wpList P ops Q (o :: rest) a w := wpList_load_row hgd ty x ho g hx t cs (0, 0) d hb hu hd hi h
theorem wp_load_blk (ty : TypeId) (x : Operand) (ho : o.op = .load ty x) (g : Nat) (hx : a.eval x = .pointer (some ⟨g, 0, none⟩))
    {t : TypeId} {cs : Array Value} (hb : Blk w g cs t) (d : TypeDesc) (hu : P.underlying ty = some d) (hd : (match d with | .struct _ | .array _ _ => true | _ => false) = true) (hi : (P.info? ty).map (·.size) = some cs.size)
    (h : K (a.put o.dst (.agg cs)) w) : o.wp P a w K Q := wp_load_row ty x ho g hx t cs (0, 0) d hb hu hd hi h
theorem results_row_tmp {fn : Func} {p q : Tmp} {ty : TypeId} (h : fn.results = #[.cell p ty, .tmp q]) (tmps : Array Value) (w : World) (g : Nat) (t : TypeId) (cs : Array Value) (fr : Nat × Nat) (d : TypeDesc)
    (hp : tmps.getD p undef = .pointer (some ⟨g, 0, none⟩)) (hg : w.heap[g]? = some (.cells cs t fr))
    (hu : P.underlying ty = some d) (hd : (match d with | .struct _ | .array _ _ => true | _ => false) = true) (hi : (P.info? ty).map (·.size) = some cs.size) :
    (results fn tmps).run P w = .ok (.tuple #[.agg cs, tmps.getD q undef]) w := by
  have hp' : tmps[p]?.getD undef = .pointer (some ⟨g, 0, none⟩) := by simpa using hp
  simp [results, h, hp', asAddr, run_loadVar_row w g t ty cs fr d hg hu hd hi]
end
end Go.Proofs.Ytjplamoofkcojaa.kit

/- Package micro: a twin. -/
namespace Go.Proofs.Ytjplamoofkcojaa.core
open Go Go.RowKit Go.Proofs.Ytjplamoofkcojaa.kit Go.Proofs.Ytjplamoofkcojaa.mem Go.Proofs.Ytjplamoofkcojaa.rop
set_option linter.unusedVariables false
set_option linter.unusedSimpArgs false
set_option maxRecDepth 20000

theorem cells_one (x : Core) (v : Value) (hm : x.m.oneCell' = true) (hv : v.oneCell' = true) : (x.cells v).all (·.oneCell') = true := by
  simp [Core.cells, Value.oneCell']
  exact ⟨hv, hm⟩
theorem blk_new1 (w : World) (z : Obj) (c : Array Value) (T : TypeId) : Blk ((w.alloc z).alloc (.cells c T)) (w.heap.size + 1) c T := by
  have := Blk.new (w.alloc z) c T
  have hs : (w.alloc z).heap.size = w.heap.size + 1 := by show (w.heap.push z).size = _; simp
  rwa [hs] at this
theorem own_ne {w w3 : World} {g : Nat} {c : Array Value} {T : TypeId} {e : TypeId} {s n : Nat} {v : Value} {xs : List Value} (h : w.ownsRow w3.heap.size e s v n xs) (hb : Blk w3 g c T) : ∀ b, v.ownBlock = some b → b ∉ [g] := by
  intro b hy
  have := hb.lt
  rcases h.2 with ⟨rfl, _⟩ | ⟨g', cap, cur, rfl, hbg, _⟩
  · cases hy
  · simp [Value.ownBlock] at hy
    simp
    omega
end Go.Proofs.Ytjplamoofkcojaa.core

/- Package micro: an operation is begun. -/
namespace Go.Proofs.Ytjplamoofkcojaa.core
open Go Go.RowKit Go.Proofs.Ytjplamoofkcojaa.kit Go.Proofs.Ytjplamoofkcojaa.mem Go.Proofs.Ytjplamoofkcojaa.rop
set_option linter.unusedVariables false
set_option linter.unusedSimpArgs false
set_option maxRecDepth 20000

theorem block_gen {K : Exit → Act → World → Prop} {n : Nat} {e : Exit} {a : Act} {W : World} {R : World → Prop} (hp : R W) (h : ∀ W', R W' → Exit.inBlock n K e a W') : Exit.inBlock n K e a W := h W hp
theorem blk_new2 (w : World) (z y : Obj) (c : Array Value) (T : TypeId) : Blk (((w.alloc z).alloc y).alloc (.cells c T)) (w.heap.size + 1 + 1) c T := by
  have := blk_new1 (w.alloc z) y c T
  have hs : (w.alloc z).heap.size = w.heap.size + 1 := by show (w.heap.push z).size = _; simp
  rwa [hs] at this
theorem zer_one : (#[.int .i64 0, .int .i64 0, .int .i64 0, .int .i64 0, .int .u32 0, .slice none 0 0, .int .i64 0, .slice none 0 0, .int .i64 0, .int .i64 0, .int .i64 0, .int .i64 0, .int .i64 0, .int .u32 0, .int .u32 0, .int .u64 0, .slice none 0 0, .pointer none, .int .i64 0, .int .i64 0, .int .i64 0, .int .i64 0, .bool false] : Array Value).all (·.oneCell') = true := by simp [Value.oneCell']
/-- why an operation does not begin (0: it does) -/
def begI (w : Int) (rl : Nat) (size at_ op rd_ o0 o1 : Int) (n : Nat) : Int :=
  if size < 1 ∨ at_ < 0 then 1 else if op = o0 then (if rd_ < 0 ∨ 1 ≤ rd_ then 5 else if (n : Int) ≠ w then 4 else 0)
  else if op = o1 then (if rd_ < 0 ∨ (rl : Int) ≤ rd_ then 5 else if n ≠ 0 then 4 else 0) else 9
end Go.Proofs.Ytjplamoofkcojaa.core
