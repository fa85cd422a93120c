import Derived.Test.YtphfnjcboellhaaGreatDoorKit
import Derived.Laws.Rows
namespace Go.Proofs.YtphfnjcboellhaaGreatDoor.blk
open Go Go.RowKit kit
section
variable {P : Program} {w w0 : World} {ops : Array Oper} {rest : List Oper} {o : Oper} {a : Act} {K : Act -> World -> Prop} {Q : Exit -> Act -> World -> Prop}
theorem Blk.row {b : Nat} {c c' : Array Value} {T : TypeId} (h : Blk w b c T) : Blk (w.setRow b c') b c' T := setRow_heap w b c c' T (0, 0) h
theorem Chg.setRow {L : List Nat} {b : Nat} {c' : Array Value} (h : Chg L w0 w) (hb : b ∈ L \/ w0.heap.size <= b) : Chg L w0 (w.setRow b c') :=
 h.into (L := [b]) ⟨rfl, rfl, rfl, by simp [World.setRow], fun k hk hn => by
  simp only [World.setRow]
  rw [Array.getElem?_modify]
  have : ¬ b = k := fun e => hn (by simp [e])
  simp [this]⟩ fun x hx => by
  simp only [List.mem_singleton] at hx; subst hx; exact hb
theorem wpList_store_blk (hgd : o.guard = none) (ty : TypeId) (x y : Operand) (ho : o.op = .store ty x y) (g : Nat) (cells : Array Value) (hx : a.eval x = .pointer (some ⟨g, 0, none⟩)) (hy : a.eval y = .agg cells)
 {t : TypeId} {old : Array Value} (hb : Blk w g old t) (hi : (P.info? ty).map (·.size) = some cells.size) (hold : old.size = cells.size) (h1 : cells.all (·.oneCell') = true)
 (h : ∀ w', Blk w' g cells t -> Chg [g] w w' -> wpList P ops Q rest (a.put o.dst undef) w') : wpList P ops Q (o :: rest) a w :=
 wpList_store_row hgd ty x y ho g cells hx hy t old hb hi hold h1 (h _ (Blk.row hb) (Chg.setRow (Chg.refl _ _) (.inl (by simp))))
end
end Go.Proofs.YtphfnjcboellhaaGreatDoor.blk
