/- Package isa: the shapes of all kinds. -/
import Derived.Test.YtihgljfiggdcpaaProg
import Derived.Test.YtihgljfiggdcpaaKit
import Derived.Laws.Rows
import Derived.Laws.Tables
namespace Go.Proofs.Ytihgljfiggdcpaa.isa
open Go Go.RowKit Go.Proofs.Ytihgljfiggdcpaa.kit
set_option linter.unusedVariables false
set_option maxRecDepth 20000

theorem three_any (s : ByteArray) (w : World) :
    Calls Try.prog 58 #[.string s] w fun e w' => e = .returned (.agg #[.string s, .int .i64 1, .int .i64 1, .int .i64 1, .int .i64 0, .string ⟨#[98, 99]⟩, .string ⟨#[97]⟩]) ∧ Chg [] w w' := by
  go_enter Try.func58, Try.ntmps58
  go_wp2
  refine bodyPost_ret (v := .agg #[.string s, .int .i64 1, .int .i64 1, .int .i64 1, .int .i64 0, .string ⟨#[98, 99]⟩, .string ⟨#[97]⟩]) (by simp [results, Try.results58, go_sem]) rfl ⟨rfl, ?_⟩
  exact (Chg.refl _ _).alloc _
theorem known_any (k : Int) (w : World) :
    Calls Try.prog 45 #[.int .i64 k] w fun e w' => e = .returned (.bool (decide (0 ≤ k) && decide (k < 22))) ∧ w = w' := by
  go_enter Try.func45, Try.ntmps45
  go_wp2
  · go_ret
    refine ⟨?_, rfl⟩
    rw [show decide (0 ≤ k) = true from by simp; assumption, Bool.true_and]; rfl
  · go_ret
    refine ⟨?_, rfl⟩
    rw [show decide (0 ≤ k) = false from by simp; assumption, Bool.false_and]; rfl
theorem call_any (s : ByteArray) (w : World) :
    Calls Try.prog 59 #[.string s] w fun e w' => e = .returned (.agg #[.string s, .int .i64 1, .int .i64 2, .int .i64 0, .int .i64 5, .string ⟨#[]⟩, .string ⟨#[97]⟩]) ∧ Chg [] w w' := by
  go_enter Try.func59, Try.ntmps59
  go_wp2
  refine bodyPost_ret (v := .agg #[.string s, .int .i64 1, .int .i64 2, .int .i64 0, .int .i64 5, .string ⟨#[]⟩, .string ⟨#[97]⟩]) (by simp [results, Try.results59, go_sem]) rfl ⟨rfl, ?_⟩
  exact (Chg.refl _ _).alloc _

structure Shape where
  word : List UInt8
  a : Int
  b : Int
  c : Int
  n : Int
  uses : List UInt8
  sets : List UInt8
def Shape.cells (s : Shape) : List Value := [.string ⟨⟨s.word⟩⟩, .int .i64 s.a, .int .i64 s.b, .int .i64 s.c, .int .i64 s.n, .string ⟨⟨s.uses⟩⟩, .string ⟨⟨s.sets⟩⟩]
def shapes : List Shape := [
  ⟨[110, 111, 112], 0, 0, 0, 0, [], []⟩,
  ⟨[115, 101, 116], 1, 0, 0, 6, [], [97]⟩,
  ⟨[109, 111, 118, 101], 1, 1, 0, 0, [98], [97]⟩,
  ⟨[97, 100, 100], 1, 1, 1, 0, [98, 99], [97]⟩,
  ⟨[115, 117, 98], 1, 1, 1, 0, [98, 99], [97]⟩,
  ⟨[109, 117, 108], 1, 1, 1, 0, [98, 99], [97]⟩,
  ⟨[97, 110, 100], 1, 1, 1, 0, [98, 99], [97]⟩,
  ⟨[111, 114], 1, 1, 1, 0, [98, 99], [97]⟩,
  ⟨[120, 111, 114], 1, 1, 1, 0, [98, 99], [97]⟩,
  ⟨[108, 101, 115, 115], 1, 1, 1, 0, [98, 99], [97]⟩,
  ⟨[101, 113, 117, 97, 108], 1, 1, 1, 0, [98, 99], [97]⟩,
  ⟨[108, 111, 97, 100], 1, 1, 0, 6, [98], [97]⟩,
  ⟨[115, 116, 111, 114, 101], 1, 1, 0, 6, [97, 98], []⟩,
  ⟨[99, 97, 115], 1, 1, 1, 6, [97, 98, 99], [97]⟩,
  ⟨[106, 117, 109, 112], 0, 0, 0, 4, [], []⟩,
  ⟨[122, 101, 114, 111], 1, 0, 0, 4, [97], []⟩,
  ⟨[98, 97, 99, 107], 0, 0, 3, 4, [], []⟩,
  ⟨[114, 101, 97, 100], 1, 2, 0, 5, [], [97]⟩,
  ⟨[119, 114, 105, 116, 101], 1, 2, 0, 5, [], [97]⟩,
  ⟨[112, 117, 116], 1, 2, 0, 5, [], [97]⟩,
  ⟨[116, 97, 107, 101], 1, 2, 0, 5, [], [97]⟩,
  ⟨[100, 111, 110, 101], 0, 0, 0, 0, [], []⟩]
def shapesCells : Array Value := (shapes.flatMap Shape.cells).toArray
theorem shapesCells_size : shapesCells.size = 154 := by kernel_rfl

theorem hidStop {p : Prop} (h : Hid p) : p := h.out
theorem wpList_build {P : Program} {ops : Array Oper} {rest : List Oper} {o : Oper} {a : Act} {w : World} {Q : Exit → Act → World → Prop} (hgd : o.guard = none) (t : TypeId) (parts : Array (Nat × Operand)) (ho : o.op = .build t parts)
    (cells : Array Value) (hc : P.built t (parts.map fun (i, x) => (i, a.eval x)).toList = some cells) (h : wpList P ops Q rest (a.put o.dst (.agg cells)) w) : wpList P ops Q (o :: rest) a w :=
  wpList_plain hgd fun _ hK => wp_build t parts ho (by rw [hc]; rfl) (hK _ _ (by rw [hc]; exact h))

set_option maxRecDepth 100000 in
set_option maxHeartbeats 2000000 in
theorem shapes_any (w : World) : Calls Try.prog 44 #[] w fun e w' => e = .returned (.agg shapesCells) ∧ Chg [] w w' := by
  go_enter Try.func44, Try.ntmps44
  go_wp2_with ((with_reducible show wpList _ _ _ (⟨some 3, _, _, _, _, _⟩ :: _) _ _); refine hidStop ?_)
  refine Lib.hid ?_
  have hB : Blk (w.alloc (.cells Try.zeroCells81 81)) w.heap.size Try.zeroCells81 81 := Blk.new w _ _
  have hC : Chg [] w (w.alloc (.cells Try.zeroCells81 81)) := (Chg.refl _ _).alloc _
  have hlt : w.heap.size < (w.alloc (.cells Try.zeroCells81 81)).heap.size := hB.lt
  go_wp2_with (first | ((with_reducible show wpList _ _ _ (⟨some 37, _, _, _, _, _⟩ :: _) _ _); refine hidStop ?_) | (go_at_call 58; refine (three_any _ _).mono ?_; rintro e w1 ⟨rfl, hc1⟩; have hC := hC.trans hc1; have hB := hB.keep hc1 (by simp); clear hc1) | (go_at_call 59; refine (call_any _ _).mono ?_; rintro e w1 ⟨rfl, hc1⟩; have hC := hC.trans hc1; have hB := hB.keep hc1 (by simp); clear hc1))
  refine Lib.hid ?_
  refine wpList_build rfl _ _ rfl shapesCells (by kernel_rfl) ?_
  refine wpList_store_row rfl 81 (.tmp 0) (.tmp 37) rfl w.heap.size shapesCells rfl rfl 81 Try.zeroCells81 hB (by kernel_rfl) (by kernel_rfl) (by kernel_rfl) ?_
  go_wp2_with fail
  have hw : Chg [w.heap.size] w1 (w1.setRow w.heap.size shapesCells) := ⟨rfl, rfl, rfl, by simp [World.setRow], fun k hk hn => setRow_other w1 w.heap.size k _ (by simpa using hn)⟩
  refine bodyPost_ret (v := .agg shapesCells) (results_cell_row rfl _ _ w.heap.size 81 shapesCells (0, 0) _ rfl (setRow_heap w1 w.heap.size _ _ _ _ hB) Try.underlying81 rfl (by kernel_rfl)) rfl ⟨rfl, hC.into hw (fun x hx => .inr (by simp at hx; omega))⟩
end Go.Proofs.Ytihgljfiggdcpaa.isa
