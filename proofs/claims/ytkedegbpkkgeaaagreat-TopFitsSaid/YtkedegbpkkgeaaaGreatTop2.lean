import Derived.Test.YtkedegbpkkgeaaaGreatProg
import Derived.Test.YtkedegbpkkgeaaaGreatTop1
import Derived.Laws.Rows
import Derived.Laws.Tables
/- Package codec, its reference and plain.Bytes: the walks, part 1. -/
namespace Go.Proofs.YtkedegbpkkgeaaaGreat.codec
open Go Go.RowKit Go.Proofs.YtkedegbpkkgeaaaGreat.kit
set_option linter.unusedVariables false
set_option linter.unusedSimpArgs false

/-- a row of bytes, read as numbers -/
def ReadsB (w : World) (v : Value) (zs : List Int) : Prop := Reads w 1 v zs.length (zs.map (Value.int .u8)) ∧ ∀ n ∈ zs, (Lit.int .u8 n).wf = true

end Go.Proofs.YtkedegbpkkgeaaaGreat.codec
/- Package isa: the shapes of all kinds. -/
namespace Go.Proofs.YtkedegbpkkgeaaaGreat.isa
open Go Go.RowKit Go.Proofs.YtkedegbpkkgeaaaGreat.kit
set_option linter.unusedVariables false
set_option linter.unusedSimpArgs false
set_option maxRecDepth 20000

theorem three_any (s : ByteArray) (w : World) :
    Calls Tryz.prog 165 #[.string s] w fun e w' => e = .returned (.agg #[.string s, .int .i64 1, .int .i64 1, .int .i64 1, .int .i64 0, .string ⟨#[98, 99]⟩, .string ⟨#[97]⟩]) ∧ Chg [] w w' := by
  go_enter Tryz.func165, Tryz.ntmps165
  go_wp2
  refine bodyPost_ret (v := .agg #[.string s, .int .i64 1, .int .i64 1, .int .i64 1, .int .i64 0, .string ⟨#[98, 99]⟩, .string ⟨#[97]⟩]) (by simp [results, Tryz.results165, go_sem]) rfl ⟨rfl, ?_⟩
  exact (Chg.refl _ _).alloc _
theorem known_any (k : Int) (w : World) :
    Calls Tryz.prog 148 #[.int .i64 k] w fun e w' => e = .returned (.bool (decide (0 ≤ k) && decide (k < 22))) ∧ w = w' := by
  go_enter Tryz.func148, Tryz.ntmps148
  go_wp2
  · go_ret
    refine ⟨?_, rfl⟩
    rw [show decide (0 ≤ k) = true from by simp; assumption, Bool.true_and]; rfl
  · go_ret
    refine ⟨?_, rfl⟩
    rw [show decide (0 ≤ k) = false from by simp; assumption, Bool.false_and]; rfl
theorem call_any (s : ByteArray) (w : World) :
    Calls Tryz.prog 166 #[.string s] w fun e w' => e = .returned (.agg #[.string s, .int .i64 1, .int .i64 2, .int .i64 0, .int .i64 5, .string ⟨#[]⟩, .string ⟨#[97]⟩]) ∧ Chg [] w w' := by
  go_enter Tryz.func166, Tryz.ntmps166
  go_wp2
  refine bodyPost_ret (v := .agg #[.string s, .int .i64 1, .int .i64 2, .int .i64 0, .int .i64 5, .string ⟨#[]⟩, .string ⟨#[97]⟩]) (by simp [results, Tryz.results166, go_sem]) rfl ⟨rfl, ?_⟩
  exact (Chg.refl _ _).alloc _

structure Shape where
  word : List UInt8
  a : Int
  b : Int
  c : Int
  n : Int
  uses : List UInt8
  sets : List UInt8
def Shape.cells (s : Shape) : List Value := [.string ⟨⟨s.word⟩⟩, .int .i64 s.a, .int .i64 s.b, .int .i64 s.c, .int .i64 s.n, .string ⟨⟨s.uses⟩⟩, .string ⟨⟨s.sets⟩⟩]
def shapes : List Shape := [
  ⟨[110, 111, 112], 0, 0, 0, 0, [], []⟩,
  ⟨[115, 101, 116], 1, 0, 0, 6, [], [97]⟩,
  ⟨[109, 111, 118, 101], 1, 1, 0, 0, [98], [97]⟩,
  ⟨[97, 100, 100], 1, 1, 1, 0, [98, 99], [97]⟩,
  ⟨[115, 117, 98], 1, 1, 1, 0, [98, 99], [97]⟩,
  ⟨[109, 117, 108], 1, 1, 1, 0, [98, 99], [97]⟩,
  ⟨[97, 110, 100], 1, 1, 1, 0, [98, 99], [97]⟩,
  ⟨[111, 114], 1, 1, 1, 0, [98, 99], [97]⟩,
  ⟨[120, 111, 114], 1, 1, 1, 0, [98, 99], [97]⟩,
  ⟨[108, 101, 115, 115], 1, 1, 1, 0, [98, 99], [97]⟩,
  ⟨[101, 113, 117, 97, 108], 1, 1, 1, 0, [98, 99], [97]⟩,
  ⟨[108, 111, 97, 100], 1, 1, 0, 6, [98], [97]⟩,
  ⟨[115, 116, 111, 114, 101], 1, 1, 0, 6, [97, 98], []⟩,
  ⟨[99, 97, 115], 1, 1, 1, 6, [97, 98, 99], [97]⟩,
  ⟨[106, 117, 109, 112], 0, 0, 0, 4, [], []⟩,
  ⟨[122, 101, 114, 111], 1, 0, 0, 4, [97], []⟩,
  ⟨[98, 97, 99, 107], 0, 0, 3, 4, [], []⟩,
  ⟨[114, 101, 97, 100], 1, 2, 0, 5, [], [97]⟩,
  ⟨[119, 114, 105, 116, 101], 1, 2, 0, 5, [], [97]⟩,
  ⟨[112, 117, 116], 1, 2, 0, 5, [], [97]⟩,
  ⟨[116, 97, 107, 101], 1, 2, 0, 5, [], [97]⟩,
  ⟨[100, 111, 110, 101], 0, 0, 0, 0, [], []⟩]
def shapesCells : Array Value := (shapes.flatMap Shape.cells).toArray
theorem hidStop {p : Prop} (h : Hid p) : p := h.out
theorem wpList_build {P : Program} {ops : Array Oper} {rest : List Oper} {o : Oper} {a : Act} {w : World} {Q : Exit → Act → World → Prop} (hgd : o.guard = none) (t : TypeId) (parts : Array (Nat × Operand)) (ho : o.op = .build t parts)
    (cells : Array Value) (hc : P.built t (parts.map fun (i, x) => (i, a.eval x)).toList = some cells) (h : wpList P ops Q rest (a.put o.dst (.agg cells)) w) : wpList P ops Q (o :: rest) a w :=
  wpList_plain hgd fun _ hK => wp_build t parts ho (by rw [hc]; rfl) (hK _ _ (by rw [hc]; exact h))

set_option maxRecDepth 100000 in
set_option maxHeartbeats 2000000 in
theorem shapes_any (w : World) : Calls Tryz.prog 149 #[] w fun e w' => e = .returned (.agg shapesCells) ∧ Chg [] w w' := by
  go_enter Tryz.func149, Tryz.ntmps149
  go_wp2_with ((with_reducible show wpList _ _ _ (⟨some 3, _, _, _, _, _⟩ :: _) _ _); refine hidStop ?_)
  refine Lib.hid ?_
  have hB : Blk (w.alloc (.cells Tryz.zeroCells140 140)) w.heap.size Tryz.zeroCells140 140 := Blk.new w _ _
  have hC : Chg [] w (w.alloc (.cells Tryz.zeroCells140 140)) := (Chg.refl _ _).alloc _
  have hlt : w.heap.size < (w.alloc (.cells Tryz.zeroCells140 140)).heap.size := hB.lt
  go_wp2_with (first | ((with_reducible show wpList _ _ _ (⟨some 37, _, _, _, _, _⟩ :: _) _ _); refine hidStop ?_) | (go_at_call 165; refine (three_any _ _).mono ?_; rintro e w1 ⟨rfl, hc1⟩; have hC := hC.trans hc1; have hB := hB.keep hc1 (by simp); clear hc1) | (go_at_call 166; refine (call_any _ _).mono ?_; rintro e w1 ⟨rfl, hc1⟩; have hC := hC.trans hc1; have hB := hB.keep hc1 (by simp); clear hc1))
  refine Lib.hid ?_
  refine wpList_build rfl _ _ rfl shapesCells (by kernel_rfl) ?_
  refine wpList_store_row rfl 140 (.tmp 0) (.tmp 37) rfl w.heap.size shapesCells rfl rfl 140 Tryz.zeroCells140 hB (by kernel_rfl) (by kernel_rfl) (by kernel_rfl) ?_
  go_wp2_with fail
  have hw : Chg [w.heap.size] w1 (w1.setRow w.heap.size shapesCells) := ⟨rfl, rfl, rfl, by simp [World.setRow], fun k hk hn => setRow_other w1 w.heap.size k _ (by simpa using hn)⟩
  refine bodyPost_ret (v := .agg shapesCells) (results_cell_row rfl _ _ w.heap.size 140 shapesCells (0, 0) _ rfl (setRow_heap w1 w.heap.size _ _ _ _ hB) Tryz.underlying140 rfl (by kernel_rfl)) rfl ⟨rfl, hC.into hw (fun x hx => .inr (by simp at hx; omega))⟩
end Go.Proofs.YtkedegbpkkgeaaaGreat.isa
/- Package isa: Word, Kind. -/
namespace Go.Proofs.YtkedegbpkkgeaaaGreat.isa
open Go Go.RowKit Go.Proofs.YtkedegbpkkgeaaaGreat.kit
set_option linter.unusedVariables false
set_option linter.unusedSimpArgs false
set_option maxRecDepth 20000

/-- a shape, picked out of all -/
def shapeAt (k : Nat) : Shape := shapes.getD k ⟨[], 0, 0, 0, 0, [], []⟩
def wordB (k : Nat) : ByteArray := ⟨⟨(shapeAt k).word⟩⟩
def usesB (k : Nat) : ByteArray := ⟨⟨(shapeAt k).uses⟩⟩
def setsB (k : Nat) : ByteArray := ⟨⟨(shapeAt k).sets⟩⟩
theorem pick_all : (List.range 22).map (fun k => shapesCells.extract (k * 7) (k * 7 + 7)) = (List.range 22).map (fun k => (shapeAt k).cells.toArray) := by kernel_rfl
theorem pick_run (k : Nat) (hk : k < 22) (u : World) : (Instr.index 140 (.agg shapesCells) (.int .i64 (k : Int))).run Tryz.prog u =
    .ok (.agg #[.string (wordB k), .int .i64 (shapeAt k).a, .int .i64 (shapeAt k).b, .int .i64 (shapeAt k).c, .int .i64 (shapeAt k).n, .string (usesB k), .string (setsB k)]) u := by
  have h1 : (Tryz.prog.info? 139).map (·.size) = some 7 := by kernel_rfl
  simp [Instr.index, go_sem]
  rw [if_pos hk, List.map_inj_left.1 pick_all k (List.mem_range.2 hk)]
  rfl
theorem known_in (k : Nat) (hk : k < 22) (w : World) : Calls Tryz.prog 148 #[.int .i64 (k : Int)] w fun e w' => e = .returned (.bool true) ∧ w = w' := by
  refine (known_any k w).mono ?_
  rintro e w' ⟨rfl, rfl⟩
  refine ⟨?_, rfl⟩
  rw [show decide (0 ≤ (k : Int)) = true from by simp, show decide ((k : Int) < 22) = true from by simp; omega]; rfl
theorem known_out (k : Int) (hk : k < 0 ∨ 22 ≤ k) (w : World) : Calls Tryz.prog 148 #[.int .i64 k] w fun e w' => e = .returned (.bool false) ∧ w = w' := by
  refine (known_any k w).mono ?_
  rintro e w' ⟨rfl, rfl⟩
  refine ⟨?_, rfl⟩
  rw [show (decide (0 ≤ k) && decide (k < 22)) = false from by simp; omega]
/-- what Kind tells: the first of so many -/
def firstW (s : ByteArray) (n : Nat) : Prop := ∀ i, i < n → wordB i ≠ s
end Go.Proofs.YtkedegbpkkgeaaaGreat.isa
/- Package codec and its reference: laying numbers as bytes. -/
namespace Go.Proofs.YtkedegbpkkgeaaaGreat.codec
open Go Go.RowKit Go.Proofs.YtkedegbpkkgeaaaGreat.kit
set_option linter.unusedVariables false
set_option linter.unusedSimpArgs false

/-- the first n bytes of a word, the least first -/
def leB (W : Int) : Nat → List Int
  | 0 => []
  | n + 1 => leB W n ++ [W / 256 ^ n % 256]
/-- a row of bytes of the call's own -/
def OwnB (w : World) (B : Nat) (v : Value) (zs : List Int) : Prop := w.ownsRow B 5 1 v zs.length (zs.map (Value.int .u8))

end Go.Proofs.YtkedegbpkkgeaaaGreat.codec
/- Package codec: a reader of bytes: the walks. -/
namespace Go.Proofs.YtkedegbpkkgeaaaGreat.codec
open Go Go.RowKit Go.Proofs.YtkedegbpkkgeaaaGreat.kit
set_option linter.unusedVariables false
set_option linter.unusedSimpArgs false

section
variable {b g : Nat} {zs : List Int} {a : Nat} {bad : Bool} {w : World}
end

end Go.Proofs.YtkedegbpkkgeaaaGreat.codec
/- Package codec: a reader's methods, walked. -/
namespace Go.Proofs.YtkedegbpkkgeaaaGreat.codec
open Go Go.RowKit Go.Proofs.YtkedegbpkkgeaaaGreat.kit
set_option linter.unusedVariables false
set_option linter.unusedSimpArgs false

/-- bytes as a number, the least first -/
def numL : List Int → Int
  | [] => 0
  | x :: r => x + 256 * numL r
end Go.Proofs.YtkedegbpkkgeaaaGreat.codec
/- Package codec: laying numbers; the chapter's example. -/
namespace Go.Proofs.YtkedegbpkkgeaaaGreat.codec
open Go Go.RowKit Go.Proofs.YtkedegbpkkgeaaaGreat.kit
set_option linter.unusedVariables false
set_option linter.unusedSimpArgs false

theorem OwnB.reads {w : World} {B : Nat} {v : Value} {zs : List Int} (h : OwnB w B v zs) (hw : ∀ n ∈ zs, (Lit.int .u8 n).wf = true) : ReadsB w v zs := ⟨Reads.of_own h (by decide), hw⟩
theorem ReadsB.chg {w w' : World} {v : Value} {zs : List Int} (h : ReadsB w v zs) (k : Chg [] w w') : ReadsB w' v zs := ⟨h.1.fresh k, h.2⟩
theorem ReadsB.nil (w : World) : ReadsB w (.slice none 0 0) [] := ⟨Reads.nil w 1, by simp⟩

end Go.Proofs.YtkedegbpkkgeaaaGreat.codec
