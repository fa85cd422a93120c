/- Layouts: the law's awake. -/
import Derived.Test.YtjplamoofkcojaaLay7
namespace Go.Proofs.Ytjplamoofkcojaa.lay
open Go Go.RowKit Go.Proofs.Ytjplamoofkcojaa.kit Go.Proofs.Ytjplamoofkcojaa.obj Go.Proofs.Ytjplamoofkcojaa.mem Go.Proofs.Ytjplamoofkcojaa.core
set_option linter.unusedVariables false
set_option linter.unusedSimpArgs false
set_option maxRecDepth 20000
def tk0 : Tk := ⟨0, 0, 0, 0, 0, 3, none, 0, 0⟩
def ob0 (h : Nat) : Ob := ⟨3, 2, 0, 1, 0, some ⟨h + 1, 0, none⟩, 2, 2, 0, some ⟨h + 1 + 1, 0, none⟩, 1, 1⟩
theorem reads_blk {w : World} {b : Nat} {c : Array Value} {T : TypeId} (n : Nat) (h : Blk w b c T) (hn : c.toList.length = 1 * n) : Reads w n (.slice (some ⟨b, 0, none⟩) 1 1) 1 c.toList :=
  ⟨hn, by decide, .inr ⟨by decide, b, 0, 1, rfl, Nat.le_refl _, by decide, fun i u hu => by rw [Nat.zero_add]; exact h.cell (by rw [← Array.getElem?_toList]; exact hu)⟩⟩
set_option maxHeartbeats 2000000 in
theorem awake_any (W : World) : Calls Try.prog 21 #[] W fun e W' => e = .returned (.bool true) ∧ Chg [] W W' := by
  have hT : ReadsT (((((W.alloc (.cells #[.int .i64 0, .int .i64 0, .int .i64 0, .int .i64 0, .int .i64 0, .int .i64 3, .slice none 0 0] 81)).alloc (.cells #[.int .u32 1, .int .u32 2] 22)).alloc (.cells #[.int .i64 0] 3)).alloc (.cells #[.int .i64 3, .int .i64 2, .int .i64 0, .int .i64 1, .int .u32 0, .slice (some ⟨W.heap.size + 1, 0, none⟩) 2 2, .int .i64 0, .slice (some ⟨W.heap.size + 1 + 1, 0, none⟩) 1 1] 26)).alloc (.cells #[.slice (some ⟨W.heap.size, 0, none⟩) 1 1, .slice (some ⟨W.heap.size + 1 + 1 + 1, 0, none⟩) 1 1] 49)) (.slice (some ⟨W.heap.size, 0, none⟩) 1 1) [tk0] :=
    ⟨reads_blk 7 (((((Blk.new W _ _).alloc _).alloc _).alloc _).alloc _) rfl, by intro t ht; simp at ht; subst ht; exact ⟨by decide, by decide⟩⟩
  have hO : ReadsO (((((W.alloc (.cells #[.int .i64 0, .int .i64 0, .int .i64 0, .int .i64 0, .int .i64 0, .int .i64 3, .slice none 0 0] 81)).alloc (.cells #[.int .u32 1, .int .u32 2] 22)).alloc (.cells #[.int .i64 0] 3)).alloc (.cells #[.int .i64 3, .int .i64 2, .int .i64 0, .int .i64 1, .int .u32 0, .slice (some ⟨W.heap.size + 1, 0, none⟩) 2 2, .int .i64 0, .slice (some ⟨W.heap.size + 1 + 1, 0, none⟩) 1 1] 26)).alloc (.cells #[.slice (some ⟨W.heap.size, 0, none⟩) 1 1, .slice (some ⟨W.heap.size + 1 + 1 + 1, 0, none⟩) 1 1] 49)) (.slice (some ⟨W.heap.size + 1 + 1 + 1, 0, none⟩) 1 1) [ob0 W.heap.size] := by
    have hb := (Blk.new (((W.alloc (.cells #[.int .i64 0, .int .i64 0, .int .i64 0, .int .i64 0, .int .i64 0, .int .i64 3, .slice none 0 0] 81)).alloc (.cells #[.int .u32 1, .int .u32 2] 22)).alloc (.cells #[.int .i64 0] 3)) #[.int .i64 3, .int .i64 2, .int .i64 0, .int .i64 1, .int .u32 0, .slice (some ⟨W.heap.size + 1, 0, none⟩) 2 2, .int .i64 0, .slice (some ⟨W.heap.size + 1 + 1, 0, none⟩) 1 1] 26).alloc (.cells #[.slice (some ⟨W.heap.size, 0, none⟩) 1 1, .slice (some ⟨W.heap.size + 1 + 1 + 1, 0, none⟩) 1 1] 49)
    rw [show (((W.alloc (.cells #[.int .i64 0, .int .i64 0, .int .i64 0, .int .i64 0, .int .i64 0, .int .i64 3, .slice none 0 0] 81)).alloc (.cells #[.int .u32 1, .int .u32 2] 22)).alloc (.cells #[.int .i64 0] 3)).heap.size = W.heap.size + 1 + 1 + 1 by simp] at hb
    exact reads_blk 8 hb rfl
  have hs : sumI (lensL [tk0] [ob0 W.heap.size]) = 6 := by show sumI [3, 3] = 6; rfl
  have hok := Of_ok _ 1 1 _ 1 1 [tk0] [ob0 W.heap.size] _ hT hO (by intro o ho; simp at ho; subst ho; show ObjW 3 2 0 1 0 2 1; exact ⟨by decide, by decide, by decide, by decide, by decide, by decide, by decide⟩) ⟨by decide, by simp⟩ (by rfl) (by rw [hs]; decide)
  rw [hs] at hok
  have hcut : (cutL 0 (lensL [tk0] [ob0 W.heap.size])).drop [tk0].length = [(3, 3)] := rfl
  rw [hcut] at hok
  have HO := Lib.hid hok
  have HC : Hid (Chg [] W (((((W.alloc (.cells #[.int .i64 0, .int .i64 0, .int .i64 0, .int .i64 0, .int .i64 0, .int .i64 3, .slice none 0 0] 81)).alloc (.cells #[.int .u32 1, .int .u32 2] 22)).alloc (.cells #[.int .i64 0] 3)).alloc (.cells #[.int .i64 3, .int .i64 2, .int .i64 0, .int .i64 1, .int .u32 0, .slice (some ⟨W.heap.size + 1, 0, none⟩) 2 2, .int .i64 0, .slice (some ⟨W.heap.size + 1 + 1, 0, none⟩) 1 1] 26)).alloc (.cells #[.slice (some ⟨W.heap.size, 0, none⟩) 1 1, .slice (some ⟨W.heap.size + 1 + 1 + 1, 0, none⟩) 1 1] 49))) := Lib.hid ((((((Chg.refl _ _).alloc _).alloc _).alloc _).alloc _).alloc _)
  clear hT hO hs hok hcut
  go_enter Try.func21, Try.ntmps21
  go_wp2_with fail
  refine HO.out.mono ?_
  rintro e w1 ⟨v1, v2, rfl, ho1, ho2, hc⟩
  obtain ⟨a1, c1, rfl, -⟩ := reads_slice (Reads.of_own ho1 (by decide))
  obtain ⟨b2, off2, hx2, hc2, -⟩ := reads_index (P := Try.prog) Try.underlying51 szReg (Reads.of_own ho2 (by decide))
  obtain ⟨a2, c2, rfl, -⟩ := reads_slice (Reads.of_own ho2 (by decide))
  have HC1 := Lib.hid (HC.out.trans hc)
  have g0 := hx2 0 (by decide)
  have q0 := ((Chg.refl [] w1).alloc (.cells #[.slice a1 ((cutL 0 (lensL [tk0] [ob0 W.heap.size])).take [tk0].length).length c1, .slice a2 [((3 : Int), (3 : Int))].length c2, .int .i64 6] 53)).keep (hc2 0 _ rfl) (by simp)
  have q1 := ((Chg.refl [] w1).alloc (.cells #[.slice a1 ((cutL 0 (lensL [tk0] [ob0 W.heap.size])).take [tk0].length).length c1, .slice a2 [((3 : Int), (3 : Int))].length c2, .int .i64 6] 53)).keep (hc2 1 _ rfl) (by simp)
  generalize ((cutL 0 (lensL [tk0] [ob0 W.heap.size])).take [tk0].length).length = n1 at *
  simp only [List.length_cons, List.length_nil, Nat.zero_add, Nat.zero_mul, Nat.add_zero] at *
  rw [show ((0 : Nat) : Int) = 0 from rfl] at g0
  clear ho1 ho2 hx2 hc2 hc
  go_wp2_with fail
  trace_state
  go_ret
  exact ⟨rfl, HC1.out.alloc _⟩
end Go.Proofs.Ytjplamoofkcojaa.lay
