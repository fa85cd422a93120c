/- Package isa: the chapter's example (awake); the reference's words. -/
import Derived.Test.YtihgljfiggdcpaaIsa4
namespace Go.Proofs.Ytihgljfiggdcpaa.isa
open Go Go.RowKit Go.Proofs.Ytihgljfiggdcpaa.kit Go.Proofs.Ytihgljfiggdcpaa.codec
set_option linter.unusedVariables false
set_option maxRecDepth 20000

theorem reads_row (w : World) (c : Array Value) (T : TypeId) (size : Nat) (n : Nat) (hn : 0 < n) (h : c.size = n * size) (hm : n ≤ maxLen) : Reads (w.alloc (.cells c T)) size (.slice (some ⟨w.heap.size, 0, none⟩) n n) n c.toList :=
  ⟨by simpa using h, hm, .inr ⟨hn, w.heap.size, 0, n, rfl, Nat.le_refl _, hm, fun i u hu => by
    have hu' : c[i]? = some u := by simpa using hu
    simpa using (Blk.new w c T).cell (o := i) hu'⟩⟩
theorem bytes_lit (w : World) (zs : List Int) (n : Nat) (hn : zs.length = n) (hm : n ≤ maxLen) (hw : ∀ x ∈ zs, (Lit.int .u8 x).wf = true) : ReadsB (w.alloc (.cells (zs.map (Value.int .u8)).toArray 5)) (.slice (some ⟨w.heap.size, 0, none⟩) n n) zs := by
  subst hn
  exact ⟨by simpa using reads_lit w (zs.map (Value.int .u8)).toArray 5 zs.length (by simp) hm, hw⟩
theorem awake_right : [(⟨3, 1, 2, 3, 0⟩ : Ins)].all rightI = true := by kernel_rfl
theorem awake_enc : encL [(⟨3, 1, 2, 3, 0⟩ : Ins)] true = [3, 1, 2, 3, 0, 0, 0, 0] := by kernel_rfl
theorem awake_right1 : rightI ⟨3, 1, 2, 3, 0⟩ = true := by kernel_rfl
theorem awake_word : ((wordB 3).toList == [97, 100, 100]) = true := by
  rw [ByteArray.toList_eq]; kernel_rfl
set_option maxHeartbeats 2000000 in
theorem awake_any (w : World) : Calls Try.prog 20 #[] w fun e w' => e = .returned (.bool true) ∧ Chg [] w w' := by
  have hw3 := awake_word
  go_enter Try.func20, Try.ntmps20
  go_wp2_with fail
  have hrow : ∀ (u : World) (b : Nat), b = u.heap.size → Reads (u.alloc (.cells #[.int .i64 3, .int .i64 1, .int .i64 2, .int .i64 3, .int .u32 0] 60)) 5 (.slice (some ⟨b, 0, none⟩) 1 1) [(⟨3, 1, 2, 3, 0⟩ : Ins)].length ([(⟨3, 1, 2, 3, 0⟩ : Ins)].flatMap Ins.cells) := fun u b hb => by subst hb; exact reads_row u _ _ 5 1 (by decide) rfl (by decide)
  refine (Encode_any _ [⟨3, 1, 2, 3, 0⟩] _ (hrow _ _ (by simp)) (by decide) (by intro i hi; simp at hi; subst hi; rfl)).mono ?_
  rintro e w1 ⟨v1, rfl, h1, hc1⟩
  rw [awake_right] at h1 ⊢
  rw [awake_enc] at h1
  obtain ⟨a1, c1, rfl, _⟩ := reads_slice h1.1
  have hbx := Blk.keep (((Blk.new w #[.int .i64 3, .int .i64 1, .int .i64 2, .int .i64 3, .int .u32 0] 60)).alloc _) hc1 (by simp)
  have e0 : w1.cell? ⟨w.heap.size, 0, none⟩ = some (.int .i64 3) := hbx.cell rfl
  have e1 : w1.cell? ⟨w.heap.size, 1, none⟩ = some (.int .i64 1) := hbx.cell rfl
  have e2 : w1.cell? ⟨w.heap.size, 2, none⟩ = some (.int .i64 2) := hbx.cell rfl
  have e3 : w1.cell? ⟨w.heap.size, 3, none⟩ = some (.int .i64 3) := hbx.cell rfl
  have e4 : w1.cell? ⟨w.heap.size, 4, none⟩ = some (.int .u32 0) := hbx.cell rfl
  have HC1 := Lib.hid (((Chg.refl [] w).alloc _).alloc _ |>.trans hc1)
  have hlt1 : w.heap.size < w1.heap.size := hbx.lt
  have HB1 := Lib.hid hbx
  have H1 := Lib.hid h1
  clear hc1 hbx h1
  clear hrow
  go_wp2_with (first | (go_at_call 28; refine (Bytes_any _ _ _ [3, 1, 2, 3, 0, 0, 0, 0] _ (H1.out.chg ((Chg.refl [] _).alloc _)) (bytes_lit _ [3, 1, 2, 3, 0, 0, 0, 0] 8 rfl (by decide) (by decide))).mono ?_; rintro e w2 ⟨rfl, rfl⟩) | (go_at_call 30; refine (Right_any 3 1 2 3 0 (by decide) _).mono ?_; rintro e w3 ⟨rfl, hc3⟩; rw [awake_right1]) | (go_at_call 23; refine (Word_in 3 (by decide) _).mono ?_; rintro e w4 ⟨rfl, hc4⟩))

  go_ret
  exact ⟨rfl, (((HC1.out.alloc _).trans hc3).trans hc4)⟩

def wordsC : Array Value := ((List.range 22).map fun k => Value.string (wordB k)).toArray
theorem wordsC_size : wordsC.size = 22 := by simp [wordsC]
theorem wordsC_get (k : Nat) (hk : k < 22) : wordsC[k]? = some (.string (wordB k)) := by simp [wordsC, hk]
theorem wordB_inj (i j : Nat) (hi : i < 22) (hj : j < 22) (h : wordB i = wordB j) : i = j := by
  have key : (List.range 22).all (fun i => (List.range 22).all fun j => decide ((shapeAt i).word = (shapeAt j).word → i = j)) = true := by kernel_rfl
  have h1 := List.all_eq_true.1 (List.all_eq_true.1 key i (List.mem_range.2 hi)) j (List.mem_range.2 hj)
  have h2 := of_decide_eq_true h1
  refine h2 ?_
  simpa [wordB] using h
theorem Words_any (w : World) : Calls Try.prog 21 #[] w fun e w' => ∃ b, e = .returned (.slice (some ⟨b, 0, none⟩) 22 22) ∧ Blk w' b wordsC 9 ∧ Chg [] w w' := by
  have hc : ∀ u : World, Blk (u.alloc (.cells wordsC 9)) u.heap.size wordsC 9 := fun u => Blk.new u _ _
  rw [show wordsC = #[.string (wordB 0), .string (wordB 1), .string (wordB 2), .string (wordB 3), .string (wordB 4), .string (wordB 5), .string (wordB 6), .string (wordB 7), .string (wordB 8), .string (wordB 9), .string (wordB 10), .string (wordB 11), .string (wordB 12), .string (wordB 13), .string (wordB 14), .string (wordB 15), .string (wordB 16), .string (wordB 17), .string (wordB 18), .string (wordB 19), .string (wordB 20), .string (wordB 21)] from by kernel_rfl] at hc ⊢
  go_enter Try.func21, Try.ntmps21
  go_wp2
  go_ret
  exact ⟨_, rfl, hc _, (Chg.refl _ _).alloc _⟩
end Go.Proofs.Ytihgljfiggdcpaa.isa
