/- Package mem: the walks, part 2. -/
import Derived.Test.YtbbpnpokccfhjaaMem
import Derived.WalkSpells
import Derived.Deep.RegionWith
import Derived.StillTailTactics
namespace Go.Proofs.Ytbbpnpokccfhjaa.mem
open Go Go.RowKit Go.Proofs.Ytbbpnpokccfhjaa.kit
set_option linter.unusedVariables false
set_option maxRecDepth 20000

theorem Read_ok (b g c : Nat) (ws : List Int) (n : Int) (i : Nat) (w : World) (h : MemAt w b (.slice (some ⟨g, 0, none⟩) ws.length c) ws n) (hi : i < ws.length) (hn0 : 0 ≤ n) (hn : n ≤ 1000000000000) :
    Calls Try.prog 103 #[.pointer (some ⟨b, 0, none⟩), .int .i64 i] w fun e w' => e = .returned (.tuple #[.int .u32 (ws.getD i 0), .int .i64 0]) ∧ MemAt w' b (.slice (some ⟨g, 0, none⟩) ws.length c) ws (n + 1) ∧ Chg [b] w w' := by
  have HW := Lib.hid (word_ok b g c ws n i w h hi hn0 hn)
  have h1 := h.step (n + 1)
  have cc := h1.cell i hi
  have HM := Lib.hid h1
  generalize hx : ws.getD i 0 = x at *
  clear hx h h1
  go_enter Try.func103, Try.ntmps103
  go_wp2_with (go_at_call 92; refine HW.out.mono ?_; rintro e w1 ⟨rfl, rfl⟩)
  go_ret2
  exact ⟨rfl, HM.out, (Chg.refl _ _).setCell (.inl (by simp)) _⟩
theorem Read_out (b : Nat) (sv : Value) (ws : List Int) (n i : Int) (w : World) (h : MemAt w b sv ws n) (hi : i < 0 ∨ (ws.length : Int) ≤ i) :
    Calls Try.prog 103 #[.pointer (some ⟨b, 0, none⟩), .int .i64 i] w fun e w' => e = .returned (.tuple #[.int .u32 0, .int .i64 5]) ∧ w = w' := by
  have HW := Lib.hid (word_out b sv ws n i w h hi)
  clear h hi
  go_enter Try.func103, Try.ntmps103
  go_wp2_with (go_at_call 92; refine HW.out.mono ?_; rintro e w1 ⟨rfl, rfl⟩)
  go_ret2
  exact ⟨rfl, rfl⟩
theorem Read_nil (i : Int) (w : World) :
    Calls Try.prog 103 #[.pointer none, .int .i64 i] w fun e w' => e = .returned (.tuple #[.int .u32 0, .int .i64 1]) ∧ w = w' := by
  go_enter Try.func103, Try.ntmps103
  go_wp2_with (go_at_call 92; refine (word_nil _ _).mono ?_; rintro e w1 ⟨rfl, rfl⟩)
  go_ret2
  exact ⟨rfl, rfl⟩

theorem Write_ok (b g c : Nat) (ws : List Int) (n : Int) (i : Nat) (x : Int) (w : World) (h : MemAt w b (.slice (some ⟨g, 0, none⟩) ws.length c) ws n) (hi : i < ws.length) (hn0 : 0 ≤ n) (hn : n ≤ 1000000000000) (hx : (Lit.int .u32 x).wf = true) :
    Calls Try.prog 63 #[.pointer (some ⟨b, 0, none⟩), .int .i64 i, .int .u32 x] w fun e w' => e = .returned (.int .i64 0) ∧ MemAt w' b (.slice (some ⟨g, 0, none⟩) ws.length c) (ws.set i x) (n + 1) ∧ Chg [b, g] w w' := by
  have HW := Lib.hid (word_ok b g c ws n i w h hi hn0 hn)
  have h1 := h.step (n + 1)
  have cc := h1.cell i hi
  have ff := h1.free i
  have HM := Lib.hid (h1.put i x hx)
  clear h h1
  go_enter Try.func63, Try.ntmps63
  go_wp2_with (go_at_call 92; refine HW.out.mono ?_; rintro e w1 ⟨rfl, rfl⟩)
  go_ret
  exact ⟨rfl, HM.out, ((Chg.refl _ _).setCell (.inl (by simp)) _).setCell (.inl (by simp)) _⟩
theorem Write_out (b : Nat) (sv : Value) (ws : List Int) (n i x : Int) (w : World) (h : MemAt w b sv ws n) (hi : i < 0 ∨ (ws.length : Int) ≤ i) :
    Calls Try.prog 63 #[.pointer (some ⟨b, 0, none⟩), .int .i64 i, .int .u32 x] w fun e w' => e = .returned (.int .i64 5) ∧ w = w' := by
  have HW := Lib.hid (word_out b sv ws n i w h hi)
  clear h hi
  go_enter Try.func63, Try.ntmps63
  go_wp2_with (go_at_call 92; refine HW.out.mono ?_; rintro e w1 ⟨rfl, rfl⟩)
  go_ret
  exact ⟨rfl, rfl⟩
theorem Write_nil (i x : Int) (w : World) :
    Calls Try.prog 63 #[.pointer none, .int .i64 i, .int .u32 x] w fun e w' => e = .returned (.int .i64 1) ∧ w = w' := by
  go_enter Try.func63, Try.ntmps63
  go_wp2_with (go_at_call 92; refine (word_nil _ _).mono ?_; rintro e w1 ⟨rfl, rfl⟩)
  go_ret
  exact ⟨rfl, rfl⟩

/-- slices.Clone of words: nil of nil, else a new row. -/
theorem Clone_words (v : Value) (zs : List Int) (w : World) (hr : ReadsW w v zs) (hz : zs.length ≤ 1000000) :
    Calls Try.prog 84 #[v] w fun e w' => ∃ v', e = .returned v' ∧ OwnW w' w.heap.size v' zs ∧ Chg [] w w' := by
  obtain ⟨a, c, rfl, _⟩ := reads_slice hr.1
  obtain ⟨i0, hi, hz0, hz1, hz2⟩ := info_parts info32
  cases a with
  | none =>
    have hnil := fun w => Lib.run_eql_slice_nil (P := Try.prog) w 23 22 none 0 0 0 0 Try.underlying23
    have h0 : zs = [] ∧ c = 0 := by
      obtain ⟨_, _, ⟨h0, a, c', he, ha, _⟩ | ⟨_, b, off, c', he, _⟩⟩ := hr.1
      · simp only [Value.slice.injEq] at he
        exact ⟨List.eq_nil_of_length_eq_zero h0, by rw [he.2.2]; exact ha he.1.symm⟩
      · simp at he
    obtain ⟨rfl, rfl⟩ := h0
    simp only [List.length_nil]
    clear hz hr hi hz0 hz1 hz2
    go_enter Try.func84, Try.ntmps84
    go_wp2
    go_ret
    exact ⟨_, rfl, World.ownsRow_nil _ _ _ _, Chg.refl _ _⟩
  | some x =>
    have hnil := fun w => Lib.run_eql_slice_nil (P := Try.prog) w 23 22 (some x) zs.length c 0 0 Try.underlying23
    go_enter Try.func84, Try.ntmps84
    go_wp2_with (at_builtin; refine wpList_append_any _ rfl _ _ 23 rfl w.heap.size 22 i0 (.int .u32 0) 1 4 Try.underlying23 hi hz0 hz1 hz2 rfl (by decide) (.slice (some ⟨w.heap.size, 0, none⟩) 0 0) 0 [] rfl (World.ownsRow_lit w #[] 0 (Nat.le_refl _) (Nat.zero_le _) rfl) (.slice (some x) zs.length c) zs.length _ rfl (hr.1.alloc _) (ints_oneCell _ _) (by have := hr.1.le; omega) (by omega) (by simp) ?_; intro v2 w2 hown2 hg2; simp only [Nat.zero_add, List.nil_append] at hown2; have hc2 : Chg [] w w2 := ((Chg.refl _ _).alloc _).grown hg2 (by simp [Value.ownBlock]); clear hg2)
    go_ret
    exact ⟨_, rfl, hown2, hc2⟩

theorem Look_ok (b : Nat) (sv : Value) (ws : List Int) (n : Int) (i k : Nat) (w : World) (h : MemAt w b sv ws n) (hi : i + k ≤ ws.length) :
    Calls Try.prog 82 #[.pointer (some ⟨b, 0, none⟩), .agg #[.int .i64 i, .int .i64 k]] w fun e w' => ∃ v, e = .returned (.tuple #[v, .int .i64 0]) ∧ OwnW w' w.heap.size v ((ws.drop i).take k) ∧ Chg [] w w' := by
  obtain ⟨vs, es, rs, _⟩ := slice_mid (P := Try.prog) Try.underlying23 sz32 h.reads.1 i (i + k) (by omega) (by omega)
  have hlen : ((ws.drop i).take k).length = k := by simp; omega
  have hmap : ((ws.map (Value.int .u32)).drop (i * 1)).take ((i + k - i) * 1) = ((ws.drop i).take k).map (Value.int .u32) := by
    rw [Nat.mul_one, Nat.mul_one, Nat.add_sub_cancel_left, List.map_take, List.map_drop]
  rw [hmap] at rs
  have rs2 : ReadsW w vs ((ws.drop i).take k) := ⟨by rw [hlen]; rwa [Nat.add_sub_cancel_left] at rs, fun x hx => h.wf x (List.mem_of_mem_drop (List.mem_of_mem_take hx))⟩
  obtain ⟨a, c, rfl, _⟩ := h.slice
  have c0 : w.cell? ⟨b, 0, none⟩ = some (.slice a ws.length c) := h.box.cell rfl
  have hbl := h.box.lt
  have hs := h.short
  have hz : ((ws.drop i).take k).length ≤ 1000000 := by omega
  have HI := Lib.hid (insB_true (size := ws.length) (at_ := i) (len := k) ⟨by omega, by omega, by omega, by omega⟩)
  have HL := Lib.hid hs
  have hadd : IntKind.i64.wrap ((i : Int) + (k : Int)) = (i : Int) + (k : Int) := IntWalk.i64_in _ (by omega)
  rw [Int.natCast_add] at es
  have H := Lib.hid h
  generalize (ws.drop i).take k = ys at *
  have HZ := Lib.hid hz
  have HR := Lib.hid rs2
  clear rs rs2 hmap hlen hz h hs
  go_enter Try.func82, Try.ntmps82
  go_wp2_with fail
  have e0 : (w.alloc (.cells #[.int .i64 i, .int .i64 k] 93)).drew.cell? ⟨b, 0, none⟩ = some (.slice a ws.length c) := ((Chg.refl [] w).alloc _).drew.keep c0 (by simp)
  have hB0 : Blk (w.alloc (.cells #[.int .i64 i, .int .i64 k] 93)).drew w.heap.size #[.int .i64 i, .int .i64 k] 93 := (Blk.new w _ _).drew
  have hC0 : Chg [] w (w.alloc (.cells #[.int .i64 i, .int .i64 k] 93)).drew := ((Chg.refl _ _).alloc _).drew
  refine wp_region_tail 6 (by kernel_rfl) (by kernel_rfl) ?_
  intro W hW
  rw [← hW.out] at e0 hB0 hC0
  clear hW
  have e1 : W.cell? ⟨w.heap.size, 0, none⟩ = some (.int .i64 i) := hB0.cell rfl
  have e2 : W.cell? ⟨w.heap.size, 1, none⟩ = some (.int .i64 k) := hB0.cell rfl
  simp only [List.take_succ_cons, List.take_zero, List.drop_succ_cons, List.drop_zero]
  repeat still_step
  refine wpStill_nil ?_
  go_wp2_with (go_at_call 85; refine (Inside_any _ _ _ _ (by omega) (by have := HL.out; omega)).mono ?_; rintro e w1 ⟨rfl, hc1⟩; rw [HI.out])
  have kb : Chg [] w w1 := hC0.trans hc1
  have d0 := ((kb.keep c0 (by simp)))
  have hB1 := hB0.keep hc1 (by simp)
  have R1 := HR.out.chg kb
  clear hc1 hC0 hB0 e0 e1 e2
  refine wp_region_tail 12 (by kernel_rfl) (by kernel_rfl) ?_
  intro W2 hW2
  have kb2 : Chg [] w W2 := by rw [hW2.out]; exact kb.drew
  have hB2 : Blk W2 w.heap.size #[.int .i64 i, .int .i64 k] 93 := by rw [hW2.out]; exact hB1.drew
  have d0' : W2.cell? ⟨b, 0, none⟩ = some (.slice a ws.length c) := by rw [hW2.out]; exact d0
  have R2 := Lib.hid (HR.out.chg kb2)
  have KB := Lib.hid kb2
  have e1 : W2.cell? ⟨w.heap.size, 0, none⟩ = some (.int .i64 i) := hB2.cell rfl
  have e2 : W2.cell? ⟨w.heap.size, 1, none⟩ = some (.int .i64 k) := hB2.cell rfl
  clear hW2 kb2 kb hB1 hB2 R1 d0
  simp only [List.take_succ_cons, List.take_zero, List.drop_succ_cons, List.drop_zero]
  repeat still_step
  refine wpStill_nil ?_
  go_wp2_with (go_at_call 84; refine (Clone_words _ _ _ R2.out HZ.out).mono ?_; rintro e w2 ⟨v2, rfl, ho2, hc2⟩)
  go_ret2
  refine ⟨_, rfl, own_base ho2 KB.out.size, KB.out.trans hc2⟩
end Go.Proofs.Ytbbpnpokccfhjaa.mem
