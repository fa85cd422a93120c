/- Package mem: the walks. -/
import Derived.Test.YtbbpnpokccfhjaaProg
import Derived.Test.YtbbpnpokccfhjaaKit
import Derived.Test.YtbbpnpokccfhjaaMemPlain
namespace Go.Proofs.Ytbbpnpokccfhjaa.mem
open Go Go.RowKit Go.Proofs.Ytbbpnpokccfhjaa.kit
set_option linter.unusedVariables false

theorem info32 : (Try.prog.info? 22).map (fun i => (i.zero, i.size, i.bytes)) = some (some (.int .u32 0), 1, 4) := by kernel_rfl
theorem sz32 : (Try.prog.info? 22).map (·.size) = some 1 := by kernel_rfl

/-- a row of words, read as numbers -/
def ReadsW (w : World) (v : Value) (zs : List Int) : Prop := Reads w 1 v zs.length (zs.map (Value.int .u32)) ∧ ∀ n ∈ zs, (Lit.int .u32 n).wf = true
theorem ReadsW.chg {w w' : World} {v : Value} {zs : List Int} (h : ReadsW w v zs) (k : Chg [] w w') : ReadsW w' v zs := ⟨h.1.fresh k, h.2⟩
theorem ReadsW.far {w w' : World} {v : Value} {zs : List Int} {L : List Nat} (h : ReadsW w v zs) (k : Chg L w w') (hn : ∀ b, v.ownBlock = some b → b ∉ L) : ReadsW w' v zs := ⟨h.1.chg k hn, h.2⟩
theorem ReadsW.nil (w : World) : ReadsW w (.slice none 0 0) [] := ⟨Reads.nil w 1, by simp⟩
/-- a row of words of the call's own -/
def OwnW (w : World) (B : Nat) (v : Value) (zs : List Int) : Prop := w.ownsRow B 22 1 v zs.length (zs.map (Value.int .u32))
theorem OwnW.reads {w : World} {B : Nat} {v : Value} {zs : List Int} (h : OwnW w B v zs) (hw : ∀ n ∈ zs, (Lit.int .u32 n).wf = true) : ReadsW w v zs := ⟨Reads.of_own h (by decide), hw⟩
theorem own_chg {w w' : World} {B e size n : Nat} {v : Value} {xs : List Value} {L : List Nat} (h : w.ownsRow B e size v n xs) (k : Chg L w w') (hn : ∀ b, v.ownBlock = some b → b ∉ L) : w'.ownsRow B e size v n xs := by
  refine ⟨h.1, ?_⟩
  rcases h.2 with h0 | ⟨g, cap, cur, rfl, hb, hg, r⟩
  · exact .inl h0
  · exact .inr ⟨g, cap, cur, rfl, hb, k.heap hg (hn g rfl), r⟩
theorem own_base {w : World} {B B' e size n : Nat} {v : Value} {xs : List Value} (h : w.ownsRow B e size v n xs) (hb : B' ≤ B) : w.ownsRow B' e size v n xs := by
  refine ⟨h.1, ?_⟩
  rcases h.2 with h0 | ⟨g, cap, cur, rfl, hg, r⟩
  · exact .inl h0
  · exact .inr ⟨g, cap, cur, rfl, Nat.le_trans hb hg, r⟩

/-- a memory: its box b, the slice of its words, the words, how many steps were made -/
structure MemAt (w : World) (b : Nat) (sv : Value) (ws : List Int) (n : Int) : Prop where
  box : Blk w b #[sv, .int .i64 n] 87
  row : OwnW w 0 sv ws
  far : ∀ k, sv.ownBlock = some k → k ≠ b
  wf : ∀ x ∈ ws, (Lit.int .u32 x).wf = true
  short : ws.length ≤ 4096

section
variable {w w' : World} {b : Nat} {sv : Value} {ws : List Int} {n : Int} {L : List Nat}
theorem MemAt.keep (h : MemAt w b sv ws n) (k : Chg L w w') (hb : b ∉ L) (hg : ∀ k, sv.ownBlock = some k → k ∉ L) : MemAt w' b sv ws n :=
  ⟨h.box.keep k hb, own_chg h.row k hg, h.far, h.wf, h.short⟩
theorem MemAt.fresh (h : MemAt w b sv ws n) (k : Chg [] w w') : MemAt w' b sv ws n := h.keep k (by simp) (by simp)
theorem MemAt.slice (h : MemAt w b sv ws n) : ∃ a c, sv = .slice a ws.length c ∧ ws.length ≤ c := reads_slice (Reads.of_own h.row (by decide))
theorem MemAt.live (h : MemAt w b sv ws n) (hp : 0 < ws.length) : ∃ g c, sv = .slice (some ⟨g, 0, none⟩) ws.length c := by
  rcases h.row.2 with ⟨rfl, h0⟩ | ⟨g, cap, cur, rfl, _⟩
  · omega
  · exact ⟨g, cap, rfl⟩
theorem MemAt.reads (h : MemAt w b sv ws n) : ReadsW w sv ws := OwnW.reads h.row h.wf
/-- one more step -/
theorem MemAt.step (h : MemAt w b sv ws n) (m : Int) : MemAt (w.setCell ⟨b, 1, none⟩ (.int .i64 m)) b sv ws m :=
  ⟨h.box.set 1 _, own_chg h.row ((Chg.refl [b] w).setCell (p := ⟨b, 1, none⟩) (.inl (by simp)) _) (fun k hk => by simp; exact h.far k hk), h.far, h.wf, h.short⟩
/-- a word is written -/
theorem MemAt.put {g c : Nat} (h : MemAt w b (.slice (some ⟨g, 0, none⟩) ws.length c) ws n) (i : Nat) (x : Int) (hx : (Lit.int .u32 x).wf = true) :
    MemAt (w.setCell ⟨g, i, none⟩ (.int .u32 x)) b (.slice (some ⟨g, 0, none⟩) ws.length c) (ws.set i x) n := by
  have hs := (World.ownsRow.stored h.row i (.int .u32 x)).1
  have hl : (ws.set i x).length = ws.length := by simp
  refine ⟨h.box.set_ne (Ne.symm (h.far g rfl)) _ _ _, ?_, h.far, fun y hy => ?_, by simpa using h.short⟩
  · unfold OwnW
    rw [hl, List.map_set]
    exact hs
  · rcases List.mem_or_eq_of_mem_set hy with h1 | h1
    · exact h.wf y h1
    · rw [h1]; exact hx
theorem MemAt.cell {g c : Nat} (h : MemAt w b (.slice (some ⟨g, 0, none⟩) ws.length c) ws n) (i : Nat) (hi : i < ws.length) : w.cell? ⟨g, i, none⟩ = some (.int .u32 (ws.getD i 0)) := by
  have := World.ownsRow.cellAt h.row i (by omega)
  rw [this, List.getElem?_map, List.getElem?_eq_getElem hi, List.getD_eq_getElem?_getD, List.getElem?_eq_getElem hi]; rfl
theorem MemAt.free {g c : Nat} (h : MemAt w b (.slice (some ⟨g, 0, none⟩) ws.length c) ws n) (i : Nat) : w.frozen? ⟨g, i, none⟩ = false := World.ownsRow.frozenAt h.row i
end

theorem region_any (at_ len : Int) (w : World) :
    Calls Try.prog 102 #[.agg #[.int .i64 at_, .int .i64 len]] w fun e w' => e = .returned (.bool (regB at_ len)) ∧ Chg [] w w' := by
  by_cases h1 : 0 ≤ at_
  · by_cases h2 : 0 ≤ len
    · have hd := Lib.hid (regB_true h1 h2)
      go_enter Try.func102, Try.ntmps102
      go_wp2
      go_ret
      exact ⟨ret_bool (by rw [hd.out]), (Chg.refl _ _).alloc _⟩
    · have hd := Lib.hid (regB_false (at_ := at_) (len := len) (fun h => h2 h.2))
      go_enter Try.func102, Try.ntmps102
      go_wp2
      go_ret
      exact ⟨ret_bool (by rw [hd.out]), (Chg.refl _ _).alloc _⟩
  · have hd := Lib.hid (regB_false (at_ := at_) (len := len) (fun h => h1 h.1))
    go_enter Try.func102, Try.ntmps102
    go_wp2
    go_ret
    exact ⟨ret_bool (by rw [hd.out]), (Chg.refl _ _).alloc _⟩

theorem Inside_any (size at_ len : Int) (w : World) (h0 : 0 ≤ size) (h1 : size ≤ 9223372036854775807) :
    Calls Try.prog 85 #[.int .i64 size, .agg #[.int .i64 at_, .int .i64 len]] w fun e w' => e = .returned (.bool (insB size at_ len)) ∧ Chg [] w w' := by
  have key : ∀ w1, Chg [] (w.alloc (.cells #[.int .i64 at_, .int .i64 len] 93)) w1 → w1.cell? ⟨w.heap.size, 0, none⟩ = some (.int .i64 at_) ∧ w1.cell? ⟨w.heap.size, 1, none⟩ = some (.int .i64 len) ∧ Chg [] w w1 := fun w1 k =>
    ⟨((Blk.new w _ _).keep k (by simp)).cell rfl, ((Blk.new w _ _).keep k (by simp)).cell rfl, ((Chg.refl _ _).alloc _).trans k⟩
  by_cases g1 : 0 ≤ at_ ∧ 0 ≤ len
  · obtain ⟨ga, gl⟩ := g1
    have hd := regB_true ga gl
    by_cases g2 : at_ ≤ size
    · have e1 : IntKind.i64.wrap (size - at_) = size - at_ := IntWalk.i64_in _ (by omega)
      by_cases g3 : len ≤ size - at_
      · have hi := Lib.hid (insB_true (size := size) (at_ := at_) (len := len) ⟨ga, gl, g2, g3⟩)
        go_enter Try.func85, Try.ntmps85
        go_wp2_with (go_at_call 102; refine (region_any _ _ _).mono ?_; rintro e w1 ⟨rfl, hc⟩; rw [hd]; obtain ⟨k0, k1, k2⟩ := key w1 hc)
        go_ret
        exact ⟨ret_bool (by rw [hi.out]), k2⟩
      · have hi := Lib.hid (insB_false (size := size) (at_ := at_) (len := len) (fun h => g3 h.2.2.2))
        go_enter Try.func85, Try.ntmps85
        go_wp2_with (go_at_call 102; refine (region_any _ _ _).mono ?_; rintro e w1 ⟨rfl, hc⟩; rw [hd]; obtain ⟨k0, k1, k2⟩ := key w1 hc)
        go_ret
        exact ⟨ret_bool (by rw [hi.out]; simpa using g3), k2⟩
    · have hi := Lib.hid (insB_false (size := size) (at_ := at_) (len := len) (fun h => g2 h.2.2.1))
      go_enter Try.func85, Try.ntmps85
      go_wp2_with (go_at_call 102; refine (region_any _ _ _).mono ?_; rintro e w1 ⟨rfl, hc⟩; rw [hd]; obtain ⟨k0, k1, k2⟩ := key w1 hc)
      go_ret
      exact ⟨ret_bool (by rw [hi.out]), k2⟩
  · have hd := regB_false g1
    have hi := Lib.hid (insB_false (size := size) (at_ := at_) (len := len) (fun h => g1 ⟨h.1, h.2.1⟩))
    clear g1
    go_enter Try.func85, Try.ntmps85
    go_wp2_with (go_at_call 102; refine (region_any _ _ _).mono ?_; rintro e w1 ⟨rfl, hc⟩; rw [hd]; obtain ⟨k0, k1, k2⟩ := key w1 hc)
    go_ret
    exact ⟨ret_bool (by rw [hi.out]), k2⟩

theorem New_at (n : Nat) (w : World) (hn : n ≤ 4096) :
    Calls Try.prog 60 #[.int .i64 n] w fun e w' => ∃ b g, e = .returned (.tuple #[.pointer (some ⟨b, 0, none⟩), .int .i64 0]) ∧ MemAt w' b (.slice (some ⟨g, 0, none⟩) n n) (List.replicate n 0) 0 ∧ Chg [] w w' ∧ w.heap.size ≤ b ∧ w.heap.size ≤ g := by
  obtain ⟨i0, hi, hz0, hz1, hz2⟩ := info_parts info32
  have hmk := run_make_zeros (P := Try.prog) 23 22 i0 (.int .u32 0) 4 Try.underlying23 hi hz0 hz1 hz2 rfl n (by omega) (by omega)
  have hn1 : (n : Int) ≤ 4096 := by omega
  have HN := Lib.hid hn
  clear hn hi hz0 hz1 hz2
  go_enter Try.func60, Try.ntmps60
  go_wp2
  go_ret2
  have hn := HN.out
  have hb : Blk ((w.alloc (.cells (zeros (.int .u32 0) n) 22)).alloc (.cells #[.slice (some ⟨w.heap.size, 0, none⟩) n n, .int .i64 0] 87)) (w.heap.size + 1) #[.slice (some ⟨w.heap.size, 0, none⟩) n n, .int .i64 0] 87 := by
    have := Blk.new (w.alloc (.cells (zeros (.int .u32 0) n) 22)) #[.slice (some ⟨w.heap.size, 0, none⟩) n n, .int .i64 0] 87
    rwa [show (w.alloc (.cells (zeros (.int .u32 0) n) 22)).heap.size = w.heap.size + 1 from by simp] at this
  have ho : OwnW ((w.alloc (.cells (zeros (.int .u32 0) n) 22)).alloc (.cells #[.slice (some ⟨w.heap.size, 0, none⟩) n n, .int .i64 0] 87)) 0 (.slice (some ⟨w.heap.size, 0, none⟩) n n) (List.replicate n 0) := by
    unfold OwnW
    have h1 := World.ownsRow_lit (base := 0) (e := 22) (size := 1) w (zeros (.int .u32 0) n) n (Nat.zero_le _) (by unfold maxLen; omega) (by rw [zeros_size, Nat.mul_one])
    have h2 := h1.alloc (.cells #[.slice (some ⟨w.heap.size, 0, none⟩) n n, .int .i64 0] 87)
    rw [List.length_replicate, List.map_replicate]
    exact h2
  have hf : ∀ k, (Value.slice (some ⟨w.heap.size, 0, none⟩) n n).ownBlock = some k → k = w.heap.size := fun k hk => by
    simp only [Value.ownBlock, Option.some.injEq] at hk; exact hk.symm
  refine ⟨w.heap.size + 1, w.heap.size, rfl, ⟨hb, ho, fun k hk => by rw [hf k hk]; omega, fun x hx => by rw [List.eq_of_mem_replicate hx]; decide, by rw [List.length_replicate]; exact hn⟩, ((Chg.refl _ _).alloc _).alloc _, by omega, Nat.le_refl _⟩
theorem New_ok (n : Nat) (w : World) (hn : n ≤ 4096) :
    Calls Try.prog 60 #[.int .i64 n] w fun e w' => ∃ b sv, e = .returned (.tuple #[.pointer (some ⟨b, 0, none⟩), .int .i64 0]) ∧ MemAt w' b sv (List.replicate n 0) 0 ∧ Chg [] w w' ∧ w.heap.size ≤ b ∧ ∀ k, sv.ownBlock = some k → w.heap.size ≤ k := by
  refine (New_at n w hn).mono ?_
  rintro e w' ⟨b, g, he, h, hc, hb, hg⟩
  exact ⟨b, _, he, h, hc, hb, fun k hk => by simp only [Value.ownBlock, Option.some.injEq] at hk; omega⟩

theorem New_bad (n : Int) (w : World) (hn : n < 0 ∨ 4096 < n) :
    Calls Try.prog 60 #[.int .i64 n] w fun e w' => e = .returned (.tuple #[.pointer none, .int .i64 1]) ∧ w = w' := by
  by_cases h0 : n < 0
  · clear hn
    go_enter Try.func60, Try.ntmps60
    go_wp2
    go_ret2
    exact ⟨rfl, rfl⟩
  · have h1 : 4096 < n := by omega
    clear hn
    go_enter Try.func60, Try.ntmps60
    go_wp2
    go_ret2
    exact ⟨rfl, rfl⟩

theorem Len_any (b : Nat) (sv : Value) (ws : List Int) (n : Int) (w : World) (h : MemAt w b sv ws n) :
    Calls Try.prog 83 #[.pointer (some ⟨b, 0, none⟩)] w fun e w' => e = .returned (.int .i64 (ws.length : Int)) ∧ w = w' := by
  obtain ⟨a, c, rfl, _⟩ := h.slice
  have c0 : w.cell? ⟨b, 0, none⟩ = some (.slice a ws.length c) := h.box.cell rfl
  clear h
  go_enter Try.func83, Try.ntmps83
  go_wp2
  go_ret
  exact ⟨rfl, rfl⟩
theorem Len_nil (w : World) : Calls Try.prog 83 #[.pointer none] w fun e w' => e = .returned (.int .i64 0) ∧ w = w' := by
  go_enter Try.func83, Try.ntmps83
  go_wp2
  go_ret
  exact ⟨rfl, rfl⟩
theorem Steps_any (b : Nat) (sv : Value) (ws : List Int) (n : Int) (w : World) (h : MemAt w b sv ws n) :
    Calls Try.prog 45 #[.pointer (some ⟨b, 0, none⟩)] w fun e w' => e = .returned (.int .i64 n) ∧ w = w' := by
  have c1 : w.cell? ⟨b, 1, none⟩ = some (.int .i64 n) := h.box.cell rfl
  clear h
  go_enter Try.func45, Try.ntmps45
  go_wp2
  go_ret
  exact ⟨rfl, rfl⟩
theorem Steps_nil (w : World) : Calls Try.prog 45 #[.pointer none] w fun e w' => e = .returned (.int .i64 0) ∧ w = w' := by
  go_enter Try.func45, Try.ntmps45
  go_wp2
  go_ret
  exact ⟨rfl, rfl⟩

theorem word_ok (b g c : Nat) (ws : List Int) (n : Int) (i : Nat) (w : World) (h : MemAt w b (.slice (some ⟨g, 0, none⟩) ws.length c) ws n) (hi : i < ws.length) (hn0 : 0 ≤ n) (hn : n ≤ 1000000000000) :
    Calls Try.prog 92 #[.pointer (some ⟨b, 0, none⟩), .int .i64 i] w fun e w' => e = .returned (.tuple #[.pointer (some ⟨g, i, none⟩), .int .i64 0]) ∧ w' = w.setCell ⟨b, 1, none⟩ (.int .i64 (n + 1)) := by
  have c0 : w.cell? ⟨b, 0, none⟩ = some (.slice (some ⟨g, 0, none⟩) ws.length c) := h.box.cell rfl
  have c1 : w.cell? ⟨b, 1, none⟩ = some (.int .i64 n) := h.box.cell rfl
  have f1 := h.box.free 1
  have hs := h.short
  clear h
  have h1 : (i : Int) < (ws.length : Int) := by omega
  go_enter Try.func92, Try.ntmps92
  go_wp2
  go_ret2
  exact ⟨by simp, rfl⟩
theorem word_out (b : Nat) (sv : Value) (ws : List Int) (n i : Int) (w : World) (h : MemAt w b sv ws n) (hi : i < 0 ∨ (ws.length : Int) ≤ i) :
    Calls Try.prog 92 #[.pointer (some ⟨b, 0, none⟩), .int .i64 i] w fun e w' => e = .returned (.tuple #[.pointer none, .int .i64 5]) ∧ w = w' := by
  obtain ⟨a, c, rfl, _⟩ := h.slice
  have c0 : w.cell? ⟨b, 0, none⟩ = some (.slice a ws.length c) := h.box.cell rfl
  clear h
  by_cases h0 : i < 0
  · clear hi
    go_enter Try.func92, Try.ntmps92
    go_wp2
    go_ret2
    exact ⟨rfl, rfl⟩
  · have h1 : (ws.length : Int) ≤ i := by omega
    clear hi
    go_enter Try.func92, Try.ntmps92
    go_wp2
    go_ret2
    exact ⟨rfl, rfl⟩
theorem word_nil (i : Int) (w : World) :
    Calls Try.prog 92 #[.pointer none, .int .i64 i] w fun e w' => e = .returned (.tuple #[.pointer none, .int .i64 1]) ∧ w = w' := by
  go_enter Try.func92, Try.ntmps92
  go_wp2
  go_ret2
  exact ⟨rfl, rfl⟩
end Go.Proofs.Ytbbpnpokccfhjaa.mem
