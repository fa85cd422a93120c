/- Package codec: a reader of bytes: the walks. -/
import Derived.Test.YtkmalnojkjmjiaaCodecW2
namespace Go.Proofs.Ytkmalnojkjmjiaa.codec
open Go Go.RowKit Go.Proofs.Ytkmalnojkjmjiaa.kit
set_option linter.unusedVariables false
set_option linter.unusedSimpArgs false

/-- a reader: its box b, its bytes' block g, the bytes, where it reads, whether it is bad -/
structure RIn (w : World) (b g : Nat) (zs : List Int) (at_ : Nat) (bad : Bool) : Prop where
  box : Blk w b #[.slice (some ⟨g, 0, none⟩) zs.length zs.length, .int .i64 at_, .bool bad] 75
  bytes : Blk w g (zs.map (Value.int .u8)).toArray 5
  ne : b ≠ g
  wf : ∀ n ∈ zs, (Lit.int .u8 n).wf = true
  at_le : at_ ≤ zs.length
  short : zs.length ≤ 1000000

theorem RIn.keep {w w' : World} {b g : Nat} {zs : List Int} {a : Nat} {bad : Bool} {L : List Nat} (h : RIn w b g zs a bad) (k : Chg L w w') (hb : b ∉ L) (hg : g ∉ L) : RIn w' b g zs a bad :=
  ⟨h.box.keep k hb, h.bytes.keep k hg, h.ne, h.wf, h.at_le, h.short⟩

theorem New_any (v : Value) (zs : List Int) (w : World) (hr : ReadsB w v zs) (hz : zs.length ≤ 1000000) :
    Calls Try.prog 18 #[v] w fun e w' => ∃ b g, e = .returned (.pointer (some ⟨b, 0, none⟩)) ∧ RIn w' b g zs 0 false ∧ Chg [] w w' ∧ w.heap.size ≤ b ∧ w.heap.size ≤ g := by
  obtain ⟨i0, hi, hz0, hz1, hz2⟩ := info_parts info5
  have hmk := run_make_zeros (P := Try.prog) 22 5 i0 (.int .u8 0) 1 Try.underlying22 hi hz0 hz1 hz2 rfl zs.length (by omega) (by omega)
  have hv : ∃ a c, v = .slice a zs.length c := by
    obtain ⟨_, _, ⟨h0, a, c, rfl, _⟩ | ⟨h0, b, off, c, rfl, _⟩⟩ := hr.1
    · exact ⟨a, c, by rw [h0]⟩
    · exact ⟨_, c, rfl⟩
  obtain ⟨a, c, rfl⟩ := hv
  go_enter Try.func18, Try.ntmps18
  go_wp2_with ((with_reducible show wpList _ _ _ (⟨some 9, _, _, _, _, _⟩ :: _) _ _); refine wpList_copy_any (o := ⟨some 9, _, _, _, _, _⟩) rfl (.tmp 7) (.tmp 8) 22 22 rfl 5 Try.underlying22 (by rw [hi]; simp [hz1]) (some ⟨w.heap.size, 0, none⟩) zs.length zs.length rfl (.slice a zs.length c) rfl zs.length _ (hr.1.alloc _) (ints_oneCell _ _) w.heap.size 0 (zeros (.int .u8 0) zs.length) 5 (Blk.new _ _ _) (fun _ => rfl) (by simp [zeros_size]) ?_)
  intro w1 hb1 hc1
  have e : splice (zeros (.int .u8 0) zs.length).toList 0 (List.take zs.length (zs.map (Value.int .u8))) = zs.map (Value.int .u8) := by
    rw [List.take_of_length_le (by simp)]
    simp [splice, zeros]
  rw [e] at hb1
  have hsz : w.heap.size < w1.heap.size := hb1.lt
  have hc2 : Chg [] w w1 := ((Chg.refl [] w).alloc _).into hc1 (fun x hx => by simp at hx; simp [hx])
  clear e hc1 hmk hi hz0 hz1 hz2
  go_wp2
  go_ret
  refine ⟨w1.heap.size, w.heap.size, rfl, ⟨Blk.new _ _ _, hb1.alloc _, by omega, hr.2, Nat.zero_le _, hz⟩, hc2.alloc _, by omega, Nat.le_refl _⟩

section
variable {b g : Nat} {zs : List Int} {a : Nat} {bad : Bool} {w : World}
theorem RIn.c0 (h : RIn w b g zs a bad) : w.cell? ⟨b, 0, none⟩ = some (.slice (some ⟨g, 0, none⟩) zs.length zs.length) := h.box.cell rfl
theorem RIn.c1 (h : RIn w b g zs a bad) : w.cell? ⟨b, 1, none⟩ = some (.int .i64 a) := h.box.cell rfl
theorem RIn.c2 (h : RIn w b g zs a bad) : w.cell? ⟨b, 2, none⟩ = some (.bool bad) := h.box.cell rfl
theorem RIn.byte (h : RIn w b g zs a bad) (i : Nat) (hi : i < zs.length) : w.cell? ⟨g, i, none⟩ = some (.int .u8 (zs.getD i 0)) := by
  refine h.bytes.cell ?_
  simp [List.getElem?_eq_getElem hi, List.getD_eq_getElem?_getD]
theorem RIn.drewN (h : RIn w b g zs a bad) (n : Nat) : RIn (w.drewN n) b g zs a bad := ⟨h.box, h.bytes, h.ne, h.wf, h.at_le, h.short⟩
end

theorem RIn.move {b g : Nat} {zs : List Int} {a : Nat} {bad : Bool} {w : World} (h : RIn w b g zs a bad) (a' : Nat) (ha : a' ≤ zs.length) : RIn (w.setCell ⟨b, 1, none⟩ (.int .i64 a')) b g zs a' bad :=
  ⟨h.box.set 1 _, h.bytes.set_ne (Ne.symm h.ne) _ _ _, h.ne, h.wf, ha, h.short⟩
theorem RIn.spoil {b g : Nat} {zs : List Int} {a : Nat} {bad : Bool} {w : World} (h : RIn w b g zs a bad) : RIn (w.setCell ⟨b, 2, none⟩ (.bool true)) b g zs a true :=
  ⟨h.box.set 2 _, h.bytes.set_ne (Ne.symm h.ne) _ _ _, h.ne, h.wf, h.at_le, h.short⟩
theorem wf_piece {zs : List Int} (h : ∀ x ∈ zs, (Lit.int .u8 x).wf = true) (a n : Nat) : ∀ x ∈ (zs.drop a).take n, (Lit.int .u8 x).wf = true :=
  fun x hx => h x (List.mem_of_mem_drop (List.mem_of_mem_take hx))
theorem RIn.piece {b g : Nat} {zs : List Int} {a : Nat} {bad : Bool} {w : World} (h : RIn w b g zs a bad) (o i n c : Nat) (hi : i + n ≤ zs.length) (ho : n = 0 ∨ o = i) (hc : n ≤ c) (hm : c ≤ zs.length) :
    ReadsB w (.slice (some ⟨g, o, none⟩) n c) ((zs.drop i).take n) := by
  have hs := h.short
  have hl : ((zs.drop i).take n).length = n := by simp; omega
  refine ⟨?_, wf_piece h.wf i n⟩
  rw [hl]
  refine Reads.of_cells g o n c _ (by simp; omega) hc (by unfold maxLen; omega) fun j u hj => ?_
  have hj' : j < n := by
    rcases Nat.lt_or_ge j n with h | h
    · exact h
    · rw [List.getElem?_eq_none (by simp; omega)] at hj; cases hj
  obtain rfl : o = i := by omega
  rw [h.byte (o + j) (by omega)]
  rw [List.getElem?_map, List.getElem?_take_of_lt hj', List.getElem?_drop] at hj
  rw [List.getElem?_eq_getElem (by omega)] at hj
  rw [List.getD_eq_getElem?_getD, List.getElem?_eq_getElem (by omega)]
  simpa using hj

theorem none_any (b g : Nat) (zs : List Int) (a : Nat) (bad : Bool) (w : World) (h : RIn w b g zs a bad) :
    Calls Try.prog 39 #[.pointer (some ⟨b, 0, none⟩)] w fun e w' => e = .returned (.bool bad) ∧ w = w' := by
  have c2 := h.c2
  clear h
  go_enter Try.func39, Try.ntmps39
  go_wp2
  go_ret
  exact ⟨rfl, rfl⟩
theorem none_nil (w : World) :
    Calls Try.prog 39 #[.pointer none] w fun e w' => e = .returned (.bool true) ∧ w = w' := by
  go_enter Try.func39, Try.ntmps39
  go_wp2
  go_ret
  exact ⟨rfl, rfl⟩
theorem left_any (b g : Nat) (zs : List Int) (a : Nat) (bad : Bool) (w : World) (h : RIn w b g zs a bad) :
    Calls Try.prog 41 #[.pointer (some ⟨b, 0, none⟩)] w fun e w' => e = .returned (.int .i64 ((zs.length : Int) - a)) ∧ Quiet w w' := by
  have c0 := h.c0
  have c1 := h.c1
  have hl := h.at_le
  have hs := h.short
  clear h
  have e1 : IntKind.i64.wrap ((zs.length : Int) - a) = (zs.length : Int) - a := IntWalk.i64_in _ (by omega)
  go_enter Try.func41, Try.ntmps41
  go_wp2
  go_quiet (fail)
  go_wp2
  go_ret
  exact ⟨rfl, _, rfl⟩

/-- the next bytes, where there are so many -/
theorem next_ok (b g : Nat) (zs : List Int) (a n : Nat) (w : World) (hR : RIn w b g zs a false) (hn : a + n ≤ zs.length) :
    Calls Try.prog 52 #[.pointer (some ⟨b, 0, none⟩), .int .i64 n] w fun e w' => ∃ o c, e = .returned (.slice (some ⟨g, o, none⟩) n c) ∧ (n = 0 ∨ o = a) ∧ n ≤ c ∧ c ≤ zs.length ∧ RIn w' b g zs (a + n) false ∧ Chg [b] w w' := by
  have c0 := hR.c0
  have c1 := hR.c1
  have f1 := hR.box.free 1
  have hl := hR.at_le
  have hs := hR.short
  go_enter Try.func52, Try.ntmps52
  go_wp2_with (first | (go_at_call 39; refine (none_any _ _ _ _ _ _ hR).mono ?_; rintro e w' ⟨rfl, rfl⟩) | (go_at_call 41; refine (left_any _ _ _ _ _ _ hR).mono ?_; rintro e w' ⟨rfl, nq, rfl⟩))
  have e1 : IntKind.i64.wrap ((a : Int) + n - n) = (a : Int) := by rw [Int.add_sub_cancel]; exact IntWalk.i64_in _ (by omega)
  have g1 : (0 : Int) ≤ a := by omega
  have g2 : (a : Int) ≤ (a : Int) + n := by omega
  have g3 : (a : Int) + n ≤ zs.length := by omega
  go_quiet (fail)
  go_wp2
  · go_ret
    have hn0 : n = 0 := by omega
    subst hn0
    exact ⟨0, 0, rfl, .inl rfl, Nat.le_refl _, Nat.zero_le _, ((hR.drewN _).move _ (by omega)).drewN _, (((Chg.refl _ _).drewN _).setCell (.inl (by simp)) _).drewN _⟩
  · go_ret
    exact ⟨a, zs.length - a, rfl, .inr rfl, by omega, by omega, ((hR.drewN _).move _ (by omega)).drewN _, (((Chg.refl _ _).drewN _).setCell (.inl (by simp)) _).drewN _⟩

/-- .. where there are not -/
theorem next_short (b g : Nat) (zs : List Int) (a : Nat) (n : Int) (w : World) (h : RIn w b g zs a false) (hn : n < 0 ∨ (zs.length : Int) < a + n) :
    Calls Try.prog 52 #[.pointer (some ⟨b, 0, none⟩), .int .i64 n] w fun e w' => e = .returned (.slice none 0 0) ∧ RIn w' b g zs a true ∧ Chg [b] w w' := by
  have c2 := h.c2
  have f1 := h.box.free 2
  have hl := h.at_le
  have hs := h.short
  by_cases hn0 : n < 0
  · clear hn
    go_enter Try.func52, Try.ntmps52
    go_wp2_with (first | (go_at_call 39; refine (none_any _ _ _ _ _ _ h).mono ?_; rintro e w' ⟨rfl, rfl⟩) | (go_at_call 41; refine (left_any _ _ _ _ _ _ h).mono ?_; rintro e w' ⟨rfl, nq, rfl⟩))
    go_ret
    exact ⟨rfl, h.spoil, (Chg.refl _ _).setCell (.inl (by simp)) _⟩
  · have hn1 : (zs.length : Int) - a < n := by omega
    clear hn
    go_enter Try.func52, Try.ntmps52
    go_wp2_with (first | (go_at_call 39; refine (none_any _ _ _ _ _ _ h).mono ?_; rintro e w' ⟨rfl, rfl⟩) | (go_at_call 41; refine (left_any _ _ _ _ _ _ h).mono ?_; rintro e w' ⟨rfl, nq, rfl⟩))
    go_ret
    exact ⟨rfl, (h.drewN _).spoil, ((Chg.refl _ _).drewN _).setCell (.inl (by simp)) _⟩
theorem next_bad (b g : Nat) (zs : List Int) (a : Nat) (n : Int) (w : World) (h : RIn w b g zs a true) :
    Calls Try.prog 52 #[.pointer (some ⟨b, 0, none⟩), .int .i64 n] w fun e w' => e = .returned (.slice none 0 0) ∧ w = w' := by
  go_enter Try.func52, Try.ntmps52
  go_wp2_with (first | (go_at_call 39; refine (none_any _ _ _ _ _ _ h).mono ?_; rintro e w' ⟨rfl, rfl⟩))
  go_ret
  exact ⟨rfl, rfl⟩
theorem next_nil (n : Int) (w : World) :
    Calls Try.prog 52 #[.pointer none, .int .i64 n] w fun e w' => e = .returned (.slice none 0 0) ∧ w = w' := by
  go_enter Try.func52, Try.ntmps52
  go_wp2_with (first | (go_at_call 39; refine (none_nil _).mono ?_; rintro e w' ⟨rfl, rfl⟩))
  go_ret
  exact ⟨rfl, rfl⟩
end Go.Proofs.Ytkmalnojkjmjiaa.codec
