import Derived.Test.YtphfnjcboellhaaGreatDoorProg
import Derived.Test.YtphfnjcboellhaaGreatDoorKit
import Derived.WalkSpells
import Derived.Deep.RegionWith
import Derived.StillTailTactics
namespace Go.Proofs.YtphfnjcboellhaaGreatDoor.mem
def insB (size at_ len : Int) : Bool := decide (0 <= at_ /\ 0 <= len /\ at_ <= size /\ len <= size - at_)
theorem insB_true {size at_ len : Int} (h : 0 <= at_ /\ 0 <= len /\ at_ <= size /\ len <= size - at_) : insB size at_ len = true := decide_eq_true h
theorem insB_false {size at_ len : Int} (h : ¬ (0 <= at_ /\ 0 <= len /\ at_ <= size /\ len <= size - at_)) : insB size at_ len = false := decide_eq_false h
def regB (at_ len : Int) : Bool := decide (0 <= at_ /\ 0 <= len)
theorem regB_true {at_ len : Int} (h1 : 0 <= at_) (h2 : 0 <= len) : regB at_ len = true := decide_eq_true ⟨h1, h2⟩
theorem regB_false {at_ len : Int} (h : ¬ (0 <= at_ /\ 0 <= len)) : regB at_ len = false := decide_eq_false h
open Go Go.RowKit kit
theorem info32 : (Tryz.prog.info? 22).map (fun i => (i.zero, i.size, i.bytes)) = some (some (.int .u32 0), 1, 4) := by kernel_rfl
theorem sz32 : (Tryz.prog.info? 22).map (·.size) = some 1 := by kernel_rfl
def ReadsW (w : World) (v : Value) (zs : List Int) : Prop := Reads w 1 v zs.length (zs.map (Value.int .u32)) /\ ∀ n ∈ zs, (Lit.int .u32 n).wf = true
theorem ReadsW.chg {w w' : World} {v : Value} {zs : List Int} (h : ReadsW w v zs) (k : Chg [] w w') : ReadsW w' v zs := ⟨h.1.fresh k, h.2⟩
theorem ReadsW.nil (w : World) : ReadsW w (.slice none 0 0) [] := ⟨Reads.nil w 1, by simp⟩
def OwnW (w : World) (B : Nat) (v : Value) (zs : List Int) : Prop := w.ownsRow B 22 1 v zs.length (zs.map (Value.int .u32))
theorem OwnW.reads {w : World} {B : Nat} {v : Value} {zs : List Int} (h : OwnW w B v zs) (hw : ∀ n ∈ zs, (Lit.int .u32 n).wf = true) : ReadsW w v zs := ⟨Reads.of_own h (by decide), hw⟩
theorem own_chg {w w' : World} {B e size n : Nat} {v : Value} {xs : List Value} {L : List Nat} (h : w.ownsRow B e size v n xs) (k : Chg L w w') (hn : ∀ b, v.ownBlock = some b -> b ∉ L) : w'.ownsRow B e size v n xs := by
 refine ⟨h.1, ?_⟩
 rcases h.2 with h0 | ⟨g, cap, cur, rfl, hb, hg, r⟩
 · exact .inl h0
 · exact .inr ⟨g, cap, cur, rfl, hb, k.heap hg (hn g rfl), r⟩
theorem own_base {w : World} {B B' e size n : Nat} {v : Value} {xs : List Value} (h : w.ownsRow B e size v n xs) (hb : B' <= B) : w.ownsRow B' e size v n xs := by
 refine ⟨h.1, ?_⟩
 rcases h.2 with h0 | ⟨g, cap, cur, rfl, hg, r⟩
 · exact .inl h0
 · exact .inr ⟨g, cap, cur, rfl, Nat.le_trans hb hg, r⟩
structure MemAt (w : World) (b : Nat) (sv : Value) (ws : List Int) (n : Int) : Prop where
 box : Blk w b #[sv, .int .i64 n] 86
 row : OwnW w 0 sv ws
 far : ∀ k, sv.ownBlock = some k -> k ≠ b
 wf : ∀ x ∈ ws, (Lit.int .u32 x).wf = true
 short : ws.length <= 4096
section
variable {w w' : World} {b : Nat} {sv : Value} {ws : List Int} {n : Int} {L : List Nat}
theorem MemAt.keep (h : MemAt w b sv ws n) (k : Chg L w w') (hb : b ∉ L) (hg : ∀ k, sv.ownBlock = some k -> k ∉ L) : MemAt w' b sv ws n :=
 ⟨h.box.keep k hb, own_chg h.row k hg, h.far, h.wf, h.short⟩
theorem MemAt.fresh (h : MemAt w b sv ws n) (k : Chg [] w w') : MemAt w' b sv ws n := h.keep k (by simp) (by simp)
theorem MemAt.slice (h : MemAt w b sv ws n) : ∃ a c, sv = .slice a ws.length c /\ ws.length <= c := reads_slice (Reads.of_own h.row (by decide))
theorem MemAt.live (h : MemAt w b sv ws n) (hp : 0 < ws.length) : ∃ g c, sv = .slice (some ⟨g, 0, none⟩) ws.length c := by
 rcases h.row.2 with ⟨rfl, h0⟩ | ⟨g, cap, cur, rfl, _⟩
 · omega
 · exact ⟨g, cap, rfl⟩
theorem MemAt.step (h : MemAt w b sv ws n) (m : Int) : MemAt (w.setCell ⟨b, 1, none⟩ (.int .i64 m)) b sv ws m :=
 ⟨h.box.set 1 _, own_chg h.row ((Chg.refl [b] w).setCell (p := ⟨b, 1, none⟩) (.inl (by simp)) _) (fun k hk => by simp; exact h.far k hk), h.far, h.wf, h.short⟩
theorem MemAt.put {g c : Nat} (h : MemAt w b (.slice (some ⟨g, 0, none⟩) ws.length c) ws n) (i : Nat) (x : Int) (hx : (Lit.int .u32 x).wf = true) :
 MemAt (w.setCell ⟨g, i, none⟩ (.int .u32 x)) b (.slice (some ⟨g, 0, none⟩) ws.length c) (ws.set i x) n := by
 have hs := (World.ownsRow.stored h.row i (.int .u32 x)).1
 have hl : (ws.set i x).length = ws.length := by simp
 refine ⟨h.box.set_ne (Ne.symm (h.far g rfl)) _ _ _, ?_, h.far, fun y hy => ?_, by simpa using h.short⟩
 · unfold OwnW
   rw [hl, List.map_set]
   exact hs
 · rcases List.mem_or_eq_of_mem_set hy with h1 | h1
   · exact h.wf y h1
   · rw [h1]; exact hx
theorem MemAt.cell {g c : Nat} (h : MemAt w b (.slice (some ⟨g, 0, none⟩) ws.length c) ws n) (i : Nat) (hi : i < ws.length) : w.cell? ⟨g, i, none⟩ = some (.int .u32 (ws.getD i 0)) := by
 have := World.ownsRow.cellAt h.row i (by omega)
 rw [this, List.getElem?_map, List.getElem?_eq_getElem hi, List.getD_eq_getElem?_getD, List.getElem?_eq_getElem hi]; rfl
theorem MemAt.free {g c : Nat} (h : MemAt w b (.slice (some ⟨g, 0, none⟩) ws.length c) ws n) (i : Nat) : w.frozen? ⟨g, i, none⟩ = false := World.ownsRow.frozenAt h.row i
end
theorem region_any (at_ len : Int) (w : World) :
 Calls Tryz.prog 92 #[.agg #[.int .i64 at_, .int .i64 len]] w fun e w' => e = .returned (.bool (regB at_ len)) /\ Chg [] w w' := by
 by_cases h1 : 0 <= at_
 · by_cases h2 : 0 <= len
   · have hd := hid (regB_true h1 h2)
     go_enter Tryz.func92, Tryz.ntmps92
     go_wp2
     go_ret
     exact ⟨ret_bool (by rw [hd.out]), (Chg.refl _ _).alloc _⟩
   · have hd := hid (regB_false (at_ := at_) (len := len) (fun h => h2 h.2))
     go_enter Tryz.func92, Tryz.ntmps92
     go_wp2
     go_ret
     exact ⟨ret_bool (by rw [hd.out]), (Chg.refl _ _).alloc _⟩
 · have hd := hid (regB_false (at_ := at_) (len := len) (fun h => h1 h.1))
   go_enter Tryz.func92, Tryz.ntmps92
   go_wp2
   go_ret
   exact ⟨ret_bool (by rw [hd.out]), (Chg.refl _ _).alloc _⟩
theorem Inside_any (size at_ len : Int) (w : World) (h0 : 0 <= size) (h1 : size <= 9223372036854775807) :
 Calls Tryz.prog 50 #[.int .i64 size, .agg #[.int .i64 at_, .int .i64 len]] w fun e w' => e = .returned (.bool (insB size at_ len)) /\ Chg [] w w' := by
 have key : ∀ w1, Chg [] (w.alloc (.cells #[.int .i64 at_, .int .i64 len] 89)) w1 -> w1.cell? ⟨w.heap.size, 0, none⟩ = some (.int .i64 at_) /\ w1.cell? ⟨w.heap.size, 1, none⟩ = some (.int .i64 len) /\ Chg [] w w1 := fun w1 k =>
  ⟨((Blk.new w _ _).keep k (by simp)).cell rfl, ((Blk.new w _ _).keep k (by simp)).cell rfl, ((Chg.refl _ _).alloc _).trans k⟩
 by_cases g1 : 0 <= at_ /\ 0 <= len
 · obtain ⟨ga, gl⟩ := g1
   have hd := regB_true ga gl
   by_cases g2 : at_ <= size
   · have e1 : IntKind.i64.wrap (size - at_) = size - at_ := IntWalk.i64_in _ (by omega)
     by_cases g3 : len <= size - at_
     · have hi := hid (insB_true (size := size) (at_ := at_) (len := len) ⟨ga, gl, g2, g3⟩)
       go_enter Tryz.func50, Tryz.ntmps50
       go_wp2_with (go_at_call 92; refine (region_any _ _ _).mono ?_; rintro e w1 ⟨rfl, hc⟩; rw [hd]; obtain ⟨k0, k1, k2⟩ := key w1 hc)
       go_ret
       exact ⟨ret_bool (by rw [hi.out]), k2⟩
     · have hi := hid (insB_false (size := size) (at_ := at_) (len := len) (fun h => g3 h.2.2.2))
       go_enter Tryz.func50, Tryz.ntmps50
       go_wp2_with (go_at_call 92; refine (region_any _ _ _).mono ?_; rintro e w1 ⟨rfl, hc⟩; rw [hd]; obtain ⟨k0, k1, k2⟩ := key w1 hc)
       go_ret
       exact ⟨ret_bool (by rw [hi.out]; simpa using g3), k2⟩
   · have hi := hid (insB_false (size := size) (at_ := at_) (len := len) (fun h => g2 h.2.2.1))
     go_enter Tryz.func50, Tryz.ntmps50
     go_wp2_with (go_at_call 92; refine (region_any _ _ _).mono ?_; rintro e w1 ⟨rfl, hc⟩; rw [hd]; obtain ⟨k0, k1, k2⟩ := key w1 hc)
     go_ret
     exact ⟨ret_bool (by rw [hi.out]), k2⟩
 · have hd := regB_false g1
   have hi := hid (insB_false (size := size) (at_ := at_) (len := len) (fun h => g1 ⟨h.1, h.2.1⟩))
   clear g1
   go_enter Tryz.func50, Tryz.ntmps50
   go_wp2_with (go_at_call 92; refine (region_any _ _ _).mono ?_; rintro e w1 ⟨rfl, hc⟩; rw [hd]; obtain ⟨k0, k1, k2⟩ := key w1 hc)
   go_ret
   exact ⟨ret_bool (by rw [hi.out]), k2⟩
theorem New_at (n : Nat) (w : World) (hn : n <= 4096) :
 Calls Tryz.prog 27 #[.int .i64 n] w fun e w' => ∃ b g, e = .returned (.tuple #[.pointer (some ⟨b, 0, none⟩), .int .i64 0]) /\ MemAt w' b (.slice (some ⟨g, 0, none⟩) n n) (List.replicate n 0) 0 /\ Chg [] w w' /\ w.heap.size <= b /\ w.heap.size <= g := by
 obtain ⟨i0, hi, hz0, hz1, hz2⟩ := info_parts info32
 have hmk := run_make_zeros (P := Tryz.prog) 23 22 i0 (.int .u32 0) 4 Tryz.underlying23 hi hz0 hz1 hz2 rfl n (by omega) (by omega)
 have hn1 : (n : Int) <= 4096 := by omega
 have HN := hid hn
 clear hn hi hz0 hz1 hz2
 go_enter Tryz.func27, Tryz.ntmps27
 go_wp2
 go_ret2
 have hn := HN.out
 have hb : Blk ((w.alloc (.cells (zeros (.int .u32 0) n) 22)).alloc (.cells #[.slice (some ⟨w.heap.size, 0, none⟩) n n, .int .i64 0] 86)) (w.heap.size + 1) #[.slice (some ⟨w.heap.size, 0, none⟩) n n, .int .i64 0] 86 := by
  have := Blk.new (w.alloc (.cells (zeros (.int .u32 0) n) 22)) #[.slice (some ⟨w.heap.size, 0, none⟩) n n, .int .i64 0] 86
  rwa [show (w.alloc (.cells (zeros (.int .u32 0) n) 22)).heap.size = w.heap.size + 1 from by simp] at this
 have ho : OwnW ((w.alloc (.cells (zeros (.int .u32 0) n) 22)).alloc (.cells #[.slice (some ⟨w.heap.size, 0, none⟩) n n, .int .i64 0] 86)) 0 (.slice (some ⟨w.heap.size, 0, none⟩) n n) (List.replicate n 0) := by
  unfold OwnW
  have h1 := World.ownsRow_lit (base := 0) (e := 22) (size := 1) w (zeros (.int .u32 0) n) n (Nat.zero_le _) (by unfold maxLen; omega) (by rw [zeros_size, Nat.mul_one])
  have h2 := h1.alloc (.cells #[.slice (some ⟨w.heap.size, 0, none⟩) n n, .int .i64 0] 86)
  rw [List.length_replicate, List.map_replicate]
  exact h2
 have hf : ∀ k, (Value.slice (some ⟨w.heap.size, 0, none⟩) n n).ownBlock = some k -> k = w.heap.size := fun k hk => by
  simp only [Value.ownBlock, Option.some.injEq] at hk; exact hk.symm
 refine ⟨w.heap.size + 1, w.heap.size, rfl, ⟨hb, ho, fun k hk => by rw [hf k hk]; omega, fun x hx => by rw [List.eq_of_mem_replicate hx]; decide, by rw [List.length_replicate]; exact hn⟩, ((Chg.refl _ _).alloc _).alloc _, by omega, Nat.le_refl _⟩
theorem Len_any (b : Nat) (sv : Value) (ws : List Int) (n : Int) (w : World) (h : MemAt w b sv ws n) :
 Calls Tryz.prog 126 #[.pointer (some ⟨b, 0, none⟩)] w fun e w' => e = .returned (.int .i64 (ws.length : Int)) /\ w = w' := by
 obtain ⟨a, c, rfl, _⟩ := h.slice
 have c0 : w.cell? ⟨b, 0, none⟩ = some (.slice a ws.length c) := h.box.cell rfl
 clear h
 go_enter Tryz.func126, Tryz.ntmps126
 go_wp2
 go_ret
 exact ⟨rfl, rfl⟩
theorem word_ok (b g c : Nat) (ws : List Int) (n : Int) (i : Nat) (w : World) (h : MemAt w b (.slice (some ⟨g, 0, none⟩) ws.length c) ws n) (hi : i < ws.length) (hn0 : 0 <= n) (hn : n <= 1000000000000) :
 Calls Tryz.prog 156 #[.pointer (some ⟨b, 0, none⟩), .int .i64 i] w fun e w' => e = .returned (.tuple #[.pointer (some ⟨g, i, none⟩), .int .i64 0]) /\ w' = w.setCell ⟨b, 1, none⟩ (.int .i64 (n + 1)) := by
 have c0 : w.cell? ⟨b, 0, none⟩ = some (.slice (some ⟨g, 0, none⟩) ws.length c) := h.box.cell rfl
 have c1 : w.cell? ⟨b, 1, none⟩ = some (.int .i64 n) := h.box.cell rfl
 have f1 := h.box.free 1
 have hs := h.short
 clear h
 have h1 : (i : Int) < (ws.length : Int) := by omega
 go_enter Tryz.func156, Tryz.ntmps156
 go_wp2
 go_ret2
 exact ⟨by simp, rfl⟩
set_option maxRecDepth 20000
theorem Read_ok (b g c : Nat) (ws : List Int) (n : Int) (i : Nat) (w : World) (h : MemAt w b (.slice (some ⟨g, 0, none⟩) ws.length c) ws n) (hi : i < ws.length) (hn0 : 0 <= n) (hn : n <= 1000000000000) :
 Calls Tryz.prog 150 #[.pointer (some ⟨b, 0, none⟩), .int .i64 i] w fun e w' => e = .returned (.tuple #[.int .u32 (ws.getD i 0), .int .i64 0]) /\ MemAt w' b (.slice (some ⟨g, 0, none⟩) ws.length c) ws (n + 1) /\ Chg [b] w w' := by
 have HW := hid (word_ok b g c ws n i w h hi hn0 hn)
 have h1 := h.step (n + 1)
 have cc := h1.cell i hi
 have HM := hid h1
 generalize hx : ws.getD i 0 = x at *
 clear hx h h1
 go_enter Tryz.func150, Tryz.ntmps150
 go_wp2_with (go_at_call 156; refine HW.out.mono ?_; rintro e w1 ⟨rfl, rfl⟩)
 go_ret2
 exact ⟨rfl, HM.out, (Chg.refl _ _).setCell (.inl (by simp)) _⟩
theorem Write_ok (b g c : Nat) (ws : List Int) (n : Int) (i : Nat) (x : Int) (w : World) (h : MemAt w b (.slice (some ⟨g, 0, none⟩) ws.length c) ws n) (hi : i < ws.length) (hn0 : 0 <= n) (hn : n <= 1000000000000) (hx : (Lit.int .u32 x).wf = true) :
 Calls Tryz.prog 151 #[.pointer (some ⟨b, 0, none⟩), .int .i64 i, .int .u32 x] w fun e w' => e = .returned (.int .i64 0) /\ MemAt w' b (.slice (some ⟨g, 0, none⟩) ws.length c) (ws.set i x) (n + 1) /\ Chg [b, g] w w' := by
 have HW := hid (word_ok b g c ws n i w h hi hn0 hn)
 have h1 := h.step (n + 1)
 have cc := h1.cell i hi
 have ff := h1.free i
 have HM := hid (h1.put i x hx)
 clear h h1
 go_enter Tryz.func151, Tryz.ntmps151
 go_wp2_with (go_at_call 156; refine HW.out.mono ?_; rintro e w1 ⟨rfl, rfl⟩)
 go_ret
 exact ⟨rfl, HM.out, ((Chg.refl _ _).setCell (.inl (by simp)) _).setCell (.inl (by simp)) _⟩
theorem Cas_yes (b g c : Nat) (ws : List Int) (n : Int) (i : Nat) (was now : Int) (w : World) (h : MemAt w b (.slice (some ⟨g, 0, none⟩) ws.length c) ws n) (hi : i < ws.length) (hn0 : 0 <= n) (hn : n <= 1000000000000) (hx : (Lit.int .u32 now).wf = true) (he : ws.getD i 0 = was) :
 Calls Tryz.prog 154 #[.pointer (some ⟨b, 0, none⟩), .int .i64 i, .int .u32 was, .int .u32 now] w fun e w' => e = .returned (.tuple #[.bool true, .int .i64 0]) /\ MemAt w' b (.slice (some ⟨g, 0, none⟩) ws.length c) (ws.set i now) (n + 1) /\ Chg [b, g] w w' := by
 have HW := hid (word_ok b g c ws n i w h hi hn0 hn)
 have h1 := h.step (n + 1)
 have cc := h1.cell i hi
 have ff := h1.free i
 have HM := hid (h1.put i now hx)
 rw [he] at cc
 clear h h1 he
 go_enter Tryz.func154, Tryz.ntmps154
 go_wp2_with (go_at_call 156; refine HW.out.mono ?_; rintro e w1 ⟨rfl, rfl⟩)
 go_ret2
 exact ⟨rfl, HM.out, ((Chg.refl _ _).setCell (.inl (by simp)) _).setCell (.inl (by simp)) _⟩
theorem Cas_no (b g c : Nat) (ws : List Int) (n : Int) (i : Nat) (was now : Int) (w : World) (h : MemAt w b (.slice (some ⟨g, 0, none⟩) ws.length c) ws n) (hi : i < ws.length) (hn0 : 0 <= n) (hn : n <= 1000000000000) (he : ws.getD i 0 ≠ was) :
 Calls Tryz.prog 154 #[.pointer (some ⟨b, 0, none⟩), .int .i64 i, .int .u32 was, .int .u32 now] w fun e w' => e = .returned (.tuple #[.bool false, .int .i64 0]) /\ MemAt w' b (.slice (some ⟨g, 0, none⟩) ws.length c) ws (n + 1) /\ Chg [b] w w' := by
 have HW := hid (word_ok b g c ws n i w h hi hn0 hn)
 have h1 := h.step (n + 1)
 have cc := h1.cell i hi
 have HM := hid h1
 generalize ws.getD i 0 = x at *
 have hb : (x != was) = true := by simpa using he
 clear h h1 he
 go_enter Tryz.func154, Tryz.ntmps154
 go_wp2_with (go_at_call 156; refine HW.out.mono ?_; rintro e w1 ⟨rfl, rfl⟩)
 go_ret2
 exact ⟨rfl, HM.out, (Chg.refl _ _).setCell (.inl (by simp)) _⟩
theorem Clone_words (v : Value) (zs : List Int) (w : World) (hr : ReadsW w v zs) (hz : zs.length <= 1000000) :
 Calls Tryz.prog 61 #[v] w fun e w' => ∃ v', e = .returned v' /\ OwnW w' w.heap.size v' zs /\ Chg [] w w' := by
 obtain ⟨a, c, rfl, _⟩ := reads_slice hr.1
 obtain ⟨i0, hi, hz0, hz1, hz2⟩ := info_parts info32
 cases a with
 | none =>
  have hnil := fun w => Lib.run_eql_slice_nil (P := Tryz.prog) w 23 22 none 0 0 0 0 Tryz.underlying23
  have h0 : zs = [] /\ c = 0 := by
   obtain ⟨_, _, ⟨h0, a, c', he, ha, _⟩ | ⟨_, b, off, c', he, _⟩⟩ := hr.1
   · simp only [Value.slice.injEq] at he
     exact ⟨List.eq_nil_of_length_eq_zero h0, by rw [he.2.2]; exact ha he.1.symm⟩
   · simp at he
  obtain ⟨rfl, rfl⟩ := h0
  simp only [List.length_nil]
  clear hz hr hi hz0 hz1 hz2
  go_enter Tryz.func61, Tryz.ntmps61
  go_wp2
  go_ret
  exact ⟨_, rfl, World.ownsRow_nil _ _ _ _, Chg.refl _ _⟩
 | some x =>
  have hnil := fun w => Lib.run_eql_slice_nil (P := Tryz.prog) w 23 22 (some x) zs.length c 0 0 Tryz.underlying23
  go_enter Tryz.func61, Tryz.ntmps61
  go_wp2_with (at_builtin; refine wpList_append_any _ rfl _ _ 23 rfl w.heap.size 22 i0 (.int .u32 0) 1 4 Tryz.underlying23 hi hz0 hz1 hz2 rfl (by decide) (.slice (some ⟨w.heap.size, 0, none⟩) 0 0) 0 [] rfl (World.ownsRow_lit w #[] 0 (Nat.le_refl _) (Nat.zero_le _) rfl) (.slice (some x) zs.length c) zs.length _ rfl (hr.1.alloc _) (ints_oneCell _ _) (by have := hr.1.le; omega) (by omega) (by simp) ?_; intro v2 w2 hown2 hg2; simp only [Nat.zero_add, List.nil_append] at hown2; have hc2 : Chg [] w w2 := ((Chg.refl _ _).alloc _).grown hg2 (by simp [Value.ownBlock]); clear hg2)
  go_ret
  exact ⟨_, rfl, hown2, hc2⟩
def fillL (ws : List Int) (i : Nat) (l : List Int) : List Int := ws.take i ++ (l ++ ws.drop (i + l.length))
theorem fillL_length (ws : List Int) (i : Nat) (l : List Int) (h : i + l.length <= ws.length) : (fillL ws i l).length = ws.length := by simp [fillL]; omega
theorem take_splice {α : Type} (L : List α) (i n : Nat) (cs : List α) (h : i + cs.length <= n) (hn : n <= L.length) : (splice L i cs).take n = splice (L.take n) i cs := by
 unfold splice
 rw [List.take_append (l₁ := L.take i), List.take_take, Nat.min_eq_right (show i <= n by omega), List.length_take, Nat.min_eq_left (show i <= L.length by omega), List.take_append (l₁ := cs),
  List.take_of_length_le (l := cs) (show cs.length <= n - i by omega), List.take_take, Nat.min_eq_left (show i <= n by omega), List.drop_take, Nat.sub_sub]
theorem Fill_ok (b g c : Nat) (ws l : List Int) (n : Int) (i : Nat) (v : Value) (w : World) (h : MemAt w b (.slice (some ⟨g, 0, none⟩) ws.length c) ws n) (hl : ReadsW w v l) (hi : i + l.length <= ws.length) :
 Calls Tryz.prog 29 #[.pointer (some ⟨b, 0, none⟩), .int .i64 i, v] w fun e w' => e = .returned (.int .i64 0) /\ MemAt w' b (.slice (some ⟨g, 0, none⟩) ws.length c) (fillL ws i l) n /\ Chg [g] w w' := by
 obtain ⟨i0, hi0, hz0, hz1, hz2⟩ := info_parts info32
 obtain ⟨va, vc, rfl, _⟩ := reads_slice hl.1
 have hc : ws.length <= c := by obtain ⟨_, _, he, hc⟩ := h.slice; simp at he; omega
 obtain ⟨dp, dc, es, hdp⟩ := slice_tail (P := Tryz.prog) Tryz.underlying23 sz32 g ws.length c i (by omega)
 obtain ⟨cur, hcur, hcs, htake⟩ : ∃ cur, Blk w g cur 22 /\ cur.size = c /\ cur.toList.take ws.length = ws.map (Value.int .u32) := by
  rcases h.row.2 with ⟨he, _⟩ | ⟨g', cap, cur, he, _, hg, _, _, hs, ht⟩
  · simp at he
  · simp only [Value.slice.injEq, Option.some.injEq, Addr.mk.injEq, and_true, true_and] at he
    obtain ⟨rfl, rfl⟩ := he
    exact ⟨cur, hg, by simpa using hs, by simpa using ht⟩
 have c0 : w.cell? ⟨b, 0, none⟩ = some (.slice (some ⟨g, 0, none⟩) ws.length c) := h.box.cell rfl
 have HI := hid (insB_true (size := ws.length) (at_ := i) (len := l.length) ⟨by omega, by omega, by omega, by omega⟩)
 have H := hid h
 have HL := hid hl
 have hs := h.short
 have HS := hid hs
 have HI2 := hid hi
 have hmin0 : Nat.min l.length (ws.length - i) = l.length := Nat.min_eq_left (by omega)
 have HF := hid (show i + Nat.min l.length (ws.length - i) <= cur.size by rw [hmin0]; omega)
 have HPOS := hid (show 0 < Nat.min l.length (ws.length - i) -> dp = some ⟨g, i, none⟩ from fun hp => hdp (by rw [hmin0] at hp; omega) hc)
 clear hmin0
 have HDP := hid hdp
 have HCUR := hid hcur
 have HCS := hid hcs
 have HC := hid hc
 have HT := hid htake
 have hsz : (Tryz.prog.info? 22).map (·.size) = some 1 := sz32
 have HSZ := hid hsz
 have hli : (l.length : Int) <= 4096 := by omega
 have hwi : (ws.length : Int) <= 4096 := by omega
 clear h hl hdp hcur hcs htake hi0 hz0 hz1 hz2 hsz hs hi hc
 go_enter Tryz.func29, Tryz.ntmps29
 go_wp2_with (first | (go_at_call 50; refine (Inside_any _ _ _ _ (by omega) (by omega)).mono ?_; rintro e w1 ⟨rfl, hc1⟩; rw [HI.out]; have d0 := hc1.keep c0 (by simp); have HC1 := hid hc1; clear hc1) | ((with_reducible show wpList _ _ _ (⟨some 29, _, _, _, _, _⟩ :: _) _ _); refine wpList_copy_any (o := ⟨some 29, _, _, _, _, _⟩) rfl (.tmp 27) (.tmp 28) 23 23 rfl 22 Tryz.underlying23 HSZ.out dp (ws.length - i) dc rfl (.slice va l.length vc) rfl l.length _ (HL.out.chg HC1.out).1 (ints_oneCell _ _) g i cur 22 (HCUR.out.keep HC1.out (by simp)) HPOS.out HF.out ?_; intro w2 hb2 hc2))
 go_ret
 have hi := HI2.out
 have hmin : Nat.min l.length (ws.length - i) = l.length := Nat.min_eq_left (by omega)
 rw [hmin, List.take_of_length_le (by simp)] at hb2
 have hwf : ∀ x ∈ fillL ws i l, (Lit.int .u32 x).wf = true := fun x hx => by
  simp only [fillL, List.mem_append] at hx
  rcases hx with hx | hx | hx
  · exact H.out.wf x (List.mem_of_mem_take hx)
  · exact HL.out.2 x hx
  · exact H.out.wf x (List.mem_of_mem_drop hx)
 have hlen := fillL_length ws i l hi
 have hc5 := HC.out
 refine ⟨rfl, ⟨(H.out.box.keep HC1.out (by simp)).keep hc2 (by simp; exact Ne.symm (H.out.far g rfl)), ?_, H.out.far, hwf, by rw [hlen]; exact HS.out⟩, (HC1.out.mono (by simp)).trans hc2⟩
 unfold OwnW
 rw [hlen]
 refine ⟨by simp [hlen], .inr ⟨g, c, _, rfl, Nat.zero_le _, hb2, hc5, ?_, ?_, ?_⟩⟩
 · have := H.out.row.2
   rcases this with ⟨he, _⟩ | ⟨g', cap, cur', he, _, _, _, hm, _, _⟩
   · simp at he
   · simp at he; omega
 · have := length_splice cur.toList i (l.map (Value.int .u32)) (by have := HCS.out; simp; omega)
   simp only [List.size_toArray, this, Nat.mul_one, Array.length_toList]
   exact HCS.out
 · rw [Nat.mul_one, List.toList_toArray, take_splice _ _ _ _ (by simp; omega) (by have := HCS.out; simp; omega), HT.out]
   simp [splice, fillL, List.map_take, List.map_drop]
def wordsB (xs ys : List Int) : Bool := decide (xs = ys)
theorem Words_any (u v : Value) (xs ys : List Int) (w : World) (hu : ReadsW w u xs) (hv : ReadsW w v ys) (hx : xs.length <= 1000000) (hy : ys.length <= 1000000) :
 Calls Tryz.prog 13 #[u, v] w fun e w' => e = .returned (.bool (wordsB xs ys)) /\ Quiet w w' := by
 obtain ⟨ua, uc, rfl, _⟩ := reads_slice hu.1
 obtain ⟨va, vc, rfl, _⟩ := reads_slice hv.1
 obtain ⟨b1, o1, ix1, cx1, _⟩ := reads_index (P := Tryz.prog) Tryz.underlying23 sz32 hu.1
 obtain ⟨b2, o2, ix2, cx2, _⟩ := reads_index (P := Tryz.prog) Tryz.underlying23 sz32 hv.1
 have hx1 : (xs.length : Int) <= 1000000 := by omega
 have hy1 : (ys.length : Int) <= 1000000 := by omega
 have CX1 := hid cx1
 have CX2 := hid cx2
 have IX1 := hid ix1
 have IX2 := hid ix2
 clear hx hy cx1 cx2 ix1 ix2 hu hv
 by_cases hl : xs.length = ys.length
 case neg =>
  have hf : wordsB xs ys = false := by simp only [wordsB, decide_eq_false_iff_not]; rintro rfl; exact hl rfl
  rw [hf]
  have hl2 : (xs.length : Int) ≠ (ys.length : Int) := by omega
  clear hf
  go_enter Tryz.func13, Tryz.ntmps13
  go_wp2
  go_ret
  exact ⟨rfl, ⟨0, rfl⟩⟩
 case pos =>
  have HL := hid hl
  go_enter Tryz.func13, Tryz.ntmps13
  rw [<- hl]
  clear hl
  go_wp2
  go_loopw [5, 13] (fun _ i wr => ∃ k m : Nat, k <= xs.length /\ i = .int .i64 k /\ Hid (xs.take k = ys.take k) /\ wr = w.drewN m) (fun _ i _ => xs.length - (intOf i).toNat)
  case atStart => exact ⟨0, 0, Nat.zero_le _, rfl, hid (by simp), rfl⟩
  case round =>
   obtain ⟨k, m, hk, rfl, HT, rfl⟩ := hrel
   by_cases hlt : k < xs.length
   · have hlt2 : k < ys.length := by have := HL.out; omega
     have i1 := IX1.out k hlt
     have i2 := IX2.out k hlt2
     rw [<- HL.out] at i2
     obtain ⟨p, hp⟩ : ∃ p, xs[k]? = some p := ⟨_, List.getElem?_eq_getElem hlt⟩
     obtain ⟨q, hq⟩ : ∃ q, ys[k]? = some q := ⟨_, List.getElem?_eq_getElem hlt2⟩
     have e1 : (w.drewN m).cell? ⟨b1, o1 + k * 1, none⟩ = some (.int .u32 p) := CX1.out (k * 1) _ (by simp [hp])
     have e2 : (w.drewN m).cell? ⟨b2, o2 + k * 1, none⟩ = some (.int .u32 q) := CX2.out (k * 1) _ (by simp [hq])
     have e1' : (w.drewN m).drew.cell? ⟨b1, o1 + k * 1, none⟩ = some (.int .u32 p) := e1
     have e2' : (w.drewN m).drew.cell? ⟨b2, o2 + k * 1, none⟩ = some (.int .u32 q) := e2
     have HS1 := hid (show xs.take (k + 1) = xs.take k ++ [p] by rw [List.take_add_one, hp]; rfl)
     have HS2 := hid (show ys.take (k + 1) = ys.take k ++ [q] by rw [List.take_add_one, hq]; rfl)
     have HXK := hid hp
     have HYK := hid hq
     clear hp hq hlt2
     have d1 : ∀ W, Hid (W = (w.drewN m).drew) -> W.cell? ⟨b1, o1 + k, none⟩ = some (.int .u32 p) := fun W h => by rw [h.out]; rw [Nat.mul_one] at e1; exact e1
     have d2 : ∀ W, Hid (W = (w.drewN m).drew) -> W.cell? ⟨b2, o2 + k, none⟩ = some (.int .u32 q) := fun W h => by rw [h.out]; rw [Nat.mul_one] at e2; exact e2
     have D1 := hid d1
     have D2 := hid d2
     clear e1 e2 e1' e2' d1 d2
     go_wp2_with fail
     refine wp_region_tail 8 (by kernel_rfl) (by kernel_rfl) ?_
     intro W hW
     have f1 := D1.out W hW
     have f2 := D2.out W hW
     simp only [List.take_succ_cons, List.take_zero, List.drop_succ_cons, List.drop_zero]
     repeat still_step
     refine wpStill_nil ?_
     by_cases hpq : p = q
     · subst hpq
       go_wp2
       go_roundw
       case rel => exact ⟨k + 1, m + 1, by omega, by go_num, hid (by rw [HS1.out, HS2.out, HT.out]), hW.out⟩
       case measure => simp [intOf]; omega
     · go_wp2
       go_ret
       refine ⟨?_, ⟨m + 1, hW.out⟩⟩
       have : wordsB xs ys = false := by
        simp only [wordsB, decide_eq_false_iff_not]
        rintro rfl
        have := HXK.out.symm.trans HYK.out
        simp at this
        exact hpq this
       rw [this]; rfl
   · go_wp2
     go_ret
     obtain rfl : k = xs.length := by omega
     refine ⟨?_, ⟨m, rfl⟩⟩
     have : wordsB xs ys = true := by
      simp only [wordsB, decide_eq_true_eq]
      have := HT.out
      rw [List.take_of_length_le (Nat.le_refl _), HL.out, List.take_of_length_le (Nat.le_refl _)] at this
      exact this
     rw [this]; rfl
def wrL (ws : List Int) (i x : Int) : List Int := if 0 <= i /\ i < ws.length then ws.set i.toNat x else ws
theorem fill_all (l : List Int) : fillL (List.replicate l.length 0) 0 l = l := by simp [fillL]
end Go.Proofs.YtphfnjcboellhaaGreatDoor.mem
