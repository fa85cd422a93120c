/- Package chen: an operation is begun; what must come. -/
import Derived.Test.YtapaolaemkhbdaaDoorChen3
import Derived.Test.YtapaolaemkhbdaaDoorChen2
import Derived.Deep.Cut
namespace Go.Proofs.YtapaolaemkhbdaaDoor.chen
open Go Go.RowKit Go.Proofs.YtapaolaemkhbdaaDoor.kit Go.Proofs.YtapaolaemkhbdaaDoor.mem Go.Proofs.YtapaolaemkhbdaaDoor.rop Go.Proofs.YtapaolaemkhbdaaDoor.core Go.Proofs.YtapaolaemkhbdaaDoor.obj
set_option linter.unusedVariables false
set_option linter.unusedSimpArgs false
set_option maxRecDepth 20000

theorem free_second : bitm.freeU (bitm.markU (bitm.markU 0 0) 0) = 1 := by decide +kernel
set_option maxHeartbeats 8000000 in
theorem Begin_yes (k w s c st : Int) (ia : Option Addr) (il ic : Nat) (wr : Int) (ra : Option Addr) (rl rc : Nat) (at_ op rd_ size : Int) (rv : Value) (rec : List Int) (W : World) (hr : ReadsW W rv rec) (hl : rec.length ≤ 1000) (hsz : ∀ V, Calls Tryd.prog 26 #[.agg #[.int .i64 k, .int .i64 w, .int .i64 s, .int .i64 c, .int .u32 st, .slice ia il ic, .int .i64 wr, .slice ra rl rc]] V fun e W' => e = .returned (.int .i64 size) ∧ Chg [] V W') (hb : begI w rl size at_ op rd_ 2 1 rec.length = 0) :
    Calls Tryd.prog 38 #[.agg #[.int .i64 k, .int .i64 w, .int .i64 s, .int .i64 c, .int .u32 st, .slice ia il ic, .int .i64 wr, .slice ra rl rc], .int .i64 at_, .int .i64 op, .int .i64 rd_, rv] W fun e W' => ∃ b v', e = .returned (.tuple #[.pointer (some ⟨b, 0, none⟩), .int .i64 0]) ∧ Blk W' b (({ k := k, w := w, s := s, c := c, st := st, ia := ia, il := il, ic := ic, wr := wr, ra := ra, rl := rl, rc := rc, op := op, reader := rd_, phase := 0, i := 0, tries := 0, a := 0, b := 0, used := 0, m := .pointer none, base := at_, size := size, code := 0, steps := 0, over := false } : Core).cells v') 83 ∧ OwnW W' W.heap.size v' rec ∧ (∀ y, v'.ownBlock = some y → y ≠ b) ∧ W.heap.size ≤ b ∧ Chg [] W W' := by
  have HSZ := Lib.hid hsz
  have HR := Lib.hid hr
  have HBG := Lib.hid (fun V (hv : ReadsW V rv rec) => four.mBegin_yes k w s c st ia il ic wr ra rl rc size at_ op rd_ 2 1 rv rec V hv hl hb)
  obtain ⟨ra0, rcap0, rfl, _⟩ := reads_slice hr.1
  clear hr hl hsz hb
  go_enter Tryd.func38, Tryd.ntmps38
  go_wp2_with fail
  refine code_gen (R := fun V => Hid (Blk V W.heap.size #[.int .i64 k, .int .i64 w, .int .i64 s, .int .i64 c, .int .u32 st, .slice ia il ic, .int .i64 wr, .slice ra rl rc] 26) ∧ Hid (Chg [] W V)) ⟨Lib.hid (Blk.new W _ _), Lib.hid ((Chg.refl [] W).alloc _)⟩ ?_
  rintro W1 ⟨HO1, HC1⟩
  have eS0 : W1.cell? ⟨W.heap.size, 0, none⟩ = some (.int .i64 k) := HO1.out.cell rfl
  have eS1 : W1.cell? ⟨W.heap.size, 1, none⟩ = some (.int .i64 w) := HO1.out.cell rfl
  have eS2 : W1.cell? ⟨W.heap.size, 2, none⟩ = some (.int .i64 s) := HO1.out.cell rfl
  have eS3 : W1.cell? ⟨W.heap.size, 3, none⟩ = some (.int .i64 c) := HO1.out.cell rfl
  have eS4 : W1.cell? ⟨W.heap.size, 4, none⟩ = some (.int .u32 st) := HO1.out.cell rfl
  have eS5 : W1.cell? ⟨W.heap.size, 5, none⟩ = some (.slice ia il ic) := HO1.out.cell rfl
  have eS6 : W1.cell? ⟨W.heap.size, 6, none⟩ = some (.int .i64 wr) := HO1.out.cell rfl
  have eS7 : W1.cell? ⟨W.heap.size, 7, none⟩ = some (.slice ra rl rc) := HO1.out.cell rfl
  have KEEP := Lib.hid (fun (V : World) (h : Chg [] W1 V) => (⟨h.keep eS0 (by simp), h.keep eS1 (by simp), h.keep eS2 (by simp), h.keep eS3 (by simp), h.keep eS4 (by simp), h.keep eS5 (by simp), h.keep eS6 (by simp), h.keep eS7 (by simp), Lib.hid h⟩ : (fun V : World => V.cell? ⟨W.heap.size, 0, none⟩ = some (.int .i64 k) ∧ V.cell? ⟨W.heap.size, 1, none⟩ = some (.int .i64 w) ∧ V.cell? ⟨W.heap.size, 2, none⟩ = some (.int .i64 s) ∧ V.cell? ⟨W.heap.size, 3, none⟩ = some (.int .i64 c) ∧ V.cell? ⟨W.heap.size, 4, none⟩ = some (.int .u32 st) ∧ V.cell? ⟨W.heap.size, 5, none⟩ = some (.slice ia il ic) ∧ V.cell? ⟨W.heap.size, 6, none⟩ = some (.int .i64 wr) ∧ V.cell? ⟨W.heap.size, 7, none⟩ = some (.slice ra rl rc) ∧ Hid (Chg [] W1 V)) V))
  clear eS0 eS1 eS2 eS3 eS4 eS5 eS6 eS7
  have hHeld : (fun V : World => V.cell? ⟨W.heap.size, 0, none⟩ = some (.int .i64 k) ∧ V.cell? ⟨W.heap.size, 1, none⟩ = some (.int .i64 w) ∧ V.cell? ⟨W.heap.size, 2, none⟩ = some (.int .i64 s) ∧ V.cell? ⟨W.heap.size, 3, none⟩ = some (.int .i64 c) ∧ V.cell? ⟨W.heap.size, 4, none⟩ = some (.int .u32 st) ∧ V.cell? ⟨W.heap.size, 5, none⟩ = some (.slice ia il ic) ∧ V.cell? ⟨W.heap.size, 6, none⟩ = some (.int .i64 wr) ∧ V.cell? ⟨W.heap.size, 7, none⟩ = some (.slice ra rl rc) ∧ Hid (Chg [] W1 V)) W1.drew := KEEP.out _ (Chg.refl _ _).drew
  have HD : Hid (Chg [] W1 W1.drew) := Lib.hid (Chg.refl _ _).drew
  refine wp_region_pt (fun V : World => V.cell? ⟨W.heap.size, 0, none⟩ = some (.int .i64 k) ∧ V.cell? ⟨W.heap.size, 1, none⟩ = some (.int .i64 w) ∧ V.cell? ⟨W.heap.size, 2, none⟩ = some (.int .i64 s) ∧ V.cell? ⟨W.heap.size, 3, none⟩ = some (.int .i64 c) ∧ V.cell? ⟨W.heap.size, 4, none⟩ = some (.int .u32 st) ∧ V.cell? ⟨W.heap.size, 5, none⟩ = some (.slice ia il ic) ∧ V.cell? ⟨W.heap.size, 6, none⟩ = some (.int .i64 wr) ∧ V.cell? ⟨W.heap.size, 7, none⟩ = some (.slice ra rl rc) ∧ Hid (Chg [] W1 V)) (PT.read 0 (some 15) (PT.read 1 (some 16) (PT.read 3 (some 18) (PT.read 4 (some 19) (PT.read 5 (some 20) (PT.read 6 (some 21) (PT.read 7 (some 22) (PT.fork 2 (some 17) (PT.fork 8 (some 23) (PT.read 9 (some 14) (PT.read 10 (some 24) (PT.read 11 (some 25) (PT.act 12 (some 12) (PT.act 13 (none) (PT.read 14 (some 13) PT.nil)))))) 12 (some 12) (PT.act 8 (some 23) (PT.read 9 (some 14) (PT.read 10 (some 24) (PT.read 11 (some 25) (PT.act 13 (none) (PT.read 14 (some 13) PT.nil))))))) 12 (some 12) (PT.act 2 (some 17) (PT.act 8 (some 23) (PT.read 9 (some 14) (PT.read 10 (some 24) (PT.read 11 (some 25) (PT.act 13 (none) (PT.read 14 (some 13) PT.nil))))))))))))))) (by kernel_rfl) (by kernel_rfl) (by kernel_rfl) (by kernel_rfl) (fun d c a v w h => by cases d <;> exact h) hHeld ?_
  clear hHeld
  repeat (refine pt_read (v := ?_) rfl rfl ?_ ?_ ?_; rotate_left; (focus rfl); (focus (intro u hSw; (try dsimp only at hSw); go_simp; (try with_reducible rfl))); (try simp only [Act.put, List.setIfInBounds_toArray, List.set_cons_zero, List.set_cons_succ]))
  refine pt_fork ?_ ?_
  · refine act_do rfl rfl ?_ (fun K hK => ?_)
    · rfl
    go_simp
    go_wp2_with (go_at_call 26; refine (HSZ.out _).mono ?_; rintro e wS ⟨rfl, hx⟩; have HCS := Lib.hid (HD.out.trans hx); clear hx)
    refine hK.out _ _ (KEEP.out _ HCS.out) (fun _ => ?_)
    clear hK K
    try simp only [Act.put, List.setIfInBounds_toArray, List.set_cons_zero, List.set_cons_succ]
    refine pt_fork ?_ ?_
    · refine act_do rfl rfl ?_ (fun K hK => ?_)
      · rfl
      go_simp
      go_wp2_with (go_at_call 60; refine (HBG.out _ (HR.out.chg (HC1.out.trans HCS.out))).mono ?_; rintro e wB ⟨v4, rfl, ho4, hc4⟩; have HO4 := Lib.hid ho4; have HCB := Lib.hid (HCS.out.trans hc4); have HBK := Lib.hid hc4; clear hc4 ho4)
      refine hK.out _ _ (KEEP.out _ HCB.out) (fun _ => ?_)
      clear hK K
      try simp only [Act.put, List.setIfInBounds_toArray, List.set_cons_zero, List.set_cons_succ]
      repeat (refine pt_read (v := ?_) rfl rfl ?_ ?_ ?_; rotate_left; (focus rfl); (focus (intro u hSw; (try dsimp only at hSw); go_simp; (try with_reducible rfl))); (try simp only [Act.put, List.setIfInBounds_toArray, List.set_cons_zero, List.set_cons_succ]))
      have HBASE : Hid (W.heap.size ≤ wS.heap.size) := Lib.hid (HC1.out.trans HCS.out).size
      have HO4x : Hid (OwnW (wB.alloc (.cells #[.int .i64 0, .int .i64 0, .int .i64 0, .int .i64 0, .int .u32 0, .slice none 0 0, .int .i64 0, .slice none 0 0, .int .i64 0, .int .i64 0, .int .i64 0, .int .i64 0, .int .i64 0, .int .u32 0, .int .u32 0, .int .u64 0, .slice none 0 0, .pointer none, .int .i64 0, .int .i64 0, .int .i64 0, .int .i64 0, .bool false] 71)) wS.heap.size v4 rec) := Lib.hid (mem.own_chg HO4.out ((Chg.refl [] _).alloc _) (by simp))
      have HNE : Hid (∀ y, v4.ownBlock = some y → y ∉ [wB.heap.size]) := Lib.hid (fun y hy => by have := own_lt (own_base HO4.out (Nat.zero_le _)) hy; simp; omega)
      refine pt_act ?_
      refine act_do rfl rfl ?_ (fun K hK => ?_)
      · rfl
      go_simp
      refine hK.out _ _ (KEEP.out _ (HCB.out.alloc _)) (fun _ => ?_)
      clear hK K
      try simp only [Act.put, List.setIfInBounds_toArray, List.set_cons_zero, List.set_cons_succ]
      refine pt_act (act_do rfl rfl ?_ (fun K hK => ?_))
      · rfl
      have HZB := Lib.hid (Blk.new wB #[.int .i64 0, .int .i64 0, .int .i64 0, .int .i64 0, .int .u32 0, .slice none 0 0, .int .i64 0, .slice none 0 0, .int .i64 0, .int .i64 0, .int .i64 0, .int .i64 0, .int .i64 0, .int .u32 0, .int .u32 0, .int .u64 0, .slice none 0 0, .pointer none, .int .i64 0, .int .i64 0, .int .i64 0, .int .i64 0, .bool false] 71)
      refine wp_store_blk 71 (.tmp 12) (.tmp 24) rfl wB.heap.size (({ k := k, w := w, s := s, c := c, st := st, ia := ia, il := il, ic := ic, wr := wr, ra := ra, rl := rl, rc := rc, op := op, reader := rd_, phase := 0, i := 0, tries := 0, a := 0, b := 0, used := 0, m := .pointer none, base := at_, size := size, code := 0, steps := 0, over := false } : Core).cells v4) rfl rfl HZB.out coreSize rfl (cells_one _ _ rfl (by rcases HO4.out.2 with ⟨rfl, _⟩ | ⟨_, _, _, rfl, _⟩ <;> rfl)) ?_
      intro w5 hb5 hc5
      have HC5 : Hid (Chg [] W1 w5) := Lib.hid ((HCB.out.alloc _).into hc5 (fun y hy => by simp at hy; right; have := HCB.out.size; omega))
      refine hK.out _ _ (KEEP.out _ HC5.out) (fun _ => ?_)
      clear hK K KEEP
      try simp only [Act.put, List.setIfInBounds_toArray, List.set_cons_zero, List.set_cons_succ]
      repeat (refine pt_read (v := ?_) rfl rfl ?_ ?_ ?_; rotate_left; (focus rfl); (focus (intro u hSw; (try dsimp only at hSw); go_simp; (try with_reducible rfl))); (try simp only [Act.put, List.setIfInBounds_toArray, List.set_cons_zero, List.set_cons_succ]))
      refine pt_nil ?_
      have HO5 := Lib.hid (own_base (mem.own_chg HO4x.out hc5 HNE.out) (B' := W.heap.size) HBASE.out)
      have HB5 := Lib.hid hb5
      clear hb5 hc5
      go_wp2_with (refine wpList_load_blk rfl 71 (.tmp 12) rfl _ rfl HB5.out _ Tryd.underlying71 rfl coreSize ?_; dsimp only [Core.cells])
      go_ret2
      refine ⟨w5.heap.size, v4, rfl, Blk.new w5 (({ k := k, w := w, s := s, c := c, st := st, ia := ia, il := il, ic := ic, wr := wr, ra := ra, rl := rl, rc := rc, op := op, reader := rd_, phase := 0, i := 0, tries := 0, a := 0, b := 0, used := 0, m := .pointer none, base := at_, size := size, code := 0, steps := 0, over := false } : Core).cells v4) 83, mem.own_chg HO5.out ((Chg.refl [] w5).alloc _) (by simp), fun y hy => ?_, (HC1.out.trans HC5.out).size, (HC1.out.trans HC5.out).alloc _⟩
      have := own_lt (own_base HO5.out (Nat.zero_le _)) hy
      omega
    · refine act_do rfl rfl ?_ (fun K hK => ?_)
      · rfl
      go_simp
      refine hK.out _ _ (KEEP.out _ (HCS.out.alloc _)) (fun _ => ?_)
      clear hK K
      try simp only [Act.put, List.setIfInBounds_toArray, List.set_cons_zero, List.set_cons_succ]
      have HCA : Hid (Chg [] W1 (wS.alloc (.cells #[.int .i64 0, .int .i64 0, .int .i64 0, .int .i64 0, .int .u32 0, .slice none 0 0, .int .i64 0, .slice none 0 0, .int .i64 0, .int .i64 0, .int .i64 0, .int .i64 0, .int .i64 0, .int .u32 0, .int .u32 0, .int .u64 0, .slice none 0 0, .pointer none, .int .i64 0, .int .i64 0, .int .i64 0, .int .i64 0, .bool false] 71))) := Lib.hid (HCS.out.alloc _)
      refine pt_act ?_
      refine act_do rfl rfl ?_ (fun K hK => ?_)
      · rfl
      go_simp
      go_wp2_with (go_at_call 60; refine (HBG.out _ (HR.out.chg (HC1.out.trans HCA.out))).mono ?_; rintro e wB ⟨v4, rfl, ho4, hc4⟩; have HO4 := Lib.hid ho4; have HCB := Lib.hid (HCA.out.trans hc4); have HBK := Lib.hid hc4; clear hc4 ho4)
      refine hK.out _ _ (KEEP.out _ HCB.out) (fun _ => ?_)
      clear hK K
      try simp only [Act.put, List.setIfInBounds_toArray, List.set_cons_zero, List.set_cons_succ]
      repeat (refine pt_read (v := ?_) rfl rfl ?_ ?_ ?_; rotate_left; (focus rfl); (focus (intro u hSw; (try dsimp only at hSw); go_simp; (try with_reducible rfl))); (try simp only [Act.put, List.setIfInBounds_toArray, List.set_cons_zero, List.set_cons_succ]))
      have HBASE : Hid (W.heap.size ≤ (wS.alloc (.cells #[.int .i64 0, .int .i64 0, .int .i64 0, .int .i64 0, .int .u32 0, .slice none 0 0, .int .i64 0, .slice none 0 0, .int .i64 0, .int .i64 0, .int .i64 0, .int .i64 0, .int .i64 0, .int .u32 0, .int .u32 0, .int .u64 0, .slice none 0 0, .pointer none, .int .i64 0, .int .i64 0, .int .i64 0, .int .i64 0, .bool false] 71)).heap.size) := Lib.hid (HC1.out.trans HCA.out).size
      have HO4x := HO4
      have HNE : Hid (∀ y, v4.ownBlock = some y → y ∉ [wS.heap.size]) := Lib.hid (own_ne HO4.out (Blk.new wS #[.int .i64 0, .int .i64 0, .int .i64 0, .int .i64 0, .int .u32 0, .slice none 0 0, .int .i64 0, .slice none 0 0, .int .i64 0, .int .i64 0, .int .i64 0, .int .i64 0, .int .i64 0, .int .u32 0, .int .u32 0, .int .u64 0, .slice none 0 0, .pointer none, .int .i64 0, .int .i64 0, .int .i64 0, .int .i64 0, .bool false] 71))
      refine pt_act (act_do rfl rfl ?_ (fun K hK => ?_))
      · rfl
      have HZB := Lib.hid ((Blk.new wS #[.int .i64 0, .int .i64 0, .int .i64 0, .int .i64 0, .int .u32 0, .slice none 0 0, .int .i64 0, .slice none 0 0, .int .i64 0, .int .i64 0, .int .i64 0, .int .i64 0, .int .i64 0, .int .u32 0, .int .u32 0, .int .u64 0, .slice none 0 0, .pointer none, .int .i64 0, .int .i64 0, .int .i64 0, .int .i64 0, .bool false] 71).keep HBK.out (by simp))
      refine wp_store_blk 71 (.tmp 12) (.tmp 24) rfl wS.heap.size (({ k := k, w := w, s := s, c := c, st := st, ia := ia, il := il, ic := ic, wr := wr, ra := ra, rl := rl, rc := rc, op := op, reader := rd_, phase := 0, i := 0, tries := 0, a := 0, b := 0, used := 0, m := .pointer none, base := at_, size := size, code := 0, steps := 0, over := false } : Core).cells v4) rfl rfl HZB.out coreSize rfl (cells_one _ _ rfl (by rcases HO4.out.2 with ⟨rfl, _⟩ | ⟨_, _, _, rfl, _⟩ <;> rfl)) ?_
      intro w5 hb5 hc5
      have HC5 : Hid (Chg [] W1 w5) := Lib.hid (HCB.out.into hc5 (fun y hy => by simp at hy; right; have := HCS.out.size; omega))
      refine hK.out _ _ (KEEP.out _ HC5.out) (fun _ => ?_)
      clear hK K KEEP
      try simp only [Act.put, List.setIfInBounds_toArray, List.set_cons_zero, List.set_cons_succ]
      repeat (refine pt_read (v := ?_) rfl rfl ?_ ?_ ?_; rotate_left; (focus rfl); (focus (intro u hSw; (try dsimp only at hSw); go_simp; (try with_reducible rfl))); (try simp only [Act.put, List.setIfInBounds_toArray, List.set_cons_zero, List.set_cons_succ]))
      refine pt_nil ?_
      have HO5 := Lib.hid (own_base (mem.own_chg HO4x.out hc5 HNE.out) (B' := W.heap.size) HBASE.out)
      have HB5 := Lib.hid hb5
      clear hb5 hc5
      go_wp2_with (refine wpList_load_blk rfl 71 (.tmp 12) rfl _ rfl HB5.out _ Tryd.underlying71 rfl coreSize ?_; dsimp only [Core.cells])
      go_ret2
      refine ⟨w5.heap.size, v4, rfl, Blk.new w5 (({ k := k, w := w, s := s, c := c, st := st, ia := ia, il := il, ic := ic, wr := wr, ra := ra, rl := rl, rc := rc, op := op, reader := rd_, phase := 0, i := 0, tries := 0, a := 0, b := 0, used := 0, m := .pointer none, base := at_, size := size, code := 0, steps := 0, over := false } : Core).cells v4) 83, mem.own_chg HO5.out ((Chg.refl [] w5).alloc _) (by simp), fun y hy => ?_, (HC1.out.trans HC5.out).size, (HC1.out.trans HC5.out).alloc _⟩
      have := own_lt (own_base HO5.out (Nat.zero_le _)) hy
      omega
  · refine act_do rfl rfl ?_ (fun K hK => ?_)
    · rfl
    go_simp
    refine hK.out _ _ (KEEP.out _ (HD.out.alloc _)) (fun _ => ?_)
    clear hK K
    try simp only [Act.put, List.setIfInBounds_toArray, List.set_cons_zero, List.set_cons_succ]
    have HCA : Hid (Chg [] W1 (W1.drew.alloc (.cells #[.int .i64 0, .int .i64 0, .int .i64 0, .int .i64 0, .int .u32 0, .slice none 0 0, .int .i64 0, .slice none 0 0, .int .i64 0, .int .i64 0, .int .i64 0, .int .i64 0, .int .i64 0, .int .u32 0, .int .u32 0, .int .u64 0, .slice none 0 0, .pointer none, .int .i64 0, .int .i64 0, .int .i64 0, .int .i64 0, .bool false] 71))) := Lib.hid (HD.out.alloc _)
    refine pt_act ?_
    refine act_do rfl rfl ?_ (fun K hK => ?_)
    · rfl
    go_simp
    go_wp2_with (go_at_call 26; refine (HSZ.out _).mono ?_; rintro e wS ⟨rfl, hx⟩; have HCS := Lib.hid (HCA.out.trans hx); have HSK := Lib.hid hx; clear hx)
    refine hK.out _ _ (KEEP.out _ HCS.out) (fun _ => ?_)
    clear hK K
    try simp only [Act.put, List.setIfInBounds_toArray, List.set_cons_zero, List.set_cons_succ]
    refine pt_act ?_
    refine act_do rfl rfl ?_ (fun K hK => ?_)
    · rfl
    go_simp
    go_wp2_with (go_at_call 60; refine (HBG.out _ (HR.out.chg (HC1.out.trans HCS.out))).mono ?_; rintro e wB ⟨v4, rfl, ho4, hc4⟩; have HO4 := Lib.hid ho4; have HCB := Lib.hid (HCS.out.trans hc4); have HBK := Lib.hid hc4; clear hc4 ho4)
    refine hK.out _ _ (KEEP.out _ HCB.out) (fun _ => ?_)
    clear hK K
    try simp only [Act.put, List.setIfInBounds_toArray, List.set_cons_zero, List.set_cons_succ]
    repeat (refine pt_read (v := ?_) rfl rfl ?_ ?_ ?_; rotate_left; (focus rfl); (focus (intro u hSw; (try dsimp only at hSw); go_simp; (try with_reducible rfl))); (try simp only [Act.put, List.setIfInBounds_toArray, List.set_cons_zero, List.set_cons_succ]))
    have HBASE : Hid (W.heap.size ≤ wS.heap.size) := Lib.hid (HC1.out.trans HCS.out).size
    have HO4x := HO4
    have HNE : Hid (∀ y, v4.ownBlock = some y → y ∉ [W1.heap.size]) := Lib.hid (own_ne HO4.out ((Blk.new W1.drew #[.int .i64 0, .int .i64 0, .int .i64 0, .int .i64 0, .int .u32 0, .slice none 0 0, .int .i64 0, .slice none 0 0, .int .i64 0, .int .i64 0, .int .i64 0, .int .i64 0, .int .i64 0, .int .u32 0, .int .u32 0, .int .u64 0, .slice none 0 0, .pointer none, .int .i64 0, .int .i64 0, .int .i64 0, .int .i64 0, .bool false] 71).keep HSK.out (by simp)))
    refine pt_act (act_do rfl rfl ?_ (fun K hK => ?_))
    · rfl
    have HZB := Lib.hid (((Blk.new W1.drew #[.int .i64 0, .int .i64 0, .int .i64 0, .int .i64 0, .int .u32 0, .slice none 0 0, .int .i64 0, .slice none 0 0, .int .i64 0, .int .i64 0, .int .i64 0, .int .i64 0, .int .i64 0, .int .u32 0, .int .u32 0, .int .u64 0, .slice none 0 0, .pointer none, .int .i64 0, .int .i64 0, .int .i64 0, .int .i64 0, .bool false] 71).keep HSK.out (by simp)).keep HBK.out (by simp))
    refine wp_store_blk 71 (.tmp 12) (.tmp 24) rfl W1.heap.size (({ k := k, w := w, s := s, c := c, st := st, ia := ia, il := il, ic := ic, wr := wr, ra := ra, rl := rl, rc := rc, op := op, reader := rd_, phase := 0, i := 0, tries := 0, a := 0, b := 0, used := 0, m := .pointer none, base := at_, size := size, code := 0, steps := 0, over := false } : Core).cells v4) rfl rfl HZB.out coreSize rfl (cells_one _ _ rfl (by rcases HO4.out.2 with ⟨rfl, _⟩ | ⟨_, _, _, rfl, _⟩ <;> rfl)) ?_
    intro w5 hb5 hc5
    have HC5 : Hid (Chg [] W1 w5) := Lib.hid (HCB.out.into hc5 (fun y hy => by simp at hy; right; have := (Chg.refl [] W1).size; omega))
    refine hK.out _ _ (KEEP.out _ HC5.out) (fun _ => ?_)
    clear hK K KEEP
    try simp only [Act.put, List.setIfInBounds_toArray, List.set_cons_zero, List.set_cons_succ]
    repeat (refine pt_read (v := ?_) rfl rfl ?_ ?_ ?_; rotate_left; (focus rfl); (focus (intro u hSw; (try dsimp only at hSw); go_simp; (try with_reducible rfl))); (try simp only [Act.put, List.setIfInBounds_toArray, List.set_cons_zero, List.set_cons_succ]))
    refine pt_nil ?_
    have HO5 := Lib.hid (own_base (mem.own_chg HO4x.out hc5 HNE.out) (B' := W.heap.size) HBASE.out)
    have HB5 := Lib.hid hb5
    clear hb5 hc5
    go_wp2_with (refine wpList_load_blk rfl 71 (.tmp 12) rfl _ rfl HB5.out _ Tryd.underlying71 rfl coreSize ?_; dsimp only [Core.cells])
    go_ret2
    refine ⟨w5.heap.size, v4, rfl, Blk.new w5 (({ k := k, w := w, s := s, c := c, st := st, ia := ia, il := il, ic := ic, wr := wr, ra := ra, rl := rl, rc := rc, op := op, reader := rd_, phase := 0, i := 0, tries := 0, a := 0, b := 0, used := 0, m := .pointer none, base := at_, size := size, code := 0, steps := 0, over := false } : Core).cells v4) 83, mem.own_chg HO5.out ((Chg.refl [] w5).alloc _) (by simp), fun y hy => ?_, (HC1.out.trans HC5.out).size, (HC1.out.trans HC5.out).alloc _⟩
    have := own_lt (own_base HO5.out (Nat.zero_le _)) hy
    omega
set_option maxHeartbeats 8000000 in
theorem Begin_no (k w s c st : Int) (ia : Option Addr) (il ic : Nat) (wr : Int) (ra : Option Addr) (rl rc : Nat) (at_ op rd_ size : Int) (rv : Value) (rec : List Int) (W : World) (hr : ReadsW W rv rec) (hl : rec.length ≤ 1000) (hsz : ∀ V, Calls Tryd.prog 26 #[.agg #[.int .i64 k, .int .i64 w, .int .i64 s, .int .i64 c, .int .u32 st, .slice ia il ic, .int .i64 wr, .slice ra rl rc]] V fun e W' => e = .returned (.int .i64 size) ∧ Chg [] V W') (hb : begI w rl size at_ op rd_ 2 1 rec.length ≠ 0) :
    Calls Tryd.prog 38 #[.agg #[.int .i64 k, .int .i64 w, .int .i64 s, .int .i64 c, .int .u32 st, .slice ia il ic, .int .i64 wr, .slice ra rl rc], .int .i64 at_, .int .i64 op, .int .i64 rd_, rv] W fun e W' => e = .returned (.tuple #[.pointer none, .int .i64 (begI w rl size at_ op rd_ 2 1 rec.length)]) ∧ Chg [] W W' := by
  have HSZ := Lib.hid hsz
  have HR := Lib.hid hr
  obtain ⟨E, hE⟩ : ∃ E, begI w rl size at_ op rd_ 2 1 rec.length = E := ⟨_, rfl⟩
  have HBG := Lib.hid (fun V (hv : ReadsW V rv rec) => Begin_bad k w s c st ia il ic wr ra rl rc size at_ op rd_ 2 1 rv rec V hv hb)
  simp only [hE] at HBG
  rw [hE]
  rw [hE] at hb
  have hb1 : (E == 0) = false := by simpa using hb
  have hb2 : (E != 0) = true := by simpa using hb
  obtain ⟨ra0, rcap0, rfl, _⟩ := reads_slice hr.1
  clear hr hl hsz hb hE
  go_enter Tryd.func38, Tryd.ntmps38
  go_wp2_with fail
  refine code_gen (R := fun V => Hid (Blk V W.heap.size #[.int .i64 k, .int .i64 w, .int .i64 s, .int .i64 c, .int .u32 st, .slice ia il ic, .int .i64 wr, .slice ra rl rc] 26) ∧ Hid (Chg [] W V)) ⟨Lib.hid (Blk.new W _ _), Lib.hid ((Chg.refl [] W).alloc _)⟩ ?_
  rintro W1 ⟨HO1, HC1⟩
  have eS0 : W1.cell? ⟨W.heap.size, 0, none⟩ = some (.int .i64 k) := HO1.out.cell rfl
  have eS1 : W1.cell? ⟨W.heap.size, 1, none⟩ = some (.int .i64 w) := HO1.out.cell rfl
  have eS2 : W1.cell? ⟨W.heap.size, 2, none⟩ = some (.int .i64 s) := HO1.out.cell rfl
  have eS3 : W1.cell? ⟨W.heap.size, 3, none⟩ = some (.int .i64 c) := HO1.out.cell rfl
  have eS4 : W1.cell? ⟨W.heap.size, 4, none⟩ = some (.int .u32 st) := HO1.out.cell rfl
  have eS5 : W1.cell? ⟨W.heap.size, 5, none⟩ = some (.slice ia il ic) := HO1.out.cell rfl
  have eS6 : W1.cell? ⟨W.heap.size, 6, none⟩ = some (.int .i64 wr) := HO1.out.cell rfl
  have eS7 : W1.cell? ⟨W.heap.size, 7, none⟩ = some (.slice ra rl rc) := HO1.out.cell rfl
  have KEEP := Lib.hid (fun (V : World) (h : Chg [] W1 V) => (⟨h.keep eS0 (by simp), h.keep eS1 (by simp), h.keep eS2 (by simp), h.keep eS3 (by simp), h.keep eS4 (by simp), h.keep eS5 (by simp), h.keep eS6 (by simp), h.keep eS7 (by simp), Lib.hid h⟩ : (fun V : World => V.cell? ⟨W.heap.size, 0, none⟩ = some (.int .i64 k) ∧ V.cell? ⟨W.heap.size, 1, none⟩ = some (.int .i64 w) ∧ V.cell? ⟨W.heap.size, 2, none⟩ = some (.int .i64 s) ∧ V.cell? ⟨W.heap.size, 3, none⟩ = some (.int .i64 c) ∧ V.cell? ⟨W.heap.size, 4, none⟩ = some (.int .u32 st) ∧ V.cell? ⟨W.heap.size, 5, none⟩ = some (.slice ia il ic) ∧ V.cell? ⟨W.heap.size, 6, none⟩ = some (.int .i64 wr) ∧ V.cell? ⟨W.heap.size, 7, none⟩ = some (.slice ra rl rc) ∧ Hid (Chg [] W1 V)) V))
  clear eS0 eS1 eS2 eS3 eS4 eS5 eS6 eS7
  have hHeld : (fun V : World => V.cell? ⟨W.heap.size, 0, none⟩ = some (.int .i64 k) ∧ V.cell? ⟨W.heap.size, 1, none⟩ = some (.int .i64 w) ∧ V.cell? ⟨W.heap.size, 2, none⟩ = some (.int .i64 s) ∧ V.cell? ⟨W.heap.size, 3, none⟩ = some (.int .i64 c) ∧ V.cell? ⟨W.heap.size, 4, none⟩ = some (.int .u32 st) ∧ V.cell? ⟨W.heap.size, 5, none⟩ = some (.slice ia il ic) ∧ V.cell? ⟨W.heap.size, 6, none⟩ = some (.int .i64 wr) ∧ V.cell? ⟨W.heap.size, 7, none⟩ = some (.slice ra rl rc) ∧ Hid (Chg [] W1 V)) W1.drew := KEEP.out _ (Chg.refl _ _).drew
  have HD : Hid (Chg [] W1 W1.drew) := Lib.hid (Chg.refl _ _).drew
  refine wp_region_pt (fun V : World => V.cell? ⟨W.heap.size, 0, none⟩ = some (.int .i64 k) ∧ V.cell? ⟨W.heap.size, 1, none⟩ = some (.int .i64 w) ∧ V.cell? ⟨W.heap.size, 2, none⟩ = some (.int .i64 s) ∧ V.cell? ⟨W.heap.size, 3, none⟩ = some (.int .i64 c) ∧ V.cell? ⟨W.heap.size, 4, none⟩ = some (.int .u32 st) ∧ V.cell? ⟨W.heap.size, 5, none⟩ = some (.slice ia il ic) ∧ V.cell? ⟨W.heap.size, 6, none⟩ = some (.int .i64 wr) ∧ V.cell? ⟨W.heap.size, 7, none⟩ = some (.slice ra rl rc) ∧ Hid (Chg [] W1 V)) (PT.read 0 (some 15) (PT.read 1 (some 16) (PT.read 3 (some 18) (PT.read 4 (some 19) (PT.read 5 (some 20) (PT.read 6 (some 21) (PT.read 7 (some 22) (PT.fork 2 (some 17) (PT.fork 8 (some 23) (PT.read 9 (some 14) (PT.read 10 (some 24) (PT.read 11 (some 25) (PT.act 12 (some 12) (PT.act 13 (none) (PT.read 14 (some 13) PT.nil)))))) 12 (some 12) (PT.act 8 (some 23) (PT.read 9 (some 14) (PT.read 10 (some 24) (PT.read 11 (some 25) (PT.act 13 (none) (PT.read 14 (some 13) PT.nil))))))) 12 (some 12) (PT.act 2 (some 17) (PT.act 8 (some 23) (PT.read 9 (some 14) (PT.read 10 (some 24) (PT.read 11 (some 25) (PT.act 13 (none) (PT.read 14 (some 13) PT.nil))))))))))))))) (by kernel_rfl) (by kernel_rfl) (by kernel_rfl) (by kernel_rfl) (fun d c a v w h => by cases d <;> exact h) hHeld ?_
  clear hHeld
  repeat (refine pt_read (v := ?_) rfl rfl ?_ ?_ ?_; rotate_left; (focus rfl); (focus (intro u hSw; (try dsimp only at hSw); go_simp; (try with_reducible rfl))); (try simp only [Act.put, List.setIfInBounds_toArray, List.set_cons_zero, List.set_cons_succ]))
  refine pt_fork ?_ ?_
  · refine act_do rfl rfl ?_ (fun K hK => ?_)
    · rfl
    go_simp
    go_wp2_with (go_at_call 26; refine (HSZ.out _).mono ?_; rintro e wS ⟨rfl, hx⟩; have HCS := Lib.hid (HD.out.trans hx); clear hx)
    refine hK.out _ _ (KEEP.out _ HCS.out) (fun _ => ?_)
    clear hK K
    try simp only [Act.put, List.setIfInBounds_toArray, List.set_cons_zero, List.set_cons_succ]
    refine pt_fork ?_ ?_
    · refine act_do rfl rfl ?_ (fun K hK => ?_)
      · rfl
      go_simp
      go_wp2_with (go_at_call 60; refine (HBG.out _ (HR.out.chg (HC1.out.trans HCS.out))).mono ?_; rintro e wB ⟨rfl, hc4⟩; have HCB := Lib.hid (HCS.out.trans hc4); have HBK := Lib.hid hc4; clear hc4)
      refine hK.out _ _ (KEEP.out _ HCB.out) (fun _ => ?_)
      clear hK K
      try simp only [Act.put, List.setIfInBounds_toArray, List.set_cons_zero, List.set_cons_succ]
      repeat (refine pt_read (v := ?_) rfl rfl ?_ ?_ ?_; rotate_left; (focus rfl); (focus (intro u hSw; (try dsimp only at hSw); go_simp; (try with_reducible rfl))); (try simp only [Act.put, List.setIfInBounds_toArray, List.set_cons_zero, List.set_cons_succ]))
      refine pt_act ?_
      refine act_do rfl rfl ?_ (fun K hK => ?_)
      · rfl
      go_simp
      refine hK.out _ _ (KEEP.out _ (HCB.out.alloc _)) (fun _ => ?_)
      clear hK K
      try simp only [Act.put, List.setIfInBounds_toArray, List.set_cons_zero, List.set_cons_succ]
      refine pt_act (act_do rfl rfl ?_ (fun K hK => ?_))
      · rfl
      have HZB := Lib.hid (Blk.new wB #[.int .i64 0, .int .i64 0, .int .i64 0, .int .i64 0, .int .u32 0, .slice none 0 0, .int .i64 0, .slice none 0 0, .int .i64 0, .int .i64 0, .int .i64 0, .int .i64 0, .int .i64 0, .int .u32 0, .int .u32 0, .int .u64 0, .slice none 0 0, .pointer none, .int .i64 0, .int .i64 0, .int .i64 0, .int .i64 0, .bool false] 71)
      refine wp_store_blk 71 (.tmp 12) (.tmp 24) rfl wB.heap.size #[.int .i64 0, .int .i64 0, .int .i64 0, .int .i64 0, .int .u32 0, .slice none 0 0, .int .i64 0, .slice none 0 0, .int .i64 0, .int .i64 0, .int .i64 0, .int .i64 0, .int .i64 0, .int .u32 0, .int .u32 0, .int .u64 0, .slice none 0 0, .pointer none, .int .i64 0, .int .i64 0, .int .i64 0, .int .i64 0, .bool false] rfl rfl HZB.out coreSize rfl zer_one ?_
      intro w5 hb5 hc5
      have HC5 : Hid (Chg [] W1 w5) := Lib.hid ((HCB.out.alloc _).into hc5 (fun y hy => by simp at hy; right; have := HCB.out.size; omega))
      refine hK.out _ _ (KEEP.out _ HC5.out) (fun _ => ?_)
      clear hK K KEEP
      try simp only [Act.put, List.setIfInBounds_toArray, List.set_cons_zero, List.set_cons_succ]
      repeat (refine pt_read (v := ?_) rfl rfl ?_ ?_ ?_; rotate_left; (focus rfl); (focus (intro u hSw; (try dsimp only at hSw); go_simp; (try with_reducible rfl))); (try simp only [Act.put, List.setIfInBounds_toArray, List.set_cons_zero, List.set_cons_succ]))
      refine pt_nil ?_
      clear hb5 hc5
      go_wp2_with fail
      go_ret2
      exact ⟨rfl, HC1.out.trans HC5.out⟩
    · refine act_do rfl rfl ?_ (fun K hK => ?_)
      · rfl
      go_simp
      refine hK.out _ _ (KEEP.out _ (HCS.out.alloc _)) (fun _ => ?_)
      clear hK K
      try simp only [Act.put, List.setIfInBounds_toArray, List.set_cons_zero, List.set_cons_succ]
      have HCA : Hid (Chg [] W1 (wS.alloc (.cells #[.int .i64 0, .int .i64 0, .int .i64 0, .int .i64 0, .int .u32 0, .slice none 0 0, .int .i64 0, .slice none 0 0, .int .i64 0, .int .i64 0, .int .i64 0, .int .i64 0, .int .i64 0, .int .u32 0, .int .u32 0, .int .u64 0, .slice none 0 0, .pointer none, .int .i64 0, .int .i64 0, .int .i64 0, .int .i64 0, .bool false] 71))) := Lib.hid (HCS.out.alloc _)
      refine pt_act ?_
      refine act_do rfl rfl ?_ (fun K hK => ?_)
      · rfl
      go_simp
      go_wp2_with (go_at_call 60; refine (HBG.out _ (HR.out.chg (HC1.out.trans HCA.out))).mono ?_; rintro e wB ⟨rfl, hc4⟩; have HCB := Lib.hid (HCA.out.trans hc4); have HBK := Lib.hid hc4; clear hc4)
      refine hK.out _ _ (KEEP.out _ HCB.out) (fun _ => ?_)
      clear hK K
      try simp only [Act.put, List.setIfInBounds_toArray, List.set_cons_zero, List.set_cons_succ]
      repeat (refine pt_read (v := ?_) rfl rfl ?_ ?_ ?_; rotate_left; (focus rfl); (focus (intro u hSw; (try dsimp only at hSw); go_simp; (try with_reducible rfl))); (try simp only [Act.put, List.setIfInBounds_toArray, List.set_cons_zero, List.set_cons_succ]))
      refine pt_act (act_do rfl rfl ?_ (fun K hK => ?_))
      · rfl
      have HZB := Lib.hid ((Blk.new wS #[.int .i64 0, .int .i64 0, .int .i64 0, .int .i64 0, .int .u32 0, .slice none 0 0, .int .i64 0, .slice none 0 0, .int .i64 0, .int .i64 0, .int .i64 0, .int .i64 0, .int .i64 0, .int .u32 0, .int .u32 0, .int .u64 0, .slice none 0 0, .pointer none, .int .i64 0, .int .i64 0, .int .i64 0, .int .i64 0, .bool false] 71).keep HBK.out (by simp))
      refine wp_store_blk 71 (.tmp 12) (.tmp 24) rfl wS.heap.size #[.int .i64 0, .int .i64 0, .int .i64 0, .int .i64 0, .int .u32 0, .slice none 0 0, .int .i64 0, .slice none 0 0, .int .i64 0, .int .i64 0, .int .i64 0, .int .i64 0, .int .i64 0, .int .u32 0, .int .u32 0, .int .u64 0, .slice none 0 0, .pointer none, .int .i64 0, .int .i64 0, .int .i64 0, .int .i64 0, .bool false] rfl rfl HZB.out coreSize rfl zer_one ?_
      intro w5 hb5 hc5
      have HC5 : Hid (Chg [] W1 w5) := Lib.hid (HCB.out.into hc5 (fun y hy => by simp at hy; right; have := HCS.out.size; omega))
      refine hK.out _ _ (KEEP.out _ HC5.out) (fun _ => ?_)
      clear hK K KEEP
      try simp only [Act.put, List.setIfInBounds_toArray, List.set_cons_zero, List.set_cons_succ]
      repeat (refine pt_read (v := ?_) rfl rfl ?_ ?_ ?_; rotate_left; (focus rfl); (focus (intro u hSw; (try dsimp only at hSw); go_simp; (try with_reducible rfl))); (try simp only [Act.put, List.setIfInBounds_toArray, List.set_cons_zero, List.set_cons_succ]))
      refine pt_nil ?_
      clear hb5 hc5
      go_wp2_with fail
      go_ret2
      exact ⟨rfl, HC1.out.trans HC5.out⟩
  · refine act_do rfl rfl ?_ (fun K hK => ?_)
    · rfl
    go_simp
    refine hK.out _ _ (KEEP.out _ (HD.out.alloc _)) (fun _ => ?_)
    clear hK K
    try simp only [Act.put, List.setIfInBounds_toArray, List.set_cons_zero, List.set_cons_succ]
    have HCA : Hid (Chg [] W1 (W1.drew.alloc (.cells #[.int .i64 0, .int .i64 0, .int .i64 0, .int .i64 0, .int .u32 0, .slice none 0 0, .int .i64 0, .slice none 0 0, .int .i64 0, .int .i64 0, .int .i64 0, .int .i64 0, .int .i64 0, .int .u32 0, .int .u32 0, .int .u64 0, .slice none 0 0, .pointer none, .int .i64 0, .int .i64 0, .int .i64 0, .int .i64 0, .bool false] 71))) := Lib.hid (HD.out.alloc _)
    refine pt_act ?_
    refine act_do rfl rfl ?_ (fun K hK => ?_)
    · rfl
    go_simp
    go_wp2_with (go_at_call 26; refine (HSZ.out _).mono ?_; rintro e wS ⟨rfl, hx⟩; have HCS := Lib.hid (HCA.out.trans hx); have HSK := Lib.hid hx; clear hx)
    refine hK.out _ _ (KEEP.out _ HCS.out) (fun _ => ?_)
    clear hK K
    try simp only [Act.put, List.setIfInBounds_toArray, List.set_cons_zero, List.set_cons_succ]
    refine pt_act ?_
    refine act_do rfl rfl ?_ (fun K hK => ?_)
    · rfl
    go_simp
    go_wp2_with (go_at_call 60; refine (HBG.out _ (HR.out.chg (HC1.out.trans HCS.out))).mono ?_; rintro e wB ⟨rfl, hc4⟩; have HCB := Lib.hid (HCS.out.trans hc4); have HBK := Lib.hid hc4; clear hc4)
    refine hK.out _ _ (KEEP.out _ HCB.out) (fun _ => ?_)
    clear hK K
    try simp only [Act.put, List.setIfInBounds_toArray, List.set_cons_zero, List.set_cons_succ]
    repeat (refine pt_read (v := ?_) rfl rfl ?_ ?_ ?_; rotate_left; (focus rfl); (focus (intro u hSw; (try dsimp only at hSw); go_simp; (try with_reducible rfl))); (try simp only [Act.put, List.setIfInBounds_toArray, List.set_cons_zero, List.set_cons_succ]))
    refine pt_act (act_do rfl rfl ?_ (fun K hK => ?_))
    · rfl
    have HZB := Lib.hid (((Blk.new W1.drew #[.int .i64 0, .int .i64 0, .int .i64 0, .int .i64 0, .int .u32 0, .slice none 0 0, .int .i64 0, .slice none 0 0, .int .i64 0, .int .i64 0, .int .i64 0, .int .i64 0, .int .i64 0, .int .u32 0, .int .u32 0, .int .u64 0, .slice none 0 0, .pointer none, .int .i64 0, .int .i64 0, .int .i64 0, .int .i64 0, .bool false] 71).keep HSK.out (by simp)).keep HBK.out (by simp))
    refine wp_store_blk 71 (.tmp 12) (.tmp 24) rfl W1.heap.size #[.int .i64 0, .int .i64 0, .int .i64 0, .int .i64 0, .int .u32 0, .slice none 0 0, .int .i64 0, .slice none 0 0, .int .i64 0, .int .i64 0, .int .i64 0, .int .i64 0, .int .i64 0, .int .u32 0, .int .u32 0, .int .u64 0, .slice none 0 0, .pointer none, .int .i64 0, .int .i64 0, .int .i64 0, .int .i64 0, .bool false] rfl rfl HZB.out coreSize rfl zer_one ?_
    intro w5 hb5 hc5
    have HC5 : Hid (Chg [] W1 w5) := Lib.hid (HCB.out.into hc5 (fun y hy => by simp at hy; right; have := (Chg.refl [] W1).size; omega))
    refine hK.out _ _ (KEEP.out _ HC5.out) (fun _ => ?_)
    clear hK K KEEP
    try simp only [Act.put, List.setIfInBounds_toArray, List.set_cons_zero, List.set_cons_succ]
    repeat (refine pt_read (v := ?_) rfl rfl ?_ ?_ ?_; rotate_left; (focus rfl); (focus (intro u hSw; (try dsimp only at hSw); go_simp; (try with_reducible rfl))); (try simp only [Act.put, List.setIfInBounds_toArray, List.set_cons_zero, List.set_cons_succ]))
    refine pt_nil ?_
    clear hb5 hc5
    go_wp2_with fail
    go_ret2
    exact ⟨rfl, HC1.out.trans HC5.out⟩
theorem awake_over (mb : Nat) (W : World) (k : Nat) (hk : k ≤ 5) : (K.run (.pointer (some ⟨mb, 0, none⟩)) k (({ k := 2, w := 1, s := 0, c := 0, st := 0, ia := (some ⟨W.heap.size, 0, none⟩), il := 1, ic := 1, wr := 0, ra := (some ⟨W.heap.size + 1, 0, none⟩), rl := 1, rc := 1, op := 2, reader := 0, phase := 0, i := 0, tries := 0, a := 0, b := 0, used := 0, m := .pointer none, base := 0, size := ((1 + 1 + ((((1 : Nat) : Int) + 2) * 1).toNat : Nat) : Int), code := 0, steps := 0, over := false } : Core), [7], (layL 1 1 [5]))).1.over = decide (k = 5) := by
  rcases (by omega : k = 0 ∨ k = 1 ∨ k = 2 ∨ k = 3 ∨ k = 4 ∨ k = 5) with rfl | rfl | rfl | rfl | rfl | rfl <;> simp [Kind.run, K, step, stepW, layL, fillL, place, scanC, endRec, swapL, free_second]
theorem awake_last (mb : Nat) (W : World) : (K.run (.pointer (some ⟨mb, 0, none⟩)) 5 (({ k := 2, w := 1, s := 0, c := 0, st := 0, ia := (some ⟨W.heap.size, 0, none⟩), il := 1, ic := 1, wr := 0, ra := (some ⟨W.heap.size + 1, 0, none⟩), rl := 1, rc := 1, op := 2, reader := 0, phase := 0, i := 0, tries := 0, a := 0, b := 0, used := 0, m := .pointer none, base := 0, size := ((1 + 1 + ((((1 : Nat) : Int) + 2) * 1).toNat : Nat) : Int), code := 0, steps := 0, over := false } : Core), [7], (layL 1 1 [5]))).2.2 = [1, 0, 5, 7, 0] := by simp [Kind.run, K, step, stepW, layL, fillL, place, scanC, endRec, swapL, free_second]
set_option maxHeartbeats 8000000 in
theorem awake_any (W : World) (hT : bitm.Tab W) : Calls Tryd.prog 24 #[] W fun e W' => e = .returned (.bool true) ∧ Chg [] W W' := by
  have OW : ObjW 2 1 0 0 0 1 1 := by constructor <;> decide
  have HSZ := Lib.hid (fun V => Size_yes 2 1 0 0 0 (some ⟨W.heap.size, 0, none⟩) 1 1 0 (some ⟨W.heap.size + 1, 0, none⟩) 1 1 1 rfl OW rfl V)
  have HOW := Lib.hid OW
  have HT0 := Lib.hid hT
  clear hT
  clear OW
  go_enter Tryd.func24, Tryd.ntmps24
  go_upto_region 2 with fail
  refine code_gen (R := fun V => Hid (Blk V W.heap.size #[.int .u32 5] 22) ∧ Hid (Blk V (W.heap.size + 1 + 1) #[.int .i64 2, .int .i64 1, .int .i64 0, .int .i64 0, .int .u32 0, .slice (some ⟨W.heap.size, 0, none⟩) 1 1, .int .i64 0, .slice (some ⟨W.heap.size + 1, 0, none⟩) 1 1] 26) ∧ Hid (Chg [] W V)) ⟨Lib.hid ((Blk.new W _ _).keep (((Chg.refl [] _).alloc _).alloc _) (by simp)), Lib.hid (blk_new2 W _ _ _ _), Lib.hid ((((Chg.refl [] W).alloc _).alloc _).alloc _)⟩ ?_
  rintro W1 ⟨HI1, HO1, HC1⟩
  have e0 : W1.cell? ⟨W.heap.size + 1 + 1, 0, none⟩ = some (.int .i64 2) := HO1.out.cell rfl
  have e1 : W1.cell? ⟨W.heap.size + 1 + 1, 1, none⟩ = some (.int .i64 1) := HO1.out.cell rfl
  have e2 : W1.cell? ⟨W.heap.size + 1 + 1, 2, none⟩ = some (.int .i64 0) := HO1.out.cell rfl
  have e3 : W1.cell? ⟨W.heap.size + 1 + 1, 3, none⟩ = some (.int .i64 0) := HO1.out.cell rfl
  have e4 : W1.cell? ⟨W.heap.size + 1 + 1, 4, none⟩ = some (.int .u32 0) := HO1.out.cell rfl
  have e5 : W1.cell? ⟨W.heap.size + 1 + 1, 5, none⟩ = some (.slice (some ⟨W.heap.size, 0, none⟩) 1 1) := HO1.out.cell rfl
  have e6 : W1.cell? ⟨W.heap.size + 1 + 1, 6, none⟩ = some (.int .i64 0) := HO1.out.cell rfl
  have e7 : W1.cell? ⟨W.heap.size + 1 + 1, 7, none⟩ = some (.slice (some ⟨W.heap.size + 1, 0, none⟩) 1 1) := HO1.out.cell rfl
  have HE := Lib.hid (fun (V : World) (h : Chg [] W1 V) => HO1.out.keep h (by simp))
  go_wp2_with (first
    | (go_at_call 38; refine (Begin_yes 2 1 0 0 0 _ 1 1 0 _ 1 1 0 2 0 ((1 + 1 + ((((1 : Nat) : Int) + 2) * 1).toNat : Nat) : Int) _ [7] _ (ReadsW.lit (xs := [7]) (Blk.new W1 _ _) (by decide) (by decide) (by decide)) (by decide) HSZ.out (by decide)).mono ?_; rintro e w2 ⟨bx, v, rfl, hb2, ho2, hv2, hx2, hc2⟩; have HB2 := Lib.hid hb2; have HO2 := Lib.hid ho2; have HV2 := Lib.hid hv2; have HX2 := Lib.hid hx2; have HC2 := Lib.hid (((Chg.refl [] W1).alloc _).trans hc2); clear hb2 ho2 hv2 hx2 hc2 e0 e1 e2 e3 e4 e5 e6 e7; have e0 : w2.cell? ⟨W.heap.size + 1 + 1, 0, none⟩ = some (.int .i64 2) := (HE.out _ HC2.out).cell rfl; have e1 : w2.cell? ⟨W.heap.size + 1 + 1, 1, none⟩ = some (.int .i64 1) := (HE.out _ HC2.out).cell rfl; have e2 : w2.cell? ⟨W.heap.size + 1 + 1, 2, none⟩ = some (.int .i64 0) := (HE.out _ HC2.out).cell rfl; have e3 : w2.cell? ⟨W.heap.size + 1 + 1, 3, none⟩ = some (.int .i64 0) := (HE.out _ HC2.out).cell rfl; have e4 : w2.cell? ⟨W.heap.size + 1 + 1, 4, none⟩ = some (.int .u32 0) := (HE.out _ HC2.out).cell rfl; have e5 : w2.cell? ⟨W.heap.size + 1 + 1, 5, none⟩ = some (.slice (some ⟨W.heap.size, 0, none⟩) 1 1) := (HE.out _ HC2.out).cell rfl; have e6 : w2.cell? ⟨W.heap.size + 1 + 1, 6, none⟩ = some (.int .i64 0) := (HE.out _ HC2.out).cell rfl; have e7 : w2.cell? ⟨W.heap.size + 1 + 1, 7, none⟩ = some (.slice (some ⟨W.heap.size + 1, 0, none⟩) 1 1) := (HE.out _ HC2.out).cell rfl)
    | (go_at_call 27; refine (Lay_yes 2 1 0 0 0 _ 1 1 0 _ 1 1 1 rfl [5] HOW.out rfl _ (ReadsW.lit (xs := [5]) (HI1.out.keep HC2.out (by simp)) (by decide) (by decide) (by decide))).mono ?_; rintro e w3 ⟨v3, rfl, ho3, hc3⟩; obtain ⟨a3, c3, rfl, _⟩ := reads_slice (Reads.of_own ho3 (by decide)); have HO3 := Lib.hid ho3; have HC3 := Lib.hid hc3; clear ho3 hc3 e0 e1 e2 e3 e4 e5 e6 e7)
    | (go_at_call 32; refine (Memory_ok _ (layL 1 1 [5]) _ (OwnW.reads HO3.out (by decide)) (by decide)).mono ?_; rintro e w4 ⟨mb, sv, rfl, hm4, hc4, hb4, hs4⟩; have HP : Hid (Pair 83 bx mb sv w4 ({ k := 2, w := 1, s := 0, c := 0, st := 0, ia := (some ⟨W.heap.size, 0, none⟩), il := 1, ic := 1, wr := 0, ra := (some ⟨W.heap.size + 1, 0, none⟩), rl := 1, rc := 1, op := 2, reader := 0, phase := 0, i := 0, tries := 0, a := 0, b := 0, used := 0, m := .pointer none, base := 0, size := ((1 + 1 + ((((1 : Nat) : Int) + 2) * 1).toNat : Nat) : Int), code := 0, steps := 0, over := false } : Core) v [7] (layL 1 1 [5]) 0) := Lib.hid (Pair.make HB2.out HO2.out HV2.out (by decide) (by decide) (HC3.out.trans hc4) hm4 (Nat.le_trans HC3.out.size hb4) (fun y hy => Nat.le_trans HC3.out.size (hs4 y hy))); have HC4 := Lib.hid ((HC1.out.trans HC2.out).trans (HC3.out.trans hc4)); have HF : Hid (W.heap.size ≤ bx ∧ W.heap.size ≤ mb ∧ (∀ y, sv.ownBlock = some y → W.heap.size ≤ y) ∧ (∀ y, v.ownBlock = some y → W.heap.size ≤ y)) := Lib.hid (four.awake_fresh HC1.out HC2.out HC3.out HX2.out hb4 hs4 HO2.out (by simp)); clear hm4 hc4 hb4 hs4))
  have HTB : Hid (∀ V x' rec' ws' n', St 83 bx mb sv w4 v V x' rec' ws' n' → bitm.Tab V) := Lib.hid (St.tab (HT0.out.keep HC4.out) (by have h1 := HT0.out.pos; have h2 := HF.out.1; omega) (by have h1 := HT0.out.pos; have h2 := HF.out.2.1; omega) (fun hh => by have h1 := HT0.out.pos; have h2 := HF.out.2.2.1 0 hh; omega) (fun hh => by have h1 := HT0.out.pos; have h2 := HF.out.2.2.2 0 hh; omega))
  obtain ⟨q0, hq⟩ : ∃ q0 : Q, (({ k := 2, w := 1, s := 0, c := 0, st := 0, ia := (some ⟨W.heap.size, 0, none⟩), il := 1, ic := 1, wr := 0, ra := (some ⟨W.heap.size + 1, 0, none⟩), rl := 1, rc := 1, op := 2, reader := 0, phase := 0, i := 0, tries := 0, a := 0, b := 0, used := 0, m := .pointer none, base := 0, size := ((1 + 1 + ((((1 : Nat) : Int) + 2) * 1).toNat : Nat) : Int), code := 0, steps := 0, over := false } : Core), [7], (layL 1 1 [5])) = q0 := ⟨_, rfl⟩
  have HOV : Hid (∀ k, k ≤ 5 → (K.run (.pointer (some ⟨mb, 0, none⟩)) k q0).1.over = decide (k = 5)) := Lib.hid (by rw [← hq]; exact awake_over mb W)
  have HLS : Hid ((K.run (.pointer (some ⟨mb, 0, none⟩)) 5 q0).2.2 = [1, 0, 5, 7, 0]) := Lib.hid (by rw [← hq]; exact awake_last mb W)
  have HQ0 : Hid (0 ≤ q0.1.base ∧ 0 ≤ q0.1.size ∧ q0.1.base + q0.1.size ≤ q0.2.2.length ∧ q0.1.steps = 0) := Lib.hid (by rw [← hq]; exact ⟨show (0 : Int) ≤ 0 by decide, show (0 : Int) ≤ 5 by decide, show (0 : Int) + 5 ≤ 5 by decide, rfl⟩)
  have HST : Hid (K.At 83 bx mb sv w4 v q0 0 w4 0) := Lib.hid (by rw [← hq]; exact Kind.At.start (St.start HP.out) ⟨show (1 : Int) ≤ 1 ∧ (1 : Int) ≤ 8 by decide, show 1 ≤ 1 ∧ 1 ≤ 4 by decide, show (0 : Int) ≤ 0 ∧ (0 : Int) ≤ 4294967295 by decide, show (0 : Int) ≤ 0 ∧ (0 : Int) < ((1 : Nat) : Int) + 2 by decide, show (0 : Int) ≤ 0 ∧ (0 : Int) < ((1 : Nat) : Int) by decide, show (0 : Int) ≤ 0 by decide, rfl, fun _ _ _ => bitm.Marks.zero, fun _ => ⟨show (0 : Int) ≤ 0 by decide, show (0 : Int) < 1 by decide⟩, .inl ⟨rfl, show (0 : Int) ≤ 0 ∧ (0 : Int) ≤ 4 by decide, fun _ => rfl⟩⟩)
  clear hq
  go_loopw [23] (fun _ wr => ∃ k : Nat, k ≤ 5 ∧ Hid (K.At 83 bx mb sv w4 v q0 0 wr k)) (fun _ wr => 5 - stepsOf wr bx)
  case atStart => exact ⟨0, by omega, HST⟩
  case round =>
    obtain ⟨k, hk, HA⟩ := hrel
    have HK := Lib.hid hk
    by_cases h5 : k = 5
    · subst h5
      have HOP : Hid (opens (K.run (.pointer (some ⟨mb, 0, none⟩)) 5 q0).1 (K.run (.pointer (some ⟨mb, 0, none⟩)) 5 q0).2.2.length = false) := Lib.hid (by rw [HA.out.opens HQ0.out.1 HQ0.out.2.1 HQ0.out.2.2.1, HOV.out _ (by omega)]; rfl)
      have HSS : Hid ((K.run (.pointer (some ⟨mb, 0, none⟩)) 5 q0).1.steps = 5) := Lib.hid (by rw [HA.out.steps, HQ0.out.2.2.2]; rfl)
      clear hk
      go_wp2_with (first
        | (go_at_call 39; refine (Step_no HOP.out HA.out.st).mono ?_; rintro e w5 ⟨rfl, hc5⟩; have HA5 := Lib.hid (HA.out.keep hc5); have HC5 := Lib.hid hc5; clear hc5)
        | (go_at_call 41; refine (Steps_any HA5.out.st).mono ?_; rintro e w6 ⟨rfl, rfl⟩; rw [HSS.out])
        | (go_at_call 47; refine (Words_ok mb sv _ _ _ HA5.out.st.memory).mono ?_; rintro e w7 ⟨v7, rfl, ho7, hc7⟩; rw [HLS.out] at ho7; obtain ⟨a7, c7, rfl, _⟩ := reads_slice (Reads.of_own ho7 (by decide)); have HO7 := Lib.hid ho7; have HC7 := Lib.hid hc7; clear ho7 hc7)
        | (go_at_call 21; refine (Words_any _ _ [1, 0, 5, 7, 0] [1, 0, 5, 7, 0] _ ((OwnW.reads HO7.out (by decide)).chg ((Chg.refl [] _).alloc _)) (ReadsW.lit (xs := [1, 0, 5, 7, 0]) (Blk.new _ _ _) (by decide) (by decide) (by decide)) (by decide) (by decide)).mono ?_; rintro e w8 ⟨rfl, hq8⟩; have HQ8 := Lib.hid hq8; clear hq8; rw [show wordsB [1, 0, 5, 7, 0] [1, 0, 5, 7, 0] = true from rfl]))
      go_ret
      refine ⟨rfl, ?_⟩
      have hst := HA5.out.st
      obtain ⟨v9, hp9, he9⟩ := hst
      have hF := HF.out
      refine ((HC4.out.into he9.chg (fun y hy => ?_)).trans (HC7.out.alloc _)).quiet HQ8.out
      simp only [List.mem_cons, List.mem_append, Option.mem_toList, Option.mem_def] at hy
      right
      rcases hy with rfl | rfl | hy | hy
      · exact hF.1
      · exact hF.2.1
      · exact hF.2.2.1 y hy
      · exact hF.2.2.2 y hy
    · have hov : (K.run (.pointer (some ⟨mb, 0, none⟩)) k q0).1.over = false := by rw [HOV.out _ hk]; simp [h5]
      have HOV2 := Lib.hid hov
      have HOP : Hid (opens (K.run (.pointer (some ⟨mb, 0, none⟩)) k q0).1 (K.run (.pointer (some ⟨mb, 0, none⟩)) k q0).2.2.length = true) := Lib.hid (by rw [HA.out.opens HQ0.out.1 HQ0.out.2.1 HQ0.out.2.2.1, hov]; rfl)
      have HSS : Hid ((K.run (.pointer (some ⟨mb, 0, none⟩)) k q0).1.steps = k) := Lib.hid (by rw [HA.out.steps, HQ0.out.2.2.2]; omega)
      have HLT : Hid (k < 5) := Lib.hid (by omega)
      clear hk h5 hov
      go_wp2_with (go_at_call 39; refine (Step_yes HTB.out HA.out.shape (by rw [HSS.out]; have := HLT.out; omega) HOP.out (by have := HLT.out; omega) HA.out.st).mono ?_; rintro e w5 ⟨rfl, hx⟩; have HX := Lib.hid (HA.out.next HOV2.out hx); clear hx)
      have hlt := HLT.out
      have m1 := HA.out.made HQ0.out.2.2.2
      have m2 := HX.out.made HQ0.out.2.2.2
      go_roundw
      case rel => exact ⟨k + 1, by omega, HX⟩
      case measure => rw [m1, m2]; omega
end Go.Proofs.YtapaolaemkhbdaaDoor.chen
