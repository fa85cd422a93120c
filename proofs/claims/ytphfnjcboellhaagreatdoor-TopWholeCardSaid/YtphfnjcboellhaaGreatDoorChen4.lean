import Derived.Test.YtphfnjcboellhaaGreatDoorChen3
import Derived.Test.YtphfnjcboellhaaGreatDoorChenA
import Derived.Deep.Cut
namespace Go.Proofs.YtphfnjcboellhaaGreatDoor.chen
open Go Go.RowKit kit mem rop core obj
set_option maxRecDepth 20000
set_option maxHeartbeats 8000000 in
theorem Begin_yes (k w s c st : Int) (ia : Option Addr) (il ic : Nat) (wr : Int) (ra : Option Addr) (rl rc : Nat) (at_ op rd_ size : Int) (rv : Value) (rec : List Int) (W : World) (hr : ReadsW W rv rec) (hl : rec.length <= 1000) (hsz : ∀ V, Calls Tryz.prog 45 #[.agg #[.int .i64 k, .int .i64 w, .int .i64 s, .int .i64 c, .int .u32 st, .slice ia il ic, .int .i64 wr, .slice ra rl rc]] V fun e W' => e = .returned (.int .i64 size) /\ Chg [] V W') (hb : begI w rl size at_ op rd_ 2 1 rec.length = 0) :
 Calls Tryz.prog 99 #[.agg #[.int .i64 k, .int .i64 w, .int .i64 s, .int .i64 c, .int .u32 st, .slice ia il ic, .int .i64 wr, .slice ra rl rc], .int .i64 at_, .int .i64 op, .int .i64 rd_, rv] W fun e W' => ∃ b v', e = .returned (.tuple #[.pointer (some ⟨b, 0, none⟩), .int .i64 0]) /\ Blk W' b (({ k := k, w := w, s := s, c := c, st := st, ia := ia, il := il, ic := ic, wr := wr, ra := ra, rl := rl, rc := rc, op := op, reader := rd_, phase := 0, i := 0, tries := 0, a := 0, b := 0, used := 0, m := .pointer none, base := at_, size := size, code := 0, steps := 0, over := false } : Core).cells v') 124 /\ OwnW W' W.heap.size v' rec /\ (∀ y, v'.ownBlock = some y -> y ≠ b) /\ W.heap.size <= b /\ Chg [] W W' := by
 have HSZ := hid hsz
 have HR := hid hr
 have HBG := hid (fun V (hv : ReadsW V rv rec) => four.mBegin_yes k w s c st ia il ic wr ra rl rc size at_ op rd_ 2 1 rv rec V hv hl hb)
 obtain ⟨ra0, rcap0, rfl, _⟩ := reads_slice hr.1
 clear hr hl hsz hb
 go_enter Tryz.func99, Tryz.ntmps99
 go_wp2_with fail
 refine code_gen (R := fun V => Hid (Blk V W.heap.size #[.int .i64 k, .int .i64 w, .int .i64 s, .int .i64 c, .int .u32 st, .slice ia il ic, .int .i64 wr, .slice ra rl rc] 26) /\ Hid (Chg [] W V)) ⟨hid (Blk.new W _ _), hid ((Chg.refl [] W).alloc _)⟩ ?_
 rintro W1 ⟨HO1, HC1⟩
 have eS0 : W1.cell? ⟨W.heap.size, 0, none⟩ = some (.int .i64 k) := HO1.out.cell rfl
 have eS1 : W1.cell? ⟨W.heap.size, 1, none⟩ = some (.int .i64 w) := HO1.out.cell rfl
 have eS2 : W1.cell? ⟨W.heap.size, 2, none⟩ = some (.int .i64 s) := HO1.out.cell rfl
 have eS3 : W1.cell? ⟨W.heap.size, 3, none⟩ = some (.int .i64 c) := HO1.out.cell rfl
 have eS4 : W1.cell? ⟨W.heap.size, 4, none⟩ = some (.int .u32 st) := HO1.out.cell rfl
 have eS5 : W1.cell? ⟨W.heap.size, 5, none⟩ = some (.slice ia il ic) := HO1.out.cell rfl
 have eS6 : W1.cell? ⟨W.heap.size, 6, none⟩ = some (.int .i64 wr) := HO1.out.cell rfl
 have eS7 : W1.cell? ⟨W.heap.size, 7, none⟩ = some (.slice ra rl rc) := HO1.out.cell rfl
 have KEEP := hid (fun (V : World) (h : Chg [] W1 V) => (⟨h.keep eS0 (by simp), h.keep eS1 (by simp), h.keep eS2 (by simp), h.keep eS3 (by simp), h.keep eS4 (by simp), h.keep eS5 (by simp), h.keep eS6 (by simp), h.keep eS7 (by simp), hid h⟩ : (fun V : World => V.cell? ⟨W.heap.size, 0, none⟩ = some (.int .i64 k) /\ V.cell? ⟨W.heap.size, 1, none⟩ = some (.int .i64 w) /\ V.cell? ⟨W.heap.size, 2, none⟩ = some (.int .i64 s) /\ V.cell? ⟨W.heap.size, 3, none⟩ = some (.int .i64 c) /\ V.cell? ⟨W.heap.size, 4, none⟩ = some (.int .u32 st) /\ V.cell? ⟨W.heap.size, 5, none⟩ = some (.slice ia il ic) /\ V.cell? ⟨W.heap.size, 6, none⟩ = some (.int .i64 wr) /\ V.cell? ⟨W.heap.size, 7, none⟩ = some (.slice ra rl rc) /\ Hid (Chg [] W1 V)) V))
 clear eS0 eS1 eS2 eS3 eS4 eS5 eS6 eS7
 have hHeld : (fun V : World => V.cell? ⟨W.heap.size, 0, none⟩ = some (.int .i64 k) /\ V.cell? ⟨W.heap.size, 1, none⟩ = some (.int .i64 w) /\ V.cell? ⟨W.heap.size, 2, none⟩ = some (.int .i64 s) /\ V.cell? ⟨W.heap.size, 3, none⟩ = some (.int .i64 c) /\ V.cell? ⟨W.heap.size, 4, none⟩ = some (.int .u32 st) /\ V.cell? ⟨W.heap.size, 5, none⟩ = some (.slice ia il ic) /\ V.cell? ⟨W.heap.size, 6, none⟩ = some (.int .i64 wr) /\ V.cell? ⟨W.heap.size, 7, none⟩ = some (.slice ra rl rc) /\ Hid (Chg [] W1 V)) W1.drew := KEEP.out _ (Chg.refl _ _).drew
 have HD : Hid (Chg [] W1 W1.drew) := hid (Chg.refl _ _).drew
 refine wp_region_pt (fun V : World => V.cell? ⟨W.heap.size, 0, none⟩ = some (.int .i64 k) /\ V.cell? ⟨W.heap.size, 1, none⟩ = some (.int .i64 w) /\ V.cell? ⟨W.heap.size, 2, none⟩ = some (.int .i64 s) /\ V.cell? ⟨W.heap.size, 3, none⟩ = some (.int .i64 c) /\ V.cell? ⟨W.heap.size, 4, none⟩ = some (.int .u32 st) /\ V.cell? ⟨W.heap.size, 5, none⟩ = some (.slice ia il ic) /\ V.cell? ⟨W.heap.size, 6, none⟩ = some (.int .i64 wr) /\ V.cell? ⟨W.heap.size, 7, none⟩ = some (.slice ra rl rc) /\ Hid (Chg [] W1 V)) (PT.read 0 (some 15) (PT.read 1 (some 16) (PT.read 3 (some 18) (PT.read 4 (some 19) (PT.read 5 (some 20) (PT.read 6 (some 21) (PT.read 7 (some 22) (PT.fork 2 (some 17) (PT.fork 8 (some 23) (PT.read 9 (some 14) (PT.read 10 (some 24) (PT.read 11 (some 25) (PT.act 12 (some 12) (PT.act 13 (none) (PT.read 14 (some 13) PT.nil)))))) 12 (some 12) (PT.act 8 (some 23) (PT.read 9 (some 14) (PT.read 10 (some 24) (PT.read 11 (some 25) (PT.act 13 (none) (PT.read 14 (some 13) PT.nil))))))) 12 (some 12) (PT.act 2 (some 17) (PT.act 8 (some 23) (PT.read 9 (some 14) (PT.read 10 (some 24) (PT.read 11 (some 25) (PT.act 13 (none) (PT.read 14 (some 13) PT.nil))))))))))))))) (by kernel_rfl) (by kernel_rfl) (by kernel_rfl) (by kernel_rfl) (fun d c a v w h => by cases d <;> exact h) hHeld ?_
 clear hHeld
 repeat (refine pt_read (v := ?_) rfl rfl ?_ ?_ ?_; rotate_left; (focus rfl); (focus (intro u hSw; (try dsimp only at hSw); go_simp; (try with_reducible rfl))); (try simp only [Act.put, sA, sB, sC]))
 refine pt_fork ?_ ?_
 · refine act_do rfl rfl ?_ (fun K hK => ?_)
   · rfl
   go_simp
   go_wp2_with (go_at_call 45; refine (HSZ.out _).mono ?_; rintro e wS ⟨rfl, hx⟩; have HCS := hid (HD.out.trans hx); clear hx)
   refine hK.out _ _ (KEEP.out _ HCS.out) (fun _ => ?_)
   clear hK K
   try simp only [Act.put, sA, sB, sC]
   refine pt_fork ?_ ?_
   · refine act_do rfl rfl ?_ (fun K hK => ?_)
     · rfl
     go_simp
     go_wp2_with (go_at_call 125; refine (HBG.out _ (HR.out.chg (HC1.out.trans HCS.out))).mono ?_; rintro e wB ⟨v4, rfl, ho4, hc4⟩; have HO4 := hid ho4; have HCB := hid (HCS.out.trans hc4); have HBK := hid hc4; clear hc4 ho4)
     refine hK.out _ _ (KEEP.out _ HCB.out) (fun _ => ?_)
     clear hK K
     try simp only [Act.put, sA, sB, sC]
     repeat (refine pt_read (v := ?_) rfl rfl ?_ ?_ ?_; rotate_left; (focus rfl); (focus (intro u hSw; (try dsimp only at hSw); go_simp; (try with_reducible rfl))); (try simp only [Act.put, sA, sB, sC]))
     have HBASE : Hid (W.heap.size <= wS.heap.size) := hid (HC1.out.trans HCS.out).size
     have HO4x : Hid (OwnW (wB.alloc (.cells #[.int .i64 0, .int .i64 0, .int .i64 0, .int .i64 0, .int .u32 0, .slice none 0 0, .int .i64 0, .slice none 0 0, .int .i64 0, .int .i64 0, .int .i64 0, .int .i64 0, .int .i64 0, .int .u32 0, .int .u32 0, .int .u64 0, .slice none 0 0, .pointer none, .int .i64 0, .int .i64 0, .int .i64 0, .int .i64 0, .bool false] 121)) wS.heap.size v4 rec) := hid (mem.own_chg HO4.out ((Chg.refl [] _).alloc _) (by simp))
     have HNE : Hid (∀ y, v4.ownBlock = some y -> y ∉ [wB.heap.size]) := hid (fun y hy => by have := own_lt (own_base HO4.out (Nat.zero_le _)) hy; simp; omega)
     refine pt_act ?_
     refine act_do rfl rfl ?_ (fun K hK => ?_)
     · rfl
     go_simp
     refine hK.out _ _ (KEEP.out _ (HCB.out.alloc _)) (fun _ => ?_)
     clear hK K
     try simp only [Act.put, sA, sB, sC]
     refine pt_act (act_do rfl rfl ?_ (fun K hK => ?_))
     · rfl
     have HZB := hid (Blk.new wB #[.int .i64 0, .int .i64 0, .int .i64 0, .int .i64 0, .int .u32 0, .slice none 0 0, .int .i64 0, .slice none 0 0, .int .i64 0, .int .i64 0, .int .i64 0, .int .i64 0, .int .i64 0, .int .u32 0, .int .u32 0, .int .u64 0, .slice none 0 0, .pointer none, .int .i64 0, .int .i64 0, .int .i64 0, .int .i64 0, .bool false] 121)
     refine wp_store_blk 121 (.tmp 12) (.tmp 24) rfl wB.heap.size (({ k := k, w := w, s := s, c := c, st := st, ia := ia, il := il, ic := ic, wr := wr, ra := ra, rl := rl, rc := rc, op := op, reader := rd_, phase := 0, i := 0, tries := 0, a := 0, b := 0, used := 0, m := .pointer none, base := at_, size := size, code := 0, steps := 0, over := false } : Core).cells v4) rfl rfl HZB.out coreSize rfl (cells_one _ _ rfl (by rcases HO4.out.2 with ⟨rfl, _⟩ | ⟨_, _, _, rfl, _⟩ <;> rfl)) ?_
     intro w5 hb5 hc5
     have HC5 : Hid (Chg [] W1 w5) := hid ((HCB.out.alloc _).into hc5 (fun y hy => by simp at hy; right; have := HCB.out.size; omega))
     refine hK.out _ _ (KEEP.out _ HC5.out) (fun _ => ?_)
     clear hK K KEEP
     try simp only [Act.put, sA, sB, sC]
     repeat (refine pt_read (v := ?_) rfl rfl ?_ ?_ ?_; rotate_left; (focus rfl); (focus (intro u hSw; (try dsimp only at hSw); go_simp; (try with_reducible rfl))); (try simp only [Act.put, sA, sB, sC]))
     refine pt_nil ?_
     have HO5 := hid (own_base (mem.own_chg HO4x.out hc5 HNE.out) (B' := W.heap.size) HBASE.out)
     have HB5 := hid hb5
     clear hb5 hc5
     go_wp2_with (refine wpList_load_blk rfl 121 (.tmp 12) rfl _ rfl HB5.out _ Tryz.underlying121 rfl coreSize ?_; dsimp only [Core.cells])
     go_ret2
     refine ⟨w5.heap.size, v4, rfl, Blk.new w5 (({ k := k, w := w, s := s, c := c, st := st, ia := ia, il := il, ic := ic, wr := wr, ra := ra, rl := rl, rc := rc, op := op, reader := rd_, phase := 0, i := 0, tries := 0, a := 0, b := 0, used := 0, m := .pointer none, base := at_, size := size, code := 0, steps := 0, over := false } : Core).cells v4) 124, mem.own_chg HO5.out ((Chg.refl [] w5).alloc _) (by simp), fun y hy => ?_, (HC1.out.trans HC5.out).size, (HC1.out.trans HC5.out).alloc _⟩
     have := own_lt (own_base HO5.out (Nat.zero_le _)) hy
     omega
   · refine act_do rfl rfl ?_ (fun K hK => ?_)
     · rfl
     go_simp
     refine hK.out _ _ (KEEP.out _ (HCS.out.alloc _)) (fun _ => ?_)
     clear hK K
     try simp only [Act.put, sA, sB, sC]
     have HCA : Hid (Chg [] W1 (wS.alloc (.cells #[.int .i64 0, .int .i64 0, .int .i64 0, .int .i64 0, .int .u32 0, .slice none 0 0, .int .i64 0, .slice none 0 0, .int .i64 0, .int .i64 0, .int .i64 0, .int .i64 0, .int .i64 0, .int .u32 0, .int .u32 0, .int .u64 0, .slice none 0 0, .pointer none, .int .i64 0, .int .i64 0, .int .i64 0, .int .i64 0, .bool false] 121))) := hid (HCS.out.alloc _)
     refine pt_act ?_
     refine act_do rfl rfl ?_ (fun K hK => ?_)
     · rfl
     go_simp
     go_wp2_with (go_at_call 125; refine (HBG.out _ (HR.out.chg (HC1.out.trans HCA.out))).mono ?_; rintro e wB ⟨v4, rfl, ho4, hc4⟩; have HO4 := hid ho4; have HCB := hid (HCA.out.trans hc4); have HBK := hid hc4; clear hc4 ho4)
     refine hK.out _ _ (KEEP.out _ HCB.out) (fun _ => ?_)
     clear hK K
     try simp only [Act.put, sA, sB, sC]
     repeat (refine pt_read (v := ?_) rfl rfl ?_ ?_ ?_; rotate_left; (focus rfl); (focus (intro u hSw; (try dsimp only at hSw); go_simp; (try with_reducible rfl))); (try simp only [Act.put, sA, sB, sC]))
     have HBASE : Hid (W.heap.size <= (wS.alloc (.cells #[.int .i64 0, .int .i64 0, .int .i64 0, .int .i64 0, .int .u32 0, .slice none 0 0, .int .i64 0, .slice none 0 0, .int .i64 0, .int .i64 0, .int .i64 0, .int .i64 0, .int .i64 0, .int .u32 0, .int .u32 0, .int .u64 0, .slice none 0 0, .pointer none, .int .i64 0, .int .i64 0, .int .i64 0, .int .i64 0, .bool false] 121)).heap.size) := hid (HC1.out.trans HCA.out).size
     have HO4x := HO4
     have HNE : Hid (∀ y, v4.ownBlock = some y -> y ∉ [wS.heap.size]) := hid (own_ne HO4.out (Blk.new wS #[.int .i64 0, .int .i64 0, .int .i64 0, .int .i64 0, .int .u32 0, .slice none 0 0, .int .i64 0, .slice none 0 0, .int .i64 0, .int .i64 0, .int .i64 0, .int .i64 0, .int .i64 0, .int .u32 0, .int .u32 0, .int .u64 0, .slice none 0 0, .pointer none, .int .i64 0, .int .i64 0, .int .i64 0, .int .i64 0, .bool false] 121))
     refine pt_act (act_do rfl rfl ?_ (fun K hK => ?_))
     · rfl
     have HZB := hid ((Blk.new wS #[.int .i64 0, .int .i64 0, .int .i64 0, .int .i64 0, .int .u32 0, .slice none 0 0, .int .i64 0, .slice none 0 0, .int .i64 0, .int .i64 0, .int .i64 0, .int .i64 0, .int .i64 0, .int .u32 0, .int .u32 0, .int .u64 0, .slice none 0 0, .pointer none, .int .i64 0, .int .i64 0, .int .i64 0, .int .i64 0, .bool false] 121).keep HBK.out (by simp))
     refine wp_store_blk 121 (.tmp 12) (.tmp 24) rfl wS.heap.size (({ k := k, w := w, s := s, c := c, st := st, ia := ia, il := il, ic := ic, wr := wr, ra := ra, rl := rl, rc := rc, op := op, reader := rd_, phase := 0, i := 0, tries := 0, a := 0, b := 0, used := 0, m := .pointer none, base := at_, size := size, code := 0, steps := 0, over := false } : Core).cells v4) rfl rfl HZB.out coreSize rfl (cells_one _ _ rfl (by rcases HO4.out.2 with ⟨rfl, _⟩ | ⟨_, _, _, rfl, _⟩ <;> rfl)) ?_
     intro w5 hb5 hc5
     have HC5 : Hid (Chg [] W1 w5) := hid (HCB.out.into hc5 (fun y hy => by simp at hy; right; have := HCS.out.size; omega))
     refine hK.out _ _ (KEEP.out _ HC5.out) (fun _ => ?_)
     clear hK K KEEP
     try simp only [Act.put, sA, sB, sC]
     repeat (refine pt_read (v := ?_) rfl rfl ?_ ?_ ?_; rotate_left; (focus rfl); (focus (intro u hSw; (try dsimp only at hSw); go_simp; (try with_reducible rfl))); (try simp only [Act.put, sA, sB, sC]))
     refine pt_nil ?_
     have HO5 := hid (own_base (mem.own_chg HO4x.out hc5 HNE.out) (B' := W.heap.size) HBASE.out)
     have HB5 := hid hb5
     clear hb5 hc5
     go_wp2_with (refine wpList_load_blk rfl 121 (.tmp 12) rfl _ rfl HB5.out _ Tryz.underlying121 rfl coreSize ?_; dsimp only [Core.cells])
     go_ret2
     refine ⟨w5.heap.size, v4, rfl, Blk.new w5 (({ k := k, w := w, s := s, c := c, st := st, ia := ia, il := il, ic := ic, wr := wr, ra := ra, rl := rl, rc := rc, op := op, reader := rd_, phase := 0, i := 0, tries := 0, a := 0, b := 0, used := 0, m := .pointer none, base := at_, size := size, code := 0, steps := 0, over := false } : Core).cells v4) 124, mem.own_chg HO5.out ((Chg.refl [] w5).alloc _) (by simp), fun y hy => ?_, (HC1.out.trans HC5.out).size, (HC1.out.trans HC5.out).alloc _⟩
     have := own_lt (own_base HO5.out (Nat.zero_le _)) hy
     omega
 · refine act_do rfl rfl ?_ (fun K hK => ?_)
   · rfl
   go_simp
   refine hK.out _ _ (KEEP.out _ (HD.out.alloc _)) (fun _ => ?_)
   clear hK K
   try simp only [Act.put, sA, sB, sC]
   have HCA : Hid (Chg [] W1 (W1.drew.alloc (.cells #[.int .i64 0, .int .i64 0, .int .i64 0, .int .i64 0, .int .u32 0, .slice none 0 0, .int .i64 0, .slice none 0 0, .int .i64 0, .int .i64 0, .int .i64 0, .int .i64 0, .int .i64 0, .int .u32 0, .int .u32 0, .int .u64 0, .slice none 0 0, .pointer none, .int .i64 0, .int .i64 0, .int .i64 0, .int .i64 0, .bool false] 121))) := hid (HD.out.alloc _)
   refine pt_act ?_
   refine act_do rfl rfl ?_ (fun K hK => ?_)
   · rfl
   go_simp
   go_wp2_with (go_at_call 45; refine (HSZ.out _).mono ?_; rintro e wS ⟨rfl, hx⟩; have HCS := hid (HCA.out.trans hx); have HSK := hid hx; clear hx)
   refine hK.out _ _ (KEEP.out _ HCS.out) (fun _ => ?_)
   clear hK K
   try simp only [Act.put, sA, sB, sC]
   refine pt_act ?_
   refine act_do rfl rfl ?_ (fun K hK => ?_)
   · rfl
   go_simp
   go_wp2_with (go_at_call 125; refine (HBG.out _ (HR.out.chg (HC1.out.trans HCS.out))).mono ?_; rintro e wB ⟨v4, rfl, ho4, hc4⟩; have HO4 := hid ho4; have HCB := hid (HCS.out.trans hc4); have HBK := hid hc4; clear hc4 ho4)
   refine hK.out _ _ (KEEP.out _ HCB.out) (fun _ => ?_)
   clear hK K
   try simp only [Act.put, sA, sB, sC]
   repeat (refine pt_read (v := ?_) rfl rfl ?_ ?_ ?_; rotate_left; (focus rfl); (focus (intro u hSw; (try dsimp only at hSw); go_simp; (try with_reducible rfl))); (try simp only [Act.put, sA, sB, sC]))
   have HBASE : Hid (W.heap.size <= wS.heap.size) := hid (HC1.out.trans HCS.out).size
   have HO4x := HO4
   have HNE : Hid (∀ y, v4.ownBlock = some y -> y ∉ [W1.heap.size]) := hid (own_ne HO4.out ((Blk.new W1.drew #[.int .i64 0, .int .i64 0, .int .i64 0, .int .i64 0, .int .u32 0, .slice none 0 0, .int .i64 0, .slice none 0 0, .int .i64 0, .int .i64 0, .int .i64 0, .int .i64 0, .int .i64 0, .int .u32 0, .int .u32 0, .int .u64 0, .slice none 0 0, .pointer none, .int .i64 0, .int .i64 0, .int .i64 0, .int .i64 0, .bool false] 121).keep HSK.out (by simp)))
   refine pt_act (act_do rfl rfl ?_ (fun K hK => ?_))
   · rfl
   have HZB := hid (((Blk.new W1.drew #[.int .i64 0, .int .i64 0, .int .i64 0, .int .i64 0, .int .u32 0, .slice none 0 0, .int .i64 0, .slice none 0 0, .int .i64 0, .int .i64 0, .int .i64 0, .int .i64 0, .int .i64 0, .int .u32 0, .int .u32 0, .int .u64 0, .slice none 0 0, .pointer none, .int .i64 0, .int .i64 0, .int .i64 0, .int .i64 0, .bool false] 121).keep HSK.out (by simp)).keep HBK.out (by simp))
   refine wp_store_blk 121 (.tmp 12) (.tmp 24) rfl W1.heap.size (({ k := k, w := w, s := s, c := c, st := st, ia := ia, il := il, ic := ic, wr := wr, ra := ra, rl := rl, rc := rc, op := op, reader := rd_, phase := 0, i := 0, tries := 0, a := 0, b := 0, used := 0, m := .pointer none, base := at_, size := size, code := 0, steps := 0, over := false } : Core).cells v4) rfl rfl HZB.out coreSize rfl (cells_one _ _ rfl (by rcases HO4.out.2 with ⟨rfl, _⟩ | ⟨_, _, _, rfl, _⟩ <;> rfl)) ?_
   intro w5 hb5 hc5
   have HC5 : Hid (Chg [] W1 w5) := hid (HCB.out.into hc5 (fun y hy => by simp at hy; right; have := (Chg.refl [] W1).size; omega))
   refine hK.out _ _ (KEEP.out _ HC5.out) (fun _ => ?_)
   clear hK K KEEP
   try simp only [Act.put, sA, sB, sC]
   repeat (refine pt_read (v := ?_) rfl rfl ?_ ?_ ?_; rotate_left; (focus rfl); (focus (intro u hSw; (try dsimp only at hSw); go_simp; (try with_reducible rfl))); (try simp only [Act.put, sA, sB, sC]))
   refine pt_nil ?_
   have HO5 := hid (own_base (mem.own_chg HO4x.out hc5 HNE.out) (B' := W.heap.size) HBASE.out)
   have HB5 := hid hb5
   clear hb5 hc5
   go_wp2_with (refine wpList_load_blk rfl 121 (.tmp 12) rfl _ rfl HB5.out _ Tryz.underlying121 rfl coreSize ?_; dsimp only [Core.cells])
   go_ret2
   refine ⟨w5.heap.size, v4, rfl, Blk.new w5 (({ k := k, w := w, s := s, c := c, st := st, ia := ia, il := il, ic := ic, wr := wr, ra := ra, rl := rl, rc := rc, op := op, reader := rd_, phase := 0, i := 0, tries := 0, a := 0, b := 0, used := 0, m := .pointer none, base := at_, size := size, code := 0, steps := 0, over := false } : Core).cells v4) 124, mem.own_chg HO5.out ((Chg.refl [] w5).alloc _) (by simp), fun y hy => ?_, (HC1.out.trans HC5.out).size, (HC1.out.trans HC5.out).alloc _⟩
   have := own_lt (own_base HO5.out (Nat.zero_le _)) hy
   omega
end Go.Proofs.YtphfnjcboellhaaGreatDoor.chen
