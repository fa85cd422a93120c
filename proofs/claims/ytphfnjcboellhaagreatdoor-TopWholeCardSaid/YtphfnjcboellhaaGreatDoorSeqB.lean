import Derived.Test.YtphfnjcboellhaaGreatDoorCoreB
import Derived.Test.YtphfnjcboellhaaGreatDoorObjA
import Derived.Test.YtphfnjcboellhaaGreatDoorRopA
import Derived.Test.YtphfnjcboellhaaGreatDoorGen
import Derived.Test.YtphfnjcboellhaaGreatDoorPlans
namespace Go.Proofs.YtphfnjcboellhaaGreatDoor.seq
open Go Go.RowKit kit mem rop core
set_option maxRecDepth 20000
theorem Over_nil (W : World) : Calls Tryz.prog 70 #[.pointer none] W fun e W' => e = .returned (.bool true) /\ W = W' := by
 go_enter Tryz.func70, Tryz.ntmps70
 go_wp2_with fail
 go_ret
 exact ⟨rfl, rfl⟩
theorem Over_any {T : TypeId} {bx mb : Nat} {sv r0 : Value} {W0 W : World} {x : Core} {rec ws : List Int} {n : Int} (h : St T bx mb sv W0 r0 W x rec ws n) :
 Calls Tryz.prog 70 #[.pointer (some ⟨bx, 0, none⟩)] W fun e W' => e = .returned (.bool x.over) /\ W = W' := by
 have H := hid h
 clear h
 go_enter Tryz.func70, Tryz.ntmps70
 go_wp2_with (go_at_call 117; refine (Ended_any H.out).mono ?_; rintro e w1 ⟨rfl, rfl⟩)
 go_ret
 exact ⟨rfl, rfl⟩
theorem Answer_any {T : TypeId} {bx mb : Nat} {sv v : Value} {W : World} {x : Core} {rec ws : List Int} {n : Int} (h : Pair T bx mb sv W x v rec ws n) :
 Calls Tryz.prog 76 #[.pointer (some ⟨bx, 0, none⟩)] W fun e W' => ∃ v', e = .returned (.tuple #[v', .int .i64 (if x.over then x.code else 0)]) /\ OwnW W' W.heap.size v' (if x.over then rec else []) /\ Chg [] W W' := by
 have HP := hid h
 obtain ⟨cd, hcd⟩ : ∃ cd, (if x.over then x.code else 0) = cd := ⟨_, rfl⟩
 obtain ⟨rr, hrr⟩ : ∃ rr, (if x.over then rec else []) = rr := ⟨_, rfl⟩
 have HCD := hid hcd
 have HRR := hid hrr
 rw [hcd, hrr]
 clear h hcd hrr
 go_enter Tryz.func76, Tryz.ntmps76
 go_wp2_with (go_at_call 118; refine (Told_any HP.out).mono ?_; rintro e w1 ⟨v1, rfl, ho, hc⟩; rw [HCD.out]; rw [HRR.out] at ho; have HO := hid ho; have HC := hid hc; clear ho hc)
 go_ret2
 exact ⟨_, rfl, HO.out, HC.out⟩
open Go Go.RowKit kit mem rop core obj
theorem size_at (k w s c st : Int) (ia : Option Addr) (il ic : Nat) (wr : Int) (ra : Option Addr) (rl rc : Nat) (wN : Nat) (hw : w = (wN : Int)) (hwN : wN <= 8) (W : World) :
 Calls Tryz.prog 88 #[.agg #[.int .i64 k, .int .i64 w, .int .i64 s, .int .i64 c, .int .u32 st, .slice ia il ic, .int .i64 wr, .slice ra rl rc]] W fun e W' => e = .returned (.int .i64 ((1 + wN : Nat) : Int)) /\ Chg [] W W' := by
 have k2 : IntKind.i64.wrap (1 + (wN : Int)) = 1 + (wN : Int) := by rw [IntKind.wrap_i64]; omega
 subst hw
 clear hwN
 go_enter Tryz.func88, Tryz.ntmps88
 go_wp2
 go_ret
 exact ⟨congrArg (fun z => Ending.returned (Value.int .i64 z)) (by omega), (Chg.refl _ _).alloc _⟩
theorem Size_yes (k w s c st : Int) (ia : Option Addr) (il ic : Nat) (wr : Int) (ra : Option Addr) (rl rc : Nat) (wN : Nat) (hw : w = (wN : Int)) (h : ObjW k w s c st il rl) (hr : (decide (k = 3) && rightB k w s c st il rl) = true) (W : World) :
 Calls Tryz.prog 46 #[.agg #[.int .i64 k, .int .i64 w, .int .i64 s, .int .i64 c, .int .u32 st, .slice ia il ic, .int .i64 wr, .slice ra rl rc]] W fun e W' => e = .returned (.int .i64 ((1 + wN : Nat) : Int)) /\ Chg [] W W' := by
 have hb := rightB_bd (by simp only [Bool.and_eq_true] at hr; exact hr.2)
 have HW := hid (show wN <= 8 by omega)
 have HE := hid hw
 have HO := hid h
 have HR := hid hr
 clear h hr hb hw
 go_enter Tryz.func46, Tryz.ntmps46
 go_wp2_with (first | (go_at_call 82; refine (seqRight_any k w s c st ia il ic wr ra rl rc HO.out _).mono ?_; rintro e w1 ⟨rfl, hc⟩; rw [HR.out]; have HC := hid (((Chg.refl [] W).alloc _).trans hc); have HB := hid ((Blk.new W #[.int .i64 k, .int .i64 w, .int .i64 s, .int .i64 c, .int .u32 st, .slice ia il ic, .int .i64 wr, .slice ra rl rc] 26).keep hc (by simp)); clear hc; have e0 : w1.cell? ⟨W.heap.size, 0, none⟩ = some (.int .i64 k) := HB.out.cell rfl; have e1 : w1.cell? ⟨W.heap.size, 1, none⟩ = some (.int .i64 w) := HB.out.cell rfl; have e2 : w1.cell? ⟨W.heap.size, 2, none⟩ = some (.int .i64 s) := HB.out.cell rfl; have e3 : w1.cell? ⟨W.heap.size, 3, none⟩ = some (.int .i64 c) := HB.out.cell rfl; have e4 : w1.cell? ⟨W.heap.size, 4, none⟩ = some (.int .u32 st) := HB.out.cell rfl; have e5 : w1.cell? ⟨W.heap.size, 5, none⟩ = some (.slice ia il ic) := HB.out.cell rfl; have e6 : w1.cell? ⟨W.heap.size, 6, none⟩ = some (.int .i64 wr) := HB.out.cell rfl; have e7 : w1.cell? ⟨W.heap.size, 7, none⟩ = some (.slice ra rl rc) := HB.out.cell rfl) | (go_at_call 88; refine (size_at k w s c st ia il ic wr ra rl rc wN HE.out HW.out _).mono ?_; rintro e w2 ⟨rfl, hc⟩; have HC2 := hid (HC.out.trans hc); clear hc))
 go_ret
 exact ⟨rfl, HC2.out⟩
theorem Size_no (k w s c st : Int) (ia : Option Addr) (il ic : Nat) (wr : Int) (ra : Option Addr) (rl rc : Nat) (h : ObjW k w s c st il rl) (hr : (decide (k = 3) && rightB k w s c st il rl) = false) (W : World) :
 Calls Tryz.prog 46 #[.agg #[.int .i64 k, .int .i64 w, .int .i64 s, .int .i64 c, .int .u32 st, .slice ia il ic, .int .i64 wr, .slice ra rl rc]] W fun e W' => e = .returned (.int .i64 0) /\ Chg [] W W' := by
 have HO := hid h
 have HR := hid hr
 clear h hr
 go_enter Tryz.func46, Tryz.ntmps46
 go_wp2_with (go_at_call 82; refine (seqRight_any k w s c st ia il ic wr ra rl rc HO.out _).mono ?_; rintro e w1 ⟨rfl, hc⟩; rw [HR.out]; have HC := hid (((Chg.refl [] W).alloc _).trans hc); clear hc)
 go_ret
 exact ⟨rfl, HC.out⟩
def layL (st : Int) (ini : List Int) : List Int := st :: ini
set_option maxHeartbeats 2000000 in
theorem Lay_yes (k w s c st : Int) (ia : Option Addr) (il ic : Nat) (wr : Int) (ra : Option Addr) (rl rc : Nat) (wN : Nat) (hw : w = (wN : Int)) (ini : List Int) (h : ObjW k w s c st il rl) (hr : (decide (k = 3) && rightB k w s c st il rl) = true) (W : World) (hi : ReadsW W (.slice ia il ic) ini) :
 Calls Tryz.prog 53 #[.agg #[.int .i64 k, .int .i64 w, .int .i64 s, .int .i64 c, .int .u32 st, .slice ia il ic, .int .i64 wr, .slice ra rl rc]] W fun e W' => ∃ v, e = .returned v /\ OwnW W' W.heap.size v (layL st ini) /\ Chg [] W W' := by
 obtain ⟨i0, hi0, hz0, hz1, hz2⟩ := info_parts mem.info32
 have HI0 : Hid (Tryz.prog.info? 22 = some i0 /\ i0.zero = some (.int .u32 0) /\ i0.size = 1 /\ i0.bytes = 4) := hid ⟨hi0, hz0, hz1, hz2⟩
 have hil : il = ini.length := by obtain ⟨_, _, he, _⟩ := reads_slice hi.1; simp at he; exact he.2.1
 have HB := hid (show ini.length <= 100 by have := h.ilen; omega)
 have HI := hid hi
 have HO := hid h
 have HR := hid hr
 clear h hr hil hi hi0 hz0 hz1 hz2 hw
 go_enter Tryz.func53, Tryz.ntmps53
 go_wp2_with (first
  | (go_at_call 82; refine (seqRight_any k w s c st ia il ic wr ra rl rc HO.out _).mono ?_; rintro e w1 ⟨rfl, hc⟩; rw [HR.out]; have HC := hid (((Chg.refl [] W).alloc _).trans hc); have HB1 := hid ((Blk.new W #[.int .i64 k, .int .i64 w, .int .i64 s, .int .i64 c, .int .u32 st, .slice ia il ic, .int .i64 wr, .slice ra rl rc] 26).keep hc (by simp)); clear hc; have e0 : w1.cell? ⟨W.heap.size, 0, none⟩ = some (.int .i64 k) := HB1.out.cell rfl; have e1 : w1.cell? ⟨W.heap.size, 1, none⟩ = some (.int .i64 w) := HB1.out.cell rfl; have e2 : w1.cell? ⟨W.heap.size, 2, none⟩ = some (.int .i64 s) := HB1.out.cell rfl; have e3 : w1.cell? ⟨W.heap.size, 3, none⟩ = some (.int .i64 c) := HB1.out.cell rfl; have e4 : w1.cell? ⟨W.heap.size, 4, none⟩ = some (.int .u32 st) := HB1.out.cell rfl; have e5 : w1.cell? ⟨W.heap.size, 5, none⟩ = some (.slice ia il ic) := HB1.out.cell rfl; have e6 : w1.cell? ⟨W.heap.size, 6, none⟩ = some (.int .i64 wr) := HB1.out.cell rfl; have e7 : w1.cell? ⟨W.heap.size, 7, none⟩ = some (.slice ra rl rc) := HB1.out.cell rfl; have e5a : (w1.alloc (.cells #[.int .u32 st] 22)).cell? ⟨W.heap.size, 5, none⟩ = some (.slice ia il ic) := ((Chg.refl [] w1).alloc _).keep e5 (by simp))
  | ((with_reducible show wpList _ _ _ (⟨some 11, _, _, _, _, _⟩ :: _) _ _); refine wpList_append_any (o := ⟨some 11, _, _, _, _, _⟩) _ rfl (.tmp 8) (.tmp 10) 23 rfl w1.heap.size 22 i0 (.int .u32 0) 1 4 Tryz.underlying23 HI0.out.1 HI0.out.2.1 HI0.out.2.2.1 HI0.out.2.2.2 rfl (by decide) (.slice (some ⟨w1.heap.size, 0, none⟩) 1 1) 1 [.int .u32 st] rfl (World.ownsRow_lit w1 #[.int .u32 st] 1 (Nat.le_refl _) (by decide) rfl) (.slice ia il ic) ini.length _ rfl ((HI.out.chg HC.out).1.alloc _) (ints_oneCell _ _) (by have := HB.out; unfold maxLen; omega) (by have := HB.out; omega) (by simp) ?_; intro v2 w6 hown2 hg2; have hc2 : Chg [] w1 w6 := ((Chg.refl _ _).alloc _).grown hg2 (by simp [Value.ownBlock]); have HO2 := hid hown2; have HC2 := hid (HC.out.trans hc2); have HS2 := hid HC.out.size; clear hg2 hown2 hc2 e0 e1 e2 e3 e4 e5 e6 e7 e5a))
 go_ret
 refine ⟨_, rfl, ?_, HC2.out⟩
 have h2 := own_base HO2.out HS2.out
 unfold OwnW
 have e : (layL st ini).length = 1 + ini.length := by simp [layL]; omega
 rw [e]
 exact h2
set_option maxHeartbeats 8000000 in
theorem Begin_yes (k w s c st : Int) (ia : Option Addr) (il ic : Nat) (wr : Int) (ra : Option Addr) (rl rc : Nat) (at_ op rd_ size : Int) (rv : Value) (rec : List Int) (W : World) (hr : ReadsW W rv rec) (hl : rec.length <= 1000) (hsz : ∀ V, Calls Tryz.prog 46 #[.agg #[.int .i64 k, .int .i64 w, .int .i64 s, .int .i64 c, .int .u32 st, .slice ia il ic, .int .i64 wr, .slice ra rl rc]] V fun e W' => e = .returned (.int .i64 size) /\ Chg [] V W') (hb : begI w rl size at_ op rd_ 2 1 rec.length = 0) :
 Calls Tryz.prog 100 #[.agg #[.int .i64 k, .int .i64 w, .int .i64 s, .int .i64 c, .int .u32 st, .slice ia il ic, .int .i64 wr, .slice ra rl rc], .int .i64 at_, .int .i64 op, .int .i64 rd_, rv] W fun e W' => ∃ b v', e = .returned (.tuple #[.pointer (some ⟨b, 0, none⟩), .int .i64 0]) /\ Blk W' b (({ k := k, w := w, s := s, c := c, st := st, ia := ia, il := il, ic := ic, wr := wr, ra := ra, rl := rl, rc := rc, op := op, reader := rd_, phase := 0, i := 0, tries := 0, a := 0, b := 0, used := 0, m := .pointer none, base := at_, size := size, code := 0, steps := 0, over := false } : Core).cells v') 125 /\ OwnW W' W.heap.size v' rec /\ (∀ y, v'.ownBlock = some y -> y ≠ b) /\ W.heap.size <= b /\ Chg [] W W' := by
 have HSZ := hid hsz
 have HR := hid hr
 have HBG := hid (fun V (hv : ReadsW V rv rec) => four.mBegin_yes k w s c st ia il ic wr ra rl rc size at_ op rd_ 2 1 rv rec V hv hl hb)
 obtain ⟨ra0, rcap0, rfl, _⟩ := reads_slice hr.1
 clear hr hl hsz hb
 go_enter Tryz.func100, Tryz.ntmps100
 go_wp2_with fail
 refine code_gen (R := fun V => Hid (Blk V W.heap.size #[.int .i64 k, .int .i64 w, .int .i64 s, .int .i64 c, .int .u32 st, .slice ia il ic, .int .i64 wr, .slice ra rl rc] 26) /\ Hid (Chg [] W V)) ⟨hid (Blk.new W _ _), hid ((Chg.refl [] W).alloc _)⟩ ?_
 rintro W1 ⟨HO1, HC1⟩
 have eS0 : W1.cell? ⟨W.heap.size, 0, none⟩ = some (.int .i64 k) := HO1.out.cell rfl
 have eS1 : W1.cell? ⟨W.heap.size, 1, none⟩ = some (.int .i64 w) := HO1.out.cell rfl
 have eS2 : W1.cell? ⟨W.heap.size, 2, none⟩ = some (.int .i64 s) := HO1.out.cell rfl
 have eS3 : W1.cell? ⟨W.heap.size, 3, none⟩ = some (.int .i64 c) := HO1.out.cell rfl
 have eS4 : W1.cell? ⟨W.heap.size, 4, none⟩ = some (.int .u32 st) := HO1.out.cell rfl
 have eS5 : W1.cell? ⟨W.heap.size, 5, none⟩ = some (.slice ia il ic) := HO1.out.cell rfl
 have eS6 : W1.cell? ⟨W.heap.size, 6, none⟩ = some (.int .i64 wr) := HO1.out.cell rfl
 have eS7 : W1.cell? ⟨W.heap.size, 7, none⟩ = some (.slice ra rl rc) := HO1.out.cell rfl
 have KEEP := hid (fun (V : World) (h : Chg [] W1 V) => (⟨h.keep eS0 (by simp), h.keep eS1 (by simp), h.keep eS2 (by simp), h.keep eS3 (by simp), h.keep eS4 (by simp), h.keep eS5 (by simp), h.keep eS6 (by simp), h.keep eS7 (by simp), hid h⟩ : (fun V : World => V.cell? ⟨W.heap.size, 0, none⟩ = some (.int .i64 k) /\ V.cell? ⟨W.heap.size, 1, none⟩ = some (.int .i64 w) /\ V.cell? ⟨W.heap.size, 2, none⟩ = some (.int .i64 s) /\ V.cell? ⟨W.heap.size, 3, none⟩ = some (.int .i64 c) /\ V.cell? ⟨W.heap.size, 4, none⟩ = some (.int .u32 st) /\ V.cell? ⟨W.heap.size, 5, none⟩ = some (.slice ia il ic) /\ V.cell? ⟨W.heap.size, 6, none⟩ = some (.int .i64 wr) /\ V.cell? ⟨W.heap.size, 7, none⟩ = some (.slice ra rl rc) /\ Hid (Chg [] W1 V)) V))
 clear eS0 eS1 eS2 eS3 eS4 eS5 eS6 eS7
 have hHeld : (fun V : World => V.cell? ⟨W.heap.size, 0, none⟩ = some (.int .i64 k) /\ V.cell? ⟨W.heap.size, 1, none⟩ = some (.int .i64 w) /\ V.cell? ⟨W.heap.size, 2, none⟩ = some (.int .i64 s) /\ V.cell? ⟨W.heap.size, 3, none⟩ = some (.int .i64 c) /\ V.cell? ⟨W.heap.size, 4, none⟩ = some (.int .u32 st) /\ V.cell? ⟨W.heap.size, 5, none⟩ = some (.slice ia il ic) /\ V.cell? ⟨W.heap.size, 6, none⟩ = some (.int .i64 wr) /\ V.cell? ⟨W.heap.size, 7, none⟩ = some (.slice ra rl rc) /\ Hid (Chg [] W1 V)) W1.drew := KEEP.out _ (Chg.refl _ _).drew
 have HD : Hid (Chg [] W1 W1.drew) := hid (Chg.refl _ _).drew
 refine wp_region_pt (fun V : World => V.cell? ⟨W.heap.size, 0, none⟩ = some (.int .i64 k) /\ V.cell? ⟨W.heap.size, 1, none⟩ = some (.int .i64 w) /\ V.cell? ⟨W.heap.size, 2, none⟩ = some (.int .i64 s) /\ V.cell? ⟨W.heap.size, 3, none⟩ = some (.int .i64 c) /\ V.cell? ⟨W.heap.size, 4, none⟩ = some (.int .u32 st) /\ V.cell? ⟨W.heap.size, 5, none⟩ = some (.slice ia il ic) /\ V.cell? ⟨W.heap.size, 6, none⟩ = some (.int .i64 wr) /\ V.cell? ⟨W.heap.size, 7, none⟩ = some (.slice ra rl rc) /\ Hid (Chg [] W1 V)) (PT.read 0 (some 15) (PT.read 1 (some 16) (PT.read 3 (some 18) (PT.read 4 (some 19) (PT.read 5 (some 20) (PT.read 6 (some 21) (PT.read 7 (some 22) (PT.fork 2 (some 17) (PT.fork 8 (some 23) (PT.read 9 (some 14) (PT.read 10 (some 24) (PT.read 11 (some 25) (PT.act 12 (some 12) (PT.act 13 (none) (PT.read 14 (some 13) PT.nil)))))) 12 (some 12) (PT.act 8 (some 23) (PT.read 9 (some 14) (PT.read 10 (some 24) (PT.read 11 (some 25) (PT.act 13 (none) (PT.read 14 (some 13) PT.nil))))))) 12 (some 12) (PT.act 2 (some 17) (PT.act 8 (some 23) (PT.read 9 (some 14) (PT.read 10 (some 24) (PT.read 11 (some 25) (PT.act 13 (none) (PT.read 14 (some 13) PT.nil))))))))))))))) (by kernel_rfl) (by kernel_rfl) (by kernel_rfl) (by kernel_rfl) (fun d c a v w h => by cases d <;> exact h) hHeld ?_
 clear hHeld
 repeat (refine pt_read (v := ?_) rfl rfl ?_ ?_ ?_; rotate_left; (focus rfl); (focus (intro u hSw; (try dsimp only at hSw); go_simp; (try with_reducible rfl))); (try simp only [Act.put, sA, sB, sC]))
 refine pt_fork ?_ ?_
 · refine act_do rfl rfl ?_ (fun K hK => ?_)
   · rfl
   go_simp
   go_wp2_with (go_at_call 46; refine (HSZ.out _).mono ?_; rintro e wS ⟨rfl, hx⟩; have HCS := hid (HD.out.trans hx); clear hx)
   refine hK.out _ _ (KEEP.out _ HCS.out) (fun _ => ?_)
   clear hK K
   try simp only [Act.put, sA, sB, sC]
   refine pt_fork ?_ ?_
   · refine act_do rfl rfl ?_ (fun K hK => ?_)
     · rfl
     go_simp
     go_wp2_with (go_at_call 125; refine (HBG.out _ (HR.out.chg (HC1.out.trans HCS.out))).mono ?_; rintro e wB ⟨v4, rfl, ho4, hc4⟩; have HO4 := hid ho4; have HCB := hid (HCS.out.trans hc4); have HBK := hid hc4; clear hc4 ho4)
     refine hK.out _ _ (KEEP.out _ HCB.out) (fun _ => ?_)
     clear hK K
     try simp only [Act.put, sA, sB, sC]
     repeat (refine pt_read (v := ?_) rfl rfl ?_ ?_ ?_; rotate_left; (focus rfl); (focus (intro u hSw; (try dsimp only at hSw); go_simp; (try with_reducible rfl))); (try simp only [Act.put, sA, sB, sC]))
     have HBASE : Hid (W.heap.size <= wS.heap.size) := hid (HC1.out.trans HCS.out).size
     have HO4x : Hid (OwnW (wB.alloc (.cells #[.int .i64 0, .int .i64 0, .int .i64 0, .int .i64 0, .int .u32 0, .slice none 0 0, .int .i64 0, .slice none 0 0, .int .i64 0, .int .i64 0, .int .i64 0, .int .i64 0, .int .i64 0, .int .u32 0, .int .u32 0, .int .u64 0, .slice none 0 0, .pointer none, .int .i64 0, .int .i64 0, .int .i64 0, .int .i64 0, .bool false] 121)) wS.heap.size v4 rec) := hid (mem.own_chg HO4.out ((Chg.refl [] _).alloc _) (by simp))
     have HNE : Hid (∀ y, v4.ownBlock = some y -> y ∉ [wB.heap.size]) := hid (fun y hy => by have := own_lt (own_base HO4.out (Nat.zero_le _)) hy; simp; omega)
     refine pt_act ?_
     refine act_do rfl rfl ?_ (fun K hK => ?_)
     · rfl
     go_simp
     refine hK.out _ _ (KEEP.out _ (HCB.out.alloc _)) (fun _ => ?_)
     clear hK K
     try simp only [Act.put, sA, sB, sC]
     refine pt_act (act_do rfl rfl ?_ (fun K hK => ?_))
     · rfl
     have HZB := hid (Blk.new wB #[.int .i64 0, .int .i64 0, .int .i64 0, .int .i64 0, .int .u32 0, .slice none 0 0, .int .i64 0, .slice none 0 0, .int .i64 0, .int .i64 0, .int .i64 0, .int .i64 0, .int .i64 0, .int .u32 0, .int .u32 0, .int .u64 0, .slice none 0 0, .pointer none, .int .i64 0, .int .i64 0, .int .i64 0, .int .i64 0, .bool false] 121)
     refine wp_store_blk 121 (.tmp 12) (.tmp 24) rfl wB.heap.size (({ k := k, w := w, s := s, c := c, st := st, ia := ia, il := il, ic := ic, wr := wr, ra := ra, rl := rl, rc := rc, op := op, reader := rd_, phase := 0, i := 0, tries := 0, a := 0, b := 0, used := 0, m := .pointer none, base := at_, size := size, code := 0, steps := 0, over := false } : Core).cells v4) rfl rfl HZB.out coreSize rfl (cells_one _ _ rfl (by rcases HO4.out.2 with ⟨rfl, _⟩ | ⟨_, _, _, rfl, _⟩ <;> rfl)) ?_
     intro w5 hb5 hc5
     have HC5 : Hid (Chg [] W1 w5) := hid ((HCB.out.alloc _).into hc5 (fun y hy => by simp at hy; right; have := HCB.out.size; omega))
     refine hK.out _ _ (KEEP.out _ HC5.out) (fun _ => ?_)
     clear hK K KEEP
     try simp only [Act.put, sA, sB, sC]
     repeat (refine pt_read (v := ?_) rfl rfl ?_ ?_ ?_; rotate_left; (focus rfl); (focus (intro u hSw; (try dsimp only at hSw); go_simp; (try with_reducible rfl))); (try simp only [Act.put, sA, sB, sC]))
     refine pt_nil ?_
     have HO5 := hid (own_base (mem.own_chg HO4x.out hc5 HNE.out) (B' := W.heap.size) HBASE.out)
     have HB5 := hid hb5
     clear hb5 hc5
     go_wp2_with (refine wpList_load_blk rfl 121 (.tmp 12) rfl _ rfl HB5.out _ Tryz.underlying121 rfl coreSize ?_; dsimp only [Core.cells])
     go_ret2
     refine ⟨w5.heap.size, v4, rfl, Blk.new w5 (({ k := k, w := w, s := s, c := c, st := st, ia := ia, il := il, ic := ic, wr := wr, ra := ra, rl := rl, rc := rc, op := op, reader := rd_, phase := 0, i := 0, tries := 0, a := 0, b := 0, used := 0, m := .pointer none, base := at_, size := size, code := 0, steps := 0, over := false } : Core).cells v4) 125, mem.own_chg HO5.out ((Chg.refl [] w5).alloc _) (by simp), fun y hy => ?_, (HC1.out.trans HC5.out).size, (HC1.out.trans HC5.out).alloc _⟩
     have := own_lt (own_base HO5.out (Nat.zero_le _)) hy
     omega
   · refine act_do rfl rfl ?_ (fun K hK => ?_)
     · rfl
     go_simp
     refine hK.out _ _ (KEEP.out _ (HCS.out.alloc _)) (fun _ => ?_)
     clear hK K
     try simp only [Act.put, sA, sB, sC]
     have HCA : Hid (Chg [] W1 (wS.alloc (.cells #[.int .i64 0, .int .i64 0, .int .i64 0, .int .i64 0, .int .u32 0, .slice none 0 0, .int .i64 0, .slice none 0 0, .int .i64 0, .int .i64 0, .int .i64 0, .int .i64 0, .int .i64 0, .int .u32 0, .int .u32 0, .int .u64 0, .slice none 0 0, .pointer none, .int .i64 0, .int .i64 0, .int .i64 0, .int .i64 0, .bool false] 121))) := hid (HCS.out.alloc _)
     refine pt_act ?_
     refine act_do rfl rfl ?_ (fun K hK => ?_)
     · rfl
     go_simp
     go_wp2_with (go_at_call 125; refine (HBG.out _ (HR.out.chg (HC1.out.trans HCA.out))).mono ?_; rintro e wB ⟨v4, rfl, ho4, hc4⟩; have HO4 := hid ho4; have HCB := hid (HCA.out.trans hc4); have HBK := hid hc4; clear hc4 ho4)
     refine hK.out _ _ (KEEP.out _ HCB.out) (fun _ => ?_)
     clear hK K
     try simp only [Act.put, sA, sB, sC]
     repeat (refine pt_read (v := ?_) rfl rfl ?_ ?_ ?_; rotate_left; (focus rfl); (focus (intro u hSw; (try dsimp only at hSw); go_simp; (try with_reducible rfl))); (try simp only [Act.put, sA, sB, sC]))
     have HBASE : Hid (W.heap.size <= (wS.alloc (.cells #[.int .i64 0, .int .i64 0, .int .i64 0, .int .i64 0, .int .u32 0, .slice none 0 0, .int .i64 0, .slice none 0 0, .int .i64 0, .int .i64 0, .int .i64 0, .int .i64 0, .int .i64 0, .int .u32 0, .int .u32 0, .int .u64 0, .slice none 0 0, .pointer none, .int .i64 0, .int .i64 0, .int .i64 0, .int .i64 0, .bool false] 121)).heap.size) := hid (HC1.out.trans HCA.out).size
     have HO4x := HO4
     have HNE : Hid (∀ y, v4.ownBlock = some y -> y ∉ [wS.heap.size]) := hid (own_ne HO4.out (Blk.new wS #[.int .i64 0, .int .i64 0, .int .i64 0, .int .i64 0, .int .u32 0, .slice none 0 0, .int .i64 0, .slice none 0 0, .int .i64 0, .int .i64 0, .int .i64 0, .int .i64 0, .int .i64 0, .int .u32 0, .int .u32 0, .int .u64 0, .slice none 0 0, .pointer none, .int .i64 0, .int .i64 0, .int .i64 0, .int .i64 0, .bool false] 121))
     refine pt_act (act_do rfl rfl ?_ (fun K hK => ?_))
     · rfl
     have HZB := hid ((Blk.new wS #[.int .i64 0, .int .i64 0, .int .i64 0, .int .i64 0, .int .u32 0, .slice none 0 0, .int .i64 0, .slice none 0 0, .int .i64 0, .int .i64 0, .int .i64 0, .int .i64 0, .int .i64 0, .int .u32 0, .int .u32 0, .int .u64 0, .slice none 0 0, .pointer none, .int .i64 0, .int .i64 0, .int .i64 0, .int .i64 0, .bool false] 121).keep HBK.out (by simp))
     refine wp_store_blk 121 (.tmp 12) (.tmp 24) rfl wS.heap.size (({ k := k, w := w, s := s, c := c, st := st, ia := ia, il := il, ic := ic, wr := wr, ra := ra, rl := rl, rc := rc, op := op, reader := rd_, phase := 0, i := 0, tries := 0, a := 0, b := 0, used := 0, m := .pointer none, base := at_, size := size, code := 0, steps := 0, over := false } : Core).cells v4) rfl rfl HZB.out coreSize rfl (cells_one _ _ rfl (by rcases HO4.out.2 with ⟨rfl, _⟩ | ⟨_, _, _, rfl, _⟩ <;> rfl)) ?_
     intro w5 hb5 hc5
     have HC5 : Hid (Chg [] W1 w5) := hid (HCB.out.into hc5 (fun y hy => by simp at hy; right; have := HCS.out.size; omega))
     refine hK.out _ _ (KEEP.out _ HC5.out) (fun _ => ?_)
     clear hK K KEEP
     try simp only [Act.put, sA, sB, sC]
     repeat (refine pt_read (v := ?_) rfl rfl ?_ ?_ ?_; rotate_left; (focus rfl); (focus (intro u hSw; (try dsimp only at hSw); go_simp; (try with_reducible rfl))); (try simp only [Act.put, sA, sB, sC]))
     refine pt_nil ?_
     have HO5 := hid (own_base (mem.own_chg HO4x.out hc5 HNE.out) (B' := W.heap.size) HBASE.out)
     have HB5 := hid hb5
     clear hb5 hc5
     go_wp2_with (refine wpList_load_blk rfl 121 (.tmp 12) rfl _ rfl HB5.out _ Tryz.underlying121 rfl coreSize ?_; dsimp only [Core.cells])
     go_ret2
     refine ⟨w5.heap.size, v4, rfl, Blk.new w5 (({ k := k, w := w, s := s, c := c, st := st, ia := ia, il := il, ic := ic, wr := wr, ra := ra, rl := rl, rc := rc, op := op, reader := rd_, phase := 0, i := 0, tries := 0, a := 0, b := 0, used := 0, m := .pointer none, base := at_, size := size, code := 0, steps := 0, over := false } : Core).cells v4) 125, mem.own_chg HO5.out ((Chg.refl [] w5).alloc _) (by simp), fun y hy => ?_, (HC1.out.trans HC5.out).size, (HC1.out.trans HC5.out).alloc _⟩
     have := own_lt (own_base HO5.out (Nat.zero_le _)) hy
     omega
 · refine act_do rfl rfl ?_ (fun K hK => ?_)
   · rfl
   go_simp
   refine hK.out _ _ (KEEP.out _ (HD.out.alloc _)) (fun _ => ?_)
   clear hK K
   try simp only [Act.put, sA, sB, sC]
   have HCA : Hid (Chg [] W1 (W1.drew.alloc (.cells #[.int .i64 0, .int .i64 0, .int .i64 0, .int .i64 0, .int .u32 0, .slice none 0 0, .int .i64 0, .slice none 0 0, .int .i64 0, .int .i64 0, .int .i64 0, .int .i64 0, .int .i64 0, .int .u32 0, .int .u32 0, .int .u64 0, .slice none 0 0, .pointer none, .int .i64 0, .int .i64 0, .int .i64 0, .int .i64 0, .bool false] 121))) := hid (HD.out.alloc _)
   refine pt_act ?_
   refine act_do rfl rfl ?_ (fun K hK => ?_)
   · rfl
   go_simp
   go_wp2_with (go_at_call 46; refine (HSZ.out _).mono ?_; rintro e wS ⟨rfl, hx⟩; have HCS := hid (HCA.out.trans hx); have HSK := hid hx; clear hx)
   refine hK.out _ _ (KEEP.out _ HCS.out) (fun _ => ?_)
   clear hK K
   try simp only [Act.put, sA, sB, sC]
   refine pt_act ?_
   refine act_do rfl rfl ?_ (fun K hK => ?_)
   · rfl
   go_simp
   go_wp2_with (go_at_call 125; refine (HBG.out _ (HR.out.chg (HC1.out.trans HCS.out))).mono ?_; rintro e wB ⟨v4, rfl, ho4, hc4⟩; have HO4 := hid ho4; have HCB := hid (HCS.out.trans hc4); have HBK := hid hc4; clear hc4 ho4)
   refine hK.out _ _ (KEEP.out _ HCB.out) (fun _ => ?_)
   clear hK K
   try simp only [Act.put, sA, sB, sC]
   repeat (refine pt_read (v := ?_) rfl rfl ?_ ?_ ?_; rotate_left; (focus rfl); (focus (intro u hSw; (try dsimp only at hSw); go_simp; (try with_reducible rfl))); (try simp only [Act.put, sA, sB, sC]))
   have HBASE : Hid (W.heap.size <= wS.heap.size) := hid (HC1.out.trans HCS.out).size
   have HO4x := HO4
   have HNE : Hid (∀ y, v4.ownBlock = some y -> y ∉ [W1.heap.size]) := hid (own_ne HO4.out ((Blk.new W1.drew #[.int .i64 0, .int .i64 0, .int .i64 0, .int .i64 0, .int .u32 0, .slice none 0 0, .int .i64 0, .slice none 0 0, .int .i64 0, .int .i64 0, .int .i64 0, .int .i64 0, .int .i64 0, .int .u32 0, .int .u32 0, .int .u64 0, .slice none 0 0, .pointer none, .int .i64 0, .int .i64 0, .int .i64 0, .int .i64 0, .bool false] 121).keep HSK.out (by simp)))
   refine pt_act (act_do rfl rfl ?_ (fun K hK => ?_))
   · rfl
   have HZB := hid (((Blk.new W1.drew #[.int .i64 0, .int .i64 0, .int .i64 0, .int .i64 0, .int .u32 0, .slice none 0 0, .int .i64 0, .slice none 0 0, .int .i64 0, .int .i64 0, .int .i64 0, .int .i64 0, .int .i64 0, .int .u32 0, .int .u32 0, .int .u64 0, .slice none 0 0, .pointer none, .int .i64 0, .int .i64 0, .int .i64 0, .int .i64 0, .bool false] 121).keep HSK.out (by simp)).keep HBK.out (by simp))
   refine wp_store_blk 121 (.tmp 12) (.tmp 24) rfl W1.heap.size (({ k := k, w := w, s := s, c := c, st := st, ia := ia, il := il, ic := ic, wr := wr, ra := ra, rl := rl, rc := rc, op := op, reader := rd_, phase := 0, i := 0, tries := 0, a := 0, b := 0, used := 0, m := .pointer none, base := at_, size := size, code := 0, steps := 0, over := false } : Core).cells v4) rfl rfl HZB.out coreSize rfl (cells_one _ _ rfl (by rcases HO4.out.2 with ⟨rfl, _⟩ | ⟨_, _, _, rfl, _⟩ <;> rfl)) ?_
   intro w5 hb5 hc5
   have HC5 : Hid (Chg [] W1 w5) := hid (HCB.out.into hc5 (fun y hy => by simp at hy; right; have := (Chg.refl [] W1).size; omega))
   refine hK.out _ _ (KEEP.out _ HC5.out) (fun _ => ?_)
   clear hK K KEEP
   try simp only [Act.put, sA, sB, sC]
   repeat (refine pt_read (v := ?_) rfl rfl ?_ ?_ ?_; rotate_left; (focus rfl); (focus (intro u hSw; (try dsimp only at hSw); go_simp; (try with_reducible rfl))); (try simp only [Act.put, sA, sB, sC]))
   refine pt_nil ?_
   have HO5 := hid (own_base (mem.own_chg HO4x.out hc5 HNE.out) (B' := W.heap.size) HBASE.out)
   have HB5 := hid hb5
   clear hb5 hc5
   go_wp2_with (refine wpList_load_blk rfl 121 (.tmp 12) rfl _ rfl HB5.out _ Tryz.underlying121 rfl coreSize ?_; dsimp only [Core.cells])
   go_ret2
   refine ⟨w5.heap.size, v4, rfl, Blk.new w5 (({ k := k, w := w, s := s, c := c, st := st, ia := ia, il := il, ic := ic, wr := wr, ra := ra, rl := rl, rc := rc, op := op, reader := rd_, phase := 0, i := 0, tries := 0, a := 0, b := 0, used := 0, m := .pointer none, base := at_, size := size, code := 0, steps := 0, over := false } : Core).cells v4) 125, mem.own_chg HO5.out ((Chg.refl [] w5).alloc _) (by simp), fun y hy => ?_, (HC1.out.trans HC5.out).size, (HC1.out.trans HC5.out).alloc _⟩
   have := own_lt (own_base HO5.out (Nat.zero_le _)) hy
   omega
end Go.Proofs.YtphfnjcboellhaaGreatDoor.seq
