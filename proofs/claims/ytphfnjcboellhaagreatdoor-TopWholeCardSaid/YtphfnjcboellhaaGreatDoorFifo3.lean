import Derived.Test.YtphfnjcboellhaaGreatDoorFifoA
import Derived.Test.YtphfnjcboellhaaGreatDoorObj2f
import Derived.Test.YtphfnjcboellhaaGreatDoorRopB
import Derived.Test.YtphfnjcboellhaaGreatDoorGen
namespace Go.Proofs.YtphfnjcboellhaaGreatDoor.fifo
open Go Go.RowKit kit mem rop core obj
set_option maxRecDepth 20000
theorem Over_nil (W : World) : Calls Tryz.prog 73 #[.pointer none] W fun e W' => e = .returned (.bool true) /\ W = W' := by
 go_enter Tryz.func73, Tryz.ntmps73
 go_wp2_with fail
 go_ret
 exact ⟨rfl, rfl⟩
theorem Over_any {T : TypeId} {bx mb : Nat} {sv r0 : Value} {W0 W : World} {x : Core} {rec ws : List Int} {n : Int} (h : St T bx mb sv W0 r0 W x rec ws n) :
 Calls Tryz.prog 73 #[.pointer (some ⟨bx, 0, none⟩)] W fun e W' => e = .returned (.bool x.over) /\ W = W' := by
 have H := hid h
 clear h
 go_enter Tryz.func73, Tryz.ntmps73
 go_wp2_with (go_at_call 117; refine (Ended_any H.out).mono ?_; rintro e w1 ⟨rfl, rfl⟩)
 go_ret
 exact ⟨rfl, rfl⟩
theorem Answer_any {T : TypeId} {bx mb : Nat} {sv v : Value} {W : World} {x : Core} {rec ws : List Int} {n : Int} (h : Pair T bx mb sv W x v rec ws n) :
 Calls Tryz.prog 79 #[.pointer (some ⟨bx, 0, none⟩)] W fun e W' => ∃ v', e = .returned (.tuple #[v', .int .i64 (if x.over then x.code else 0)]) /\ OwnW W' W.heap.size v' (if x.over then rec else []) /\ Chg [] W W' := by
 have HP := hid h
 obtain ⟨cd, hcd⟩ : ∃ cd, (if x.over then x.code else 0) = cd := ⟨_, rfl⟩
 obtain ⟨rr, hrr⟩ : ∃ rr, (if x.over then rec else []) = rr := ⟨_, rfl⟩
 have HCD := hid hcd
 have HRR := hid hrr
 rw [hcd, hrr]
 clear h hcd hrr
 go_enter Tryz.func79, Tryz.ntmps79
 go_wp2_with (go_at_call 118; refine (Told_any HP.out).mono ?_; rintro e w1 ⟨v1, rfl, ho, hc⟩; rw [HCD.out]; rw [HRR.out] at ho; have HO := hid ho; have HC := hid hc; clear ho hc)
 go_ret2
 exact ⟨_, rfl, HO.out, HC.out⟩
theorem size_at (k w s c st : Int) (ia : Option Addr) (il ic : Nat) (wr : Int) (ra : Option Addr) (rl rc : Nat) (hs : 0 <= s /\ s <= 16) (hw : 0 <= w /\ w <= 8) (W : World) :
 Calls Tryz.prog 91 #[.agg #[.int .i64 k, .int .i64 w, .int .i64 s, .int .i64 c, .int .u32 st, .slice ia il ic, .int .i64 wr, .slice ra rl rc]] W fun e W' => e = .returned (.int .i64 (((2 + s * w).toNat : Nat) : Int)) /\ Chg [] W W' := by
 have hb := mul_bd (c := s) (w := w) (m := 16) ⟨by omega, hs.2⟩ ⟨by omega, hw.2⟩ (by omega)
 have k1 : IntKind.i64.wrap (s * w) = s * w := by rw [IntKind.wrap_i64]; omega
 have k2 : IntKind.i64.wrap (2 + s * w) = 2 + s * w := by rw [IntKind.wrap_i64]; omega
 have HNV : Hid (2 + s * w = ((2 + s * w).toNat : Int)) := hid (by omega)
 clear hb hs hw
 go_enter Tryz.func91, Tryz.ntmps91
 go_wp2
 go_ret
 exact ⟨congrArg (fun z => Ending.returned (Value.int .i64 z)) HNV.out, (Chg.refl _ _).alloc _⟩
theorem Size_yes (k w s c st : Int) (ia : Option Addr) (il ic : Nat) (wr : Int) (ra : Option Addr) (rl rc : Nat) (wN : Nat) (hw : w = (wN : Int)) (h : ObjW k w s c st il rl) (hr : (decide (k = 6) && rightB k w s c st il rl) = true) (W : World) :
 Calls Tryz.prog 49 #[.agg #[.int .i64 k, .int .i64 w, .int .i64 s, .int .i64 c, .int .u32 st, .slice ia il ic, .int .i64 wr, .slice ra rl rc]] W fun e W' => e = .returned (.int .i64 (((2 + s * w).toNat : Nat) : Int)) /\ Chg [] W W' := by
 have hk : k = 6 := by simp only [Bool.and_eq_true, decide_eq_true_eq] at hr; exact hr.1
 have hb := rightB_bd (by simp only [Bool.and_eq_true] at hr; exact hr.2)
 have hr2 : rightB k w s c st il rl = true := by simp only [Bool.and_eq_true] at hr; exact hr.2
 have ha := fun V => size_at k w s c st ia il ic wr ra rl rc (by subst hk; simp only [rightB, decide_eq_true_eq] at hr2; omega) (by omega) V
 obtain ⟨N0, hN0⟩ : ∃ N0 : Nat, (2 + s * w).toNat = N0 := ⟨_, rfl⟩
 simp only [hN0] at ha
 rw [hN0]
 have HA := hid ha
 clear ha hN0
 have HO := hid h
 have HR := hid hr
 clear h hr hb hw hk hr2
 go_enter Tryz.func49, Tryz.ntmps49
 go_wp2_with (first | (go_at_call 85; refine (fifoRight_any k w s c st ia il ic wr ra rl rc HO.out _).mono ?_; rintro e w1 ⟨rfl, hc⟩; rw [HR.out]; have HC := hid (((Chg.refl [] W).alloc _).trans hc); have HB := hid ((Blk.new W #[.int .i64 k, .int .i64 w, .int .i64 s, .int .i64 c, .int .u32 st, .slice ia il ic, .int .i64 wr, .slice ra rl rc] 26).keep hc (by simp)); clear hc; have e0 : w1.cell? ⟨W.heap.size, 0, none⟩ = some (.int .i64 k) := HB.out.cell rfl; have e1 : w1.cell? ⟨W.heap.size, 1, none⟩ = some (.int .i64 w) := HB.out.cell rfl; have e2 : w1.cell? ⟨W.heap.size, 2, none⟩ = some (.int .i64 s) := HB.out.cell rfl; have e3 : w1.cell? ⟨W.heap.size, 3, none⟩ = some (.int .i64 c) := HB.out.cell rfl; have e4 : w1.cell? ⟨W.heap.size, 4, none⟩ = some (.int .u32 st) := HB.out.cell rfl; have e5 : w1.cell? ⟨W.heap.size, 5, none⟩ = some (.slice ia il ic) := HB.out.cell rfl; have e6 : w1.cell? ⟨W.heap.size, 6, none⟩ = some (.int .i64 wr) := HB.out.cell rfl; have e7 : w1.cell? ⟨W.heap.size, 7, none⟩ = some (.slice ra rl rc) := HB.out.cell rfl) | (go_at_call 91; refine (HA.out _).mono ?_; rintro e w2 ⟨rfl, hc⟩; have HC2 := hid (HC.out.trans hc); clear hc))
 go_ret
 exact ⟨rfl, HC2.out⟩
theorem Size_no (k w s c st : Int) (ia : Option Addr) (il ic : Nat) (wr : Int) (ra : Option Addr) (rl rc : Nat) (h : ObjW k w s c st il rl) (hr : (decide (k = 6) && rightB k w s c st il rl) = false) (W : World) :
 Calls Tryz.prog 49 #[.agg #[.int .i64 k, .int .i64 w, .int .i64 s, .int .i64 c, .int .u32 st, .slice ia il ic, .int .i64 wr, .slice ra rl rc]] W fun e W' => e = .returned (.int .i64 0) /\ Chg [] W W' := by
 have HO := hid h
 have HR := hid hr
 clear h hr
 go_enter Tryz.func49, Tryz.ntmps49
 go_wp2_with (go_at_call 85; refine (fifoRight_any k w s c st ia il ic wr ra rl rc HO.out _).mono ?_; rintro e w1 ⟨rfl, hc⟩; rw [HR.out]; have HC := hid (((Chg.refl [] W).alloc _).trans hc); clear hc)
 go_ret
 exact ⟨rfl, HC.out⟩
def layL (s w st : Int) : List Int := ((List.replicate (2 + s * w).toNat 0).set 0 st).set 1 st
set_option maxHeartbeats 4000000 in
theorem Lay_yes (k w s c st : Int) (ia : Option Addr) (il ic : Nat) (wr : Int) (ra : Option Addr) (rl rc : Nat) (wN : Nat) (hw : w = (wN : Int)) (h : ObjW k w s c st il rl) (hr : (decide (k = 6) && rightB k w s c st il rl) = true) (W : World) :
 Calls Tryz.prog 56 #[.agg #[.int .i64 k, .int .i64 w, .int .i64 s, .int .i64 c, .int .u32 st, .slice ia il ic, .int .i64 wr, .slice ra rl rc]] W fun e W' => ∃ v, e = .returned v /\ OwnW W' W.heap.size v (layL s w st) /\ Chg [] W W' := by
 obtain ⟨i0, hi0, hz0, hz1, hz2⟩ := info_parts mem.info32
 have hk : k = 6 := by simp only [Bool.and_eq_true, decide_eq_true_eq] at hr; exact hr.1
 have hr2 : rightB k w s c st il rl = true := by simp only [Bool.and_eq_true] at hr; exact hr.2
 have hb := rightB_bd hr2
 have hst := h.st32
 obtain ⟨N, hN⟩ : ∃ N : Nat, (2 + s * w).toNat = N := ⟨_, rfl⟩
 have hs16 : 1 <= s /\ s <= 16 := by subst hk; simp only [rightB, decide_eq_true_eq] at hr2; omega
 have hfit : 2 <= N /\ N <= 130 := by
  have h5 := mul_bd (c := s) (w := w) (m := 16) ⟨by omega, hs16.2⟩ (by omega) (by omega)
  omega
 have HFIT := hid hfit
 have hmk := run_make_zeros (P := Tryz.prog) 23 22 i0 (.int .u32 0) 4 Tryz.underlying23 hi0 hz0 hz1 hz2 rfl N (by omega) (by omega)
 have hsz := fun W => Size_yes k w s c st ia il ic wr ra rl rc wN hw h hr W
 simp only [hN] at hsz
 have HSZ := hid hsz
 clear hsz
 have hpos : decide ((0 : Int) < (N : Int)) = true := by simp; omega
 have hpos2 : decide (0 < N) = true := by simp; omega
 have hpos3 : (0 : Int) < (N : Int) := by omega
 have hpos4 : (1 : Int) < (N : Int) := by omega
 have hpos5 : 0 < N := by omega
 have hpos6 : 1 < N := by omega
 have HN := hid hN
 clear h hr hb hi0 hz0 hz1 hz2 hw hk hr2 hst hN hfit hs16
 go_enter Tryz.func56, Tryz.ntmps56
 go_upto_region 3 with (go_at_call 49; refine (HSZ.out _).mono ?_; rintro e w1 ⟨rfl, hc⟩; have HC := hid (((Chg.refl [] W).alloc _).trans hc); have HB1 := hid ((Blk.new W #[.int .i64 k, .int .i64 w, .int .i64 s, .int .i64 c, .int .u32 st, .slice ia il ic, .int .i64 wr, .slice ra rl rc] 26).keep hc (by simp)); clear hc)
 refine code_gen (R := fun V => Hid (Blk V W.heap.size #[.int .i64 k, .int .i64 w, .int .i64 s, .int .i64 c, .int .u32 st, .slice ia il ic, .int .i64 wr, .slice ra rl rc] 26) /\ Hid (LB V w1.heap.size (List.replicate N 0)) /\ Hid (Chg [] W V)) ⟨hid (HB1.out.alloc _), hid (by have := Blk.new w1 (zeros (.int .u32 0) N) 22; simpa [LB, zeros] using this), hid (HC.out.alloc _)⟩ ?_
 rintro W1 ⟨HO1, HL1, HC1⟩
 have HG := hid HC.out.size
 have hne : W.heap.size ≠ w1.heap.size := by have := HB1.out.lt; omega
 generalize w1.heap.size = g at *
 have HNE := hid hne
 clear hmk hne
 have KEEP := hid (fun (V : World) (h : Chg [g] W1 V) => (⟨h.keep (HO1.out.cell rfl) (by simpa using HNE.out), hid h⟩ : (fun V : World => V.cell? ⟨W.heap.size, 4, none⟩ = some (.int .u32 st) /\ Hid (Chg [g] W1 V)) V))
 have hHeld : (fun V : World => V.cell? ⟨W.heap.size, 4, none⟩ = some (.int .u32 st) /\ Hid (Chg [g] W1 V)) W1.drew := KEEP.out _ (Chg.refl _ _).drew
 refine wp_region_plan (fun V : World => V.cell? ⟨W.heap.size, 4, none⟩ = some (.int .u32 st) /\ Hid (Chg [g] W1 V)) [(0, true, some 10), (1, true, some 11), (2, true, some 12), (3, true, some 13), (4, true, some 14), (5, true, some 15), (6, true, some 16), (7, false, none), (8, true, some 17), (9, false, none)] (by kernel_rfl) (by kernel_rfl) (by kernel_rfl) (by kernel_rfl) (fun d c a v w h => by cases d <;> exact h) hHeld ?_
 obtain ⟨Wd, hWd⟩ : ∃ Wd, W1.drew = Wd := ⟨_, rfl⟩
 rw [hWd] at hHeld ⊢
 have HL1d : Hid (LB Wd g (List.replicate N 0)) := hid (by rw [<- hWd]; exact Blk.drew HL1.out)
 have HCd : Hid (Chg [g] W1 Wd) := hid (by rw [<- hWd]; exact (Chg.refl _ _).drew)
 clear hWd
 have HL2 : Hid (LB (Wd.setCell ⟨g, 0, none⟩ (.int .u32 st)) g ((List.replicate N 0).set 0 st)) := hid (HL1d.out.put 0 st)
 have g0 : Wd.cell? ⟨g, 0, none⟩ = some (.int .u32 ((List.replicate N 0).getD 0 0)) := HL1d.out.word 0 (by rw [List.length_replicate]; have := HFIT.out; omega)
 have f0 := HL1d.out.free 0
 repeat (first | (refine planWp_load rfl rfl rfl 26 _ rfl _ rfl (fun u hSw => hSw.1) ?_; (try simp only [Act.put, sA, sB, sC])) | (refine planWp_read (v := ?_) rfl rfl ?_ ?_ ?_; rotate_left; (focus rfl); (focus (intro u hSw; (try dsimp only at hSw); go_simp; (try with_reducible rfl); done)); (try simp only [Act.put, sA, sB, sC])))
 refine planWp_do rfl rfl ?_ (fun K hK => ?_)
 · rfl
 go_simp
 have HC2 : Hid (Chg [g] W1 (Wd.setCell ⟨g, 0, none⟩ (.int .u32 st))) := hid (HCd.out.setCell (.inl (by simp)) _)
 refine hK.out _ _ (KEEP.out _ HC2.out) (fun hHeld2 => ?_)
 clear hK K hHeld g0 f0
 have hHeld := hHeld2
 clear hHeld2
 try simp only [Act.put, sA, sB, sC]
 obtain ⟨W2, hW2⟩ : ∃ W2, Wd.setCell ⟨g, 0, none⟩ (.int .u32 st) = W2 := ⟨_, rfl⟩
 rw [hW2] at HC2 HL2 hHeld ⊢
 clear hW2
 have g1 : W2.cell? ⟨g, 1, none⟩ = some (.int .u32 (((List.replicate N 0).set 0 st).getD 1 0)) := HL2.out.word 1 (by rw [List.length_set, List.length_replicate]; have := HFIT.out; omega)
 have f1 := HL2.out.free 1
 repeat (first | (refine planWp_load rfl rfl rfl 26 _ rfl _ rfl (fun u hSw => hSw.1) ?_; (try simp only [Act.put, sA, sB, sC])) | (refine planWp_read (v := ?_) rfl rfl ?_ ?_ ?_; rotate_left; (focus rfl); (focus (intro u hSw; (try dsimp only at hSw); go_simp; (try with_reducible rfl); done)); (try simp only [Act.put, sA, sB, sC])))
 refine planWp_do rfl rfl ?_ (fun K hK => ?_)
 · rfl
 go_simp
 have HC3 : Hid (Chg [g] W1 (W2.setCell ⟨g, 1, none⟩ (.int .u32 st))) := hid (HC2.out.setCell (.inl (by simp)) _)
 have HL3 := hid (HL2.out.put 1 st)
 refine hK.out _ _ (KEEP.out _ HC3.out) (fun hHeld2 => ?_)
 clear hK K hHeld g1 f1 hHeld2 KEEP
 try simp only [Act.put, sA, sB, sC]
 refine planWp_nil ?_
 have HC4 : Hid (Chg [] W (W2.setCell ⟨g, 1, none⟩ (.int .u32 st))) := hid (HC1.out.into HC3.out (fun y hy => by simp at hy; right; have := HG.out; omega))
 refine then_gen (R := fun V => Hid (LB V g (((List.replicate N 0).set 0 st).set 1 st)) /\ Hid (Chg [] W V)) ⟨HL3, HC4⟩ ?_
 clear HL3 HC4 HC3 HL2 HC2
 rintro W5 ⟨HL5, HC5⟩
 go_wp2_with fail
 go_ret
 refine ⟨_, rfl, ?_, HC5.out⟩
 have hn := HFIT.out
 have hlay : layL s w st = ((List.replicate N 0).set 0 st).set 1 st := by unfold layL; rw [HN.out]
 rw [hlay]
 unfold OwnW
 rw [show (((List.replicate N 0).set 0 st).set 1 st).length = N by simp]
 refine ⟨by simp, .inr ⟨g, N, _, rfl, HG.out, HL5.out, Nat.le_refl _, by unfold maxLen; omega, by simp, ?_⟩⟩
 rw [Nat.mul_one, List.toList_toArray, List.take_of_length_le (by simp)]
end Go.Proofs.YtphfnjcboellhaaGreatDoor.fifo
