import Derived.Test.YtphfnjcboellhaaGreatDoorChenA
import Derived.Test.YtphfnjcboellhaaGreatDoorRopB
import Derived.Test.YtphfnjcboellhaaGreatDoorGen
namespace Go.Proofs.YtphfnjcboellhaaGreatDoor.chen
open Go Go.RowKit kit mem rop core obj
set_option maxRecDepth 20000
theorem Over_nil (W : World) : Calls Tryz.prog 69 #[.pointer none] W fun e W' => e = .returned (.bool true) /\ W = W' := by
 go_enter Tryz.func69, Tryz.ntmps69
 go_wp2_with fail
 go_ret
 exact ⟨rfl, rfl⟩
theorem Over_any {T : TypeId} {bx mb : Nat} {sv r0 : Value} {W0 W : World} {x : Core} {rec ws : List Int} {n : Int} (h : St T bx mb sv W0 r0 W x rec ws n) :
 Calls Tryz.prog 69 #[.pointer (some ⟨bx, 0, none⟩)] W fun e W' => e = .returned (.bool x.over) /\ W = W' := by
 have H := hid h
 clear h
 go_enter Tryz.func69, Tryz.ntmps69
 go_wp2_with (go_at_call 117; refine (Ended_any H.out).mono ?_; rintro e w1 ⟨rfl, rfl⟩)
 go_ret
 exact ⟨rfl, rfl⟩
theorem Answer_any {T : TypeId} {bx mb : Nat} {sv v : Value} {W : World} {x : Core} {rec ws : List Int} {n : Int} (h : Pair T bx mb sv W x v rec ws n) :
 Calls Tryz.prog 75 #[.pointer (some ⟨bx, 0, none⟩)] W fun e W' => ∃ v', e = .returned (.tuple #[v', .int .i64 (if x.over then x.code else 0)]) /\ OwnW W' W.heap.size v' (if x.over then rec else []) /\ Chg [] W W' := by
 have HP := hid h
 obtain ⟨cd, hcd⟩ : ∃ cd, (if x.over then x.code else 0) = cd := ⟨_, rfl⟩
 obtain ⟨rr, hrr⟩ : ∃ rr, (if x.over then rec else []) = rr := ⟨_, rfl⟩
 have HCD := hid hcd
 have HRR := hid hrr
 rw [hcd, hrr]
 clear h hcd hrr
 go_enter Tryz.func75, Tryz.ntmps75
 go_wp2_with (go_at_call 118; refine (Told_any HP.out).mono ?_; rintro e w1 ⟨v1, rfl, ho, hc⟩; rw [HCD.out]; rw [HRR.out] at ho; have HO := hid ho; have HC := hid hc; clear ho hc)
 go_ret2
 exact ⟨_, rfl, HO.out, HC.out⟩
theorem loadP {W V : World} {b : Nat} {cs : List Value} {T : TypeId} (h : Blk W b cs.toArray T) (h8 : cs.length = 8) {L : List Nat} (hc : Chg L W V) (hb : b ∉ L) :
 (Instr.loadAt 26 (.pointer (some ⟨b, 0, none⟩))).run Tryz.prog V = .ok (.agg cs.toArray) V :=
 run_loadAt_mid V b 0 26 cs _ (fun j u hj => by rw [Nat.zero_add]; exact hc.keep (h.cell (by simpa using hj)) hb) Tryz.underlying26 rfl (by rw [h8]; exact objSize)
theorem fill_map (l xs : List Int) (i : Nat) (f : Int -> Value) : splice (l.map f) i (xs.map f) = (fillL l i xs).map f := by
 simp [splice, fillL, List.map_take, List.map_drop]
set_option maxHeartbeats 2000000 in
theorem size_at (k w s c st : Int) (ia : Option Addr) (il ic : Nat) (wr : Int) (ra : Option Addr) (rl rc : Nat) (hw : 0 <= w /\ w <= 8) (hrl : rl <= 4) (W : World) :
 Calls Tryz.prog 87 #[.agg #[.int .i64 k, .int .i64 w, .int .i64 s, .int .i64 c, .int .u32 st, .slice ia il ic, .int .i64 wr, .slice ra rl rc]] W fun e W' => e = .returned (.int .i64 ((1 + rl + (((rl : Int) + 2) * w).toNat : Nat) : Int)) /\ Chg [] W W' := by
 have hb := mul_bd (c := (rl : Int) + 2) (w := w) (m := 16) ⟨by omega, by omega⟩ ⟨by omega, hw.2⟩ (by omega)
 obtain ⟨N0, hN0⟩ : ∃ N0 : Nat, 1 + rl + (((rl : Int) + 2) * w).toNat = N0 := ⟨_, rfl⟩
 rw [hN0]
 have k1 : IntKind.i64.wrap (((rl : Int) + 2) * w) = ((rl : Int) + 2) * w := by rw [IntKind.wrap_i64]; omega
 have k2 : IntKind.i64.wrap (((1 + rl : Nat) : Int) + ((rl : Int) + 2) * w) = (N0 : Int) := by rw [IntKind.wrap_i64]; omega
 have k3 : IntKind.i64.wrap ((1 + (rl : Int)) + ((rl : Int) + 2) * w) = (N0 : Int) := by rw [IntKind.wrap_i64]; omega
 have HDT := hid (fun V => data_any k w s c st ia il ic wr ra rl rc (by omega) V)
 have HSLT := hid (fun V => slots_any k w s c st ia il ic wr ra rl rc (by omega) V)
 clear hb hw hN0 hrl
 go_enter Tryz.func87, Tryz.ntmps87
 go_upto_region 1 with fail
 refine code_gen (R := fun V => Hid (Blk V W.heap.size #[.int .i64 k, .int .i64 w, .int .i64 s, .int .i64 c, .int .u32 st, .slice ia il ic, .int .i64 wr, .slice ra rl rc] 26) /\ Hid (Chg [] W V)) ⟨hid (Blk.new W _ _), hid ((Chg.refl [] W).alloc _)⟩ ?_
 rintro W1 ⟨HO1, HC1⟩
 have KEEP := hid (fun (V : World) (h : Chg [] W1 V) => (⟨loadP HO1.out rfl h (by simp), h.keep (HO1.out.cell (o := 1) (v := .int .i64 w) rfl) (by simp), hid h⟩ : (fun V : World => (Instr.loadAt 26 (.pointer (some ⟨W.heap.size, 0, none⟩))).run Tryz.prog V = .ok (.agg #[.int .i64 k, .int .i64 w, .int .i64 s, .int .i64 c, .int .u32 st, .slice ia il ic, .int .i64 wr, .slice ra rl rc]) V /\ V.cell? ⟨W.heap.size, 1, none⟩ = some (.int .i64 w) /\ Hid (Chg [] W1 V)) V))
 have hHeld : (fun V : World => (Instr.loadAt 26 (.pointer (some ⟨W.heap.size, 0, none⟩))).run Tryz.prog V = .ok (.agg #[.int .i64 k, .int .i64 w, .int .i64 s, .int .i64 c, .int .u32 st, .slice ia il ic, .int .i64 wr, .slice ra rl rc]) V /\ V.cell? ⟨W.heap.size, 1, none⟩ = some (.int .i64 w) /\ Hid (Chg [] W1 V)) W1.drew := KEEP.out _ (Chg.refl _ _).drew
 refine wp_region_plan (fun V : World => (Instr.loadAt 26 (.pointer (some ⟨W.heap.size, 0, none⟩))).run Tryz.prog V = .ok (.agg #[.int .i64 k, .int .i64 w, .int .i64 s, .int .i64 c, .int .u32 st, .slice ia il ic, .int .i64 wr, .slice ra rl rc]) V /\ V.cell? ⟨W.heap.size, 1, none⟩ = some (.int .i64 w) /\ Hid (Chg [] W1 V)) [(0, true, some 3), (2, true, some 5), (4, true, some 7), (5, true, some 8), (1, false, some 4), (3, false, some 6), (6, true, some 9), (7, true, some 10), (8, true, some 2)] (by kernel_rfl) (by kernel_rfl) (by kernel_rfl) (by kernel_rfl) (fun d c a v w h => by cases d <;> exact h) hHeld ?_
 repeat (first | (refine planWp_load rfl rfl rfl 26 _ rfl _ rfl (fun u hSw => hSw.1) ?_; (try simp only [Act.put, sA, sB, sC])) | (refine planWp_read (v := ?_) rfl rfl ?_ ?_ ?_; rotate_left; (focus rfl); (focus (intro u hSw; (try dsimp only at hSw); go_simp; (try with_reducible rfl); done)); (try simp only [Act.put, sA, sB, sC])))
 refine planWp_do rfl rfl ?_ (fun K hK => ?_)
 · rfl
 go_simp
 go_wp2_with (go_at_call 93; refine (HDT.out _).mono ?_; rintro e w2 ⟨rfl, hx⟩; have HC2 := hid ((Chg.refl [] W1).drew.trans hx); clear hx)
 refine hK.out _ _ (KEEP.out _ HC2.out) (fun hHeld2 => ?_)
 clear hK K hHeld
 have hHeld := hHeld2
 clear hHeld2
 try simp only [Act.put, sA, sB, sC]
 repeat (first | (refine planWp_load rfl rfl rfl 26 _ rfl _ rfl (fun u hSw => hSw.1) ?_; (try simp only [Act.put, sA, sB, sC])) | (refine planWp_read (v := ?_) rfl rfl ?_ ?_ ?_; rotate_left; (focus rfl); (focus (intro u hSw; (try dsimp only at hSw); go_simp; (try with_reducible rfl); done)); (try simp only [Act.put, sA, sB, sC])))
 refine planWp_do rfl rfl ?_ (fun K hK => ?_)
 · rfl
 go_simp
 go_wp2_with (go_at_call 123; refine (HSLT.out _).mono ?_; rintro e w3 ⟨rfl, hx⟩; have HCE := hid (HC2.out.trans hx); clear hx)
 refine hK.out _ _ (KEEP.out _ HCE.out) (fun hHeld2 => ?_)
 clear hK K hHeld
 have hHeld := hHeld2
 clear hHeld2
 try simp only [Act.put, sA, sB, sC]
 repeat (first | (refine planWp_load rfl rfl rfl 26 _ rfl _ rfl (fun u hSw => hSw.1) ?_; (try simp only [Act.put, sA, sB, sC])) | (refine planWp_read (v := ?_) rfl rfl ?_ ?_ ?_; rotate_left; (focus rfl); (focus (intro u hSw; (try dsimp only at hSw); go_simp; (try with_reducible rfl); done)); (try simp only [Act.put, sA, sB, sC])))
 refine planWp_nil ?_
 clear hHeld KEEP
 go_wp2_with fail
 go_ret
 exact ⟨rfl, HC1.out.trans HCE.out⟩
theorem Size_yes (k w s c st : Int) (ia : Option Addr) (il ic : Nat) (wr : Int) (ra : Option Addr) (rl rc : Nat) (wN : Nat) (hw : w = (wN : Int)) (h : ObjW k w s c st il rl) (hr : (decide (k = 2) && rightB k w s c st il rl) = true) (W : World) :
 Calls Tryz.prog 45 #[.agg #[.int .i64 k, .int .i64 w, .int .i64 s, .int .i64 c, .int .u32 st, .slice ia il ic, .int .i64 wr, .slice ra rl rc]] W fun e W' => e = .returned (.int .i64 ((1 + rl + (((rl : Int) + 2) * w).toNat : Nat) : Int)) /\ Chg [] W W' := by
 have hk : k = 2 := by simp only [Bool.and_eq_true, decide_eq_true_eq] at hr; exact hr.1
 have hb := rightB_bd (by simp only [Bool.and_eq_true] at hr; exact hr.2)
 have hr2 : rightB k w s c st il rl = true := by simp only [Bool.and_eq_true] at hr; exact hr.2
 have ha := fun V => size_at k w s c st ia il ic wr ra rl rc (by omega) (by omega) V
 obtain ⟨N0, hN0⟩ : ∃ N0 : Nat, 1 + rl + (((rl : Int) + 2) * w).toNat = N0 := ⟨_, rfl⟩
 simp only [hN0] at ha
 rw [hN0]
 have HA := hid ha
 clear ha hN0
 have HO := hid h
 have HR := hid hr
 clear h hr hb hw hk hr2
 go_enter Tryz.func45, Tryz.ntmps45
 go_wp2_with (first | (go_at_call 81; refine (chenRight_any k w s c st ia il ic wr ra rl rc HO.out _).mono ?_; rintro e w1 ⟨rfl, hc⟩; rw [HR.out]; have HC := hid (((Chg.refl [] W).alloc _).trans hc); have HB := hid ((Blk.new W #[.int .i64 k, .int .i64 w, .int .i64 s, .int .i64 c, .int .u32 st, .slice ia il ic, .int .i64 wr, .slice ra rl rc] 26).keep hc (by simp)); clear hc; have e0 : w1.cell? ⟨W.heap.size, 0, none⟩ = some (.int .i64 k) := HB.out.cell rfl; have e1 : w1.cell? ⟨W.heap.size, 1, none⟩ = some (.int .i64 w) := HB.out.cell rfl; have e2 : w1.cell? ⟨W.heap.size, 2, none⟩ = some (.int .i64 s) := HB.out.cell rfl; have e3 : w1.cell? ⟨W.heap.size, 3, none⟩ = some (.int .i64 c) := HB.out.cell rfl; have e4 : w1.cell? ⟨W.heap.size, 4, none⟩ = some (.int .u32 st) := HB.out.cell rfl; have e5 : w1.cell? ⟨W.heap.size, 5, none⟩ = some (.slice ia il ic) := HB.out.cell rfl; have e6 : w1.cell? ⟨W.heap.size, 6, none⟩ = some (.int .i64 wr) := HB.out.cell rfl; have e7 : w1.cell? ⟨W.heap.size, 7, none⟩ = some (.slice ra rl rc) := HB.out.cell rfl) | (go_at_call 87; refine (HA.out _).mono ?_; rintro e w2 ⟨rfl, hc⟩; have HC2 := hid (HC.out.trans hc); clear hc))
 go_ret
 exact ⟨rfl, HC2.out⟩
theorem Size_no (k w s c st : Int) (ia : Option Addr) (il ic : Nat) (wr : Int) (ra : Option Addr) (rl rc : Nat) (h : ObjW k w s c st il rl) (hr : (decide (k = 2) && rightB k w s c st il rl) = false) (W : World) :
 Calls Tryz.prog 45 #[.agg #[.int .i64 k, .int .i64 w, .int .i64 s, .int .i64 c, .int .u32 st, .slice ia il ic, .int .i64 wr, .slice ra rl rc]] W fun e W' => e = .returned (.int .i64 0) /\ Chg [] W W' := by
 have HO := hid h
 have HR := hid hr
 clear h hr
 go_enter Tryz.func45, Tryz.ntmps45
 go_wp2_with (go_at_call 81; refine (chenRight_any k w s c st ia il ic wr ra rl rc HO.out _).mono ?_; rintro e w1 ⟨rfl, hc⟩; rw [HR.out]; have HC := hid (((Chg.refl [] W).alloc _).trans hc); clear hc)
 go_ret
 exact ⟨rfl, HC.out⟩
def layL (w : Int) (rl : Nat) (ini : List Int) : List Int := fillL (List.replicate (1 + rl + (((rl : Int) + 2) * w).toNat) 0) (1 + rl) ini
set_option maxHeartbeats 4000000 in
theorem Lay_yes (k w s c st : Int) (ia : Option Addr) (il ic : Nat) (wr : Int) (ra : Option Addr) (rl rc : Nat) (wN : Nat) (hw : w = (wN : Int)) (ini : List Int) (h : ObjW k w s c st il rl) (hr : (decide (k = 2) && rightB k w s c st il rl) = true) (W : World) (hi : ReadsW W (.slice ia il ic) ini) :
 Calls Tryz.prog 52 #[.agg #[.int .i64 k, .int .i64 w, .int .i64 s, .int .i64 c, .int .u32 st, .slice ia il ic, .int .i64 wr, .slice ra rl rc]] W fun e W' => ∃ v, e = .returned v /\ OwnW W' W.heap.size v (layL w rl ini) /\ Chg [] W W' := by
 obtain ⟨i0, hi0, hz0, hz1, hz2⟩ := info_parts mem.info32
 have hk : k = 2 := by simp only [Bool.and_eq_true, decide_eq_true_eq] at hr; exact hr.1
 have hr2 : rightB k w s c st il rl = true := by simp only [Bool.and_eq_true] at hr; exact hr.2
 have hb := rightB_bd hr2
 have hst := h.st32
 have hil : il = ini.length := by obtain ⟨_, _, he, _⟩ := reads_slice hi.1; simp at he; exact he.2.1
 obtain ⟨N, hN⟩ : ∃ N : Nat, 1 + rl + (((rl : Int) + 2) * w).toNat = N := ⟨_, rfl⟩
 obtain ⟨F, hF⟩ : ∃ F : Nat, 1 + rl = F := ⟨_, rfl⟩
 have hilw : (il : Int) = w := by subst hk; simp only [rightB, decide_eq_true_eq] at hr2; omega
 have hfit : F + ini.length <= N /\ 1 <= F /\ N <= 150 := by
  have h5 := mul_bd (c := (rl : Int) + 2) (w := w) (m := 16) ⟨by omega, by omega⟩ (by omega) (by omega)
  have h6 := mul_bd (c := 1) (w := w) (m := (rl : Int) + 2) ⟨by omega, by omega⟩ (by omega) (by omega)
  omega
 have HFIT := hid hfit
 have hmk := run_make_zeros (P := Tryz.prog) 23 22 i0 (.int .u32 0) 4 Tryz.underlying23 hi0 hz0 hz1 hz2 rfl N (by omega) (by omega)
 have hsz := fun W => Size_yes k w s c st ia il ic wr ra rl rc wN hw h hr W
 simp only [hN] at hsz
 have HSZ := hid hsz
 clear hsz
 have hpos : decide ((0 : Int) < (N : Int)) = true := by simp; omega
 have hpos2 : decide (0 < N) = true := by simp; omega
 have hpos3 : (0 : Int) < (N : Int) := by omega
 have HI := hid hi
 have HFR := hid (fun V => data_any k w s c st ia il ic wr ra rl rc h.rlen V)
 rw [hF] at HFR
 have hF1 : (F : Int) <= (N : Int) := by omega
 have hF2 : (N = F) = False := by simp; omega
 have hF3 : (N < F) = False := by simp; omega
 have HN := hid hN
 have HF := hid hF
 clear hilw
 clear h hr hb hi hi0 hz0 hz1 hz2 hw hk hr2 hst hil hN hF hfit
 go_enter Tryz.func52, Tryz.ntmps52
 go_upto_region 3 with (go_at_call 45; refine (HSZ.out _).mono ?_; rintro e w1 ⟨rfl, hc⟩; have HC := hid (((Chg.refl [] W).alloc _).trans hc); have HB1 := hid ((Blk.new W #[.int .i64 k, .int .i64 w, .int .i64 s, .int .i64 c, .int .u32 st, .slice ia il ic, .int .i64 wr, .slice ra rl rc] 26).keep hc (by simp)); clear hc)
 refine code_gen (R := fun V => Hid (Blk V W.heap.size #[.int .i64 k, .int .i64 w, .int .i64 s, .int .i64 c, .int .u32 st, .slice ia il ic, .int .i64 wr, .slice ra rl rc] 26) /\ Hid (LB V w1.heap.size (List.replicate N 0)) /\ Hid (Chg [] W V)) ⟨hid (HB1.out.alloc _), hid (by have := Blk.new w1 (zeros (.int .u32 0) N) 22; simpa [LB, zeros] using this), hid (HC.out.alloc _)⟩ ?_
 rintro W2 ⟨HO2, HL2, HC2⟩
 have HG := hid HC.out.size
 have hne : W.heap.size ≠ w1.heap.size := by have := HB1.out.lt; omega
 generalize w1.heap.size = g at *
 have HNE := hid hne
 have HSZ32 : Hid ((Tryz.prog.info? 22).map (·.size) = some 1) := hid sz32
 clear hmk hne hpos hpos2 hpos3
 obtain ⟨L0, hL0⟩ : ∃ L0, List.replicate N (0 : Int) = L0 := ⟨_, rfl⟩
 have HL0 := hid hL0
 have HLEN : Hid (L0.length = N) := hid (by rw [<- hL0]; simp)
 rw [hL0] at HL2
 clear hL0
 have KEEP := hid (fun (V : World) (h : Chg [g] W2 V) => (⟨loadP HO2.out rfl h (by simpa using HNE.out), h.keep (HO2.out.cell (o := 5) (v := .slice ia il ic) rfl) (by simpa using HNE.out), hid h⟩ : (fun V : World => (Instr.loadAt 26 (.pointer (some ⟨W.heap.size, 0, none⟩))).run Tryz.prog V = .ok (.agg #[.int .i64 k, .int .i64 w, .int .i64 s, .int .i64 c, .int .u32 st, .slice ia il ic, .int .i64 wr, .slice ra rl rc]) V /\ V.cell? ⟨W.heap.size, 5, none⟩ = some (.slice ia il ic) /\ Hid (Chg [g] W2 V)) V))
 have hHeld : (fun V : World => (Instr.loadAt 26 (.pointer (some ⟨W.heap.size, 0, none⟩))).run Tryz.prog V = .ok (.agg #[.int .i64 k, .int .i64 w, .int .i64 s, .int .i64 c, .int .u32 st, .slice ia il ic, .int .i64 wr, .slice ra rl rc]) V /\ V.cell? ⟨W.heap.size, 5, none⟩ = some (.slice ia il ic) /\ Hid (Chg [g] W2 V)) W2.drew := KEEP.out _ (Chg.refl _ _).drew
 refine wp_region_plan (fun V : World => (Instr.loadAt 26 (.pointer (some ⟨W.heap.size, 0, none⟩))).run Tryz.prog V = .ok (.agg #[.int .i64 k, .int .i64 w, .int .i64 s, .int .i64 c, .int .u32 st, .slice ia il ic, .int .i64 wr, .slice ra rl rc]) V /\ V.cell? ⟨W.heap.size, 5, none⟩ = some (.slice ia il ic) /\ Hid (Chg [g] W2 V)) [(0, true, some 10), (1, true, some 11), (4, true, some 14), (5, true, some 15), (2, false, some 12), (3, true, some 13), (6, false, some 16)] (by kernel_rfl) (by kernel_rfl) (by kernel_rfl) (by kernel_rfl) (fun d c a v w h => by cases d <;> exact h) hHeld ?_
 repeat (first | (refine planWp_load rfl rfl rfl 26 _ rfl _ rfl (fun u hSw => hSw.1) ?_; (try simp only [Act.put, sA, sB, sC])) | (refine planWp_read (v := ?_) rfl rfl ?_ ?_ ?_; rotate_left; (focus rfl); (focus (intro u hSw; (try dsimp only at hSw); go_simp; (try with_reducible rfl); done)); (try simp only [Act.put, sA, sB, sC])))
 refine planWp_do rfl rfl ?_ (fun K hK => ?_)
 · rfl
 go_simp
 go_wp2_with (go_at_call 93; refine (HFR.out _).mono ?_; rintro e w3 ⟨rfl, hx⟩; have HCF := hid ((Chg.refl [] W2).drew.trans hx); clear hx)
 refine hK.out _ _ (KEEP.out _ (HCF.out.mono (by simp))) (fun hHeld2 => ?_)
 clear hK K hHeld
 have hHeld := hHeld2
 clear hHeld2
 try simp only [Act.put, sA, sB, sC]
 repeat (first | (refine planWp_load rfl rfl rfl 26 _ rfl _ rfl (fun u hSw => hSw.1) ?_; (try simp only [Act.put, sA, sB, sC])) | (refine planWp_read (v := ?_) rfl rfl ?_ ?_ ?_; rotate_left; (focus rfl); (focus (intro u hSw; (try dsimp only at hSw); go_simp; (try with_reducible rfl); done)); (try simp only [Act.put, sA, sB, sC])))
 refine planWp_do rfl rfl ?_ (fun K hK => ?_)
 · rfl
 have hmin : Nat.min ini.length (N - F) = ini.length := Nat.min_eq_left (by have := HFIT.out; omega)
 have hil : il = ini.length := by obtain ⟨_, _, he, _⟩ := reads_slice HI.out.1; simp at he; exact he.2.1
 refine wp_copy_any (.tmp 13) (.tmp 15) 23 23 rfl 22 Tryz.underlying23 HSZ32.out (some ⟨g, F, none⟩) (N - F) (N - F) rfl (.slice ia il ic) rfl ini.length (ini.map (Value.int .u32)) (HI.out.1.fresh (HC2.out.trans HCF.out)) (by intro v hv; simp at hv; obtain ⟨_, _, rfl⟩ := hv; rfl) g F (L0.map (Value.int .u32)).toArray 22 (Blk.keep HL2.out HCF.out (by simp)) (fun hp => rfl) (by rw [hmin]; simp only [List.size_toArray, List.length_map]; have := HFIT.out; have := HLEN.out; omega) ?_
 intro w5 hb5 hc5
 rw [hmin]
 refine hK.out _ _ (KEEP.out _ ((HCF.out.mono (by simp)).trans hc5)) (fun hHeld2 => ?_)
 clear hK K hHeld hHeld2 KEEP
 try simp only [Act.put, sA, sB, sC]
 refine planWp_nil ?_
 rw [hmin] at hb5
 have HB5 := hid hb5
 have HC5 : Hid (Chg [] W w5) := hid ((HC2.out.trans HCF.out).into hc5 (fun y hy => by simp at hy; right; have := HG.out; omega))
 clear hb5 hc5 hmin hil
 go_wp2_with fail
 go_ret
 refine ⟨_, rfl, ?_, HC5.out⟩
 have hn := HFIT.out; have hnl := HLEN.out
 have hsp : splice (L0.map (Value.int .u32)).toArray.toList F ((ini.map (Value.int .u32)).take ini.length) = (fillL L0 F ini).map (Value.int .u32) := by
  rw [List.take_of_length_le (by simp), List.toList_toArray]; exact fill_map _ _ _ _
 have hB5 := HB5.out
 rw [hsp] at hB5
 have hlen : (fillL L0 F ini).length = N := by rw [fillL_length _ _ _ (by omega)]; exact hnl
 have hlay : (layL w rl ini) = fillL L0 F ini := by unfold layL; rw [<- HL0.out, HN.out, HF.out]
 rw [hlay]
 unfold OwnW
 rw [hlen]
 refine ⟨by simp [hlen], .inr ⟨g, N, _, rfl, HG.out, hB5, Nat.le_refl _, by unfold maxLen; omega, by simp [hlen], ?_⟩⟩
 rw [Nat.mul_one, List.toList_toArray, List.take_of_length_le (by simp [hlen])]
end Go.Proofs.YtphfnjcboellhaaGreatDoor.chen
