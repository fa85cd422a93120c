import Derived.Test.YtphfnjcboellhaaGreatDoorLoad
import Derived.Test.YtphfnjcboellhaaGreatDoorWordWalks
import Derived.Test.YtphfnjcboellhaaGreatDoorObjA
namespace Go.Proofs.YtphfnjcboellhaaGreatDoor.ring
open Go Go.RowKit kit mem rop core obj
set_option maxRecDepth 20000
def fromN (x : Core) : Nat := (1 + (x.a % x.s) * x.w).toNat
theorem mul_bd {c w m : Int} (hc : 0 <= c /\ c <= m) (hw : 0 <= w /\ w <= 8) (hm : m <= 16) : 0 <= c * w /\ c * w <= m * w /\ c * w <= 128 := by
 have h1 := Int.mul_nonneg hc.1 hw.1
 have h2 := Int.mul_le_mul_of_nonneg_right hc.2 hw.1
 have h3 := Int.mul_le_mul_of_nonneg_left hw.2 (show 0 <= m by omega)
 omega
set_option maxHeartbeats 2000000 in
theorem from_any (k w s c st : Int) (ia : Option Addr) (il ic : Nat) (wr : Int) (ra : Option Addr) (rl rc : Nat) (cv : Int) (hc : 0 <= cv /\ cv <= 4294967295) (hs : 1 <= s /\ s <= 16) (hw : 1 <= w /\ w <= 8) (W : World) :
 Calls Tryz.prog 94 #[.agg #[.int .i64 k, .int .i64 w, .int .i64 s, .int .i64 c, .int .u32 st, .slice ia il ic, .int .i64 wr, .slice ra rl rc], .int .u32 cv] W fun e W' => e = .returned (.int .i64 ((1 + (cv % s) * w).toNat : Int)) /\ Chg [] W W' := by
 have h1 := Int.emod_lt_of_pos cv (show 0 < s by omega)
 have h2 := Int.emod_nonneg cv (show s ≠ 0 by omega)
 have hb := mul_bd (c := cv % s) (w := w) (m := 15) ⟨h2, by omega⟩ (by omega) (by omega)
 have kt : Int.tmod cv s = cv % s := tmod_nn hc.1
 have k1 : IntKind.u32.wrap s = s := by rw [IntKind.wrap_u32]; omega
 have k2 : IntKind.u32.wrap (cv % s) = cv % s := by rw [IntKind.wrap_u32]; omega
 have k3 : IntKind.i64.wrap (cv % s) = cv % s := by rw [IntKind.wrap_i64]; omega
 have k4 : IntKind.i64.wrap (cv % s * w) = cv % s * w := by rw [IntKind.wrap_i64]; omega
 have k5 : IntKind.i64.wrap (1 + cv % s * w) = 1 + cv % s * w := by rw [IntKind.wrap_i64]; omega
 have h0 : (s == 0) = false := by simp; omega
 have HR : Hid (((1 + (cv % s) * w).toNat : Int) = 1 + cv % s * w) := hid (by omega)
 have hs0 : s ≠ 0 := by omega
 clear hb h1 h2 hc hs hw
 go_enter Tryz.func94, Tryz.ntmps94
 go_wp2
 go_quiet (fail)
 go_wp2
 go_ret
 exact ⟨by rw [HR.out]; rfl, ((Chg.refl _ _).alloc _).drewN _⟩
set_option maxHeartbeats 2000000 in
theorem count_any {T : TypeId} {bx mb : Nat} {sv r0 : Value} {W0 W : World} {x : Core} {rec ws : List Int} {n : Int} (bN : Nat) (hm : x.m = .pointer (some ⟨mb, 0, none⟩)) (hb : x.base = (bN : Int)) (hn : 0 <= n /\ n <= 1000000) (hj : bN + 0 < ws.length) (hs : 1 <= x.s /\ x.s <= 16) (h : St T bx mb sv W0 r0 W x rec ws n) :
 Calls Tryz.prog 140 #[.pointer (some ⟨bx, 0, none⟩)] W fun e W' => e = .returned (.int .u32 (ws.getD (bN + 0) 0 % (x.s * 1048576))) /\ St T bx mb sv W0 r0 W' x rec ws (n + 1) /\ Chg (mb :: sv.ownBlock.toList) W W' := by
 have H := hid h
 have HM := hid hm
 have HB := hid hb
 have HN := hid hn
 have HJ := hid hj
 have HS : Hid (0 <= x.s /\ x.s <= 16) := hid (by omega)
 have NB : Hid (bx ∉ (mb :: sv.ownBlock.toList)) := hid (by obtain ⟨v, hp, he⟩ := h; simp; exact ⟨hp.ne, fun hh => hp.ns bx hh rfl⟩)
 obtain ⟨vv, hvv⟩ : ∃ vv, ws.getD (bN + 0) 0 = vv := ⟨_, rfl⟩
 have hvb : 0 <= vv /\ vv <= 4294967295 := by rw [<- hvv]; exact u32_bd h.memory hj
 have HVV := hid hvv
 rw [hvv]
 have hmn : (x.s * 1048576) ≠ 0 := by omega
 have hm0 : ((x.s * 1048576) == 0) = false := by simp; omega
 have kt : Int.tmod vv (x.s * 1048576) = vv % (x.s * 1048576) := tmod_nn hvb.1
 have hlt := Int.emod_lt_of_pos vv (show 0 < (x.s * 1048576) by omega)
 have hge := Int.emod_nonneg vv hmn
 have kw : IntKind.u32.wrap (vv % (x.s * 1048576)) = vv % (x.s * 1048576) := by rw [IntKind.wrap_u32]; omega
 have KEEP := hid (fun (V : World) (h : Chg (mb :: sv.ownBlock.toList) W V) => (⟨H.out.loadO h NB.out, hid h⟩ : (fun V : World => (Instr.loadAt 26 (.pointer (some ⟨bx, 0, none⟩))).run Tryz.prog V = .ok (.agg #[.int .i64 x.k, .int .i64 x.w, .int .i64 x.s, .int .i64 x.c, .int .u32 x.st, .slice x.ia x.il x.ic, .int .i64 x.wr, .slice x.ra x.rl x.rc]) V /\ Hid (Chg (mb :: sv.ownBlock.toList) W V)) V))
 clear h hm hb hn hj hs hvv hvb hlt hge
 go_enter Tryz.func140, Tryz.ntmps140
 go_wp2_with fail
 have hHeld : (fun V : World => (Instr.loadAt 26 (.pointer (some ⟨bx, 0, none⟩))).run Tryz.prog V = .ok (.agg #[.int .i64 x.k, .int .i64 x.w, .int .i64 x.s, .int .i64 x.c, .int .u32 x.st, .slice x.ia x.il x.ic, .int .i64 x.wr, .slice x.ra x.rl x.rc]) V /\ Hid (Chg (mb :: sv.ownBlock.toList) W V)) (World.drew W) := KEEP.out _ (Chg.refl _ _).drew
 refine wp_region_plan (fun V : World => (Instr.loadAt 26 (.pointer (some ⟨bx, 0, none⟩))).run Tryz.prog V = .ok (.agg #[.int .i64 x.k, .int .i64 x.w, .int .i64 x.s, .int .i64 x.c, .int .u32 x.st, .slice x.ia x.il x.ic, .int .i64 x.wr, .slice x.ra x.rl x.rc]) V /\ Hid (Chg (mb :: sv.ownBlock.toList) W V)) [(0, true, some 3), (1, true, some 4), (2, true, some 5), (4, true, some 7), (5, true, some 8), (6, true, some 9), (7, true, some 10), (8, true, some 11), (3, false, some 6), (9, false, some 12), (10, true, some 13), (11, true, some 2)] (by kernel_rfl) (by kernel_rfl) (by kernel_rfl) (by kernel_rfl) (fun d c a v w h => by cases d <;> exact h) hHeld ?_
 repeat (first | (refine planWp_load rfl rfl rfl 26 _ rfl _ rfl (fun u hSw => hSw.1) ?_; (try simp only [Act.put, sA, sB, sC])) | (refine planWp_read (v := ?_) rfl rfl ?_ ?_ ?_; rotate_left; (focus rfl); (focus (intro u hSw; (try dsimp only at hSw); go_simp; (try with_reducible rfl); done)); (try simp only [Act.put, sA, sB, sC])))
 refine planWp_do rfl rfl ?_ (fun K hK => ?_)
 · rfl
 go_simp
 go_wp2_with (go_at_call 127; refine (Read_at bN 0 HM.out HB.out HJ.out HN.out (H.out.keep (Chg.refl _ _).drew)).mono ?_; rintro e w1 ⟨rfl, hx⟩; rw [HVV.out]; have H1 := hid hx.1; have HC1 := hid ((Chg.refl _ W).drew.trans hx.2.2); clear hx)
 refine hK.out _ _ (KEEP.out _ HC1.out) (fun hHeld2 => ?_)
 clear hK K hHeld
 have hHeld := hHeld2
 clear hHeld2
 try simp only [Act.put, sA, sB, sC]
 repeat (first | (refine planWp_load rfl rfl rfl 26 _ rfl _ rfl (fun u hSw => hSw.1) ?_; (try simp only [Act.put, sA, sB, sC])) | (refine planWp_read (v := ?_) rfl rfl ?_ ?_ ?_; rotate_left; (focus rfl); (focus (intro u hSw; (try dsimp only at hSw); go_simp; (try with_reducible rfl); done)); (try simp only [Act.put, sA, sB, sC])))
 refine planWp_do rfl rfl ?_ (fun K hK => ?_)
 · rfl
 go_simp
 go_wp2_with (go_at_call 121; refine (ringMod_any x.k x.w x.s x.c x.st x.ia x.il x.ic x.wr x.ra x.rl x.rc HS.out _).mono ?_; rintro e w2 ⟨rfl, hx⟩; have H2 := hid (H1.out.keep hx); have HC2 := hid (HC1.out.fresh hx); clear hx)
 refine hK.out _ _ (KEEP.out _ HC2.out) (fun hHeld2 => ?_)
 clear hK K hHeld
 have hHeld := hHeld2
 clear hHeld2
 try simp only [Act.put, sA, sB, sC]
 repeat (first | (refine planWp_load rfl rfl rfl 26 _ rfl _ rfl (fun u hSw => hSw.1) ?_; (try simp only [Act.put, sA, sB, sC])) | (refine planWp_read (v := ?_) rfl rfl ?_ ?_ ?_; rotate_left; (focus rfl); (focus (intro u hSw; (try dsimp only at hSw); go_simp; (try with_reducible rfl); done)); (try simp only [Act.put, sA, sB, sC])))
 refine planWp_nil ?_
 clear hHeld KEEP
 go_wp2_with fail
 go_ret
 exact ⟨rfl, H2.out, HC2.out⟩
set_option maxHeartbeats 4000000 in
theorem write_0 {T : TypeId} {bx mb : Nat} {sv r0 : Value} {W0 W : World} {x : Core} {rec ws : List Int} {n : Int} (bN : Nat) (hm : x.m = .pointer (some ⟨mb, 0, none⟩)) (hb : x.base = (bN : Int)) (hn : 0 <= n /\ n <= 1000000) (hs : 1 <= x.s /\ x.s <= 16) (hj : bN + 0 < ws.length) (hph : x.phase = 0) (h : St T bx mb sv W0 r0 W x rec ws n) :
 Calls Tryz.prog 111 #[.pointer (some ⟨bx, 0, none⟩)] W fun e W' => e = .returned (.tuple #[]) /\ St T bx mb sv W0 r0 W' { x with a := (ws.getD (bN + 0) 0 % (x.s * 1048576) + 1) % (x.s * 1048576), phase := 1, i := 0 } rec ws (n + 1) := by
 have H := hid h
 have HM := hid hm
 have HB := hid hb
 have HN := hid hn
 have NB : Hid (bx ∉ (mb :: sv.ownBlock.toList)) := hid (by obtain ⟨v, hp, he⟩ := h; simp; exact ⟨hp.ne, fun hh => hp.ns bx hh rfl⟩)
 obtain ⟨vv, hvv⟩ : ∃ vv, ws.getD (bN + 0) 0 % (x.s * 1048576) = vv := ⟨_, rfl⟩
 have hvb : 0 <= vv /\ vv < (x.s * 1048576) := by rw [<- hvv]; exact ⟨Int.emod_nonneg _ (by omega), Int.emod_lt_of_pos _ (by omega)⟩
 have HVV := hid hvv
 rw [hvv]
 have e10 : W.cell? ⟨bx, 10, none⟩ = some (.int .i64 0) := by rw [<- hph]; exact H.out.cell 10 _ (fun _ => rfl)
 have HJ := hid hj
 have HS1 := hid hs
 have HS : Hid (0 <= x.s /\ x.s <= 16) := hid (by omega)
 have HNX : Hid (word.stepU vv 1 (x.s * 1048576) = (vv + 1) % (x.s * 1048576)) := hid (by unfold word.stepU; rw [if_neg (by omega)])
 have HVB : Hid (0 <= vv /\ 0 <= (x.s * 1048576) /\ (x.s * 1048576) <= 4294967295) := hid (by omega)
 have KEEP := hid (fun (V : World) (h : Chg (mb :: sv.ownBlock.toList) W V) => (⟨H.out.loadO h NB.out, hid h⟩ : (fun V : World => (Instr.loadAt 26 (.pointer (some ⟨bx, 0, none⟩))).run Tryz.prog V = .ok (.agg #[.int .i64 x.k, .int .i64 x.w, .int .i64 x.s, .int .i64 x.c, .int .u32 x.st, .slice x.ia x.il x.ic, .int .i64 x.wr, .slice x.ra x.rl x.rc]) V /\ Hid (Chg (mb :: sv.ownBlock.toList) W V)) V))
 clear h hph hm hb hn hj hs hvv hvb
 go_enter Tryz.func111, Tryz.ntmps111
 go_wp2_with fail
 have hHeld : (fun V : World => (Instr.loadAt 26 (.pointer (some ⟨bx, 0, none⟩))).run Tryz.prog V = .ok (.agg #[.int .i64 x.k, .int .i64 x.w, .int .i64 x.s, .int .i64 x.c, .int .u32 x.st, .slice x.ia x.il x.ic, .int .i64 x.wr, .slice x.ra x.rl x.rc]) V /\ Hid (Chg (mb :: sv.ownBlock.toList) W V)) (World.drew W) := KEEP.out _ (Chg.refl _ _).drew
 refine wp_region_planT (fun V : World => (Instr.loadAt 26 (.pointer (some ⟨bx, 0, none⟩))).run Tryz.prog V = .ok (.agg #[.int .i64 x.k, .int .i64 x.w, .int .i64 x.s, .int .i64 x.c, .int .u32 x.st, .slice x.ia x.il x.ic, .int .i64 x.wr, .slice x.ra x.rl x.rc]) V /\ Hid (Chg (mb :: sv.ownBlock.toList) W V)) 13 [(0, true, some 22), (1, true, some 23), (3, true, some 25), (4, true, some 26), (5, true, some 27), (6, true, some 28), (7, true, some 29), (2, false, some 24), (8, false, some 30), (9, false, some 31), (10, true, some 32), (11, true, some 33), (12, true, some 34)] (by kernel_rfl) (by kernel_rfl) (by kernel_rfl) (by kernel_rfl) (by kernel_rfl) (fun d c a v w h => by cases d <;> exact h) hHeld ?_
 repeat (first | (refine planT_load rfl rfl rfl 26 _ rfl _ rfl (fun u hSw => hSw.1) ?_; (try simp only [Act.put, sA, sB, sC])) | (refine planT_read (v := ?_) rfl rfl ?_ ?_ ?_; rotate_left; (focus rfl); (focus (intro u hSw; (try dsimp only at hSw); go_simp; (try with_reducible rfl); done)); (try simp only [Act.put, sA, sB, sC])))
 refine planT_do rfl rfl ?_ (fun K hK => ?_)
 · rfl
 go_simp
 go_wp2_with (go_at_call 140; refine (count_any bN HM.out HB.out HN.out HJ.out HS1.out (H.out.keep (Chg.refl _ _).drew)).mono ?_; rintro e w1 ⟨rfl, hx⟩; rw [HVV.out]; have H1 := hid hx.1; have HC1 := hid ((Chg.refl _ W).drew.trans hx.2); clear hx)
 refine hK.out _ _ (KEEP.out _ HC1.out) (fun hHeld2 => ?_)
 clear hK K hHeld
 have hHeld := hHeld2
 clear hHeld2
 try simp only [Act.put, sA, sB, sC]
 repeat (first | (refine planT_load rfl rfl rfl 26 _ rfl _ rfl (fun u hSw => hSw.1) ?_; (try simp only [Act.put, sA, sB, sC])) | (refine planT_read (v := ?_) rfl rfl ?_ ?_ ?_; rotate_left; (focus rfl); (focus (intro u hSw; (try dsimp only at hSw); go_simp; (try with_reducible rfl); done)); (try simp only [Act.put, sA, sB, sC])))
 refine planT_do rfl rfl ?_ (fun K hK => ?_)
 · rfl
 go_simp
 go_wp2_with (go_at_call 121; refine (ringMod_any x.k x.w x.s x.c x.st x.ia x.il x.ic x.wr x.ra x.rl x.rc HS.out _).mono ?_; rintro e w2 ⟨rfl, hx⟩; have H2 := hid (H1.out.keep hx); have HC2 := hid (HC1.out.fresh hx); clear hx)
 refine hK.out _ _ (KEEP.out _ HC2.out) (fun hHeld2 => ?_)
 clear hK K hHeld
 have hHeld := hHeld2
 clear hHeld2
 try simp only [Act.put, sA, sB, sC]
 repeat (first | (refine planT_load rfl rfl rfl 26 _ rfl _ rfl (fun u hSw => hSw.1) ?_; (try simp only [Act.put, sA, sB, sC])) | (refine planT_read (v := ?_) rfl rfl ?_ ?_ ?_; rotate_left; (focus rfl); (focus (intro u hSw; (try dsimp only at hSw); go_simp; (try with_reducible rfl); done)); (try simp only [Act.put, sA, sB, sC])))
 refine planT_do rfl rfl ?_ (fun K hK => ?_)
 · rfl
 go_simp
 go_wp2_with (go_at_call 139; refine (word.Next_any vv (x.s * 1048576) _ HVB.out.1 HVB.out.2.1 HVB.out.2.2).mono ?_; rintro e w3 ⟨rfl, n3, rfl⟩; rw [HNX.out]; have H3 := hid (H2.out.keep ((Chg.refl [] _).drewN n3)); have HC3 := hid (HC2.out.fresh ((Chg.refl [] _).drewN n3)))
 refine hK.out _ _ (KEEP.out _ HC3.out) (fun hHeld2 => ?_)
 clear hK K hHeld
 have hHeld := hHeld2
 clear hHeld2
 try simp only [Act.put, sA, sB, sC]
 repeat (first | (refine planT_load rfl rfl rfl 26 _ rfl _ rfl (fun u hSw => hSw.1) ?_; (try simp only [Act.put, sA, sB, sC])) | (refine planT_read (v := ?_) rfl rfl ?_ ?_ ?_; rotate_left; (focus rfl); (focus (intro u hSw; (try dsimp only at hSw); go_simp; (try with_reducible rfl); done)); (try simp only [Act.put, sA, sB, sC])))
 have e13 := H3.out.cell 13 _ (fun _ => rfl)
 have f13 := H3.out.free 13
 refine planT_last rfl ?_ (fun K hK => ?_)
 · rfl
 go_simp
 refine hK.out _ _ ?_
 clear hK K hHeld KEEP
 clear e13 f13
 refine then_gen (R := fun V => Hid (St T bx mb sv W0 r0 V { x with a := (vv + 1) % (x.s * 1048576) } rec ws (n + 1))) (hid (H3.out.put 13 (.int .u32 ((vv + 1) % (x.s * 1048576))) ({ x with a := (vv + 1) % (x.s * 1048576) }) (fun _ => rfl))) ?_
 rintro W4 H5
 go_wp2_with (go_at_call 128; refine (Go_any 1 H5.out).mono ?_; rintro e w6 ⟨rfl, hx⟩; have H6 := hid hx; clear hx)
 go_end0
 exact ⟨rfl, H6.out⟩
set_option maxHeartbeats 4000000 in
theorem write_1 {T : TypeId} {bx mb : Nat} {sv r0 : Value} {W0 W : World} {x : Core} {rec ws : List Int} {n : Int} (bN : Nat) (hm : x.m = .pointer (some ⟨mb, 0, none⟩)) (hb : x.base = (bN : Int)) (hn : 0 <= n /\ n <= 1000000) (wN iN fN : Nat) (hs : 1 <= x.s /\ x.s <= 16) (hwb : 1 <= x.w /\ x.w <= 8) (ha : 0 <= x.a /\ x.a <= 4294967295) (hf : fromN x = fN) (hw : x.w = (wN : Int)) (hi : x.i = (iN : Int)) (hil : iN < 8) (hop : x.op = 2 \/ x.op = 3) (hir : iN < rec.length) (hj : bN + (fN + iN) < ws.length) (hph : x.phase = 1) (h : St T bx mb sv W0 r0 W x rec ws n) :
 Calls Tryz.prog 111 #[.pointer (some ⟨bx, 0, none⟩)] W fun e W' => e = .returned (.tuple #[]) /\ St T bx mb sv W0 r0 W' (if wN <= iN + 1 then { x with phase := 2, i := 0 } else { x with i := (iN : Int) + 1 }) rec (ws.set (bN + (fN + iN)) (rec.getD iN 0)) (n + 1) := by
 have H := hid h
 have HM := hid hm
 have HB := hid hb
 have HN := hid hn
 have e10 : W.cell? ⟨bx, 10, none⟩ = some (.int .i64 1) := by rw [<- hph]; exact H.out.cell 10 _ (fun _ => rfl)
 have HW := hid hw
 have HWB := hid hwb
 have HA := hid ha
 have HF := hid hf
 have HS1 := hid hs
 have HI := hid hi
 have HOP := hid hop
 have HIR := hid hir
 have HJ := hid hj
 have eS0 : W.cell? ⟨bx, 13, none⟩ = some (.int .u32 x.a) := H.out.cell 13 _ (fun _ => rfl)
 have KEEP := hid (fun (V : World) (h : Chg [] W V) => (⟨H.out.loadO h (by simp), h.keep eS0 (by simp), hid h⟩ : (fun V : World => (Instr.loadAt 26 (.pointer (some ⟨bx, 0, none⟩))).run Tryz.prog V = .ok (.agg #[.int .i64 x.k, .int .i64 x.w, .int .i64 x.s, .int .i64 x.c, .int .u32 x.st, .slice x.ia x.il x.ic, .int .i64 x.wr, .slice x.ra x.rl x.rc]) V /\ V.cell? ⟨bx, 13, none⟩ = some (.int .u32 x.a) /\ Hid (Chg [] W V)) V))
 clear eS0
 clear h hph hm hb hn hj hw hi hop hir hwb ha hf hs
 by_cases hle : wN <= iN + 1
 · have HDEC : Hid (decide ((wN : Int) <= (iN : Int) + 1) = true) := hid (by simpa using (by omega : (wN : Int) <= (iN : Int) + 1))
   rw [if_pos hle]
   clear hle
   go_enter Tryz.func111, Tryz.ntmps111
   go_wp2_with fail
   have hHeld : (fun V : World => (Instr.loadAt 26 (.pointer (some ⟨bx, 0, none⟩))).run Tryz.prog V = .ok (.agg #[.int .i64 x.k, .int .i64 x.w, .int .i64 x.s, .int .i64 x.c, .int .u32 x.st, .slice x.ia x.il x.ic, .int .i64 x.wr, .slice x.ra x.rl x.rc]) V /\ V.cell? ⟨bx, 13, none⟩ = some (.int .u32 x.a) /\ Hid (Chg [] W V)) (World.drew W) := KEEP.out _ (Chg.refl _ _).drew
   refine wp_region_planT (fun V : World => (Instr.loadAt 26 (.pointer (some ⟨bx, 0, none⟩))).run Tryz.prog V = .ok (.agg #[.int .i64 x.k, .int .i64 x.w, .int .i64 x.s, .int .i64 x.c, .int .u32 x.st, .slice x.ia x.il x.ic, .int .i64 x.wr, .slice x.ra x.rl x.rc]) V /\ V.cell? ⟨bx, 13, none⟩ = some (.int .u32 x.a) /\ Hid (Chg [] W V)) 14 [(0, true, some 41), (1, true, some 42), (2, true, some 43), (3, true, some 44), (4, true, some 45), (5, true, some 46), (6, true, some 47), (7, true, some 48), (8, true, some 49), (9, true, some 50), (10, true, some 51), (11, true, some 52), (12, true, some 53), (13, false, some 54)] (by kernel_rfl) (by kernel_rfl) (by kernel_rfl) (by kernel_rfl) (by kernel_rfl) (fun d c a v w h => by cases d <;> exact h) hHeld ?_
   repeat (first | (refine planT_load rfl rfl rfl 26 _ rfl _ rfl (fun u hSw => hSw.1) ?_; (try simp only [Act.put, sA, sB, sC])) | (refine planT_read (v := ?_) rfl rfl ?_ ?_ ?_; rotate_left; (focus rfl); (focus (intro u hSw; (try dsimp only at hSw); go_simp; (try with_reducible rfl); done)); (try simp only [Act.put, sA, sB, sC])))
   refine planT_do rfl rfl ?_ (fun K hK => ?_)
   · rfl
   go_simp
   go_wp2_with (go_at_call 94; refine (from_any x.k x.w x.s x.c x.st x.ia x.il x.ic x.wr x.ra x.rl x.rc x.a HA.out HS1.out HWB.out _).mono ?_; rintro e w1 ⟨rfl, hx⟩; rw [show (((1 + (x.a % x.s) * x.w).toNat : Nat) : Int) = ((fN : Nat) : Int) from congrArg _ HF.out]; have HC1 := hid ((Chg.refl [] W).drew.trans hx); have H1 := hid (H.out.keep HC1.out); clear hx)
   refine hK.out _ _ (KEEP.out _ HC1.out) (fun hHeld2 => ?_)
   clear hK K hHeld
   have hHeld := hHeld2
   clear hHeld2
   try simp only [Act.put, sA, sB, sC]
   repeat (first | (refine planT_load rfl rfl rfl 26 _ rfl _ rfl (fun u hSw => hSw.1) ?_; (try simp only [Act.put, sA, sB, sC])) | (refine planT_read (v := ?_) rfl rfl ?_ ?_ ?_; rotate_left; (focus rfl); (focus (intro u hSw; (try dsimp only at hSw); go_simp; (try with_reducible rfl); done)); (try simp only [Act.put, sA, sB, sC])))
   refine planT_last rfl ?_ (fun K hK => ?_)
   · rfl
   go_simp
   go_wp2_with (go_at_call 129; refine (Word_write bN fN iN HOP.out HM.out HB.out HI.out HIR.out HJ.out HN.out H1.out).mono ?_; rintro e w4 ⟨rfl, hx⟩; rw [HW.out, HDEC.out]; have H4 := hid hx; clear hx)
   refine hK.out _ _ ?_
   clear hK K hHeld KEEP
   go_wp2_with (go_at_call 128; refine (Go_any 2 H4.out).mono ?_; rintro e w6 ⟨rfl, hx⟩; have H6 := hid hx; clear hx)
   go_end0
   exact ⟨rfl, H6.out⟩
 · have HDEC : Hid (decide ((wN : Int) <= (iN : Int) + 1) = false) := hid (by simpa using (by omega : ¬ (wN : Int) <= (iN : Int) + 1))
   rw [if_neg hle]
   clear hle
   go_enter Tryz.func111, Tryz.ntmps111
   go_wp2_with fail
   have hHeld : (fun V : World => (Instr.loadAt 26 (.pointer (some ⟨bx, 0, none⟩))).run Tryz.prog V = .ok (.agg #[.int .i64 x.k, .int .i64 x.w, .int .i64 x.s, .int .i64 x.c, .int .u32 x.st, .slice x.ia x.il x.ic, .int .i64 x.wr, .slice x.ra x.rl x.rc]) V /\ V.cell? ⟨bx, 13, none⟩ = some (.int .u32 x.a) /\ Hid (Chg [] W V)) (World.drew W) := KEEP.out _ (Chg.refl _ _).drew
   refine wp_region_planT (fun V : World => (Instr.loadAt 26 (.pointer (some ⟨bx, 0, none⟩))).run Tryz.prog V = .ok (.agg #[.int .i64 x.k, .int .i64 x.w, .int .i64 x.s, .int .i64 x.c, .int .u32 x.st, .slice x.ia x.il x.ic, .int .i64 x.wr, .slice x.ra x.rl x.rc]) V /\ V.cell? ⟨bx, 13, none⟩ = some (.int .u32 x.a) /\ Hid (Chg [] W V)) 14 [(0, true, some 41), (1, true, some 42), (2, true, some 43), (3, true, some 44), (4, true, some 45), (5, true, some 46), (6, true, some 47), (7, true, some 48), (8, true, some 49), (9, true, some 50), (10, true, some 51), (11, true, some 52), (12, true, some 53), (13, false, some 54)] (by kernel_rfl) (by kernel_rfl) (by kernel_rfl) (by kernel_rfl) (by kernel_rfl) (fun d c a v w h => by cases d <;> exact h) hHeld ?_
   repeat (first | (refine planT_load rfl rfl rfl 26 _ rfl _ rfl (fun u hSw => hSw.1) ?_; (try simp only [Act.put, sA, sB, sC])) | (refine planT_read (v := ?_) rfl rfl ?_ ?_ ?_; rotate_left; (focus rfl); (focus (intro u hSw; (try dsimp only at hSw); go_simp; (try with_reducible rfl); done)); (try simp only [Act.put, sA, sB, sC])))
   refine planT_do rfl rfl ?_ (fun K hK => ?_)
   · rfl
   go_simp
   go_wp2_with (go_at_call 94; refine (from_any x.k x.w x.s x.c x.st x.ia x.il x.ic x.wr x.ra x.rl x.rc x.a HA.out HS1.out HWB.out _).mono ?_; rintro e w1 ⟨rfl, hx⟩; rw [show (((1 + (x.a % x.s) * x.w).toNat : Nat) : Int) = ((fN : Nat) : Int) from congrArg _ HF.out]; have HC1 := hid ((Chg.refl [] W).drew.trans hx); have H1 := hid (H.out.keep HC1.out); clear hx)
   refine hK.out _ _ (KEEP.out _ HC1.out) (fun hHeld2 => ?_)
   clear hK K hHeld
   have hHeld := hHeld2
   clear hHeld2
   try simp only [Act.put, sA, sB, sC]
   repeat (first | (refine planT_load rfl rfl rfl 26 _ rfl _ rfl (fun u hSw => hSw.1) ?_; (try simp only [Act.put, sA, sB, sC])) | (refine planT_read (v := ?_) rfl rfl ?_ ?_ ?_; rotate_left; (focus rfl); (focus (intro u hSw; (try dsimp only at hSw); go_simp; (try with_reducible rfl); done)); (try simp only [Act.put, sA, sB, sC])))
   refine planT_last rfl ?_ (fun K hK => ?_)
   · rfl
   go_simp
   go_wp2_with (go_at_call 129; refine (Word_write bN fN iN HOP.out HM.out HB.out HI.out HIR.out HJ.out HN.out H1.out).mono ?_; rintro e w4 ⟨rfl, hx⟩; rw [HW.out, HDEC.out]; have H4 := hid hx; clear hx)
   refine hK.out _ _ ?_
   clear hK K hHeld KEEP
   go_wp2_with fail
   go_end0
   exact ⟨rfl, H4.out⟩
set_option maxHeartbeats 4000000 in
theorem write_2 {T : TypeId} {bx mb : Nat} {sv r0 : Value} {W0 W : World} {x : Core} {rec ws : List Int} {n : Int} (bN : Nat) (hm : x.m = .pointer (some ⟨mb, 0, none⟩)) (hb : x.base = (bN : Int)) (hn : 0 <= n /\ n <= 1000000) (ha : 0 <= x.a /\ x.a <= 4294967295) (hj : bN + 0 < ws.length) (hph : x.phase = 2) (h : St T bx mb sv W0 r0 W x rec ws n) :
 Calls Tryz.prog 111 #[.pointer (some ⟨bx, 0, none⟩)] W fun e W' => e = .returned (.tuple #[]) /\ St T bx mb sv W0 r0 W' { x with over := true, code := 0 } (endRec x.op 0 rec) (ws.set (bN + 0) x.a) (n + 1) := by
 have H := hid h
 have HM := hid hm
 have HB := hid hb
 have HN := hid hn
 have e10 : W.cell? ⟨bx, 10, none⟩ = some (.int .i64 2) := by rw [<- hph]; exact H.out.cell 10 _ (fun _ => rfl)
 have G0 : Hid (W.cell? ⟨bx, 13, none⟩ = some (.int .u32 x.a)) := hid (by skip; exact H.out.cell 13 _ (fun _ => rfl))
 have HA := hid ha
 have HJ := hid hj
 clear h hph hm hb hn hj ha
 go_enter Tryz.func111, Tryz.ntmps111
 go_wp2_with fail
 refine wp_region_tail 8 (by kernel_rfl) (by kernel_rfl) ?_
 intro W3 hW3
 have g0 : W3.cell? ⟨bx, 13, none⟩ = some (.int .u32 x.a) := by rw [hW3.out]; exact G0.out
 have H3 : Hid (St T bx mb sv W0 r0 W3 x rec ws n) := hid (by rw [hW3.out]; exact H.out.keep (Chg.refl _ _).drew)
 clear hW3
 simp only [List.take_succ_cons, List.take_zero, List.drop_succ_cons, List.drop_zero]
 repeat still_step
 refine wpStill_nil ?_
 go_wp2_with (first | (go_at_call 131; refine (Write_at bN 0 x.a HA.out HM.out HB.out HJ.out HN.out H3.out).mono ?_; rintro e w4 ⟨rfl, hx⟩; have H4 := hid hx; clear hx) | (go_at_call 132; refine (End_any 0 H4.out).mono ?_; rintro e w2 ⟨rfl, hx⟩; have H6 := hid hx; clear hx))
 go_end0
 exact ⟨rfl, H6.out⟩
set_option maxHeartbeats 4000000 in
theorem read_0 {T : TypeId} {bx mb : Nat} {sv r0 : Value} {W0 W : World} {x : Core} {rec ws : List Int} {n : Int} (bN : Nat) (hm : x.m = .pointer (some ⟨mb, 0, none⟩)) (hb : x.base = (bN : Int)) (hn : 0 <= n /\ n <= 1000000) (hs : 1 <= x.s /\ x.s <= 16) (hj : bN + 0 < ws.length) (hph : x.phase = 0) (h : St T bx mb sv W0 r0 W x rec ws n) :
 Calls Tryz.prog 112 #[.pointer (some ⟨bx, 0, none⟩)] W fun e W' => e = .returned (.tuple #[]) /\ St T bx mb sv W0 r0 W' { x with a := ws.getD (bN + 0) 0 % (x.s * 1048576), phase := 1, i := 0 } rec ws (n + 1) := by
 have H := hid h
 have HM := hid hm
 have HB := hid hb
 have HN := hid hn
 obtain ⟨vv, hvv⟩ : ∃ vv, ws.getD (bN + 0) 0 % (x.s * 1048576) = vv := ⟨_, rfl⟩
 have hvb : 0 <= vv /\ vv < (x.s * 1048576) := by rw [<- hvv]; exact ⟨Int.emod_nonneg _ (by omega), Int.emod_lt_of_pos _ (by omega)⟩
 have HVV := hid hvv
 rw [hvv]
 have e10 : W.cell? ⟨bx, 10, none⟩ = some (.int .i64 0) := by rw [<- hph]; exact H.out.cell 10 _ (fun _ => rfl)
 have HJ := hid hj
 have HS1 := hid hs
 have HS : Hid (0 <= x.s /\ x.s <= 16) := hid (by omega)
 clear h hph hm hb hn hj hs hvv hvb
 go_enter Tryz.func112, Tryz.ntmps112
 go_wp2_with (first | (go_at_call 140; refine (count_any bN HM.out HB.out HN.out HJ.out HS1.out H.out).mono ?_; rintro e w1 ⟨rfl, hx⟩; rw [HVV.out]; have e13 : w1.cell? ⟨bx, 13, none⟩ = some (.int .u32 x.a) := hx.1.cell 13 _ (fun _ => rfl); have f13 := hx.1.free 13; have H1 := hid hx.1; have HC1 := hid ((Chg.refl _ W).trans hx.2); clear hx) | (go_at_call 128; refine (Go_any 1 (H1.out.put 13 (.int .u32 vv) ({ x with a := vv }) (fun _ => rfl))).mono ?_; rintro e w2 ⟨rfl, hx⟩; have H2 := hid hx; clear hx))
 go_end0
 exact ⟨rfl, H2.out⟩
set_option maxHeartbeats 4000000 in
theorem read_1 {T : TypeId} {bx mb : Nat} {sv r0 : Value} {W0 W : World} {x : Core} {rec ws : List Int} {n : Int} (bN : Nat) (hm : x.m = .pointer (some ⟨mb, 0, none⟩)) (hb : x.base = (bN : Int)) (hn : 0 <= n /\ n <= 1000000) (wN iN fN : Nat) (hs : 1 <= x.s /\ x.s <= 16) (hwb : 1 <= x.w /\ x.w <= 8) (ha : 0 <= x.a /\ x.a <= 4294967295) (hf : fromN x = fN) (hw : x.w = (wN : Int)) (hi : x.i = (iN : Int)) (hil : iN < 8) (hop : x.op ≠ 2 /\ x.op ≠ 3) (hir : rec.length < 1000) (hj : bN + (fN + iN) < ws.length) (hph : x.phase = 1) (h : St T bx mb sv W0 r0 W x rec ws n) :
 Calls Tryz.prog 112 #[.pointer (some ⟨bx, 0, none⟩)] W fun e W' => e = .returned (.tuple #[]) /\ St T bx mb sv W0 r0 W' (if wN <= iN + 1 then { x with phase := 2, i := 0 } else { x with i := (iN : Int) + 1 }) (rec ++ [ws.getD (bN + (fN + iN)) 0]) ws (n + 1) := by
 have H := hid h
 have HM := hid hm
 have HB := hid hb
 have HN := hid hn
 have e10 : W.cell? ⟨bx, 10, none⟩ = some (.int .i64 1) := by rw [<- hph]; exact H.out.cell 10 _ (fun _ => rfl)
 have HW := hid hw
 have HWB := hid hwb
 have HA := hid ha
 have HF := hid hf
 have HS1 := hid hs
 have HI := hid hi
 have HOP := hid hop
 have HIR := hid hir
 have HJ := hid hj
 have eS0 : W.cell? ⟨bx, 13, none⟩ = some (.int .u32 x.a) := H.out.cell 13 _ (fun _ => rfl)
 have KEEP := hid (fun (V : World) (h : Chg [] W V) => (⟨H.out.loadO h (by simp), h.keep eS0 (by simp), hid h⟩ : (fun V : World => (Instr.loadAt 26 (.pointer (some ⟨bx, 0, none⟩))).run Tryz.prog V = .ok (.agg #[.int .i64 x.k, .int .i64 x.w, .int .i64 x.s, .int .i64 x.c, .int .u32 x.st, .slice x.ia x.il x.ic, .int .i64 x.wr, .slice x.ra x.rl x.rc]) V /\ V.cell? ⟨bx, 13, none⟩ = some (.int .u32 x.a) /\ Hid (Chg [] W V)) V))
 clear eS0
 clear h hph hm hb hn hj hw hi hop hir hwb ha hf hs
 by_cases hle : wN <= iN + 1
 · have HDEC : Hid (decide ((wN : Int) <= (iN : Int) + 1) = true) := hid (by simpa using (by omega : (wN : Int) <= (iN : Int) + 1))
   rw [if_pos hle]
   clear hle
   go_enter Tryz.func112, Tryz.ntmps112
   go_wp2_with fail
   have hHeld : (fun V : World => (Instr.loadAt 26 (.pointer (some ⟨bx, 0, none⟩))).run Tryz.prog V = .ok (.agg #[.int .i64 x.k, .int .i64 x.w, .int .i64 x.s, .int .i64 x.c, .int .u32 x.st, .slice x.ia x.il x.ic, .int .i64 x.wr, .slice x.ra x.rl x.rc]) V /\ V.cell? ⟨bx, 13, none⟩ = some (.int .u32 x.a) /\ Hid (Chg [] W V)) (World.drew W) := KEEP.out _ (Chg.refl _ _).drew
   refine wp_region_planT (fun V : World => (Instr.loadAt 26 (.pointer (some ⟨bx, 0, none⟩))).run Tryz.prog V = .ok (.agg #[.int .i64 x.k, .int .i64 x.w, .int .i64 x.s, .int .i64 x.c, .int .u32 x.st, .slice x.ia x.il x.ic, .int .i64 x.wr, .slice x.ra x.rl x.rc]) V /\ V.cell? ⟨bx, 13, none⟩ = some (.int .u32 x.a) /\ Hid (Chg [] W V)) 14 [(0, true, some 58), (1, true, some 59), (2, true, some 60), (3, true, some 61), (4, true, some 62), (5, true, some 63), (6, true, some 64), (7, true, some 65), (8, true, some 66), (9, true, some 67), (10, true, some 68), (11, true, some 69), (12, true, some 70), (13, false, some 71)] (by kernel_rfl) (by kernel_rfl) (by kernel_rfl) (by kernel_rfl) (by kernel_rfl) (fun d c a v w h => by cases d <;> exact h) hHeld ?_
   repeat (first | (refine planT_load rfl rfl rfl 26 _ rfl _ rfl (fun u hSw => hSw.1) ?_; (try simp only [Act.put, sA, sB, sC])) | (refine planT_read (v := ?_) rfl rfl ?_ ?_ ?_; rotate_left; (focus rfl); (focus (intro u hSw; (try dsimp only at hSw); go_simp; (try with_reducible rfl); done)); (try simp only [Act.put, sA, sB, sC])))
   refine planT_do rfl rfl ?_ (fun K hK => ?_)
   · rfl
   go_simp
   go_wp2_with (go_at_call 94; refine (from_any x.k x.w x.s x.c x.st x.ia x.il x.ic x.wr x.ra x.rl x.rc x.a HA.out HS1.out HWB.out _).mono ?_; rintro e w1 ⟨rfl, hx⟩; rw [show (((1 + (x.a % x.s) * x.w).toNat : Nat) : Int) = ((fN : Nat) : Int) from congrArg _ HF.out]; have HC1 := hid ((Chg.refl [] W).drew.trans hx); have H1 := hid (H.out.keep HC1.out); clear hx)
   refine hK.out _ _ (KEEP.out _ HC1.out) (fun hHeld2 => ?_)
   clear hK K hHeld
   have hHeld := hHeld2
   clear hHeld2
   try simp only [Act.put, sA, sB, sC]
   repeat (first | (refine planT_load rfl rfl rfl 26 _ rfl _ rfl (fun u hSw => hSw.1) ?_; (try simp only [Act.put, sA, sB, sC])) | (refine planT_read (v := ?_) rfl rfl ?_ ?_ ?_; rotate_left; (focus rfl); (focus (intro u hSw; (try dsimp only at hSw); go_simp; (try with_reducible rfl); done)); (try simp only [Act.put, sA, sB, sC])))
   refine planT_last rfl ?_ (fun K hK => ?_)
   · rfl
   go_simp
   go_wp2_with (go_at_call 129; refine (Word_read bN fN iN HOP.out HM.out HB.out HI.out HIR.out (by omega) HJ.out HN.out H1.out).mono ?_; rintro e w4 ⟨rfl, hx⟩; rw [HW.out, HDEC.out]; have H4 := hid hx; clear hx)
   refine hK.out _ _ ?_
   clear hK K hHeld KEEP
   go_wp2_with (go_at_call 128; refine (Go_any 2 H4.out).mono ?_; rintro e w6 ⟨rfl, hx⟩; have H6 := hid hx; clear hx)
   go_end0
   exact ⟨rfl, H6.out⟩
 · have HDEC : Hid (decide ((wN : Int) <= (iN : Int) + 1) = false) := hid (by simpa using (by omega : ¬ (wN : Int) <= (iN : Int) + 1))
   rw [if_neg hle]
   clear hle
   go_enter Tryz.func112, Tryz.ntmps112
   go_wp2_with fail
   have hHeld : (fun V : World => (Instr.loadAt 26 (.pointer (some ⟨bx, 0, none⟩))).run Tryz.prog V = .ok (.agg #[.int .i64 x.k, .int .i64 x.w, .int .i64 x.s, .int .i64 x.c, .int .u32 x.st, .slice x.ia x.il x.ic, .int .i64 x.wr, .slice x.ra x.rl x.rc]) V /\ V.cell? ⟨bx, 13, none⟩ = some (.int .u32 x.a) /\ Hid (Chg [] W V)) (World.drew W) := KEEP.out _ (Chg.refl _ _).drew
   refine wp_region_planT (fun V : World => (Instr.loadAt 26 (.pointer (some ⟨bx, 0, none⟩))).run Tryz.prog V = .ok (.agg #[.int .i64 x.k, .int .i64 x.w, .int .i64 x.s, .int .i64 x.c, .int .u32 x.st, .slice x.ia x.il x.ic, .int .i64 x.wr, .slice x.ra x.rl x.rc]) V /\ V.cell? ⟨bx, 13, none⟩ = some (.int .u32 x.a) /\ Hid (Chg [] W V)) 14 [(0, true, some 58), (1, true, some 59), (2, true, some 60), (3, true, some 61), (4, true, some 62), (5, true, some 63), (6, true, some 64), (7, true, some 65), (8, true, some 66), (9, true, some 67), (10, true, some 68), (11, true, some 69), (12, true, some 70), (13, false, some 71)] (by kernel_rfl) (by kernel_rfl) (by kernel_rfl) (by kernel_rfl) (by kernel_rfl) (fun d c a v w h => by cases d <;> exact h) hHeld ?_
   repeat (first | (refine planT_load rfl rfl rfl 26 _ rfl _ rfl (fun u hSw => hSw.1) ?_; (try simp only [Act.put, sA, sB, sC])) | (refine planT_read (v := ?_) rfl rfl ?_ ?_ ?_; rotate_left; (focus rfl); (focus (intro u hSw; (try dsimp only at hSw); go_simp; (try with_reducible rfl); done)); (try simp only [Act.put, sA, sB, sC])))
   refine planT_do rfl rfl ?_ (fun K hK => ?_)
   · rfl
   go_simp
   go_wp2_with (go_at_call 94; refine (from_any x.k x.w x.s x.c x.st x.ia x.il x.ic x.wr x.ra x.rl x.rc x.a HA.out HS1.out HWB.out _).mono ?_; rintro e w1 ⟨rfl, hx⟩; rw [show (((1 + (x.a % x.s) * x.w).toNat : Nat) : Int) = ((fN : Nat) : Int) from congrArg _ HF.out]; have HC1 := hid ((Chg.refl [] W).drew.trans hx); have H1 := hid (H.out.keep HC1.out); clear hx)
   refine hK.out _ _ (KEEP.out _ HC1.out) (fun hHeld2 => ?_)
   clear hK K hHeld
   have hHeld := hHeld2
   clear hHeld2
   try simp only [Act.put, sA, sB, sC]
   repeat (first | (refine planT_load rfl rfl rfl 26 _ rfl _ rfl (fun u hSw => hSw.1) ?_; (try simp only [Act.put, sA, sB, sC])) | (refine planT_read (v := ?_) rfl rfl ?_ ?_ ?_; rotate_left; (focus rfl); (focus (intro u hSw; (try dsimp only at hSw); go_simp; (try with_reducible rfl); done)); (try simp only [Act.put, sA, sB, sC])))
   refine planT_last rfl ?_ (fun K hK => ?_)
   · rfl
   go_simp
   go_wp2_with (go_at_call 129; refine (Word_read bN fN iN HOP.out HM.out HB.out HI.out HIR.out (by omega) HJ.out HN.out H1.out).mono ?_; rintro e w4 ⟨rfl, hx⟩; rw [HW.out, HDEC.out]; have H4 := hid hx; clear hx)
   refine hK.out _ _ ?_
   clear hK K hHeld KEEP
   go_wp2_with fail
   go_end0
   exact ⟨rfl, H4.out⟩
def failC (x : Core) : Core := if x.c <= x.tries + 1 then { x with tries := x.tries + 1, phase := 0, i := 0, over := true, code := 1 } else { x with tries := x.tries + 1, phase := 0, i := 0 }
set_option maxHeartbeats 4000000 in
theorem read_2 {T : TypeId} {bx mb : Nat} {sv r0 : Value} {W0 W : World} {x : Core} {rec ws : List Int} {n : Int} (bN : Nat) (hm : x.m = .pointer (some ⟨mb, 0, none⟩)) (hb : x.base = (bN : Int)) (hn : 0 <= n /\ n <= 1000000) (ht : 0 <= x.tries /\ x.tries <= 1000000) (ha : 0 <= x.a /\ x.a <= 4294967295) (hs : 1 <= x.s /\ x.s <= 16) (hj : bN + 0 < ws.length) (hph : x.phase = 2) (h : St T bx mb sv W0 r0 W x rec ws n) :
 Calls Tryz.prog 112 #[.pointer (some ⟨bx, 0, none⟩)] W fun e W' => e = .returned (.tuple #[]) /\ St T bx mb sv W0 r0 W' (if word.gapU x.a (ws.getD (bN + 0) 0 % (x.s * 1048576)) (x.s * 1048576) < x.s - 1 then { x with over := true, code := 0 } else failC x) (if word.gapU x.a (ws.getD (bN + 0) 0 % (x.s * 1048576)) (x.s * 1048576) < x.s - 1 then endRec x.op 0 rec else []) ws (n + 1) := by
 have H := hid h
 have HM := hid hm
 have HB := hid hb
 have HN := hid hn
 have NB : Hid (bx ∉ (mb :: sv.ownBlock.toList)) := hid (by obtain ⟨v, hp, he⟩ := h; simp; exact ⟨hp.ne, fun hh => hp.ns bx hh rfl⟩)
 obtain ⟨vv, hvv⟩ : ∃ vv, ws.getD (bN + 0) 0 % (x.s * 1048576) = vv := ⟨_, rfl⟩
 have hvb : 0 <= vv /\ vv < (x.s * 1048576) := by rw [<- hvv]; exact ⟨Int.emod_nonneg _ (by omega), Int.emod_lt_of_pos _ (by omega)⟩
 have HVV := hid hvv
 rw [hvv]
 have e10 : W.cell? ⟨bx, 10, none⟩ = some (.int .i64 2) := by rw [<- hph]; exact H.out.cell 10 _ (fun _ => rfl)
 have HJ := hid hj
 have HS1 := hid hs
 have HS : Hid (0 <= x.s /\ x.s <= 16) := hid (by omega)
 have HT := hid ht
 have HVB : Hid (0 <= vv /\ 0 <= x.a /\ 0 <= (x.s * 1048576) /\ (x.s * 1048576) <= 4294967295) := hid (by omega)
 obtain ⟨gp, hgp⟩ : ∃ gp, word.gapU x.a vv (x.s * 1048576) = gp := ⟨_, rfl⟩
 have HGP := hid hgp
 rw [hgp]
 have k1 : IntKind.i64.wrap (x.s - 1) = x.s - 1 := by rw [IntKind.wrap_i64]; omega
 have k2 : IntKind.u32.wrap (x.s - 1) = x.s - 1 := by rw [IntKind.wrap_u32]; omega
 have eS0 : W.cell? ⟨bx, 13, none⟩ = some (.int .u32 x.a) := H.out.cell 13 _ (fun _ => rfl)
 have KEEP := hid (fun (V : World) (h : Chg (mb :: sv.ownBlock.toList) W V) => (⟨H.out.loadO h NB.out, h.keep eS0 NB.out, hid h⟩ : (fun V : World => (Instr.loadAt 26 (.pointer (some ⟨bx, 0, none⟩))).run Tryz.prog V = .ok (.agg #[.int .i64 x.k, .int .i64 x.w, .int .i64 x.s, .int .i64 x.c, .int .u32 x.st, .slice x.ia x.il x.ic, .int .i64 x.wr, .slice x.ra x.rl x.rc]) V /\ V.cell? ⟨bx, 13, none⟩ = some (.int .u32 x.a) /\ Hid (Chg (mb :: sv.ownBlock.toList) W V)) V))
 clear eS0
 clear h hph hm hb hn hj hs hvv hvb ht ha hgp
 by_cases hlt : gp < x.s - 1
 · rw [if_pos hlt, if_pos hlt]
   go_enter Tryz.func112, Tryz.ntmps112
   go_wp2_with fail
   have hHeld : (fun V : World => (Instr.loadAt 26 (.pointer (some ⟨bx, 0, none⟩))).run Tryz.prog V = .ok (.agg #[.int .i64 x.k, .int .i64 x.w, .int .i64 x.s, .int .i64 x.c, .int .u32 x.st, .slice x.ia x.il x.ic, .int .i64 x.wr, .slice x.ra x.rl x.rc]) V /\ V.cell? ⟨bx, 13, none⟩ = some (.int .u32 x.a) /\ Hid (Chg (mb :: sv.ownBlock.toList) W V)) (World.drew W) := KEEP.out _ (Chg.refl _ _).drew
   refine wp_region_plan (fun V : World => (Instr.loadAt 26 (.pointer (some ⟨bx, 0, none⟩))).run Tryz.prog V = .ok (.agg #[.int .i64 x.k, .int .i64 x.w, .int .i64 x.s, .int .i64 x.c, .int .u32 x.st, .slice x.ia x.il x.ic, .int .i64 x.wr, .slice x.ra x.rl x.rc]) V /\ V.cell? ⟨bx, 13, none⟩ = some (.int .u32 x.a) /\ Hid (Chg (mb :: sv.ownBlock.toList) W V)) [(0, true, some 8), (1, true, some 9), (2, true, some 10), (3, true, some 11), (4, true, some 12), (5, true, some 13), (7, true, some 15), (8, true, some 16), (9, true, some 17), (10, true, some 18), (11, true, some 19), (6, false, some 14), (12, false, some 20), (13, false, some 21), (14, true, some 2)] (by kernel_rfl) (by kernel_rfl) (by kernel_rfl) (by kernel_rfl) (fun d c a v w h => by cases d <;> exact h) hHeld ?_
   repeat (first | (refine planWp_load rfl rfl rfl 26 _ rfl _ rfl (fun u hSw => hSw.1) ?_; (try simp only [Act.put, sA, sB, sC])) | (refine planWp_read (v := ?_) rfl rfl ?_ ?_ ?_; rotate_left; (focus rfl); (focus (intro u hSw; (try dsimp only at hSw); go_simp; (try with_reducible rfl); done)); (try simp only [Act.put, sA, sB, sC])))
   refine planWp_do rfl rfl ?_ (fun K hK => ?_)
   · rfl
   go_simp
   go_wp2_with (go_at_call 140; refine (count_any bN HM.out HB.out HN.out HJ.out HS1.out (H.out.keep (Chg.refl _ _).drew)).mono ?_; rintro e w1 ⟨rfl, hx⟩; rw [HVV.out]; have H1 := hid hx.1; have HC1 := hid ((Chg.refl _ W).drew.trans hx.2); clear hx)
   refine hK.out _ _ (KEEP.out _ HC1.out) (fun hHeld2 => ?_)
   clear hK K hHeld
   have hHeld := hHeld2
   clear hHeld2
   try simp only [Act.put, sA, sB, sC]
   repeat (first | (refine planWp_load rfl rfl rfl 26 _ rfl _ rfl (fun u hSw => hSw.1) ?_; (try simp only [Act.put, sA, sB, sC])) | (refine planWp_read (v := ?_) rfl rfl ?_ ?_ ?_; rotate_left; (focus rfl); (focus (intro u hSw; (try dsimp only at hSw); go_simp; (try with_reducible rfl); done)); (try simp only [Act.put, sA, sB, sC])))
   refine planWp_do rfl rfl ?_ (fun K hK => ?_)
   · rfl
   go_simp
   go_wp2_with (go_at_call 121; refine (ringMod_any x.k x.w x.s x.c x.st x.ia x.il x.ic x.wr x.ra x.rl x.rc HS.out _).mono ?_; rintro e w2 ⟨rfl, hx⟩; have H2 := hid (H1.out.keep hx); have HC2 := hid (HC1.out.fresh hx); clear hx)
   refine hK.out _ _ (KEEP.out _ HC2.out) (fun hHeld2 => ?_)
   clear hK K hHeld
   have hHeld := hHeld2
   clear hHeld2
   try simp only [Act.put, sA, sB, sC]
   repeat (first | (refine planWp_load rfl rfl rfl 26 _ rfl _ rfl (fun u hSw => hSw.1) ?_; (try simp only [Act.put, sA, sB, sC])) | (refine planWp_read (v := ?_) rfl rfl ?_ ?_ ?_; rotate_left; (focus rfl); (focus (intro u hSw; (try dsimp only at hSw); go_simp; (try with_reducible rfl); done)); (try simp only [Act.put, sA, sB, sC])))
   refine planWp_do rfl rfl ?_ (fun K hK => ?_)
   · rfl
   go_simp
   go_wp2_with (go_at_call 141; refine (word.Gap_any x.a vv (x.s * 1048576) _ HVB.out.2.1 HVB.out.1 HVB.out.2.2.1 HVB.out.2.2.2).mono ?_; rintro e w3 ⟨rfl, n3, rfl⟩; rw [HGP.out]; have H3 := hid (H2.out.keep ((Chg.refl [] _).drewN n3)); have HC3 := hid (HC2.out.fresh ((Chg.refl [] _).drewN n3)))
   refine hK.out _ _ (KEEP.out _ HC3.out) (fun hHeld2 => ?_)
   clear hK K hHeld
   have hHeld := hHeld2
   clear hHeld2
   try simp only [Act.put, sA, sB, sC]
   repeat (first | (refine planWp_load rfl rfl rfl 26 _ rfl _ rfl (fun u hSw => hSw.1) ?_; (try simp only [Act.put, sA, sB, sC])) | (refine planWp_read (v := ?_) rfl rfl ?_ ?_ ?_; rotate_left; (focus rfl); (focus (intro u hSw; (try dsimp only at hSw); go_simp; (try with_reducible rfl); done)); (try simp only [Act.put, sA, sB, sC])))
   refine planWp_nil ?_
   clear hHeld KEEP
   have e2 := H3.out.cell 2 _ (fun _ => rfl)
   go_wp2_with (go_at_call 132; refine (End_any 0 H3.out).mono ?_; rintro e w6 ⟨rfl, hx⟩; have H6 := hid hx; clear hx)
   all_goals (first | (go_end0; exact ⟨rfl, H6.out⟩) | (refine bodyPost_ret (results_none rfl _ _ _) rfl ?_; exact ⟨rfl, H6.out⟩))
 · rw [if_neg hlt, if_neg hlt]
   by_cases hc : x.c <= x.tries + 1
   · have HDEC : Hid (decide (x.c <= x.tries + 1) = true) := hid (by simpa using hc)
     have HF : Hid (failC x = { x with tries := x.tries + 1, phase := 0, i := 0, over := true, code := 1 }) := hid (if_pos hc)
     rw [HF.out]
     clear hc
     go_enter Tryz.func112, Tryz.ntmps112
     go_wp2_with fail
     have hHeld : (fun V : World => (Instr.loadAt 26 (.pointer (some ⟨bx, 0, none⟩))).run Tryz.prog V = .ok (.agg #[.int .i64 x.k, .int .i64 x.w, .int .i64 x.s, .int .i64 x.c, .int .u32 x.st, .slice x.ia x.il x.ic, .int .i64 x.wr, .slice x.ra x.rl x.rc]) V /\ V.cell? ⟨bx, 13, none⟩ = some (.int .u32 x.a) /\ Hid (Chg (mb :: sv.ownBlock.toList) W V)) (World.drew W) := KEEP.out _ (Chg.refl _ _).drew
     refine wp_region_plan (fun V : World => (Instr.loadAt 26 (.pointer (some ⟨bx, 0, none⟩))).run Tryz.prog V = .ok (.agg #[.int .i64 x.k, .int .i64 x.w, .int .i64 x.s, .int .i64 x.c, .int .u32 x.st, .slice x.ia x.il x.ic, .int .i64 x.wr, .slice x.ra x.rl x.rc]) V /\ V.cell? ⟨bx, 13, none⟩ = some (.int .u32 x.a) /\ Hid (Chg (mb :: sv.ownBlock.toList) W V)) [(0, true, some 8), (1, true, some 9), (2, true, some 10), (3, true, some 11), (4, true, some 12), (5, true, some 13), (7, true, some 15), (8, true, some 16), (9, true, some 17), (10, true, some 18), (11, true, some 19), (6, false, some 14), (12, false, some 20), (13, false, some 21), (14, true, some 2)] (by kernel_rfl) (by kernel_rfl) (by kernel_rfl) (by kernel_rfl) (fun d c a v w h => by cases d <;> exact h) hHeld ?_
     repeat (first | (refine planWp_load rfl rfl rfl 26 _ rfl _ rfl (fun u hSw => hSw.1) ?_; (try simp only [Act.put, sA, sB, sC])) | (refine planWp_read (v := ?_) rfl rfl ?_ ?_ ?_; rotate_left; (focus rfl); (focus (intro u hSw; (try dsimp only at hSw); go_simp; (try with_reducible rfl); done)); (try simp only [Act.put, sA, sB, sC])))
     refine planWp_do rfl rfl ?_ (fun K hK => ?_)
     · rfl
     go_simp
     go_wp2_with (go_at_call 140; refine (count_any bN HM.out HB.out HN.out HJ.out HS1.out (H.out.keep (Chg.refl _ _).drew)).mono ?_; rintro e w1 ⟨rfl, hx⟩; rw [HVV.out]; have H1 := hid hx.1; have HC1 := hid ((Chg.refl _ W).drew.trans hx.2); clear hx)
     refine hK.out _ _ (KEEP.out _ HC1.out) (fun hHeld2 => ?_)
     clear hK K hHeld
     have hHeld := hHeld2
     clear hHeld2
     try simp only [Act.put, sA, sB, sC]
     repeat (first | (refine planWp_load rfl rfl rfl 26 _ rfl _ rfl (fun u hSw => hSw.1) ?_; (try simp only [Act.put, sA, sB, sC])) | (refine planWp_read (v := ?_) rfl rfl ?_ ?_ ?_; rotate_left; (focus rfl); (focus (intro u hSw; (try dsimp only at hSw); go_simp; (try with_reducible rfl); done)); (try simp only [Act.put, sA, sB, sC])))
     refine planWp_do rfl rfl ?_ (fun K hK => ?_)
     · rfl
     go_simp
     go_wp2_with (go_at_call 121; refine (ringMod_any x.k x.w x.s x.c x.st x.ia x.il x.ic x.wr x.ra x.rl x.rc HS.out _).mono ?_; rintro e w2 ⟨rfl, hx⟩; have H2 := hid (H1.out.keep hx); have HC2 := hid (HC1.out.fresh hx); clear hx)
     refine hK.out _ _ (KEEP.out _ HC2.out) (fun hHeld2 => ?_)
     clear hK K hHeld
     have hHeld := hHeld2
     clear hHeld2
     try simp only [Act.put, sA, sB, sC]
     repeat (first | (refine planWp_load rfl rfl rfl 26 _ rfl _ rfl (fun u hSw => hSw.1) ?_; (try simp only [Act.put, sA, sB, sC])) | (refine planWp_read (v := ?_) rfl rfl ?_ ?_ ?_; rotate_left; (focus rfl); (focus (intro u hSw; (try dsimp only at hSw); go_simp; (try with_reducible rfl); done)); (try simp only [Act.put, sA, sB, sC])))
     refine planWp_do rfl rfl ?_ (fun K hK => ?_)
     · rfl
     go_simp
     go_wp2_with (go_at_call 141; refine (word.Gap_any x.a vv (x.s * 1048576) _ HVB.out.2.1 HVB.out.1 HVB.out.2.2.1 HVB.out.2.2.2).mono ?_; rintro e w3 ⟨rfl, n3, rfl⟩; rw [HGP.out]; have H3 := hid (H2.out.keep ((Chg.refl [] _).drewN n3)); have HC3 := hid (HC2.out.fresh ((Chg.refl [] _).drewN n3)))
     refine hK.out _ _ (KEEP.out _ HC3.out) (fun hHeld2 => ?_)
     clear hK K hHeld
     have hHeld := hHeld2
     clear hHeld2
     try simp only [Act.put, sA, sB, sC]
     repeat (first | (refine planWp_load rfl rfl rfl 26 _ rfl _ rfl (fun u hSw => hSw.1) ?_; (try simp only [Act.put, sA, sB, sC])) | (refine planWp_read (v := ?_) rfl rfl ?_ ?_ ?_; rotate_left; (focus rfl); (focus (intro u hSw; (try dsimp only at hSw); go_simp; (try with_reducible rfl); done)); (try simp only [Act.put, sA, sB, sC])))
     refine planWp_nil ?_
     clear hHeld KEEP
     have e2 := H3.out.cell 2 _ (fun _ => rfl)
     go_wp2_with (first | (go_at_call 142; refine (Fail_any HT.out H3.out).mono ?_; rintro e w5 ⟨rfl, hx⟩; rw [HDEC.out]; have H5 := hid hx; clear hx) | (go_at_call 132; refine (End_any 1 H5.out).mono ?_; rintro e w6 ⟨rfl, hx⟩; have H6 : Hid (St T bx mb sv W0 r0 w6 { x with tries := x.tries + 1, phase := 0, i := 0, over := true, code := 1 } [] ws (n + 1)) := hid (by simpa [endRec] using hx); clear hx))
     all_goals (first | (go_end0; exact ⟨rfl, H6.out⟩) | (refine bodyPost_ret (results_none rfl _ _ _) rfl ?_; exact ⟨rfl, H6.out⟩))
   · have HDEC : Hid (decide (x.c <= x.tries + 1) = false) := hid (by simpa using hc)
     have HF : Hid (failC x = { x with tries := x.tries + 1, phase := 0, i := 0 }) := hid (if_neg hc)
     rw [HF.out]
     clear hc
     go_enter Tryz.func112, Tryz.ntmps112
     go_wp2_with fail
     have hHeld : (fun V : World => (Instr.loadAt 26 (.pointer (some ⟨bx, 0, none⟩))).run Tryz.prog V = .ok (.agg #[.int .i64 x.k, .int .i64 x.w, .int .i64 x.s, .int .i64 x.c, .int .u32 x.st, .slice x.ia x.il x.ic, .int .i64 x.wr, .slice x.ra x.rl x.rc]) V /\ V.cell? ⟨bx, 13, none⟩ = some (.int .u32 x.a) /\ Hid (Chg (mb :: sv.ownBlock.toList) W V)) (World.drew W) := KEEP.out _ (Chg.refl _ _).drew
     refine wp_region_plan (fun V : World => (Instr.loadAt 26 (.pointer (some ⟨bx, 0, none⟩))).run Tryz.prog V = .ok (.agg #[.int .i64 x.k, .int .i64 x.w, .int .i64 x.s, .int .i64 x.c, .int .u32 x.st, .slice x.ia x.il x.ic, .int .i64 x.wr, .slice x.ra x.rl x.rc]) V /\ V.cell? ⟨bx, 13, none⟩ = some (.int .u32 x.a) /\ Hid (Chg (mb :: sv.ownBlock.toList) W V)) [(0, true, some 8), (1, true, some 9), (2, true, some 10), (3, true, some 11), (4, true, some 12), (5, true, some 13), (7, true, some 15), (8, true, some 16), (9, true, some 17), (10, true, some 18), (11, true, some 19), (6, false, some 14), (12, false, some 20), (13, false, some 21), (14, true, some 2)] (by kernel_rfl) (by kernel_rfl) (by kernel_rfl) (by kernel_rfl) (fun d c a v w h => by cases d <;> exact h) hHeld ?_
     repeat (first | (refine planWp_load rfl rfl rfl 26 _ rfl _ rfl (fun u hSw => hSw.1) ?_; (try simp only [Act.put, sA, sB, sC])) | (refine planWp_read (v := ?_) rfl rfl ?_ ?_ ?_; rotate_left; (focus rfl); (focus (intro u hSw; (try dsimp only at hSw); go_simp; (try with_reducible rfl); done)); (try simp only [Act.put, sA, sB, sC])))
     refine planWp_do rfl rfl ?_ (fun K hK => ?_)
     · rfl
     go_simp
     go_wp2_with (go_at_call 140; refine (count_any bN HM.out HB.out HN.out HJ.out HS1.out (H.out.keep (Chg.refl _ _).drew)).mono ?_; rintro e w1 ⟨rfl, hx⟩; rw [HVV.out]; have H1 := hid hx.1; have HC1 := hid ((Chg.refl _ W).drew.trans hx.2); clear hx)
     refine hK.out _ _ (KEEP.out _ HC1.out) (fun hHeld2 => ?_)
     clear hK K hHeld
     have hHeld := hHeld2
     clear hHeld2
     try simp only [Act.put, sA, sB, sC]
     repeat (first | (refine planWp_load rfl rfl rfl 26 _ rfl _ rfl (fun u hSw => hSw.1) ?_; (try simp only [Act.put, sA, sB, sC])) | (refine planWp_read (v := ?_) rfl rfl ?_ ?_ ?_; rotate_left; (focus rfl); (focus (intro u hSw; (try dsimp only at hSw); go_simp; (try with_reducible rfl); done)); (try simp only [Act.put, sA, sB, sC])))
     refine planWp_do rfl rfl ?_ (fun K hK => ?_)
     · rfl
     go_simp
     go_wp2_with (go_at_call 121; refine (ringMod_any x.k x.w x.s x.c x.st x.ia x.il x.ic x.wr x.ra x.rl x.rc HS.out _).mono ?_; rintro e w2 ⟨rfl, hx⟩; have H2 := hid (H1.out.keep hx); have HC2 := hid (HC1.out.fresh hx); clear hx)
     refine hK.out _ _ (KEEP.out _ HC2.out) (fun hHeld2 => ?_)
     clear hK K hHeld
     have hHeld := hHeld2
     clear hHeld2
     try simp only [Act.put, sA, sB, sC]
     repeat (first | (refine planWp_load rfl rfl rfl 26 _ rfl _ rfl (fun u hSw => hSw.1) ?_; (try simp only [Act.put, sA, sB, sC])) | (refine planWp_read (v := ?_) rfl rfl ?_ ?_ ?_; rotate_left; (focus rfl); (focus (intro u hSw; (try dsimp only at hSw); go_simp; (try with_reducible rfl); done)); (try simp only [Act.put, sA, sB, sC])))
     refine planWp_do rfl rfl ?_ (fun K hK => ?_)
     · rfl
     go_simp
     go_wp2_with (go_at_call 141; refine (word.Gap_any x.a vv (x.s * 1048576) _ HVB.out.2.1 HVB.out.1 HVB.out.2.2.1 HVB.out.2.2.2).mono ?_; rintro e w3 ⟨rfl, n3, rfl⟩; rw [HGP.out]; have H3 := hid (H2.out.keep ((Chg.refl [] _).drewN n3)); have HC3 := hid (HC2.out.fresh ((Chg.refl [] _).drewN n3)))
     refine hK.out _ _ (KEEP.out _ HC3.out) (fun hHeld2 => ?_)
     clear hK K hHeld
     have hHeld := hHeld2
     clear hHeld2
     try simp only [Act.put, sA, sB, sC]
     repeat (first | (refine planWp_load rfl rfl rfl 26 _ rfl _ rfl (fun u hSw => hSw.1) ?_; (try simp only [Act.put, sA, sB, sC])) | (refine planWp_read (v := ?_) rfl rfl ?_ ?_ ?_; rotate_left; (focus rfl); (focus (intro u hSw; (try dsimp only at hSw); go_simp; (try with_reducible rfl); done)); (try simp only [Act.put, sA, sB, sC])))
     refine planWp_nil ?_
     clear hHeld KEEP
     have e2 := H3.out.cell 2 _ (fun _ => rfl)
     go_wp2_with (go_at_call 142; refine (Fail_any HT.out H3.out).mono ?_; rintro e w5 ⟨rfl, hx⟩; rw [HDEC.out]; have H6 := hid hx; clear hx)
     all_goals (first | (go_end0; exact ⟨rfl, H6.out⟩) | (refine bodyPost_ret (results_none rfl _ _ _) rfl ?_; exact ⟨rfl, H6.out⟩))
open Go Go.RowKit kit mem rop core
def stepW (x : Core) (rec ws : List Int) : Core × List Int × List Int :=
 if x.phase = 0 then ({ x with a := ((ws.getD (x.base.toNat + 0) 0 % (x.s * 1048576)) + 1) % (x.s * 1048576), phase := 1, i := 0 }, rec, ws)
 else if x.phase = 1 then (if x.w.toNat <= x.i.toNat + 1 then { x with phase := 2, i := 0 } else { x with i := (x.i.toNat : Int) + 1 }, rec, ws.set (x.base.toNat + (fromN x + x.i.toNat)) (rec.getD x.i.toNat 0))
 else ({ x with over := true, code := 0 }, endRec x.op 0 rec, ws.set (x.base.toNat + 0) x.a)
def stepR (x : Core) (rec ws : List Int) : Core × List Int × List Int :=
 if x.phase = 0 then ({ x with a := (ws.getD (x.base.toNat + 0) 0 % (x.s * 1048576)), phase := 1, i := 0 }, rec, ws)
 else if x.phase = 1 then (if x.w.toNat <= x.i.toNat + 1 then { x with phase := 2, i := 0 } else { x with i := (x.i.toNat : Int) + 1 }, rec ++ [ws.getD (x.base.toNat + (fromN x + x.i.toNat)) 0], ws)
 else (if word.gapU x.a (ws.getD (x.base.toNat + 0) 0 % (x.s * 1048576)) (x.s * 1048576) < x.s - 1 then { x with over := true, code := 0 } else failC x, if word.gapU x.a (ws.getD (x.base.toNat + 0) 0 % (x.s * 1048576)) (x.s * 1048576) < x.s - 1 then endRec x.op 0 rec else [], ws)
def step (x : Core) (mv : Value) (rec ws : List Int) : Core × List Int × List Int :=
 if x.op = 2 then stepW { x with m := mv, steps := x.steps + 1 } rec ws else stepR { x with m := mv, steps := x.steps + 1 } rec ws
structure Shape (x : Core) (rec : List Int) : Prop where
 w : 1 <= x.w /\ x.w <= 8
 s : 2 <= x.s /\ x.s <= 16
 a : 0 <= x.a /\ x.a <= 4294967295
 c : 1 <= x.c /\ x.c <= 16
 tries : 0 <= x.tries /\ (x.over = false -> x.tries < x.c)
 base : 0 <= x.base
 size : x.size = 1 + x.s * x.w
 i : x.over = false -> 0 <= x.i /\ x.i < x.w
 op : (x.op = 2 /\ (0 <= x.phase /\ x.phase <= 2) /\ (x.over = false -> (rec.length : Int) = x.w)) \/ (x.op = 1 /\ (0 <= x.phase /\ x.phase <= 2) /\ (x.over = false -> (rec.length : Int) = if x.phase = 1 then x.i else if x.phase = 2 then x.w else 0))
theorem from_fit {x : Core} (hs : 2 <= x.s /\ x.s <= 16) (hw : 1 <= x.w /\ x.w <= 8) (ha : 0 <= x.a) : 1 <= fromN x /\ (fromN x : Int) + x.w <= 1 + x.s * x.w := by
 have h1 := Int.emod_lt_of_pos x.a (show 0 < x.s by omega)
 have h2 := Int.emod_nonneg x.a (show x.s ≠ 0 by omega)
 have h3 := mul_bd (c := x.a % x.s) (w := x.w) (m := x.s - 1) ⟨h2, by omega⟩ (by omega) (by omega)
 have h4 : (x.s - 1) * x.w = x.s * x.w - x.w := by rw [Int.sub_mul, Int.one_mul]
 unfold fromN
 omega
set_option maxHeartbeats 2000000 in
theorem write_any {T : TypeId} {bx mb : Nat} {sv r0 : Value} {W0 W : World} {x : Core} {rec ws : List Int} {n : Int} (hI : Shape x rec) (hov : x.over = false) (hop : x.op = 2) (hm : x.m = .pointer (some ⟨mb, 0, none⟩)) (hfit : x.base + x.size <= ws.length) (hn : 0 <= n /\ n <= 1000000) (h : St T bx mb sv W0 r0 W x rec ws n) :
 Calls Tryz.prog 111 #[.pointer (some ⟨bx, 0, none⟩)] W fun e W' => e = .returned (.tuple #[]) /\ St T bx mb sv W0 r0 W' (stepW x rec ws).1 (stepW x rec ws).2.1 (stepW x rec ws).2.2 (n + 1) := by
 have hw := hI.w; have ha := hI.a; have hba := hI.base; have hsz := hI.size; have hi := hI.i hov; have hs := hI.s
 have hff := from_fit hs hw ha.1
 have hph : (0 <= x.phase /\ x.phase <= 2) /\ (rec.length : Int) = x.w := by rcases hI.op with ⟨_, h1, h2⟩ | ⟨h1, _⟩; exact ⟨h1, h2 hov⟩; omega
 have eb : x.base = (x.base.toNat : Int) := by omega
 have ei : x.i = (x.i.toNat : Int) := by omega
 have ew : x.w = (x.w.toNat : Int) := by omega
 have hj0 : x.base.toNat + 0 < ws.length := by omega
 rcases (by omega : x.phase = 0 \/ x.phase = 1 \/ x.phase = 2) with p | p | p
 · have hst : stepW x rec ws = ({ x with a := ((ws.getD (x.base.toNat + 0) 0 % (x.s * 1048576)) + 1) % (x.s * 1048576), phase := 1, i := 0 }, rec, ws) := by simp [stepW, p]
   rw [hst]
   exact write_0 x.base.toNat hm eb hn ⟨by omega, hs.2⟩ hj0 p h
 · have hst : stepW x rec ws = (if x.w.toNat <= x.i.toNat + 1 then { x with phase := 2, i := 0 } else { x with i := (x.i.toNat : Int) + 1 }, rec, ws.set (x.base.toNat + (fromN x + x.i.toNat)) (rec.getD x.i.toNat 0)) := by simp [stepW, p]
   rw [hst]
   have h9 := hph.2
   have h10 : x.i.toNat < rec.length := by omega
   have h11 : x.base.toNat + (fromN x + x.i.toNat) < ws.length := by omega
   exact write_1 x.base.toNat hm eb hn x.w.toNat x.i.toNat (fromN x) ⟨by omega, hs.2⟩ hw ha rfl ew ei (by omega) (.inl hop) h10 h11 p h
 · have hst : stepW x rec ws = ({ x with over := true, code := 0 }, endRec x.op 0 rec, ws.set (x.base.toNat + 0) x.a) := by simp [stepW, p]
   rw [hst]
   exact write_2 x.base.toNat hm eb hn ha hj0 p h
set_option maxHeartbeats 2000000 in
theorem read_any {T : TypeId} {bx mb : Nat} {sv r0 : Value} {W0 W : World} {x : Core} {rec ws : List Int} {n : Int} (hI : Shape x rec) (hov : x.over = false) (hop : x.op = 1) (hm : x.m = .pointer (some ⟨mb, 0, none⟩)) (hfit : x.base + x.size <= ws.length) (hn : 0 <= n /\ n <= 1000000) (h : St T bx mb sv W0 r0 W x rec ws n) :
 Calls Tryz.prog 112 #[.pointer (some ⟨bx, 0, none⟩)] W fun e W' => e = .returned (.tuple #[]) /\ St T bx mb sv W0 r0 W' (stepR x rec ws).1 (stepR x rec ws).2.1 (stepR x rec ws).2.2 (n + 1) := by
 have hw := hI.w; have ha := hI.a; have hba := hI.base; have hsz := hI.size; have hi := hI.i hov; have hs := hI.s
 have hc := hI.c; have ht := hI.tries.1; have ht2 := hI.tries.2 hov
 have hff := from_fit hs hw ha.1
 have hph : (0 <= x.phase /\ x.phase <= 2) /\ (rec.length : Int) = if x.phase = 1 then x.i else if x.phase = 2 then x.w else 0 := by rcases hI.op with ⟨h1, _⟩ | ⟨_, h1, h2⟩; omega; exact ⟨h1, h2 hov⟩
 have hrl : rec.length < 1000 := by have := hph.2; (repeat' split at this) <;> omega
 have eb : x.base = (x.base.toNat : Int) := by omega
 have ei : x.i = (x.i.toNat : Int) := by omega
 have ew : x.w = (x.w.toNat : Int) := by omega
 have hj0 : x.base.toNat + 0 < ws.length := by omega
 rcases (by omega : x.phase = 0 \/ x.phase = 1 \/ x.phase = 2) with p | p | p
 · have hst : stepR x rec ws = ({ x with a := (ws.getD (x.base.toNat + 0) 0 % (x.s * 1048576)), phase := 1, i := 0 }, rec, ws) := by simp [stepR, p]
   rw [hst]
   exact read_0 x.base.toNat hm eb hn ⟨by omega, hs.2⟩ hj0 p h
 · have hst : stepR x rec ws = (if x.w.toNat <= x.i.toNat + 1 then { x with phase := 2, i := 0 } else { x with i := (x.i.toNat : Int) + 1 }, rec ++ [ws.getD (x.base.toNat + (fromN x + x.i.toNat)) 0], ws) := by simp [stepR, p]
   rw [hst]
   have h11 : x.base.toNat + (fromN x + x.i.toNat) < ws.length := by omega
   exact read_1 x.base.toNat hm eb hn x.w.toNat x.i.toNat (fromN x) ⟨by omega, hs.2⟩ hw ha rfl ew ei (by omega) (by omega) hrl h11 p h
 · have hst : stepR x rec ws = (if word.gapU x.a (ws.getD (x.base.toNat + 0) 0 % (x.s * 1048576)) (x.s * 1048576) < x.s - 1 then { x with over := true, code := 0 } else failC x, if word.gapU x.a (ws.getD (x.base.toNat + 0) 0 % (x.s * 1048576)) (x.s * 1048576) < x.s - 1 then endRec x.op 0 rec else [], ws) := by simp [stepR, p]
   rw [hst]
   exact read_2 x.base.toNat hm eb hn ⟨ht, by omega⟩ ha ⟨by omega, hs.2⟩ hj0 p h
theorem e8of {T : TypeId} {bx mb : Nat} {sv r0 : Value} {W0 W : World} {x : Core} {rec ws : List Int} {n o : Int} {mv : Value} {k : Int} (ho : x.op = o) (h : St T bx mb sv W0 r0 W { x with m := mv, steps := k } rec ws n) : W.cell? ⟨bx, 8, none⟩ = some (.int .i64 o) := by
 rw [<- ho]; exact h.cell 8 _ (fun _ => rfl)
theorem Shape.up {x : Core} {rec : List Int} (h : Shape x rec) (mv : Value) (k : Int) : Shape { x with m := mv, steps := k } rec := ⟨h.w, h.s, h.a, h.c, h.tries, h.base, h.size, h.i, h.op⟩
theorem opens_spec {x : Core} {l : Nat} (h : opens x l = true) : x.over = false /\ 0 <= x.base /\ 0 <= x.size /\ x.base + x.size <= l := by
 simp only [opens, insB, Bool.and_eq_true, Bool.not_eq_true', decide_eq_true_eq] at h
 exact ⟨h.1, h.2.1, h.2.2.1, by omega⟩
set_option maxHeartbeats 2000000 in
theorem Step_yes {T : TypeId} {bx mb : Nat} {sv r0 : Value} {W0 W : World} {x : Core} {rec ws : List Int} {n : Int} (hI : Shape x rec) (hs : 0 <= x.steps /\ x.steps <= 1000000) (ho : opens x ws.length = true) (hn : 0 <= n /\ n <= 1000000) (h : St T bx mb sv W0 r0 W x rec ws n) :
 Calls Tryz.prog 65 #[.pointer (some ⟨bx, 0, none⟩), .pointer (some ⟨mb, 0, none⟩)] W fun e W' => e = .returned (.bool true) ∧
  St T bx mb sv W0 r0 W' (step x (.pointer (some ⟨mb, 0, none⟩)) rec ws).1 (step x (.pointer (some ⟨mb, 0, none⟩)) rec ws).2.1 (step x (.pointer (some ⟨mb, 0, none⟩)) rec ws).2.2 (n + 1) := by
 have H := hid h
 obtain ⟨hov, _, _, hfit⟩ := opens_spec ho
 have HS := hid hs
 have HO := hid ho
 have hop : (x.op = 2 \/ x.op = 1) := by rcases hI.op with h1 | h1 <;> simp [h1.1]
 rcases hop with hop | hop
 · have hst : step x (.pointer (some ⟨mb, 0, none⟩)) rec ws = stepW { x with m := .pointer (some ⟨mb, 0, none⟩), steps := x.steps + 1 } rec ws := by simp [step, hop]
   rw [hst]
   have K := hid (fun W1 (hx : St T bx mb sv W0 r0 W1 { x with m := .pointer (some ⟨mb, 0, none⟩), steps := x.steps + 1 } rec ws n) => write_any (hI.up (.pointer (some ⟨mb, 0, none⟩)) (x.steps + 1)) hov hop rfl hfit hn hx)
   have HOP := hid hop
   clear h hst hI hov hfit hop hs ho hn
   go_enter Tryz.func65, Tryz.ntmps65
   go_wp2_with (first | (go_at_call 104; refine (Open_yes HS.out HO.out H.out).mono ?_; rintro e w1 ⟨rfl, hx⟩; have e8 : w1.cell? ⟨bx, 8, none⟩ = some (.int .i64 2) := e8of HOP.out hx; have H1 := hid hx; clear hx) | (go_at_call 111; refine (K.out _ H1.out).mono ?_; rintro e w2 ⟨rfl, hx⟩; have H2 := hid hx; clear hx))
   go_ret
   exact ⟨rfl, H2.out⟩
 · have hst : step x (.pointer (some ⟨mb, 0, none⟩)) rec ws = stepR { x with m := .pointer (some ⟨mb, 0, none⟩), steps := x.steps + 1 } rec ws := by simp [step, hop]
   rw [hst]
   have K := hid (fun W1 (hx : St T bx mb sv W0 r0 W1 { x with m := .pointer (some ⟨mb, 0, none⟩), steps := x.steps + 1 } rec ws n) => read_any (hI.up (.pointer (some ⟨mb, 0, none⟩)) (x.steps + 1)) hov hop rfl hfit hn hx)
   have HOP := hid hop
   clear h hst hI hov hfit hop hs ho hn
   go_enter Tryz.func65, Tryz.ntmps65
   go_wp2_with (first | (go_at_call 104; refine (Open_yes HS.out HO.out H.out).mono ?_; rintro e w1 ⟨rfl, hx⟩; have e8 : w1.cell? ⟨bx, 8, none⟩ = some (.int .i64 1) := e8of HOP.out hx; have H1 := hid hx; clear hx) | (go_at_call 112; refine (K.out _ H1.out).mono ?_; rintro e w2 ⟨rfl, hx⟩; have H2 := hid hx; clear hx))
   go_ret
   exact ⟨rfl, H2.out⟩
def left (x : Core) : Int :=
 if x.over then 0 else if x.op = 2 then (if x.phase = 0 then x.w + 2 else if x.phase = 1 then x.w + 1 - x.i else 1)
 else (x.c - x.tries - 1) * (x.w + 2) + (if x.phase = 0 then x.w + 2 else if x.phase = 1 then x.w + 1 - x.i else 1)
theorem left_over {x : Core} (ho : x.over = true) : left x = 0 := by simp [left, ho]
theorem mul_nn {d m : Int} (h : 0 <= d) (hm : 0 <= m) : 0 <= d * m := Int.mul_nonneg h hm
theorem left_pos {x : Core} {rec : List Int} (h : Shape x rec) (ho : x.over = false) : 1 <= left x := by
 have hw := h.w; have hi := h.i ho; have ht := h.tries.2 ho
 have hp := mul_nn (d := x.c - x.tries - 1) (m := x.w + 2) (by omega) (by omega)
 rcases h.op with ⟨o, p, _⟩ | ⟨o, p, _⟩
 · simp only [left, ho, o]; simp; (repeat' split) <;> omega
 · simp only [left, ho, o]
   generalize (x.c - x.tries - 1) * (x.w + 2) = z at *
   simp; (repeat' split) <;> omega
theorem step_len (x : Core) (mv : Value) (rec ws : List Int) : (step x mv rec ws).2.2.length = ws.length := by
 simp only [step, stepW, stepR]
 (repeat' split) <;> simp
theorem mod_bd {s v : Int} (hs : 2 <= s /\ s <= 16) : 0 <= v % (s * 1048576) /\ v % (s * 1048576) <= 4294967295 := by
 have h1 := Int.emod_nonneg v (show s * 1048576 ≠ 0 by omega)
 have h2 := Int.emod_lt_of_pos v (show 0 < s * 1048576 by omega)
 omega
theorem failC_ok {x : Core} (hc : 1 <= x.c) (hs2 : 2 <= x.s /\ x.s <= 16) (ht : 0 <= x.tries /\ x.tries < x.c) (hw : 1 <= x.w /\ x.w <= 8) (ha : 0 <= x.a /\ x.a <= 4294967295) (hc2 : x.c <= 16) (hb : 0 <= x.base) (hs : x.size = 1 + x.s * x.w) (ho : x.op = 1) (hv : x.over = false) :
 Shape (failC x) [] /\ left (failC x) = (x.c - x.tries - 1) * (x.w + 2) /\ (failC x).steps = x.steps /\ (failC x).m = x.m /\ (failC x).base = x.base /\ (failC x).size = x.size := by
 unfold failC
 split
 · refine ⟨⟨hw, hs2, ha, by simp only []; omega, by simp; omega, hb, hs, by simp, .inr ⟨ho, by simp, by simp⟩⟩, ?_, rfl, rfl, rfl, rfl⟩
   have e : x.c - x.tries - 1 = 0 := by omega
   rw [e]; simp [left]
 · refine ⟨⟨hw, hs2, ha, by simp only []; omega, by simp only []; exact ⟨by omega, fun _ => by omega⟩, hb, hs, fun _ => by simp only []; omega, .inr ⟨ho, by simp, fun _ => by simp⟩⟩, ?_, rfl, rfl, rfl, rfl⟩
   have e : x.c - (x.tries + 1) - 1 = (x.c - x.tries - 1) - 1 := by omega
   simp [left, hv, ho, e, Int.sub_mul] <;> omega
theorem step_ok {x : Core} {rec ws : List Int} (mv : Value) (h : Shape x rec) (ho : x.over = false) (hws : ∀ z ∈ ws, 0 <= z /\ z <= 4294967295) :
 Shape (step x mv rec ws).1 (step x mv rec ws).2.1 /\ left (step x mv rec ws).1 + 1 <= left x /\ (step x mv rec ws).1.steps = x.steps + 1 /\ (step x mv rec ws).1.m = mv /\ (step x mv rec ws).1.base = x.base /\ (step x mv rec ws).1.size = x.size := by
 obtain ⟨hw, hs2, ha, hc, ht, hba, hs, hi, hop⟩ := h
 have hi := hi ho
 have ht2 := ht.2 ho
 have g1 := fun v => mod_bd (v := v) hs2
 have hp := mul_nn (d := x.c - x.tries - 1) (m := x.w + 2) (by omega) (by omega)
 rcases hop with ⟨o, p, r⟩ | ⟨o, p, r⟩
 · have r := r ho
   have hst : step x mv rec ws = stepW { x with m := mv, steps := x.steps + 1 } rec ws := by unfold step; rw [if_pos o]
   rw [hst]
   have hl : left x = (if x.phase = 0 then x.w + 2 else if x.phase = 1 then x.w + 1 - x.i else 1) := by unfold left; rw [if_neg (by simp [ho]), if_pos o]
   rcases (by omega : x.phase = 0 \/ x.phase = 1 \/ x.phase = 2) with q | q | q
   · unfold stepW
     rw [if_pos (show ({ x with m := mv, steps := x.steps + 1 } : Core).phase = 0 from q)]
     dsimp only
     refine ⟨⟨hw, hs2, g1 _, hc, ht, hba, hs, fun _ => by simp only []; omega, .inl ⟨o, by simp, fun _ => r⟩⟩, ?_, rfl, rfl, rfl, rfl⟩
     rw [hl, if_pos q]
     simp [left, ho, o]
     omega
   · unfold stepW
     rw [if_neg (show ¬ ({ x with m := mv, steps := x.steps + 1 } : Core).phase = 0 by show ¬ x.phase = 0; omega), if_pos (show ({ x with m := mv, steps := x.steps + 1 } : Core).phase = 1 from q)]
     dsimp only
     split
     · refine ⟨⟨hw, hs2, ha, hc, ht, hba, hs, fun _ => by simp only []; omega, .inl ⟨o, by simp, fun _ => r⟩⟩, ?_, rfl, rfl, rfl, rfl⟩
       rw [hl, if_neg (by omega), if_pos q]
       simp [left, ho, o]
       omega
     · refine ⟨⟨hw, hs2, ha, hc, ht, hba, hs, fun _ => by simp only []; omega, .inl ⟨o, by simp [q], fun _ => r⟩⟩, ?_, rfl, rfl, rfl, rfl⟩
       rw [hl, if_neg (by omega), if_pos q]
       simp [left, ho, o, q]
       omega
   · unfold stepW
     rw [if_neg (show ¬ ({ x with m := mv, steps := x.steps + 1 } : Core).phase = 0 by show ¬ x.phase = 0; omega), if_neg (show ¬ ({ x with m := mv, steps := x.steps + 1 } : Core).phase = 1 by show ¬ x.phase = 1; omega)]
     dsimp only
     refine ⟨⟨hw, hs2, ha, hc, by simp; omega, hba, hs, by simp, .inl ⟨o, by simp [q], by simp⟩⟩, ?_, rfl, rfl, rfl, rfl⟩
     rw [hl, if_neg (by omega), if_neg (by omega)]
     simp [left]
 · have r := r ho
   have e0 : ¬ ((1 : Int) = 2) := by omega
   have hst : step x mv rec ws = stepR { x with m := mv, steps := x.steps + 1 } rec ws := by unfold step; rw [if_neg (by omega)]
   rw [hst]
   have hl : left x = (x.c - x.tries - 1) * (x.w + 2) + (if x.phase = 0 then x.w + 2 else if x.phase = 1 then x.w + 1 - x.i else 1) := by unfold left; rw [if_neg (by simp [ho]), if_neg (by omega)]
   rcases (by omega : x.phase = 0 \/ x.phase = 1 \/ x.phase = 2) with q | q | q
   · unfold stepR
     rw [if_pos (show ({ x with m := mv, steps := x.steps + 1 } : Core).phase = 0 from q)]
     dsimp only
     refine ⟨⟨hw, hs2, g1 _, hc, ht, hba, hs, fun _ => by simp only []; omega, .inr ⟨o, by simp, fun _ => by simp [q] at r ⊢; exact r⟩⟩, ?_, rfl, rfl, rfl, rfl⟩
     rw [hl, if_pos q]
     simp [left, ho, o]
     omega
   · unfold stepR
     rw [if_neg (show ¬ ({ x with m := mv, steps := x.steps + 1 } : Core).phase = 0 by show ¬ x.phase = 0; omega), if_pos (show ({ x with m := mv, steps := x.steps + 1 } : Core).phase = 1 from q)]
     dsimp only
     split
     · refine ⟨⟨hw, hs2, ha, hc, ht, hba, hs, fun _ => by simp only []; omega, .inr ⟨o, by simp, fun _ => by simp [q] at r ⊢; omega⟩⟩, ?_, rfl, rfl, rfl, rfl⟩
       rw [hl, if_neg (by omega), if_pos q]
       simp [left, ho, o]
       omega
     · refine ⟨⟨hw, hs2, ha, hc, ht, hba, hs, fun _ => by simp only []; omega, .inr ⟨o, by simp [q], fun _ => by simp [q] at r ⊢; omega⟩⟩, ?_, rfl, rfl, rfl, rfl⟩
       rw [hl, if_neg (by omega), if_pos q]
       simp [left, ho, o, q]
       omega
   · unfold stepR
     rw [if_neg (show ¬ ({ x with m := mv, steps := x.steps + 1 } : Core).phase = 0 by show ¬ x.phase = 0; omega), if_neg (show ¬ ({ x with m := mv, steps := x.steps + 1 } : Core).phase = 1 by show ¬ x.phase = 1; omega)]
     dsimp only
     split
     · refine ⟨⟨hw, hs2, ha, hc, by simp; omega, hba, hs, by simp, .inr ⟨o, by simp [q], by simp⟩⟩, ?_, rfl, rfl, rfl, rfl⟩
       rw [hl, if_neg (by omega), if_neg (by omega)]
       simp [left]
       omega
     · have hf := failC_ok (x := { x with m := mv, steps := x.steps + 1 }) hc.1 hs2 ⟨ht.1, ht2⟩ hw ha hc.2 hba hs o ho
       refine ⟨hf.1, ?_, hf.2.2.1, hf.2.2.2.1, hf.2.2.2.2.1, hf.2.2.2.2.2⟩
       rw [hf.2.1, hl, if_neg (by omega), if_neg (by omega)]
       dsimp only
       omega
def K : Kind where
 step := step
 Shape := Shape
 left := left
 ok mv h ho hws := step_ok mv h ho hws
 len := step_len
 pos := left_pos
 zero := left_over
end Go.Proofs.YtphfnjcboellhaaGreatDoor.ring
