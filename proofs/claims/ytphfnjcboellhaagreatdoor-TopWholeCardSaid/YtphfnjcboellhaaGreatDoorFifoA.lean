import Derived.Test.YtphfnjcboellhaaGreatDoorLoad
import Derived.Test.YtphfnjcboellhaaGreatDoorWordWalks
import Derived.Test.YtphfnjcboellhaaGreatDoorObjA
namespace Go.Proofs.YtphfnjcboellhaaGreatDoor.fifo
open Go Go.RowKit kit mem rop core obj
set_option maxRecDepth 20000
def fromN (x : Core) : Nat := (2 + (x.a % x.s) * x.w).toNat
theorem mul_bd {c w m : Int} (hc : 0 <= c /\ c <= m) (hw : 0 <= w /\ w <= 8) (hm : m <= 16) : 0 <= c * w /\ c * w <= m * w /\ c * w <= 128 := by
 have h1 := Int.mul_nonneg hc.1 hw.1
 have h2 := Int.mul_le_mul_of_nonneg_right hc.2 hw.1
 have h3 := Int.mul_le_mul_of_nonneg_left hw.2 (show 0 <= m by omega)
 omega
set_option maxHeartbeats 2000000 in
theorem from_any (k w s c st : Int) (ia : Option Addr) (il ic : Nat) (wr : Int) (ra : Option Addr) (rl rc : Nat) (cv : Int) (hc : 0 <= cv /\ cv <= 4294967295) (hs : 1 <= s /\ s <= 16) (hw : 1 <= w /\ w <= 8) (W : World) :
 Calls Tryz.prog 147 #[.agg #[.int .i64 k, .int .i64 w, .int .i64 s, .int .i64 c, .int .u32 st, .slice ia il ic, .int .i64 wr, .slice ra rl rc], .int .u32 cv] W fun e W' => e = .returned (.int .i64 ((2 + (cv % s) * w).toNat : Int)) /\ Chg [] W W' := by
 have h1 := Int.emod_lt_of_pos cv (show 0 < s by omega)
 have h2 := Int.emod_nonneg cv (show s ≠ 0 by omega)
 have hb := mul_bd (c := cv % s) (w := w) (m := 15) ⟨h2, by omega⟩ (by omega) (by omega)
 have kt : Int.tmod cv s = cv % s := tmod_nn hc.1
 have k1 : IntKind.u32.wrap s = s := by rw [IntKind.wrap_u32]; omega
 have k2 : IntKind.u32.wrap (cv % s) = cv % s := by rw [IntKind.wrap_u32]; omega
 have k3 : IntKind.i64.wrap (cv % s) = cv % s := by rw [IntKind.wrap_i64]; omega
 have k4 : IntKind.i64.wrap (cv % s * w) = cv % s * w := by rw [IntKind.wrap_i64]; omega
 have k5 : IntKind.i64.wrap (2 + cv % s * w) = 2 + cv % s * w := by rw [IntKind.wrap_i64]; omega
 have h0 : (s == 0) = false := by simp; omega
 have HR : Hid (((2 + (cv % s) * w).toNat : Int) = 2 + cv % s * w) := hid (by omega)
 have hs0 : s ≠ 0 := by omega
 clear hb h1 h2 hc hs hw
 go_enter Tryz.func147, Tryz.ntmps147
 go_wp2
 go_quiet (fail)
 go_wp2
 go_ret
 exact ⟨by rw [HR.out]; rfl, ((Chg.refl _ _).alloc _).drewN _⟩
set_option maxHeartbeats 2000000 in
theorem count_any {T : TypeId} {bx mb : Nat} {sv r0 : Value} {W0 W : World} {x : Core} {rec ws : List Int} {n : Int} (bN jN : Nat) (hm : x.m = .pointer (some ⟨mb, 0, none⟩)) (hb : x.base = (bN : Int)) (hn : 0 <= n /\ n <= 1000000) (hj : bN + jN < ws.length) (hs : 1 <= x.s /\ x.s <= 16) (h : St T bx mb sv W0 r0 W x rec ws n) :
 Calls Tryz.prog 146 #[.pointer (some ⟨bx, 0, none⟩), .int .i64 (jN : Int)] W fun e W' => e = .returned (.int .u32 (ws.getD (bN + jN) 0 % (2 * x.s))) /\ St T bx mb sv W0 r0 W' x rec ws (n + 1) /\ Chg (mb :: sv.ownBlock.toList) W W' := by
 have H := hid h
 have HM := hid hm
 have HB := hid hb
 have HN := hid hn
 have HJ := hid hj
 have HS : Hid (0 <= x.s /\ x.s <= 16) := hid (by omega)
 have NB : Hid (bx ∉ (mb :: sv.ownBlock.toList)) := hid (by obtain ⟨v, hp, he⟩ := h; simp; exact ⟨hp.ne, fun hh => hp.ns bx hh rfl⟩)
 obtain ⟨vv, hvv⟩ : ∃ vv, ws.getD (bN + jN) 0 = vv := ⟨_, rfl⟩
 have hvb : 0 <= vv /\ vv <= 4294967295 := by rw [<- hvv]; exact u32_bd h.memory hj
 have HVV := hid hvv
 rw [hvv]
 have hmn : (2 * x.s) ≠ 0 := by omega
 have hm0 : ((2 * x.s) == 0) = false := by simp; omega
 have kt : Int.tmod vv (2 * x.s) = vv % (2 * x.s) := tmod_nn hvb.1
 have hlt := Int.emod_lt_of_pos vv (show 0 < (2 * x.s) by omega)
 have hge := Int.emod_nonneg vv hmn
 have kw : IntKind.u32.wrap (vv % (2 * x.s)) = vv % (2 * x.s) := by rw [IntKind.wrap_u32]; omega
 have KEEP := hid (fun (V : World) (h : Chg (mb :: sv.ownBlock.toList) W V) => (⟨H.out.loadO h NB.out, hid h⟩ : (fun V : World => (Instr.loadAt 26 (.pointer (some ⟨bx, 0, none⟩))).run Tryz.prog V = .ok (.agg #[.int .i64 x.k, .int .i64 x.w, .int .i64 x.s, .int .i64 x.c, .int .u32 x.st, .slice x.ia x.il x.ic, .int .i64 x.wr, .slice x.ra x.rl x.rc]) V /\ Hid (Chg (mb :: sv.ownBlock.toList) W V)) V))
 clear h hm hb hn hj hs hvv hvb hlt hge
 go_enter Tryz.func146, Tryz.ntmps146
 go_wp2_with fail
 have hHeld : (fun V : World => (Instr.loadAt 26 (.pointer (some ⟨bx, 0, none⟩))).run Tryz.prog V = .ok (.agg #[.int .i64 x.k, .int .i64 x.w, .int .i64 x.s, .int .i64 x.c, .int .u32 x.st, .slice x.ia x.il x.ic, .int .i64 x.wr, .slice x.ra x.rl x.rc]) V /\ Hid (Chg (mb :: sv.ownBlock.toList) W V)) (World.drew W) := KEEP.out _ (Chg.refl _ _).drew
 refine wp_region_plan (fun V : World => (Instr.loadAt 26 (.pointer (some ⟨bx, 0, none⟩))).run Tryz.prog V = .ok (.agg #[.int .i64 x.k, .int .i64 x.w, .int .i64 x.s, .int .i64 x.c, .int .u32 x.st, .slice x.ia x.il x.ic, .int .i64 x.wr, .slice x.ra x.rl x.rc]) V /\ Hid (Chg (mb :: sv.ownBlock.toList) W V)) [(0, true, some 5), (1, true, some 6), (2, true, some 7), (3, true, some 8), (5, true, some 10), (6, true, some 11), (7, true, some 12), (8, true, some 13), (9, true, some 14), (4, false, some 9), (10, false, some 15), (11, true, some 16), (12, true, some 4)] (by kernel_rfl) (by kernel_rfl) (by kernel_rfl) (by kernel_rfl) (fun d c a v w h => by cases d <;> exact h) hHeld ?_
 repeat (first | (refine planWp_load rfl rfl rfl 26 _ rfl _ rfl (fun u hSw => hSw.1) ?_; (try simp only [Act.put, sA, sB, sC])) | (refine planWp_read (v := ?_) rfl rfl ?_ ?_ ?_; rotate_left; (focus rfl); (focus (intro u hSw; (try dsimp only at hSw); go_simp; (try with_reducible rfl); done)); (try simp only [Act.put, sA, sB, sC])))
 refine planWp_do rfl rfl ?_ (fun K hK => ?_)
 · rfl
 go_simp
 go_wp2_with (go_at_call 127; refine (Read_at bN jN HM.out HB.out HJ.out HN.out (H.out.keep (Chg.refl _ _).drew)).mono ?_; rintro e w1 ⟨rfl, hx⟩; rw [HVV.out]; have H1 := hid hx.1; have HC1 := hid ((Chg.refl _ W).drew.trans hx.2.2); clear hx)
 refine hK.out _ _ (KEEP.out _ HC1.out) (fun hHeld2 => ?_)
 clear hK K hHeld
 have hHeld := hHeld2
 clear hHeld2
 try simp only [Act.put, sA, sB, sC]
 repeat (first | (refine planWp_load rfl rfl rfl 26 _ rfl _ rfl (fun u hSw => hSw.1) ?_; (try simp only [Act.put, sA, sB, sC])) | (refine planWp_read (v := ?_) rfl rfl ?_ ?_ ?_; rotate_left; (focus rfl); (focus (intro u hSw; (try dsimp only at hSw); go_simp; (try with_reducible rfl); done)); (try simp only [Act.put, sA, sB, sC])))
 refine planWp_do rfl rfl ?_ (fun K hK => ?_)
 · rfl
 go_simp
 go_wp2_with (go_at_call 122; refine (fifoMod_any x.k x.w x.s x.c x.st x.ia x.il x.ic x.wr x.ra x.rl x.rc HS.out _).mono ?_; rintro e w2 ⟨rfl, hx⟩; have H2 := hid (H1.out.keep hx); have HC2 := hid (HC1.out.fresh hx); clear hx)
 refine hK.out _ _ (KEEP.out _ HC2.out) (fun hHeld2 => ?_)
 clear hK K hHeld
 have hHeld := hHeld2
 clear hHeld2
 try simp only [Act.put, sA, sB, sC]
 repeat (first | (refine planWp_load rfl rfl rfl 26 _ rfl _ rfl (fun u hSw => hSw.1) ?_; (try simp only [Act.put, sA, sB, sC])) | (refine planWp_read (v := ?_) rfl rfl ?_ ?_ ?_; rotate_left; (focus rfl); (focus (intro u hSw; (try dsimp only at hSw); go_simp; (try with_reducible rfl); done)); (try simp only [Act.put, sA, sB, sC])))
 refine planWp_nil ?_
 clear hHeld KEEP
 go_wp2_with fail
 go_ret
 exact ⟨rfl, H2.out, HC2.out⟩
set_option maxHeartbeats 2000000 in
theorem next_any {T : TypeId} {bx mb : Nat} {sv r0 : Value} {W0 W : World} {x : Core} {rec ws : List Int} {n : Int} (bN jN : Nat) (hm : x.m = .pointer (some ⟨mb, 0, none⟩)) (hb : x.base = (bN : Int)) (hn : 0 <= n /\ n <= 1000000) (hj : bN + jN < ws.length) (hs : 1 <= x.s /\ x.s <= 16) (ha : 0 <= x.a /\ x.a <= 4294967295) (h : St T bx mb sv W0 r0 W x rec ws n) :
 Calls Tryz.prog 148 #[.pointer (some ⟨bx, 0, none⟩), .int .i64 (jN : Int)] W fun e W' => e = .returned (.tuple #[]) /\ St T bx mb sv W0 r0 W' x rec (ws.set (bN + jN) ((x.a + 1) % (2 * x.s))) (n + 1) := by
 have H := hid h
 have HM := hid hm
 have HB := hid hb
 have HN := hid hn
 have HJ := hid hj
 have HS : Hid (0 <= x.s /\ x.s <= 16) := hid (by omega)
 have HNX : Hid (word.stepU x.a 1 (2 * x.s) = (x.a + 1) % (2 * x.s)) := hid (by unfold word.stepU; rw [if_neg (by omega)])
 have HVB : Hid (0 <= x.a /\ 0 <= (2 * x.s) /\ (2 * x.s) <= 4294967295) := hid (by omega)
 have HU : Hid (0 <= (x.a + 1) % (2 * x.s) /\ (x.a + 1) % (2 * x.s) <= 4294967295) := hid (by
  have h1 := Int.emod_nonneg (x.a + 1) (show (2 * x.s) ≠ 0 by omega)
  have h2 := Int.emod_lt_of_pos (x.a + 1) (show 0 < (2 * x.s) by omega)
  omega)
 have eS0 : W.cell? ⟨bx, 13, none⟩ = some (.int .u32 x.a) := H.out.cell 13 _ (fun _ => rfl)
 have KEEP := hid (fun (V : World) (h : Chg [] W V) => (⟨H.out.loadO h (by simp), h.keep eS0 (by simp), hid h⟩ : (fun V : World => (Instr.loadAt 26 (.pointer (some ⟨bx, 0, none⟩))).run Tryz.prog V = .ok (.agg #[.int .i64 x.k, .int .i64 x.w, .int .i64 x.s, .int .i64 x.c, .int .u32 x.st, .slice x.ia x.il x.ic, .int .i64 x.wr, .slice x.ra x.rl x.rc]) V /\ V.cell? ⟨bx, 13, none⟩ = some (.int .u32 x.a) /\ Hid (Chg [] W V)) V))
 clear eS0
 clear h hm hb hn hj hs ha
 go_enter Tryz.func148, Tryz.ntmps148
 go_wp2_with fail
 have hHeld : (fun V : World => (Instr.loadAt 26 (.pointer (some ⟨bx, 0, none⟩))).run Tryz.prog V = .ok (.agg #[.int .i64 x.k, .int .i64 x.w, .int .i64 x.s, .int .i64 x.c, .int .u32 x.st, .slice x.ia x.il x.ic, .int .i64 x.wr, .slice x.ra x.rl x.rc]) V /\ V.cell? ⟨bx, 13, none⟩ = some (.int .u32 x.a) /\ Hid (Chg [] W V)) (World.drew W) := KEEP.out _ (Chg.refl _ _).drew
 refine wp_region_planT (fun V : World => (Instr.loadAt 26 (.pointer (some ⟨bx, 0, none⟩))).run Tryz.prog V = .ok (.agg #[.int .i64 x.k, .int .i64 x.w, .int .i64 x.s, .int .i64 x.c, .int .u32 x.st, .slice x.ia x.il x.ic, .int .i64 x.wr, .slice x.ra x.rl x.rc]) V /\ V.cell? ⟨bx, 13, none⟩ = some (.int .u32 x.a) /\ Hid (Chg [] W V)) 16 [(0, true, some 4), (1, true, some 5), (2, true, some 6), (3, true, some 7), (4, true, some 8), (5, true, some 9), (6, true, some 10), (7, true, some 11), (8, true, some 12), (9, true, some 13), (10, true, some 14), (11, true, some 15), (12, true, some 16), (13, true, some 17), (14, false, some 18), (15, false, some 19)] (by kernel_rfl) (by kernel_rfl) (by kernel_rfl) (by kernel_rfl) (by kernel_rfl) (fun d c a v w h => by cases d <;> exact h) hHeld ?_
 repeat (first | (refine planT_load rfl rfl rfl 26 _ rfl _ rfl (fun u hSw => hSw.1) ?_; (try simp only [Act.put, sA, sB, sC])) | (refine planT_read (v := ?_) rfl rfl ?_ ?_ ?_; rotate_left; (focus rfl); (focus (intro u hSw; (try dsimp only at hSw); go_simp; (try with_reducible rfl); done)); (try simp only [Act.put, sA, sB, sC])))
 refine planT_do rfl rfl ?_ (fun K hK => ?_)
 · rfl
 go_simp
 go_wp2_with (go_at_call 122; refine (fifoMod_any x.k x.w x.s x.c x.st x.ia x.il x.ic x.wr x.ra x.rl x.rc HS.out _).mono ?_; rintro e w2 ⟨rfl, hx⟩; have HC2 := hid ((Chg.refl [] W).drew.trans hx); clear hx)
 refine hK.out _ _ (KEEP.out _ HC2.out) (fun hHeld2 => ?_)
 clear hK K hHeld
 have hHeld := hHeld2
 clear hHeld2
 try simp only [Act.put, sA, sB, sC]
 repeat (first | (refine planT_load rfl rfl rfl 26 _ rfl _ rfl (fun u hSw => hSw.1) ?_; (try simp only [Act.put, sA, sB, sC])) | (refine planT_read (v := ?_) rfl rfl ?_ ?_ ?_; rotate_left; (focus rfl); (focus (intro u hSw; (try dsimp only at hSw); go_simp; (try with_reducible rfl); done)); (try simp only [Act.put, sA, sB, sC])))
 refine planT_do rfl rfl ?_ (fun K hK => ?_)
 · rfl
 go_simp
 go_wp2_with (go_at_call 139; refine (word.Next_any x.a (2 * x.s) _ HVB.out.1 HVB.out.2.1 HVB.out.2.2).mono ?_; rintro e w3 ⟨rfl, n3, rfl⟩; rw [HNX.out]; have HC3 := hid (HC2.out.fresh ((Chg.refl [] _).drewN n3)); have H3 := hid (H.out.keep HC3.out))
 refine hK.out _ _ (KEEP.out _ HC3.out) (fun hHeld2 => ?_)
 clear hK K hHeld
 have hHeld := hHeld2
 clear hHeld2
 try simp only [Act.put, sA, sB, sC]
 repeat (first | (refine planT_load rfl rfl rfl 26 _ rfl _ rfl (fun u hSw => hSw.1) ?_; (try simp only [Act.put, sA, sB, sC])) | (refine planT_read (v := ?_) rfl rfl ?_ ?_ ?_; rotate_left; (focus rfl); (focus (intro u hSw; (try dsimp only at hSw); go_simp; (try with_reducible rfl); done)); (try simp only [Act.put, sA, sB, sC])))
 refine planT_last rfl ?_ (fun K hK => ?_)
 · rfl
 go_simp
 go_wp2_with (go_at_call 131; refine (Write_at bN jN ((x.a + 1) % (2 * x.s)) HU.out HM.out HB.out HJ.out HN.out H3.out).mono ?_; rintro e w4 ⟨rfl, hx⟩; have H4 := hid hx; clear hx)
 refine hK.out _ _ ?_
 clear hK K hHeld KEEP
 go_wp2_with fail
 go_end0
 exact ⟨rfl, H4.out⟩
set_option maxHeartbeats 4000000 in
theorem put_0 {T : TypeId} {bx mb : Nat} {sv r0 : Value} {W0 W : World} {x : Core} {rec ws : List Int} {n : Int} (bN : Nat) (hm : x.m = .pointer (some ⟨mb, 0, none⟩)) (hb : x.base = (bN : Int)) (hn : 0 <= n /\ n <= 1000000) (hs : 1 <= x.s /\ x.s <= 16) (hj : bN + 1 < ws.length) (hph : x.phase = 0) (h : St T bx mb sv W0 r0 W x rec ws n) :
 Calls Tryz.prog 115 #[.pointer (some ⟨bx, 0, none⟩)] W fun e W' => e = .returned (.tuple #[]) /\ St T bx mb sv W0 r0 W' { x with a := ws.getD (bN + 1) 0 % (2 * x.s), phase := 1, i := 0 } rec ws (n + 1) := by
 have H := hid h
 have HM := hid hm
 have HB := hid hb
 have HN := hid hn
 obtain ⟨vv, hvv⟩ : ∃ vv, ws.getD (bN + 1) 0 % (2 * x.s) = vv := ⟨_, rfl⟩
 have hvb : 0 <= vv /\ vv < (2 * x.s) := by rw [<- hvv]; exact ⟨Int.emod_nonneg _ (by omega), Int.emod_lt_of_pos _ (by omega)⟩
 have HVV := hid hvv
 rw [hvv]
 have e10 : W.cell? ⟨bx, 10, none⟩ = some (.int .i64 0) := by rw [<- hph]; exact H.out.cell 10 _ (fun _ => rfl)
 have HJ := hid hj
 have HS1 := hid hs
 have HS : Hid (0 <= x.s /\ x.s <= 16) := hid (by omega)
 clear h hph hm hb hn hj hs hvv hvb
 go_enter Tryz.func115, Tryz.ntmps115
 go_wp2_with (first | (go_at_call 146; refine (count_any bN 1 HM.out HB.out HN.out HJ.out HS1.out H.out).mono ?_; rintro e w1 ⟨rfl, hx⟩; rw [HVV.out]; have e13 : w1.cell? ⟨bx, 13, none⟩ = some (.int .u32 x.a) := hx.1.cell 13 _ (fun _ => rfl); have f13 := hx.1.free 13; have H1 := hid hx.1; have HC1 := hid ((Chg.refl _ W).trans hx.2); clear hx) | (go_at_call 128; refine (Go_any 1 (H1.out.put 13 (.int .u32 vv) ({ x with a := vv }) (fun _ => rfl))).mono ?_; rintro e w2 ⟨rfl, hx⟩; have H2 := hid hx; clear hx))
 go_end0
 exact ⟨rfl, H2.out⟩
set_option maxHeartbeats 4000000 in
theorem put_1 {T : TypeId} {bx mb : Nat} {sv r0 : Value} {W0 W : World} {x : Core} {rec ws : List Int} {n : Int} (bN : Nat) (hm : x.m = .pointer (some ⟨mb, 0, none⟩)) (hb : x.base = (bN : Int)) (hn : 0 <= n /\ n <= 1000000) (ha : 0 <= x.a /\ x.a <= 4294967295) (hs : 1 <= x.s /\ x.s <= 16) (hj : bN + 0 < ws.length) (hph : x.phase = 1) (h : St T bx mb sv W0 r0 W x rec ws n) :
 Calls Tryz.prog 115 #[.pointer (some ⟨bx, 0, none⟩)] W fun e W' => e = .returned (.tuple #[]) /\ St T bx mb sv W0 r0 W' (if x.s <= word.gapU (ws.getD (bN + 0) 0 % (2 * x.s)) x.a (2 * x.s) then { x with over := true, code := 2 } else { x with phase := 2, i := 0 }) (if x.s <= word.gapU (ws.getD (bN + 0) 0 % (2 * x.s)) x.a (2 * x.s) then endRec x.op 2 rec else rec) ws (n + 1) := by
 have H := hid h
 have HM := hid hm
 have HB := hid hb
 have HN := hid hn
 have NB : Hid (bx ∉ (mb :: sv.ownBlock.toList)) := hid (by obtain ⟨v, hp, he⟩ := h; simp; exact ⟨hp.ne, fun hh => hp.ns bx hh rfl⟩)
 obtain ⟨vv, hvv⟩ : ∃ vv, ws.getD (bN + 0) 0 % (2 * x.s) = vv := ⟨_, rfl⟩
 have hvb : 0 <= vv /\ vv < (2 * x.s) := by rw [<- hvv]; exact ⟨Int.emod_nonneg _ (by omega), Int.emod_lt_of_pos _ (by omega)⟩
 have HVV := hid hvv
 rw [hvv]
 have e10 : W.cell? ⟨bx, 10, none⟩ = some (.int .i64 1) := by rw [<- hph]; exact H.out.cell 10 _ (fun _ => rfl)
 have HJ := hid hj
 have HS1 := hid hs
 have HS : Hid (0 <= x.s /\ x.s <= 16) := hid (by omega)
 have HVB : Hid (0 <= vv /\ 0 <= x.a /\ 0 <= (2 * x.s) /\ (2 * x.s) <= 4294967295) := hid (by omega)
 obtain ⟨gp, hgp⟩ : ∃ gp, word.gapU vv x.a (2 * x.s) = gp := ⟨_, rfl⟩
 have HGP := hid hgp
 rw [hgp]
 have k2 : IntKind.u32.wrap x.s = x.s := by rw [IntKind.wrap_u32]; omega
 have eS0 : W.cell? ⟨bx, 13, none⟩ = some (.int .u32 x.a) := H.out.cell 13 _ (fun _ => rfl)
 have eS1 : W.cell? ⟨bx, 2, none⟩ = some (.int .i64 x.s) := H.out.cell 2 _ (fun _ => rfl)
 have KEEP := hid (fun (V : World) (h : Chg (mb :: sv.ownBlock.toList) W V) => (⟨H.out.loadO h NB.out, h.keep eS0 NB.out, h.keep eS1 NB.out, hid h⟩ : (fun V : World => (Instr.loadAt 26 (.pointer (some ⟨bx, 0, none⟩))).run Tryz.prog V = .ok (.agg #[.int .i64 x.k, .int .i64 x.w, .int .i64 x.s, .int .i64 x.c, .int .u32 x.st, .slice x.ia x.il x.ic, .int .i64 x.wr, .slice x.ra x.rl x.rc]) V /\ V.cell? ⟨bx, 13, none⟩ = some (.int .u32 x.a) /\ V.cell? ⟨bx, 2, none⟩ = some (.int .i64 x.s) /\ Hid (Chg (mb :: sv.ownBlock.toList) W V)) V))
 clear eS0 eS1
 clear h hph hm hb hn hj hs hvv hvb ha hgp
 by_cases hle : x.s <= gp
 · rw [if_pos hle, if_pos hle]
   go_enter Tryz.func115, Tryz.ntmps115
   go_wp2_with fail
   have hHeld : (fun V : World => (Instr.loadAt 26 (.pointer (some ⟨bx, 0, none⟩))).run Tryz.prog V = .ok (.agg #[.int .i64 x.k, .int .i64 x.w, .int .i64 x.s, .int .i64 x.c, .int .u32 x.st, .slice x.ia x.il x.ic, .int .i64 x.wr, .slice x.ra x.rl x.rc]) V /\ V.cell? ⟨bx, 13, none⟩ = some (.int .u32 x.a) /\ V.cell? ⟨bx, 2, none⟩ = some (.int .i64 x.s) /\ Hid (Chg (mb :: sv.ownBlock.toList) W V)) (World.drew W) := KEEP.out _ (Chg.refl _ _).drew
   refine wp_region_plan (fun V : World => (Instr.loadAt 26 (.pointer (some ⟨bx, 0, none⟩))).run Tryz.prog V = .ok (.agg #[.int .i64 x.k, .int .i64 x.w, .int .i64 x.s, .int .i64 x.c, .int .u32 x.st, .slice x.ia x.il x.ic, .int .i64 x.wr, .slice x.ra x.rl x.rc]) V /\ V.cell? ⟨bx, 13, none⟩ = some (.int .u32 x.a) /\ V.cell? ⟨bx, 2, none⟩ = some (.int .i64 x.s) /\ Hid (Chg (mb :: sv.ownBlock.toList) W V)) [(0, true, some 27), (2, true, some 29), (3, true, some 30), (4, true, some 31), (5, true, some 32), (6, true, some 33), (7, true, some 34), (8, true, some 35), (9, true, some 36), (10, true, some 37), (11, true, some 38), (14, true, some 41), (15, true, some 42), (16, true, some 43), (17, true, some 44), (18, true, some 45), (19, true, some 46), (20, true, some 47), (1, false, some 28), (12, false, some 39), (13, false, some 40), (21, true, some 48)] (by kernel_rfl) (by kernel_rfl) (by kernel_rfl) (by kernel_rfl) (fun d c a v w h => by cases d <;> exact h) hHeld ?_
   repeat (first | (refine planWp_load rfl rfl rfl 26 _ rfl _ rfl (fun u hSw => hSw.1) ?_; (try simp only [Act.put, sA, sB, sC])) | (refine planWp_read (v := ?_) rfl rfl ?_ ?_ ?_; rotate_left; (focus rfl); (focus (intro u hSw; (try dsimp only at hSw); go_simp; (try with_reducible rfl); done)); (try simp only [Act.put, sA, sB, sC])))
   refine planWp_do rfl rfl ?_ (fun K hK => ?_)
   · rfl
   go_simp
   go_wp2_with (go_at_call 146; refine (count_any bN 0 HM.out HB.out HN.out HJ.out HS1.out (H.out.keep (Chg.refl _ _).drew)).mono ?_; rintro e w1 ⟨rfl, hx⟩; rw [HVV.out]; have H1 := hid hx.1; have HC1 := hid ((Chg.refl _ W).drew.trans hx.2); clear hx)
   refine hK.out _ _ (KEEP.out _ HC1.out) (fun hHeld2 => ?_)
   clear hK K hHeld
   have hHeld := hHeld2
   clear hHeld2
   try simp only [Act.put, sA, sB, sC]
   repeat (first | (refine planWp_load rfl rfl rfl 26 _ rfl _ rfl (fun u hSw => hSw.1) ?_; (try simp only [Act.put, sA, sB, sC])) | (refine planWp_read (v := ?_) rfl rfl ?_ ?_ ?_; rotate_left; (focus rfl); (focus (intro u hSw; (try dsimp only at hSw); go_simp; (try with_reducible rfl); done)); (try simp only [Act.put, sA, sB, sC])))
   refine planWp_do rfl rfl ?_ (fun K hK => ?_)
   · rfl
   go_simp
   go_wp2_with (go_at_call 122; refine (fifoMod_any x.k x.w x.s x.c x.st x.ia x.il x.ic x.wr x.ra x.rl x.rc HS.out _).mono ?_; rintro e w2 ⟨rfl, hx⟩; have H2 := hid (H1.out.keep hx); have HC2 := hid (HC1.out.fresh hx); clear hx)
   refine hK.out _ _ (KEEP.out _ HC2.out) (fun hHeld2 => ?_)
   clear hK K hHeld
   have hHeld := hHeld2
   clear hHeld2
   try simp only [Act.put, sA, sB, sC]
   repeat (first | (refine planWp_load rfl rfl rfl 26 _ rfl _ rfl (fun u hSw => hSw.1) ?_; (try simp only [Act.put, sA, sB, sC])) | (refine planWp_read (v := ?_) rfl rfl ?_ ?_ ?_; rotate_left; (focus rfl); (focus (intro u hSw; (try dsimp only at hSw); go_simp; (try with_reducible rfl); done)); (try simp only [Act.put, sA, sB, sC])))
   refine planWp_do rfl rfl ?_ (fun K hK => ?_)
   · rfl
   go_simp
   go_wp2_with (go_at_call 141; refine (word.Gap_any vv x.a (2 * x.s) _ HVB.out.1 HVB.out.2.1 HVB.out.2.2.1 HVB.out.2.2.2).mono ?_; rintro e w3 ⟨rfl, n3, rfl⟩; rw [HGP.out]; have H3 := hid (H2.out.keep ((Chg.refl [] _).drewN n3)); have HC3 := hid (HC2.out.fresh ((Chg.refl [] _).drewN n3)))
   refine hK.out _ _ (KEEP.out _ HC3.out) (fun hHeld2 => ?_)
   clear hK K hHeld
   have hHeld := hHeld2
   clear hHeld2
   try simp only [Act.put, sA, sB, sC]
   repeat (first | (refine planWp_load rfl rfl rfl 26 _ rfl _ rfl (fun u hSw => hSw.1) ?_; (try simp only [Act.put, sA, sB, sC])) | (refine planWp_read (v := ?_) rfl rfl ?_ ?_ ?_; rotate_left; (focus rfl); (focus (intro u hSw; (try dsimp only at hSw); go_simp; (try with_reducible rfl); done)); (try simp only [Act.put, sA, sB, sC])))
   refine planWp_nil ?_
   clear hHeld KEEP
   go_wp2_with (go_at_call 132; refine (End_any 2 H3.out).mono ?_; rintro e w6 ⟨rfl, hx⟩; have H6 := hid hx; clear hx)
   all_goals (first | (go_end0; exact ⟨rfl, H6.out⟩) | (refine bodyPost_ret (results_none rfl _ _ _) rfl ?_; exact ⟨rfl, H6.out⟩))
 · rw [if_neg hle, if_neg hle]
   go_enter Tryz.func115, Tryz.ntmps115
   go_wp2_with fail
   have hHeld : (fun V : World => (Instr.loadAt 26 (.pointer (some ⟨bx, 0, none⟩))).run Tryz.prog V = .ok (.agg #[.int .i64 x.k, .int .i64 x.w, .int .i64 x.s, .int .i64 x.c, .int .u32 x.st, .slice x.ia x.il x.ic, .int .i64 x.wr, .slice x.ra x.rl x.rc]) V /\ V.cell? ⟨bx, 13, none⟩ = some (.int .u32 x.a) /\ V.cell? ⟨bx, 2, none⟩ = some (.int .i64 x.s) /\ Hid (Chg (mb :: sv.ownBlock.toList) W V)) (World.drew W) := KEEP.out _ (Chg.refl _ _).drew
   refine wp_region_plan (fun V : World => (Instr.loadAt 26 (.pointer (some ⟨bx, 0, none⟩))).run Tryz.prog V = .ok (.agg #[.int .i64 x.k, .int .i64 x.w, .int .i64 x.s, .int .i64 x.c, .int .u32 x.st, .slice x.ia x.il x.ic, .int .i64 x.wr, .slice x.ra x.rl x.rc]) V /\ V.cell? ⟨bx, 13, none⟩ = some (.int .u32 x.a) /\ V.cell? ⟨bx, 2, none⟩ = some (.int .i64 x.s) /\ Hid (Chg (mb :: sv.ownBlock.toList) W V)) [(0, true, some 27), (2, true, some 29), (3, true, some 30), (4, true, some 31), (5, true, some 32), (6, true, some 33), (7, true, some 34), (8, true, some 35), (9, true, some 36), (10, true, some 37), (11, true, some 38), (14, true, some 41), (15, true, some 42), (16, true, some 43), (17, true, some 44), (18, true, some 45), (19, true, some 46), (20, true, some 47), (1, false, some 28), (12, false, some 39), (13, false, some 40), (21, true, some 48)] (by kernel_rfl) (by kernel_rfl) (by kernel_rfl) (by kernel_rfl) (fun d c a v w h => by cases d <;> exact h) hHeld ?_
   repeat (first | (refine planWp_load rfl rfl rfl 26 _ rfl _ rfl (fun u hSw => hSw.1) ?_; (try simp only [Act.put, sA, sB, sC])) | (refine planWp_read (v := ?_) rfl rfl ?_ ?_ ?_; rotate_left; (focus rfl); (focus (intro u hSw; (try dsimp only at hSw); go_simp; (try with_reducible rfl); done)); (try simp only [Act.put, sA, sB, sC])))
   refine planWp_do rfl rfl ?_ (fun K hK => ?_)
   · rfl
   go_simp
   go_wp2_with (go_at_call 146; refine (count_any bN 0 HM.out HB.out HN.out HJ.out HS1.out (H.out.keep (Chg.refl _ _).drew)).mono ?_; rintro e w1 ⟨rfl, hx⟩; rw [HVV.out]; have H1 := hid hx.1; have HC1 := hid ((Chg.refl _ W).drew.trans hx.2); clear hx)
   refine hK.out _ _ (KEEP.out _ HC1.out) (fun hHeld2 => ?_)
   clear hK K hHeld
   have hHeld := hHeld2
   clear hHeld2
   try simp only [Act.put, sA, sB, sC]
   repeat (first | (refine planWp_load rfl rfl rfl 26 _ rfl _ rfl (fun u hSw => hSw.1) ?_; (try simp only [Act.put, sA, sB, sC])) | (refine planWp_read (v := ?_) rfl rfl ?_ ?_ ?_; rotate_left; (focus rfl); (focus (intro u hSw; (try dsimp only at hSw); go_simp; (try with_reducible rfl); done)); (try simp only [Act.put, sA, sB, sC])))
   refine planWp_do rfl rfl ?_ (fun K hK => ?_)
   · rfl
   go_simp
   go_wp2_with (go_at_call 122; refine (fifoMod_any x.k x.w x.s x.c x.st x.ia x.il x.ic x.wr x.ra x.rl x.rc HS.out _).mono ?_; rintro e w2 ⟨rfl, hx⟩; have H2 := hid (H1.out.keep hx); have HC2 := hid (HC1.out.fresh hx); clear hx)
   refine hK.out _ _ (KEEP.out _ HC2.out) (fun hHeld2 => ?_)
   clear hK K hHeld
   have hHeld := hHeld2
   clear hHeld2
   try simp only [Act.put, sA, sB, sC]
   repeat (first | (refine planWp_load rfl rfl rfl 26 _ rfl _ rfl (fun u hSw => hSw.1) ?_; (try simp only [Act.put, sA, sB, sC])) | (refine planWp_read (v := ?_) rfl rfl ?_ ?_ ?_; rotate_left; (focus rfl); (focus (intro u hSw; (try dsimp only at hSw); go_simp; (try with_reducible rfl); done)); (try simp only [Act.put, sA, sB, sC])))
   refine planWp_do rfl rfl ?_ (fun K hK => ?_)
   · rfl
   go_simp
   go_wp2_with (go_at_call 141; refine (word.Gap_any vv x.a (2 * x.s) _ HVB.out.1 HVB.out.2.1 HVB.out.2.2.1 HVB.out.2.2.2).mono ?_; rintro e w3 ⟨rfl, n3, rfl⟩; rw [HGP.out]; have H3 := hid (H2.out.keep ((Chg.refl [] _).drewN n3)); have HC3 := hid (HC2.out.fresh ((Chg.refl [] _).drewN n3)))
   refine hK.out _ _ (KEEP.out _ HC3.out) (fun hHeld2 => ?_)
   clear hK K hHeld
   have hHeld := hHeld2
   clear hHeld2
   try simp only [Act.put, sA, sB, sC]
   repeat (first | (refine planWp_load rfl rfl rfl 26 _ rfl _ rfl (fun u hSw => hSw.1) ?_; (try simp only [Act.put, sA, sB, sC])) | (refine planWp_read (v := ?_) rfl rfl ?_ ?_ ?_; rotate_left; (focus rfl); (focus (intro u hSw; (try dsimp only at hSw); go_simp; (try with_reducible rfl); done)); (try simp only [Act.put, sA, sB, sC])))
   refine planWp_nil ?_
   clear hHeld KEEP
   go_wp2_with (go_at_call 128; refine (Go_any 2 H3.out).mono ?_; rintro e w6 ⟨rfl, hx⟩; have H6 := hid hx; clear hx)
   all_goals (first | (go_end0; exact ⟨rfl, H6.out⟩) | (refine bodyPost_ret (results_none rfl _ _ _) rfl ?_; exact ⟨rfl, H6.out⟩))
set_option maxHeartbeats 4000000 in
theorem put_2 {T : TypeId} {bx mb : Nat} {sv r0 : Value} {W0 W : World} {x : Core} {rec ws : List Int} {n : Int} (bN : Nat) (hm : x.m = .pointer (some ⟨mb, 0, none⟩)) (hb : x.base = (bN : Int)) (hn : 0 <= n /\ n <= 1000000) (wN iN fN : Nat) (hs : 1 <= x.s /\ x.s <= 16) (hwb : 1 <= x.w /\ x.w <= 8) (ha : 0 <= x.a /\ x.a <= 4294967295) (hf : fromN x = fN) (hw : x.w = (wN : Int)) (hi : x.i = (iN : Int)) (hil : iN < 8) (hop : x.op = 2 \/ x.op = 3) (hir : iN < rec.length) (hj : bN + (fN + iN) < ws.length) (hph : x.phase = 2) (h : St T bx mb sv W0 r0 W x rec ws n) :
 Calls Tryz.prog 115 #[.pointer (some ⟨bx, 0, none⟩)] W fun e W' => e = .returned (.tuple #[]) /\ St T bx mb sv W0 r0 W' (if wN <= iN + 1 then { x with phase := 3, i := 0 } else { x with i := (iN : Int) + 1 }) rec (ws.set (bN + (fN + iN)) (rec.getD iN 0)) (n + 1) := by
 have H := hid h
 have HM := hid hm
 have HB := hid hb
 have HN := hid hn
 have e10 : W.cell? ⟨bx, 10, none⟩ = some (.int .i64 2) := by rw [<- hph]; exact H.out.cell 10 _ (fun _ => rfl)
 have HW := hid hw
 have HWB := hid hwb
 have HA := hid ha
 have HF := hid hf
 have HS1 := hid hs
 have HI := hid hi
 have HOP := hid hop
 have HIR := hid hir
 have HJ := hid hj
 have eS0 : W.cell? ⟨bx, 13, none⟩ = some (.int .u32 x.a) := H.out.cell 13 _ (fun _ => rfl)
 have KEEP := hid (fun (V : World) (h : Chg [] W V) => (⟨H.out.loadO h (by simp), h.keep eS0 (by simp), hid h⟩ : (fun V : World => (Instr.loadAt 26 (.pointer (some ⟨bx, 0, none⟩))).run Tryz.prog V = .ok (.agg #[.int .i64 x.k, .int .i64 x.w, .int .i64 x.s, .int .i64 x.c, .int .u32 x.st, .slice x.ia x.il x.ic, .int .i64 x.wr, .slice x.ra x.rl x.rc]) V /\ V.cell? ⟨bx, 13, none⟩ = some (.int .u32 x.a) /\ Hid (Chg [] W V)) V))
 clear eS0
 clear h hph hm hb hn hj hw hi hop hir hwb ha hf hs
 by_cases hle : wN <= iN + 1
 · have HDEC : Hid (decide ((wN : Int) <= (iN : Int) + 1) = true) := hid (by simpa using (by omega : (wN : Int) <= (iN : Int) + 1))
   rw [if_pos hle]
   clear hle
   go_enter Tryz.func115, Tryz.ntmps115
   go_wp2_with fail
   have hHeld : (fun V : World => (Instr.loadAt 26 (.pointer (some ⟨bx, 0, none⟩))).run Tryz.prog V = .ok (.agg #[.int .i64 x.k, .int .i64 x.w, .int .i64 x.s, .int .i64 x.c, .int .u32 x.st, .slice x.ia x.il x.ic, .int .i64 x.wr, .slice x.ra x.rl x.rc]) V /\ V.cell? ⟨bx, 13, none⟩ = some (.int .u32 x.a) /\ Hid (Chg [] W V)) (World.drew W) := KEEP.out _ (Chg.refl _ _).drew
   refine wp_region_planT (fun V : World => (Instr.loadAt 26 (.pointer (some ⟨bx, 0, none⟩))).run Tryz.prog V = .ok (.agg #[.int .i64 x.k, .int .i64 x.w, .int .i64 x.s, .int .i64 x.c, .int .u32 x.st, .slice x.ia x.il x.ic, .int .i64 x.wr, .slice x.ra x.rl x.rc]) V /\ V.cell? ⟨bx, 13, none⟩ = some (.int .u32 x.a) /\ Hid (Chg [] W V)) 14 [(0, true, some 59), (1, true, some 60), (2, true, some 61), (3, true, some 62), (4, true, some 63), (5, true, some 64), (6, true, some 65), (7, true, some 66), (8, true, some 67), (9, true, some 68), (10, true, some 69), (11, true, some 70), (12, true, some 71), (13, false, some 72)] (by kernel_rfl) (by kernel_rfl) (by kernel_rfl) (by kernel_rfl) (by kernel_rfl) (fun d c a v w h => by cases d <;> exact h) hHeld ?_
   repeat (first | (refine planT_load rfl rfl rfl 26 _ rfl _ rfl (fun u hSw => hSw.1) ?_; (try simp only [Act.put, sA, sB, sC])) | (refine planT_read (v := ?_) rfl rfl ?_ ?_ ?_; rotate_left; (focus rfl); (focus (intro u hSw; (try dsimp only at hSw); go_simp; (try with_reducible rfl); done)); (try simp only [Act.put, sA, sB, sC])))
   refine planT_do rfl rfl ?_ (fun K hK => ?_)
   · rfl
   go_simp
   go_wp2_with (go_at_call 147; refine (from_any x.k x.w x.s x.c x.st x.ia x.il x.ic x.wr x.ra x.rl x.rc x.a HA.out HS1.out HWB.out _).mono ?_; rintro e w1 ⟨rfl, hx⟩; rw [show (((2 + (x.a % x.s) * x.w).toNat : Nat) : Int) = ((fN : Nat) : Int) from congrArg _ HF.out]; have HC1 := hid ((Chg.refl [] W).drew.trans hx); have H1 := hid (H.out.keep HC1.out); clear hx)
   refine hK.out _ _ (KEEP.out _ HC1.out) (fun hHeld2 => ?_)
   clear hK K hHeld
   have hHeld := hHeld2
   clear hHeld2
   try simp only [Act.put, sA, sB, sC]
   repeat (first | (refine planT_load rfl rfl rfl 26 _ rfl _ rfl (fun u hSw => hSw.1) ?_; (try simp only [Act.put, sA, sB, sC])) | (refine planT_read (v := ?_) rfl rfl ?_ ?_ ?_; rotate_left; (focus rfl); (focus (intro u hSw; (try dsimp only at hSw); go_simp; (try with_reducible rfl); done)); (try simp only [Act.put, sA, sB, sC])))
   refine planT_last rfl ?_ (fun K hK => ?_)
   · rfl
   go_simp
   go_wp2_with (go_at_call 129; refine (Word_write bN fN iN HOP.out HM.out HB.out HI.out HIR.out HJ.out HN.out H1.out).mono ?_; rintro e w4 ⟨rfl, hx⟩; rw [HW.out, HDEC.out]; have H4 := hid hx; clear hx)
   refine hK.out _ _ ?_
   clear hK K hHeld KEEP
   go_wp2_with (go_at_call 128; refine (Go_any 3 H4.out).mono ?_; rintro e w6 ⟨rfl, hx⟩; have H6 := hid hx; clear hx)
   go_end0
   exact ⟨rfl, H6.out⟩
 · have HDEC : Hid (decide ((wN : Int) <= (iN : Int) + 1) = false) := hid (by simpa using (by omega : ¬ (wN : Int) <= (iN : Int) + 1))
   rw [if_neg hle]
   clear hle
   go_enter Tryz.func115, Tryz.ntmps115
   go_wp2_with fail
   have hHeld : (fun V : World => (Instr.loadAt 26 (.pointer (some ⟨bx, 0, none⟩))).run Tryz.prog V = .ok (.agg #[.int .i64 x.k, .int .i64 x.w, .int .i64 x.s, .int .i64 x.c, .int .u32 x.st, .slice x.ia x.il x.ic, .int .i64 x.wr, .slice x.ra x.rl x.rc]) V /\ V.cell? ⟨bx, 13, none⟩ = some (.int .u32 x.a) /\ Hid (Chg [] W V)) (World.drew W) := KEEP.out _ (Chg.refl _ _).drew
   refine wp_region_planT (fun V : World => (Instr.loadAt 26 (.pointer (some ⟨bx, 0, none⟩))).run Tryz.prog V = .ok (.agg #[.int .i64 x.k, .int .i64 x.w, .int .i64 x.s, .int .i64 x.c, .int .u32 x.st, .slice x.ia x.il x.ic, .int .i64 x.wr, .slice x.ra x.rl x.rc]) V /\ V.cell? ⟨bx, 13, none⟩ = some (.int .u32 x.a) /\ Hid (Chg [] W V)) 14 [(0, true, some 59), (1, true, some 60), (2, true, some 61), (3, true, some 62), (4, true, some 63), (5, true, some 64), (6, true, some 65), (7, true, some 66), (8, true, some 67), (9, true, some 68), (10, true, some 69), (11, true, some 70), (12, true, some 71), (13, false, some 72)] (by kernel_rfl) (by kernel_rfl) (by kernel_rfl) (by kernel_rfl) (by kernel_rfl) (fun d c a v w h => by cases d <;> exact h) hHeld ?_
   repeat (first | (refine planT_load rfl rfl rfl 26 _ rfl _ rfl (fun u hSw => hSw.1) ?_; (try simp only [Act.put, sA, sB, sC])) | (refine planT_read (v := ?_) rfl rfl ?_ ?_ ?_; rotate_left; (focus rfl); (focus (intro u hSw; (try dsimp only at hSw); go_simp; (try with_reducible rfl); done)); (try simp only [Act.put, sA, sB, sC])))
   refine planT_do rfl rfl ?_ (fun K hK => ?_)
   · rfl
   go_simp
   go_wp2_with (go_at_call 147; refine (from_any x.k x.w x.s x.c x.st x.ia x.il x.ic x.wr x.ra x.rl x.rc x.a HA.out HS1.out HWB.out _).mono ?_; rintro e w1 ⟨rfl, hx⟩; rw [show (((2 + (x.a % x.s) * x.w).toNat : Nat) : Int) = ((fN : Nat) : Int) from congrArg _ HF.out]; have HC1 := hid ((Chg.refl [] W).drew.trans hx); have H1 := hid (H.out.keep HC1.out); clear hx)
   refine hK.out _ _ (KEEP.out _ HC1.out) (fun hHeld2 => ?_)
   clear hK K hHeld
   have hHeld := hHeld2
   clear hHeld2
   try simp only [Act.put, sA, sB, sC]
   repeat (first | (refine planT_load rfl rfl rfl 26 _ rfl _ rfl (fun u hSw => hSw.1) ?_; (try simp only [Act.put, sA, sB, sC])) | (refine planT_read (v := ?_) rfl rfl ?_ ?_ ?_; rotate_left; (focus rfl); (focus (intro u hSw; (try dsimp only at hSw); go_simp; (try with_reducible rfl); done)); (try simp only [Act.put, sA, sB, sC])))
   refine planT_last rfl ?_ (fun K hK => ?_)
   · rfl
   go_simp
   go_wp2_with (go_at_call 129; refine (Word_write bN fN iN HOP.out HM.out HB.out HI.out HIR.out HJ.out HN.out H1.out).mono ?_; rintro e w4 ⟨rfl, hx⟩; rw [HW.out, HDEC.out]; have H4 := hid hx; clear hx)
   refine hK.out _ _ ?_
   clear hK K hHeld KEEP
   go_wp2_with fail
   go_end0
   exact ⟨rfl, H4.out⟩
set_option maxHeartbeats 4000000 in
theorem put_3 {T : TypeId} {bx mb : Nat} {sv r0 : Value} {W0 W : World} {x : Core} {rec ws : List Int} {n : Int} (bN : Nat) (hm : x.m = .pointer (some ⟨mb, 0, none⟩)) (hb : x.base = (bN : Int)) (hn : 0 <= n /\ n <= 1000000) (hs : 1 <= x.s /\ x.s <= 16) (ha : 0 <= x.a /\ x.a <= 4294967295) (hj : bN + 1 < ws.length) (hph : x.phase = 3) (h : St T bx mb sv W0 r0 W x rec ws n) :
 Calls Tryz.prog 115 #[.pointer (some ⟨bx, 0, none⟩)] W fun e W' => e = .returned (.tuple #[]) /\ St T bx mb sv W0 r0 W' { x with over := true, code := 0 } (endRec x.op 0 rec) (ws.set (bN + 1) ((x.a + 1) % (2 * x.s))) (n + 1) := by
 have H := hid h
 have HM := hid hm
 have HB := hid hb
 have HN := hid hn
 have e10 : W.cell? ⟨bx, 10, none⟩ = some (.int .i64 3) := by rw [<- hph]; exact H.out.cell 10 _ (fun _ => rfl)
 have HJ := hid hj
 have HS1 := hid hs
 have HA := hid ha
 clear h hph hm hb hn hj hs ha
 go_enter Tryz.func115, Tryz.ntmps115
 go_wp2_with (first | (go_at_call 148; refine (next_any bN 1 HM.out HB.out HN.out HJ.out HS1.out HA.out H.out).mono ?_; rintro e w1 ⟨rfl, hx⟩; have H1 := hid hx; clear hx) | (go_at_call 132; refine (End_any 0 H1.out).mono ?_; rintro e w6 ⟨rfl, hx⟩; have H6 := hid hx; clear hx))
 go_end0
 exact ⟨rfl, H6.out⟩
set_option maxHeartbeats 4000000 in
theorem take_0 {T : TypeId} {bx mb : Nat} {sv r0 : Value} {W0 W : World} {x : Core} {rec ws : List Int} {n : Int} (bN : Nat) (hm : x.m = .pointer (some ⟨mb, 0, none⟩)) (hb : x.base = (bN : Int)) (hn : 0 <= n /\ n <= 1000000) (hs : 1 <= x.s /\ x.s <= 16) (hj : bN + 0 < ws.length) (hph : x.phase = 0) (h : St T bx mb sv W0 r0 W x rec ws n) :
 Calls Tryz.prog 116 #[.pointer (some ⟨bx, 0, none⟩)] W fun e W' => e = .returned (.tuple #[]) /\ St T bx mb sv W0 r0 W' { x with a := ws.getD (bN + 0) 0 % (2 * x.s), phase := 1, i := 0 } rec ws (n + 1) := by
 have H := hid h
 have HM := hid hm
 have HB := hid hb
 have HN := hid hn
 obtain ⟨vv, hvv⟩ : ∃ vv, ws.getD (bN + 0) 0 % (2 * x.s) = vv := ⟨_, rfl⟩
 have hvb : 0 <= vv /\ vv < (2 * x.s) := by rw [<- hvv]; exact ⟨Int.emod_nonneg _ (by omega), Int.emod_lt_of_pos _ (by omega)⟩
 have HVV := hid hvv
 rw [hvv]
 have e10 : W.cell? ⟨bx, 10, none⟩ = some (.int .i64 0) := by rw [<- hph]; exact H.out.cell 10 _ (fun _ => rfl)
 have HJ := hid hj
 have HS1 := hid hs
 have HS : Hid (0 <= x.s /\ x.s <= 16) := hid (by omega)
 clear h hph hm hb hn hj hs hvv hvb
 go_enter Tryz.func116, Tryz.ntmps116
 go_wp2_with (first | (go_at_call 146; refine (count_any bN 0 HM.out HB.out HN.out HJ.out HS1.out H.out).mono ?_; rintro e w1 ⟨rfl, hx⟩; rw [HVV.out]; have e13 : w1.cell? ⟨bx, 13, none⟩ = some (.int .u32 x.a) := hx.1.cell 13 _ (fun _ => rfl); have f13 := hx.1.free 13; have H1 := hid hx.1; have HC1 := hid ((Chg.refl _ W).trans hx.2); clear hx) | (go_at_call 128; refine (Go_any 1 (H1.out.put 13 (.int .u32 vv) ({ x with a := vv }) (fun _ => rfl))).mono ?_; rintro e w2 ⟨rfl, hx⟩; have H2 := hid hx; clear hx))
 go_end0
 exact ⟨rfl, H2.out⟩
set_option maxHeartbeats 4000000 in
theorem take_1 {T : TypeId} {bx mb : Nat} {sv r0 : Value} {W0 W : World} {x : Core} {rec ws : List Int} {n : Int} (bN : Nat) (hm : x.m = .pointer (some ⟨mb, 0, none⟩)) (hb : x.base = (bN : Int)) (hn : 0 <= n /\ n <= 1000000) (ha : 0 <= x.a /\ x.a <= 4294967295) (hs : 1 <= x.s /\ x.s <= 16) (hj : bN + 1 < ws.length) (hph : x.phase = 1) (h : St T bx mb sv W0 r0 W x rec ws n) :
 Calls Tryz.prog 116 #[.pointer (some ⟨bx, 0, none⟩)] W fun e W' => e = .returned (.tuple #[]) /\ St T bx mb sv W0 r0 W' (if (ws.getD (bN + 1) 0 % (2 * x.s)) = x.a then { x with over := true, code := 3 } else { x with phase := 2, i := 0 }) (if (ws.getD (bN + 1) 0 % (2 * x.s)) = x.a then endRec x.op 3 rec else rec) ws (n + 1) := by
 have H := hid h
 have HM := hid hm
 have HB := hid hb
 have HN := hid hn
 have NB : Hid (bx ∉ (mb :: sv.ownBlock.toList)) := hid (by obtain ⟨v, hp, he⟩ := h; simp; exact ⟨hp.ne, fun hh => hp.ns bx hh rfl⟩)
 obtain ⟨vv, hvv⟩ : ∃ vv, ws.getD (bN + 1) 0 % (2 * x.s) = vv := ⟨_, rfl⟩
 have hvb : 0 <= vv /\ vv < (2 * x.s) := by rw [<- hvv]; exact ⟨Int.emod_nonneg _ (by omega), Int.emod_lt_of_pos _ (by omega)⟩
 have HVV := hid hvv
 rw [hvv]
 have e10 : W.cell? ⟨bx, 10, none⟩ = some (.int .i64 1) := by rw [<- hph]; exact H.out.cell 10 _ (fun _ => rfl)
 have HJ := hid hj
 have HS1 := hid hs
 have HS : Hid (0 <= x.s /\ x.s <= 16) := hid (by omega)
 have eS0 : W.cell? ⟨bx, 13, none⟩ = some (.int .u32 x.a) := H.out.cell 13 _ (fun _ => rfl)
 have KEEP := hid (fun (V : World) (h : Chg (mb :: sv.ownBlock.toList) W V) => (⟨h.keep eS0 NB.out, hid h⟩ : (fun V : World => V.cell? ⟨bx, 13, none⟩ = some (.int .u32 x.a) /\ Hid (Chg (mb :: sv.ownBlock.toList) W V)) V))
 clear eS0
 clear h hph hm hb hn hj hs hvv hvb ha
 by_cases hle : vv = x.a
 · have hb1 : (vv == x.a) = true := by simpa using hle
   rw [if_pos hle, if_pos hle]
   clear hle
   go_enter Tryz.func116, Tryz.ntmps116
   go_wp2_with fail
   have hHeld : (fun V : World => V.cell? ⟨bx, 13, none⟩ = some (.int .u32 x.a) /\ Hid (Chg (mb :: sv.ownBlock.toList) W V)) (World.drew W) := KEEP.out _ (Chg.refl _ _).drew
   refine wp_region_plan (fun V : World => V.cell? ⟨bx, 13, none⟩ = some (.int .u32 x.a) /\ Hid (Chg (mb :: sv.ownBlock.toList) W V)) [(0, true, some 27), (2, true, some 29), (3, true, some 30), (4, true, some 31), (5, true, some 32), (6, true, some 33), (1, false, some 28), (7, true, some 34)] (by kernel_rfl) (by kernel_rfl) (by kernel_rfl) (by kernel_rfl) (fun d c a v w h => by cases d <;> exact h) hHeld ?_
   repeat (first | (refine planWp_load rfl rfl rfl 26 _ rfl _ rfl (fun u hSw => hSw.1) ?_; (try simp only [Act.put, sA, sB, sC])) | (refine planWp_read (v := ?_) rfl rfl ?_ ?_ ?_; rotate_left; (focus rfl); (focus (intro u hSw; (try dsimp only at hSw); go_simp; (try with_reducible rfl); done)); (try simp only [Act.put, sA, sB, sC])))
   refine planWp_do rfl rfl ?_ (fun K hK => ?_)
   · rfl
   go_simp
   go_wp2_with (go_at_call 146; refine (count_any bN 1 HM.out HB.out HN.out HJ.out HS1.out (H.out.keep (Chg.refl _ _).drew)).mono ?_; rintro e w1 ⟨rfl, hx⟩; rw [HVV.out]; have H1 := hid hx.1; have HC1 := hid ((Chg.refl _ W).drew.trans hx.2); clear hx)
   refine hK.out _ _ (KEEP.out _ HC1.out) (fun hHeld2 => ?_)
   clear hK K hHeld
   have hHeld := hHeld2
   clear hHeld2
   try simp only [Act.put, sA, sB, sC]
   repeat (first | (refine planWp_load rfl rfl rfl 26 _ rfl _ rfl (fun u hSw => hSw.1) ?_; (try simp only [Act.put, sA, sB, sC])) | (refine planWp_read (v := ?_) rfl rfl ?_ ?_ ?_; rotate_left; (focus rfl); (focus (intro u hSw; (try dsimp only at hSw); go_simp; (try with_reducible rfl); done)); (try simp only [Act.put, sA, sB, sC])))
   refine planWp_nil ?_
   clear hHeld KEEP
   go_wp2_with (go_at_call 132; refine (End_any 3 H1.out).mono ?_; rintro e w6 ⟨rfl, hx⟩; have H6 := hid hx; clear hx)
   all_goals (first | (go_end0; exact ⟨rfl, H6.out⟩) | (refine bodyPost_ret (results_none rfl _ _ _) rfl ?_; exact ⟨rfl, H6.out⟩))
 · have hb1 : (vv == x.a) = false := by simpa using hle
   rw [if_neg hle, if_neg hle]
   clear hle
   go_enter Tryz.func116, Tryz.ntmps116
   go_wp2_with fail
   have hHeld : (fun V : World => V.cell? ⟨bx, 13, none⟩ = some (.int .u32 x.a) /\ Hid (Chg (mb :: sv.ownBlock.toList) W V)) (World.drew W) := KEEP.out _ (Chg.refl _ _).drew
   refine wp_region_plan (fun V : World => V.cell? ⟨bx, 13, none⟩ = some (.int .u32 x.a) /\ Hid (Chg (mb :: sv.ownBlock.toList) W V)) [(0, true, some 27), (2, true, some 29), (3, true, some 30), (4, true, some 31), (5, true, some 32), (6, true, some 33), (1, false, some 28), (7, true, some 34)] (by kernel_rfl) (by kernel_rfl) (by kernel_rfl) (by kernel_rfl) (fun d c a v w h => by cases d <;> exact h) hHeld ?_
   repeat (first | (refine planWp_load rfl rfl rfl 26 _ rfl _ rfl (fun u hSw => hSw.1) ?_; (try simp only [Act.put, sA, sB, sC])) | (refine planWp_read (v := ?_) rfl rfl ?_ ?_ ?_; rotate_left; (focus rfl); (focus (intro u hSw; (try dsimp only at hSw); go_simp; (try with_reducible rfl); done)); (try simp only [Act.put, sA, sB, sC])))
   refine planWp_do rfl rfl ?_ (fun K hK => ?_)
   · rfl
   go_simp
   go_wp2_with (go_at_call 146; refine (count_any bN 1 HM.out HB.out HN.out HJ.out HS1.out (H.out.keep (Chg.refl _ _).drew)).mono ?_; rintro e w1 ⟨rfl, hx⟩; rw [HVV.out]; have H1 := hid hx.1; have HC1 := hid ((Chg.refl _ W).drew.trans hx.2); clear hx)
   refine hK.out _ _ (KEEP.out _ HC1.out) (fun hHeld2 => ?_)
   clear hK K hHeld
   have hHeld := hHeld2
   clear hHeld2
   try simp only [Act.put, sA, sB, sC]
   repeat (first | (refine planWp_load rfl rfl rfl 26 _ rfl _ rfl (fun u hSw => hSw.1) ?_; (try simp only [Act.put, sA, sB, sC])) | (refine planWp_read (v := ?_) rfl rfl ?_ ?_ ?_; rotate_left; (focus rfl); (focus (intro u hSw; (try dsimp only at hSw); go_simp; (try with_reducible rfl); done)); (try simp only [Act.put, sA, sB, sC])))
   refine planWp_nil ?_
   clear hHeld KEEP
   go_wp2_with (go_at_call 128; refine (Go_any 2 H1.out).mono ?_; rintro e w6 ⟨rfl, hx⟩; have H6 := hid hx; clear hx)
   all_goals (first | (go_end0; exact ⟨rfl, H6.out⟩) | (refine bodyPost_ret (results_none rfl _ _ _) rfl ?_; exact ⟨rfl, H6.out⟩))
set_option maxHeartbeats 4000000 in
theorem take_2 {T : TypeId} {bx mb : Nat} {sv r0 : Value} {W0 W : World} {x : Core} {rec ws : List Int} {n : Int} (bN : Nat) (hm : x.m = .pointer (some ⟨mb, 0, none⟩)) (hb : x.base = (bN : Int)) (hn : 0 <= n /\ n <= 1000000) (wN iN fN : Nat) (hs : 1 <= x.s /\ x.s <= 16) (hwb : 1 <= x.w /\ x.w <= 8) (ha : 0 <= x.a /\ x.a <= 4294967295) (hf : fromN x = fN) (hw : x.w = (wN : Int)) (hi : x.i = (iN : Int)) (hil : iN < 8) (hop : x.op ≠ 2 /\ x.op ≠ 3) (hir : rec.length < 1000) (hj : bN + (fN + iN) < ws.length) (hph : x.phase = 2) (h : St T bx mb sv W0 r0 W x rec ws n) :
 Calls Tryz.prog 116 #[.pointer (some ⟨bx, 0, none⟩)] W fun e W' => e = .returned (.tuple #[]) /\ St T bx mb sv W0 r0 W' (if wN <= iN + 1 then { x with phase := 3, i := 0 } else { x with i := (iN : Int) + 1 }) (rec ++ [ws.getD (bN + (fN + iN)) 0]) ws (n + 1) := by
 have H := hid h
 have HM := hid hm
 have HB := hid hb
 have HN := hid hn
 have e10 : W.cell? ⟨bx, 10, none⟩ = some (.int .i64 2) := by rw [<- hph]; exact H.out.cell 10 _ (fun _ => rfl)
 have HW := hid hw
 have HWB := hid hwb
 have HA := hid ha
 have HF := hid hf
 have HS1 := hid hs
 have HI := hid hi
 have HOP := hid hop
 have HIR := hid hir
 have HJ := hid hj
 have eS0 : W.cell? ⟨bx, 13, none⟩ = some (.int .u32 x.a) := H.out.cell 13 _ (fun _ => rfl)
 have KEEP := hid (fun (V : World) (h : Chg [] W V) => (⟨H.out.loadO h (by simp), h.keep eS0 (by simp), hid h⟩ : (fun V : World => (Instr.loadAt 26 (.pointer (some ⟨bx, 0, none⟩))).run Tryz.prog V = .ok (.agg #[.int .i64 x.k, .int .i64 x.w, .int .i64 x.s, .int .i64 x.c, .int .u32 x.st, .slice x.ia x.il x.ic, .int .i64 x.wr, .slice x.ra x.rl x.rc]) V /\ V.cell? ⟨bx, 13, none⟩ = some (.int .u32 x.a) /\ Hid (Chg [] W V)) V))
 clear eS0
 clear h hph hm hb hn hj hw hi hop hir hwb ha hf hs
 by_cases hle : wN <= iN + 1
 · have HDEC : Hid (decide ((wN : Int) <= (iN : Int) + 1) = true) := hid (by simpa using (by omega : (wN : Int) <= (iN : Int) + 1))
   rw [if_pos hle]
   clear hle
   go_enter Tryz.func116, Tryz.ntmps116
   go_wp2_with fail
   have hHeld : (fun V : World => (Instr.loadAt 26 (.pointer (some ⟨bx, 0, none⟩))).run Tryz.prog V = .ok (.agg #[.int .i64 x.k, .int .i64 x.w, .int .i64 x.s, .int .i64 x.c, .int .u32 x.st, .slice x.ia x.il x.ic, .int .i64 x.wr, .slice x.ra x.rl x.rc]) V /\ V.cell? ⟨bx, 13, none⟩ = some (.int .u32 x.a) /\ Hid (Chg [] W V)) (World.drew W) := KEEP.out _ (Chg.refl _ _).drew
   refine wp_region_planT (fun V : World => (Instr.loadAt 26 (.pointer (some ⟨bx, 0, none⟩))).run Tryz.prog V = .ok (.agg #[.int .i64 x.k, .int .i64 x.w, .int .i64 x.s, .int .i64 x.c, .int .u32 x.st, .slice x.ia x.il x.ic, .int .i64 x.wr, .slice x.ra x.rl x.rc]) V /\ V.cell? ⟨bx, 13, none⟩ = some (.int .u32 x.a) /\ Hid (Chg [] W V)) 14 [(0, true, some 45), (1, true, some 46), (2, true, some 47), (3, true, some 48), (4, true, some 49), (5, true, some 50), (6, true, some 51), (7, true, some 52), (8, true, some 53), (9, true, some 54), (10, true, some 55), (11, true, some 56), (12, true, some 57), (13, false, some 58)] (by kernel_rfl) (by kernel_rfl) (by kernel_rfl) (by kernel_rfl) (by kernel_rfl) (fun d c a v w h => by cases d <;> exact h) hHeld ?_
   repeat (first | (refine planT_load rfl rfl rfl 26 _ rfl _ rfl (fun u hSw => hSw.1) ?_; (try simp only [Act.put, sA, sB, sC])) | (refine planT_read (v := ?_) rfl rfl ?_ ?_ ?_; rotate_left; (focus rfl); (focus (intro u hSw; (try dsimp only at hSw); go_simp; (try with_reducible rfl); done)); (try simp only [Act.put, sA, sB, sC])))
   refine planT_do rfl rfl ?_ (fun K hK => ?_)
   · rfl
   go_simp
   go_wp2_with (go_at_call 147; refine (from_any x.k x.w x.s x.c x.st x.ia x.il x.ic x.wr x.ra x.rl x.rc x.a HA.out HS1.out HWB.out _).mono ?_; rintro e w1 ⟨rfl, hx⟩; rw [show (((2 + (x.a % x.s) * x.w).toNat : Nat) : Int) = ((fN : Nat) : Int) from congrArg _ HF.out]; have HC1 := hid ((Chg.refl [] W).drew.trans hx); have H1 := hid (H.out.keep HC1.out); clear hx)
   refine hK.out _ _ (KEEP.out _ HC1.out) (fun hHeld2 => ?_)
   clear hK K hHeld
   have hHeld := hHeld2
   clear hHeld2
   try simp only [Act.put, sA, sB, sC]
   repeat (first | (refine planT_load rfl rfl rfl 26 _ rfl _ rfl (fun u hSw => hSw.1) ?_; (try simp only [Act.put, sA, sB, sC])) | (refine planT_read (v := ?_) rfl rfl ?_ ?_ ?_; rotate_left; (focus rfl); (focus (intro u hSw; (try dsimp only at hSw); go_simp; (try with_reducible rfl); done)); (try simp only [Act.put, sA, sB, sC])))
   refine planT_last rfl ?_ (fun K hK => ?_)
   · rfl
   go_simp
   go_wp2_with (go_at_call 129; refine (Word_read bN fN iN HOP.out HM.out HB.out HI.out HIR.out (by omega) HJ.out HN.out H1.out).mono ?_; rintro e w4 ⟨rfl, hx⟩; rw [HW.out, HDEC.out]; have H4 := hid hx; clear hx)
   refine hK.out _ _ ?_
   clear hK K hHeld KEEP
   go_wp2_with (go_at_call 128; refine (Go_any 3 H4.out).mono ?_; rintro e w6 ⟨rfl, hx⟩; have H6 := hid hx; clear hx)
   go_end0
   exact ⟨rfl, H6.out⟩
 · have HDEC : Hid (decide ((wN : Int) <= (iN : Int) + 1) = false) := hid (by simpa using (by omega : ¬ (wN : Int) <= (iN : Int) + 1))
   rw [if_neg hle]
   clear hle
   go_enter Tryz.func116, Tryz.ntmps116
   go_wp2_with fail
   have hHeld : (fun V : World => (Instr.loadAt 26 (.pointer (some ⟨bx, 0, none⟩))).run Tryz.prog V = .ok (.agg #[.int .i64 x.k, .int .i64 x.w, .int .i64 x.s, .int .i64 x.c, .int .u32 x.st, .slice x.ia x.il x.ic, .int .i64 x.wr, .slice x.ra x.rl x.rc]) V /\ V.cell? ⟨bx, 13, none⟩ = some (.int .u32 x.a) /\ Hid (Chg [] W V)) (World.drew W) := KEEP.out _ (Chg.refl _ _).drew
   refine wp_region_planT (fun V : World => (Instr.loadAt 26 (.pointer (some ⟨bx, 0, none⟩))).run Tryz.prog V = .ok (.agg #[.int .i64 x.k, .int .i64 x.w, .int .i64 x.s, .int .i64 x.c, .int .u32 x.st, .slice x.ia x.il x.ic, .int .i64 x.wr, .slice x.ra x.rl x.rc]) V /\ V.cell? ⟨bx, 13, none⟩ = some (.int .u32 x.a) /\ Hid (Chg [] W V)) 14 [(0, true, some 45), (1, true, some 46), (2, true, some 47), (3, true, some 48), (4, true, some 49), (5, true, some 50), (6, true, some 51), (7, true, some 52), (8, true, some 53), (9, true, some 54), (10, true, some 55), (11, true, some 56), (12, true, some 57), (13, false, some 58)] (by kernel_rfl) (by kernel_rfl) (by kernel_rfl) (by kernel_rfl) (by kernel_rfl) (fun d c a v w h => by cases d <;> exact h) hHeld ?_
   repeat (first | (refine planT_load rfl rfl rfl 26 _ rfl _ rfl (fun u hSw => hSw.1) ?_; (try simp only [Act.put, sA, sB, sC])) | (refine planT_read (v := ?_) rfl rfl ?_ ?_ ?_; rotate_left; (focus rfl); (focus (intro u hSw; (try dsimp only at hSw); go_simp; (try with_reducible rfl); done)); (try simp only [Act.put, sA, sB, sC])))
   refine planT_do rfl rfl ?_ (fun K hK => ?_)
   · rfl
   go_simp
   go_wp2_with (go_at_call 147; refine (from_any x.k x.w x.s x.c x.st x.ia x.il x.ic x.wr x.ra x.rl x.rc x.a HA.out HS1.out HWB.out _).mono ?_; rintro e w1 ⟨rfl, hx⟩; rw [show (((2 + (x.a % x.s) * x.w).toNat : Nat) : Int) = ((fN : Nat) : Int) from congrArg _ HF.out]; have HC1 := hid ((Chg.refl [] W).drew.trans hx); have H1 := hid (H.out.keep HC1.out); clear hx)
   refine hK.out _ _ (KEEP.out _ HC1.out) (fun hHeld2 => ?_)
   clear hK K hHeld
   have hHeld := hHeld2
   clear hHeld2
   try simp only [Act.put, sA, sB, sC]
   repeat (first | (refine planT_load rfl rfl rfl 26 _ rfl _ rfl (fun u hSw => hSw.1) ?_; (try simp only [Act.put, sA, sB, sC])) | (refine planT_read (v := ?_) rfl rfl ?_ ?_ ?_; rotate_left; (focus rfl); (focus (intro u hSw; (try dsimp only at hSw); go_simp; (try with_reducible rfl); done)); (try simp only [Act.put, sA, sB, sC])))
   refine planT_last rfl ?_ (fun K hK => ?_)
   · rfl
   go_simp
   go_wp2_with (go_at_call 129; refine (Word_read bN fN iN HOP.out HM.out HB.out HI.out HIR.out (by omega) HJ.out HN.out H1.out).mono ?_; rintro e w4 ⟨rfl, hx⟩; rw [HW.out, HDEC.out]; have H4 := hid hx; clear hx)
   refine hK.out _ _ ?_
   clear hK K hHeld KEEP
   go_wp2_with fail
   go_end0
   exact ⟨rfl, H4.out⟩
set_option maxHeartbeats 4000000 in
theorem take_3 {T : TypeId} {bx mb : Nat} {sv r0 : Value} {W0 W : World} {x : Core} {rec ws : List Int} {n : Int} (bN : Nat) (hm : x.m = .pointer (some ⟨mb, 0, none⟩)) (hb : x.base = (bN : Int)) (hn : 0 <= n /\ n <= 1000000) (hs : 1 <= x.s /\ x.s <= 16) (ha : 0 <= x.a /\ x.a <= 4294967295) (hj : bN + 0 < ws.length) (hph : x.phase = 3) (h : St T bx mb sv W0 r0 W x rec ws n) :
 Calls Tryz.prog 116 #[.pointer (some ⟨bx, 0, none⟩)] W fun e W' => e = .returned (.tuple #[]) /\ St T bx mb sv W0 r0 W' { x with over := true, code := 0 } (endRec x.op 0 rec) (ws.set (bN + 0) ((x.a + 1) % (2 * x.s))) (n + 1) := by
 have H := hid h
 have HM := hid hm
 have HB := hid hb
 have HN := hid hn
 have e10 : W.cell? ⟨bx, 10, none⟩ = some (.int .i64 3) := by rw [<- hph]; exact H.out.cell 10 _ (fun _ => rfl)
 have HJ := hid hj
 have HS1 := hid hs
 have HA := hid ha
 clear h hph hm hb hn hj hs ha
 go_enter Tryz.func116, Tryz.ntmps116
 go_wp2_with (first | (go_at_call 148; refine (next_any bN 0 HM.out HB.out HN.out HJ.out HS1.out HA.out H.out).mono ?_; rintro e w1 ⟨rfl, hx⟩; have H1 := hid hx; clear hx) | (go_at_call 132; refine (End_any 0 H1.out).mono ?_; rintro e w6 ⟨rfl, hx⟩; have H6 := hid hx; clear hx))
 go_end0
 exact ⟨rfl, H6.out⟩
open Go Go.RowKit kit mem rop core
def stepW (x : Core) (rec ws : List Int) : Core × List Int × List Int :=
 if x.phase = 0 then ({ x with a := (ws.getD (x.base.toNat + 1) 0 % (2 * x.s)), phase := 1, i := 0 }, rec, ws)
 else if x.phase = 1 then (if x.s <= word.gapU (ws.getD (x.base.toNat + 0) 0 % (2 * x.s)) x.a (2 * x.s) then { x with over := true, code := 2 } else { x with phase := 2, i := 0 }, if x.s <= word.gapU (ws.getD (x.base.toNat + 0) 0 % (2 * x.s)) x.a (2 * x.s) then endRec x.op 2 rec else rec, ws)
 else if x.phase = 2 then (if x.w.toNat <= x.i.toNat + 1 then { x with phase := 3, i := 0 } else { x with i := (x.i.toNat : Int) + 1 }, rec, ws.set (x.base.toNat + (fromN x + x.i.toNat)) (rec.getD x.i.toNat 0))
 else ({ x with over := true, code := 0 }, endRec x.op 0 rec, ws.set (x.base.toNat + 1) ((x.a + 1) % (2 * x.s)))
def stepR (x : Core) (rec ws : List Int) : Core × List Int × List Int :=
 if x.phase = 0 then ({ x with a := (ws.getD (x.base.toNat + 0) 0 % (2 * x.s)), phase := 1, i := 0 }, rec, ws)
 else if x.phase = 1 then (if (ws.getD (x.base.toNat + 1) 0 % (2 * x.s)) = x.a then { x with over := true, code := 3 } else { x with phase := 2, i := 0 }, if (ws.getD (x.base.toNat + 1) 0 % (2 * x.s)) = x.a then endRec x.op 3 rec else rec, ws)
 else if x.phase = 2 then (if x.w.toNat <= x.i.toNat + 1 then { x with phase := 3, i := 0 } else { x with i := (x.i.toNat : Int) + 1 }, rec ++ [ws.getD (x.base.toNat + (fromN x + x.i.toNat)) 0], ws)
 else ({ x with over := true, code := 0 }, endRec x.op 0 rec, ws.set (x.base.toNat + 0) ((x.a + 1) % (2 * x.s)))
def step (x : Core) (mv : Value) (rec ws : List Int) : Core × List Int × List Int :=
 if x.op = 3 then stepW { x with m := mv, steps := x.steps + 1 } rec ws else stepR { x with m := mv, steps := x.steps + 1 } rec ws
structure Shape (x : Core) (rec : List Int) : Prop where
 w : 1 <= x.w /\ x.w <= 8
 s : 1 <= x.s /\ x.s <= 16
 a : 0 <= x.a /\ x.a <= 4294967295
 base : 0 <= x.base
 size : x.size = 2 + x.s * x.w
 i : x.over = false -> 0 <= x.i /\ x.i < x.w
 op : (x.op = 3 /\ (0 <= x.phase /\ x.phase <= 3) /\ (x.over = false -> (rec.length : Int) = x.w)) \/ (x.op = 4 /\ (0 <= x.phase /\ x.phase <= 3) /\ (x.over = false -> (rec.length : Int) = if x.phase = 2 then x.i else if x.phase = 3 then x.w else 0))
theorem from_fit {x : Core} (hs : 1 <= x.s /\ x.s <= 16) (hw : 1 <= x.w /\ x.w <= 8) (ha : 0 <= x.a) : 2 <= fromN x /\ (fromN x : Int) + x.w <= 2 + x.s * x.w := by
 have h1 := Int.emod_lt_of_pos x.a (show 0 < x.s by omega)
 have h2 := Int.emod_nonneg x.a (show x.s ≠ 0 by omega)
 have h3 := mul_bd (c := x.a % x.s) (w := x.w) (m := x.s - 1) ⟨h2, by omega⟩ (by omega) (by omega)
 have h4 : (x.s - 1) * x.w = x.s * x.w - x.w := by rw [Int.sub_mul, Int.one_mul]
 unfold fromN
 omega
set_option maxHeartbeats 2000000 in
theorem write_any {T : TypeId} {bx mb : Nat} {sv r0 : Value} {W0 W : World} {x : Core} {rec ws : List Int} {n : Int} (hI : Shape x rec) (hov : x.over = false) (hop : x.op = 3) (hm : x.m = .pointer (some ⟨mb, 0, none⟩)) (hfit : x.base + x.size <= ws.length) (hn : 0 <= n /\ n <= 1000000) (h : St T bx mb sv W0 r0 W x rec ws n) :
 Calls Tryz.prog 115 #[.pointer (some ⟨bx, 0, none⟩)] W fun e W' => e = .returned (.tuple #[]) /\ St T bx mb sv W0 r0 W' (stepW x rec ws).1 (stepW x rec ws).2.1 (stepW x rec ws).2.2 (n + 1) := by
 have hw := hI.w; have ha := hI.a; have hba := hI.base; have hsz := hI.size; have hi := hI.i hov; have hs := hI.s
 have hff := from_fit hs hw ha.1
 have hph : (0 <= x.phase /\ x.phase <= 3) /\ (rec.length : Int) = x.w := by rcases hI.op with ⟨_, h1, h2⟩ | ⟨h1, _⟩; exact ⟨h1, h2 hov⟩; omega
 have eb : x.base = (x.base.toNat : Int) := by omega
 have ei : x.i = (x.i.toNat : Int) := by omega
 have ew : x.w = (x.w.toNat : Int) := by omega
 have hnn := Int.mul_nonneg (show 0 <= x.s by omega) (show 0 <= x.w by omega)
 have hj0 : x.base.toNat + 0 < ws.length := by omega
 have hj1 : x.base.toNat + 1 < ws.length := by omega
 have h11 : x.base.toNat + (fromN x + x.i.toNat) < ws.length := by omega
 rcases (by omega : x.phase = 0 \/ x.phase = 1 \/ x.phase = 2 \/ x.phase = 3) with p | p | p | p
 · have hst : stepW x rec ws = ({ x with a := (ws.getD (x.base.toNat + 1) 0 % (2 * x.s)), phase := 1, i := 0 }, rec, ws) := by simp [stepW, p]
   rw [hst]
   exact put_0 x.base.toNat hm eb hn hs hj1 p h
 · have hst : stepW x rec ws = (if x.s <= word.gapU (ws.getD (x.base.toNat + 0) 0 % (2 * x.s)) x.a (2 * x.s) then { x with over := true, code := 2 } else { x with phase := 2, i := 0 }, if x.s <= word.gapU (ws.getD (x.base.toNat + 0) 0 % (2 * x.s)) x.a (2 * x.s) then endRec x.op 2 rec else rec, ws) := by simp [stepW, p]
   rw [hst]
   exact put_1 x.base.toNat hm eb hn ha hs hj0 p h
 · have hst : stepW x rec ws = (if x.w.toNat <= x.i.toNat + 1 then { x with phase := 3, i := 0 } else { x with i := (x.i.toNat : Int) + 1 }, rec, ws.set (x.base.toNat + (fromN x + x.i.toNat)) (rec.getD x.i.toNat 0)) := by simp [stepW, p]
   rw [hst]
   have h9 := hph.2
   have h10 : x.i.toNat < rec.length := by omega
   exact put_2 x.base.toNat hm eb hn x.w.toNat x.i.toNat (fromN x) hs hw ha rfl ew ei (by omega) (.inr hop) h10 h11 p h
 · have hst : stepW x rec ws = ({ x with over := true, code := 0 }, endRec x.op 0 rec, ws.set (x.base.toNat + 1) ((x.a + 1) % (2 * x.s))) := by simp [stepW, p]
   rw [hst]
   exact put_3 x.base.toNat hm eb hn hs ha hj1 p h
set_option maxHeartbeats 2000000 in
theorem read_any {T : TypeId} {bx mb : Nat} {sv r0 : Value} {W0 W : World} {x : Core} {rec ws : List Int} {n : Int} (hI : Shape x rec) (hov : x.over = false) (hop : x.op = 4) (hm : x.m = .pointer (some ⟨mb, 0, none⟩)) (hfit : x.base + x.size <= ws.length) (hn : 0 <= n /\ n <= 1000000) (h : St T bx mb sv W0 r0 W x rec ws n) :
 Calls Tryz.prog 116 #[.pointer (some ⟨bx, 0, none⟩)] W fun e W' => e = .returned (.tuple #[]) /\ St T bx mb sv W0 r0 W' (stepR x rec ws).1 (stepR x rec ws).2.1 (stepR x rec ws).2.2 (n + 1) := by
 have hw := hI.w; have ha := hI.a; have hba := hI.base; have hsz := hI.size; have hi := hI.i hov; have hs := hI.s
 have hff := from_fit hs hw ha.1
 have hph : (0 <= x.phase /\ x.phase <= 3) /\ (rec.length : Int) = if x.phase = 2 then x.i else if x.phase = 3 then x.w else 0 := by rcases hI.op with ⟨h1, _⟩ | ⟨_, h1, h2⟩; omega; exact ⟨h1, h2 hov⟩
 have hrl : rec.length < 1000 := by have := hph.2; (repeat' split at this) <;> omega
 have eb : x.base = (x.base.toNat : Int) := by omega
 have ei : x.i = (x.i.toNat : Int) := by omega
 have ew : x.w = (x.w.toNat : Int) := by omega
 have hnn := Int.mul_nonneg (show 0 <= x.s by omega) (show 0 <= x.w by omega)
 have hj0 : x.base.toNat + 0 < ws.length := by omega
 have hj1 : x.base.toNat + 1 < ws.length := by omega
 have h11 : x.base.toNat + (fromN x + x.i.toNat) < ws.length := by omega
 rcases (by omega : x.phase = 0 \/ x.phase = 1 \/ x.phase = 2 \/ x.phase = 3) with p | p | p | p
 · have hst : stepR x rec ws = ({ x with a := (ws.getD (x.base.toNat + 0) 0 % (2 * x.s)), phase := 1, i := 0 }, rec, ws) := by simp [stepR, p]
   rw [hst]
   exact take_0 x.base.toNat hm eb hn hs hj0 p h
 · have hst : stepR x rec ws = (if (ws.getD (x.base.toNat + 1) 0 % (2 * x.s)) = x.a then { x with over := true, code := 3 } else { x with phase := 2, i := 0 }, if (ws.getD (x.base.toNat + 1) 0 % (2 * x.s)) = x.a then endRec x.op 3 rec else rec, ws) := by simp [stepR, p]
   rw [hst]
   exact take_1 x.base.toNat hm eb hn ha hs hj1 p h
 · have hst : stepR x rec ws = (if x.w.toNat <= x.i.toNat + 1 then { x with phase := 3, i := 0 } else { x with i := (x.i.toNat : Int) + 1 }, rec ++ [ws.getD (x.base.toNat + (fromN x + x.i.toNat)) 0], ws) := by simp [stepR, p]
   rw [hst]
   exact take_2 x.base.toNat hm eb hn x.w.toNat x.i.toNat (fromN x) hs hw ha rfl ew ei (by omega) (by omega) hrl h11 p h
 · have hst : stepR x rec ws = ({ x with over := true, code := 0 }, endRec x.op 0 rec, ws.set (x.base.toNat + 0) ((x.a + 1) % (2 * x.s))) := by simp [stepR, p]
   rw [hst]
   exact take_3 x.base.toNat hm eb hn hs ha hj0 p h
theorem e8of {T : TypeId} {bx mb : Nat} {sv r0 : Value} {W0 W : World} {x : Core} {rec ws : List Int} {n o : Int} {mv : Value} {k : Int} (ho : x.op = o) (h : St T bx mb sv W0 r0 W { x with m := mv, steps := k } rec ws n) : W.cell? ⟨bx, 8, none⟩ = some (.int .i64 o) := by
 rw [<- ho]; exact h.cell 8 _ (fun _ => rfl)
theorem Shape.up {x : Core} {rec : List Int} (h : Shape x rec) (mv : Value) (k : Int) : Shape { x with m := mv, steps := k } rec := ⟨h.w, h.s, h.a, h.base, h.size, h.i, h.op⟩
theorem opens_spec {x : Core} {l : Nat} (h : opens x l = true) : x.over = false /\ 0 <= x.base /\ 0 <= x.size /\ x.base + x.size <= l := by
 simp only [opens, insB, Bool.and_eq_true, Bool.not_eq_true', decide_eq_true_eq] at h
 exact ⟨h.1, h.2.1, h.2.2.1, by omega⟩
set_option maxHeartbeats 2000000 in
theorem Step_yes {T : TypeId} {bx mb : Nat} {sv r0 : Value} {W0 W : World} {x : Core} {rec ws : List Int} {n : Int} (hI : Shape x rec) (hs : 0 <= x.steps /\ x.steps <= 1000000) (ho : opens x ws.length = true) (hn : 0 <= n /\ n <= 1000000) (h : St T bx mb sv W0 r0 W x rec ws n) :
 Calls Tryz.prog 67 #[.pointer (some ⟨bx, 0, none⟩), .pointer (some ⟨mb, 0, none⟩)] W fun e W' => e = .returned (.bool true) ∧
  St T bx mb sv W0 r0 W' (step x (.pointer (some ⟨mb, 0, none⟩)) rec ws).1 (step x (.pointer (some ⟨mb, 0, none⟩)) rec ws).2.1 (step x (.pointer (some ⟨mb, 0, none⟩)) rec ws).2.2 (n + 1) := by
 have H := hid h
 obtain ⟨hov, _, _, hfit⟩ := opens_spec ho
 have HS := hid hs
 have HO := hid ho
 have hop : (x.op = 3 \/ x.op = 4) := by rcases hI.op with h1 | h1 <;> simp [h1.1]
 rcases hop with hop | hop
 · have hst : step x (.pointer (some ⟨mb, 0, none⟩)) rec ws = stepW { x with m := .pointer (some ⟨mb, 0, none⟩), steps := x.steps + 1 } rec ws := by simp [step, hop]
   rw [hst]
   have K := hid (fun W1 (hx : St T bx mb sv W0 r0 W1 { x with m := .pointer (some ⟨mb, 0, none⟩), steps := x.steps + 1 } rec ws n) => write_any (hI.up (.pointer (some ⟨mb, 0, none⟩)) (x.steps + 1)) hov hop rfl hfit hn hx)
   have HOP := hid hop
   clear h hst hI hov hfit hop hs ho hn
   go_enter Tryz.func67, Tryz.ntmps67
   go_wp2_with (first | (go_at_call 104; refine (Open_yes HS.out HO.out H.out).mono ?_; rintro e w1 ⟨rfl, hx⟩; have e8 : w1.cell? ⟨bx, 8, none⟩ = some (.int .i64 3) := e8of HOP.out hx; have H1 := hid hx; clear hx) | (go_at_call 115; refine (K.out _ H1.out).mono ?_; rintro e w2 ⟨rfl, hx⟩; have H2 := hid hx; clear hx))
   go_ret
   exact ⟨rfl, H2.out⟩
 · have hst : step x (.pointer (some ⟨mb, 0, none⟩)) rec ws = stepR { x with m := .pointer (some ⟨mb, 0, none⟩), steps := x.steps + 1 } rec ws := by simp [step, hop]
   rw [hst]
   have K := hid (fun W1 (hx : St T bx mb sv W0 r0 W1 { x with m := .pointer (some ⟨mb, 0, none⟩), steps := x.steps + 1 } rec ws n) => read_any (hI.up (.pointer (some ⟨mb, 0, none⟩)) (x.steps + 1)) hov hop rfl hfit hn hx)
   have HOP := hid hop
   clear h hst hI hov hfit hop hs ho hn
   go_enter Tryz.func67, Tryz.ntmps67
   go_wp2_with (first | (go_at_call 104; refine (Open_yes HS.out HO.out H.out).mono ?_; rintro e w1 ⟨rfl, hx⟩; have e8 : w1.cell? ⟨bx, 8, none⟩ = some (.int .i64 4) := e8of HOP.out hx; have H1 := hid hx; clear hx) | (go_at_call 116; refine (K.out _ H1.out).mono ?_; rintro e w2 ⟨rfl, hx⟩; have H2 := hid hx; clear hx))
   go_ret
   exact ⟨rfl, H2.out⟩
def left (x : Core) : Int :=
 if x.over then 0 else (if x.phase = 0 then x.w + 3 else if x.phase = 1 then x.w + 2 else if x.phase = 2 then x.w + 1 - x.i else 1)
theorem left_over {x : Core} (ho : x.over = true) : left x = 0 := by simp [left, ho]
theorem left_pos {x : Core} {rec : List Int} (h : Shape x rec) (ho : x.over = false) : 1 <= left x := by
 have hw := h.w; have hi := h.i ho
 simp only [left, ho]; simp; (repeat' split) <;> omega
theorem step_len (x : Core) (mv : Value) (rec ws : List Int) : (step x mv rec ws).2.2.length = ws.length := by
 simp only [step, stepW, stepR]
 (repeat' split) <;> simp
theorem mod_bd {s v : Int} (hs : 1 <= s /\ s <= 16) : 0 <= v % (2 * s) /\ v % (2 * s) <= 4294967295 := by
 have h1 := Int.emod_nonneg v (show 2 * s ≠ 0 by omega)
 have h2 := Int.emod_lt_of_pos v (show 0 < 2 * s by omega)
 omega
theorem step_ok {x : Core} {rec ws : List Int} (mv : Value) (h : Shape x rec) (ho : x.over = false) (hws : ∀ z ∈ ws, 0 <= z /\ z <= 4294967295) :
 Shape (step x mv rec ws).1 (step x mv rec ws).2.1 /\ left (step x mv rec ws).1 + 1 <= left x /\ (step x mv rec ws).1.steps = x.steps + 1 /\ (step x mv rec ws).1.m = mv /\ (step x mv rec ws).1.base = x.base /\ (step x mv rec ws).1.size = x.size := by
 obtain ⟨hw, hs2, ha, hba, hs, hi, hop⟩ := h
 have hi := hi ho
 have g1 := fun v => mod_bd (v := v) hs2
 have hl : left x = (if x.phase = 0 then x.w + 3 else if x.phase = 1 then x.w + 2 else if x.phase = 2 then x.w + 1 - x.i else 1) := by unfold left; rw [if_neg (by simp [ho])]
 rcases hop with ⟨o, p, r⟩ | ⟨o, p, r⟩
 · have r := r ho
   have hst : step x mv rec ws = stepW { x with m := mv, steps := x.steps + 1 } rec ws := by unfold step; rw [if_pos o]
   rw [hst]
   rcases (by omega : x.phase = 0 \/ x.phase = 1 \/ x.phase = 2 \/ x.phase = 3) with q | q | q | q
   · unfold stepW
     rw [if_pos (show ({ x with m := mv, steps := x.steps + 1 } : Core).phase = 0 from q)]
     dsimp only
     refine ⟨⟨hw, hs2, g1 _, hba, hs, fun _ => by simp only []; omega, .inl ⟨o, by simp, fun _ => r⟩⟩, ?_, rfl, rfl, rfl, rfl⟩
     rw [hl, if_pos q]
     simp [left, ho]
     omega
   · unfold stepW
     rw [if_neg (show ¬ ({ x with m := mv, steps := x.steps + 1 } : Core).phase = 0 by show ¬ x.phase = 0; omega), if_pos (show ({ x with m := mv, steps := x.steps + 1 } : Core).phase = 1 from q)]
     dsimp only
     split
     · refine ⟨⟨hw, hs2, ha, hba, hs, by simp, .inl ⟨o, by simp [q], by simp⟩⟩, ?_, rfl, rfl, rfl, rfl⟩
       rw [hl, if_neg (by omega), if_pos q]
       simp [left]
       omega
     · refine ⟨⟨hw, hs2, ha, hba, hs, fun _ => by simp only []; omega, .inl ⟨o, by simp, fun _ => r⟩⟩, ?_, rfl, rfl, rfl, rfl⟩
       rw [hl, if_neg (by omega), if_pos q]
       simp [left, ho]
       omega
   · unfold stepW
     rw [if_neg (show ¬ ({ x with m := mv, steps := x.steps + 1 } : Core).phase = 0 by show ¬ x.phase = 0; omega), if_neg (show ¬ ({ x with m := mv, steps := x.steps + 1 } : Core).phase = 1 by show ¬ x.phase = 1; omega), if_pos (show ({ x with m := mv, steps := x.steps + 1 } : Core).phase = 2 from q)]
     dsimp only
     split
     · refine ⟨⟨hw, hs2, ha, hba, hs, fun _ => by simp only []; omega, .inl ⟨o, by simp, fun _ => r⟩⟩, ?_, rfl, rfl, rfl, rfl⟩
       rw [hl, if_neg (by omega), if_neg (by omega), if_pos q]
       simp [left, ho]
       omega
     · refine ⟨⟨hw, hs2, ha, hba, hs, fun _ => by simp only []; omega, .inl ⟨o, by simp [q], fun _ => r⟩⟩, ?_, rfl, rfl, rfl, rfl⟩
       rw [hl, if_neg (by omega), if_neg (by omega), if_pos q]
       simp [left, ho, q]
       omega
   · unfold stepW
     rw [if_neg (show ¬ ({ x with m := mv, steps := x.steps + 1 } : Core).phase = 0 by show ¬ x.phase = 0; omega), if_neg (show ¬ ({ x with m := mv, steps := x.steps + 1 } : Core).phase = 1 by show ¬ x.phase = 1; omega), if_neg (show ¬ ({ x with m := mv, steps := x.steps + 1 } : Core).phase = 2 by show ¬ x.phase = 2; omega)]
     dsimp only
     refine ⟨⟨hw, hs2, ha, hba, hs, by simp, .inl ⟨o, by simp [q], by simp⟩⟩, ?_, rfl, rfl, rfl, rfl⟩
     rw [hl, if_neg (by omega), if_neg (by omega), if_neg (by omega)]
     simp [left]
 · have r := r ho
   have hst : step x mv rec ws = stepR { x with m := mv, steps := x.steps + 1 } rec ws := by unfold step; rw [if_neg (by omega)]
   rw [hst]
   rcases (by omega : x.phase = 0 \/ x.phase = 1 \/ x.phase = 2 \/ x.phase = 3) with q | q | q | q
   · unfold stepR
     rw [if_pos (show ({ x with m := mv, steps := x.steps + 1 } : Core).phase = 0 from q)]
     dsimp only
     refine ⟨⟨hw, hs2, g1 _, hba, hs, fun _ => by simp only []; omega, .inr ⟨o, by simp, fun _ => by simp [q] at r ⊢; exact r⟩⟩, ?_, rfl, rfl, rfl, rfl⟩
     rw [hl, if_pos q]
     simp [left, ho]
     omega
   · unfold stepR
     rw [if_neg (show ¬ ({ x with m := mv, steps := x.steps + 1 } : Core).phase = 0 by show ¬ x.phase = 0; omega), if_pos (show ({ x with m := mv, steps := x.steps + 1 } : Core).phase = 1 from q)]
     dsimp only
     split
     · refine ⟨⟨hw, hs2, ha, hba, hs, by simp, .inr ⟨o, by simp [q], by simp⟩⟩, ?_, rfl, rfl, rfl, rfl⟩
       rw [hl, if_neg (by omega), if_pos q]
       simp [left]
       omega
     · refine ⟨⟨hw, hs2, ha, hba, hs, fun _ => by simp only []; omega, .inr ⟨o, by simp, fun _ => by simp [q] at r ⊢; exact r⟩⟩, ?_, rfl, rfl, rfl, rfl⟩
       rw [hl, if_neg (by omega), if_pos q]
       simp [left, ho]
       omega
   · unfold stepR
     rw [if_neg (show ¬ ({ x with m := mv, steps := x.steps + 1 } : Core).phase = 0 by show ¬ x.phase = 0; omega), if_neg (show ¬ ({ x with m := mv, steps := x.steps + 1 } : Core).phase = 1 by show ¬ x.phase = 1; omega), if_pos (show ({ x with m := mv, steps := x.steps + 1 } : Core).phase = 2 from q)]
     dsimp only
     split
     · refine ⟨⟨hw, hs2, ha, hba, hs, fun _ => by simp only []; omega, .inr ⟨o, by simp, fun _ => by simp [q] at r ⊢; omega⟩⟩, ?_, rfl, rfl, rfl, rfl⟩
       rw [hl, if_neg (by omega), if_neg (by omega), if_pos q]
       simp [left, ho]
       omega
     · refine ⟨⟨hw, hs2, ha, hba, hs, fun _ => by simp only []; omega, .inr ⟨o, by simp [q], fun _ => by simp [q] at r ⊢; omega⟩⟩, ?_, rfl, rfl, rfl, rfl⟩
       rw [hl, if_neg (by omega), if_neg (by omega), if_pos q]
       simp [left, ho, q]
       omega
   · unfold stepR
     rw [if_neg (show ¬ ({ x with m := mv, steps := x.steps + 1 } : Core).phase = 0 by show ¬ x.phase = 0; omega), if_neg (show ¬ ({ x with m := mv, steps := x.steps + 1 } : Core).phase = 1 by show ¬ x.phase = 1; omega), if_neg (show ¬ ({ x with m := mv, steps := x.steps + 1 } : Core).phase = 2 by show ¬ x.phase = 2; omega)]
     dsimp only
     refine ⟨⟨hw, hs2, ha, hba, hs, by simp, .inr ⟨o, by simp [q], by simp⟩⟩, ?_, rfl, rfl, rfl, rfl⟩
     rw [hl, if_neg (by omega), if_neg (by omega), if_neg (by omega)]
     simp [left]
def K : Kind where
 step := step
 Shape := Shape
 left := left
 ok mv h ho hws := step_ok mv h ho hws
 len := step_len
 pos := left_pos
 zero := left_over
end Go.Proofs.YtphfnjcboellhaaGreatDoor.fifo
