import Derived.Test.YtphfnjcboellhaaGreatDoorSets
import Derived.Test.YtphfnjcboellhaaGreatDoorObjA
import Derived.Deep.Cut
namespace Go.Proofs.YtphfnjcboellhaaGreatDoor.cab
open Go Go.RowKit kit mem rop core obj
set_option maxRecDepth 20000
theorem mul_bd {c w m : Int} (hc : 0 <= c /\ c <= m) (hw : 0 <= w /\ w <= 8) (hm : m <= 16) : 0 <= c * w /\ c * w <= m * w /\ c * w <= 128 := by
 have h1 := Int.mul_nonneg hc.1 hw.1
 have h2 := Int.mul_le_mul_of_nonneg_right hc.2 hw.1
 have h3 := Int.mul_le_mul_of_nonneg_left hw.2 (show 0 <= m by omega)
 omega
theorem data_any (k w s c st : Int) (ia : Option Addr) (il ic : Nat) (wr : Int) (ra : Option Addr) (rl rc : Nat) (hrl : rl <= 100) (W : World) :
 Calls Tryz.prog 95 #[.agg #[.int .i64 k, .int .i64 w, .int .i64 s, .int .i64 c, .int .u32 st, .slice ia il ic, .int .i64 wr, .slice ra rl rc]] W fun e W' => e = .returned (.int .i64 ((1 + rl : Nat) : Int)) /\ Chg [] W W' := by
 have k1 : IntKind.i64.wrap (1 + (rl : Int)) = ((1 + rl : Nat) : Int) := by rw [IntKind.wrap_i64]; omega
 clear hrl
 go_enter Tryz.func95, Tryz.ntmps95
 go_wp2
 go_ret
 exact ⟨rfl, (Chg.refl _ _).alloc _⟩
set_option maxHeartbeats 2000000 in
theorem newest_any {T : TypeId} {bx mb : Nat} {sv r0 : Value} {W0 W : World} {x : Core} {rec ws : List Int} {n : Int} (bN : Nat) (hm : x.m = .pointer (some ⟨mb, 0, none⟩)) (hb : x.base = (bN : Int)) (hn : 0 <= n /\ n <= 1000000) (hj : bN + 0 < ws.length) (hs : 1 <= x.s /\ x.s <= 16) (h : St T bx mb sv W0 r0 W x rec ws n) :
 Calls Tryz.prog 143 #[.pointer (some ⟨bx, 0, none⟩)] W fun e W' => e = .returned (.int .u32 (ws.getD (bN + 0) 0 % x.s)) /\ St T bx mb sv W0 r0 W' x rec ws (n + 1) /\ Chg (mb :: sv.ownBlock.toList) W W' := by
 have H := hid h
 have HM := hid hm
 have HB := hid hb
 have HN := hid hn
 have HJ := hid hj
 have NB : Hid (bx ∉ (mb :: sv.ownBlock.toList)) := hid (by obtain ⟨v, hp, he⟩ := h; simp; exact ⟨hp.ne, fun hh => hp.ns bx hh rfl⟩)
 obtain ⟨vv, hvv⟩ : ∃ vv, ws.getD (bN + 0) 0 = vv := ⟨_, rfl⟩
 have hvb : 0 <= vv /\ vv <= 4294967295 := by rw [<- hvv]; exact u32_bd h.memory hj
 have HVV := hid hvv
 rw [hvv]
 have hmn : x.s ≠ 0 := by omega
 have hm0 : (x.s == 0) = false := by simp; omega
 have kt : Int.tmod vv x.s = vv % x.s := tmod_nn hvb.1
 have hlt := Int.emod_lt_of_pos vv (show 0 < x.s by omega)
 have hge := Int.emod_nonneg vv hmn
 have kw : IntKind.u32.wrap (vv % x.s) = vv % x.s := by rw [IntKind.wrap_u32]; omega
 have ks : IntKind.u32.wrap x.s = x.s := by rw [IntKind.wrap_u32]; omega
 have eS0 : W.cell? ⟨bx, 2, none⟩ = some (.int .i64 x.s) := H.out.cell 2 _ (fun _ => rfl)
 have KEEP := hid (fun (V : World) (h : Chg (mb :: sv.ownBlock.toList) W V) => (⟨h.keep eS0 NB.out, hid h⟩ : (fun V : World => V.cell? ⟨bx, 2, none⟩ = some (.int .i64 x.s) /\ Hid (Chg (mb :: sv.ownBlock.toList) W V)) V))
 clear eS0
 clear h hm hb hn hj hs hvv hvb hlt hge
 go_enter Tryz.func143, Tryz.ntmps143
 go_wp2_with fail
 have hHeld : (fun V : World => V.cell? ⟨bx, 2, none⟩ = some (.int .i64 x.s) /\ Hid (Chg (mb :: sv.ownBlock.toList) W V)) (World.drew W) := KEEP.out _ (Chg.refl _ _).drew
 refine wp_region_plan (fun V : World => V.cell? ⟨bx, 2, none⟩ = some (.int .i64 x.s) /\ Hid (Chg (mb :: sv.ownBlock.toList) W V)) [(0, true, some 3), (1, true, some 4), (2, true, some 5), (4, true, some 7), (5, true, some 8), (6, true, some 9), (7, true, some 10), (8, true, some 11), (9, true, some 12), (10, true, some 13), (3, false, some 6), (11, true, some 14), (12, true, some 2)] (by kernel_rfl) (by kernel_rfl) (by kernel_rfl) (by kernel_rfl) (fun d c a v w h => by cases d <;> exact h) hHeld ?_
 repeat (first | (refine planWp_load rfl rfl rfl 26 _ rfl _ rfl (fun u hSw => hSw.1) ?_; (try simp only [Act.put, sA, sB, sC])) | (refine planWp_read (v := ?_) rfl rfl ?_ ?_ ?_; rotate_left; (focus rfl); (focus (intro u hSw; (try dsimp only at hSw); go_simp; (try with_reducible rfl); done)); (try simp only [Act.put, sA, sB, sC])))
 refine planWp_do rfl rfl ?_ (fun K hK => ?_)
 · rfl
 go_simp
 go_wp2_with (go_at_call 127; refine (Read_at bN 0 HM.out HB.out HJ.out HN.out (H.out.keep (Chg.refl _ _).drew)).mono ?_; rintro e w1 ⟨rfl, hx⟩; rw [HVV.out]; have H1 := hid hx.1; have HC1 := hid ((Chg.refl _ W).drew.trans hx.2.2); clear hx)
 refine hK.out _ _ (KEEP.out _ HC1.out) (fun hHeld2 => ?_)
 clear hK K hHeld
 have hHeld := hHeld2
 clear hHeld2
 try simp only [Act.put, sA, sB, sC]
 repeat (first | (refine planWp_load rfl rfl rfl 26 _ rfl _ rfl (fun u hSw => hSw.1) ?_; (try simp only [Act.put, sA, sB, sC])) | (refine planWp_read (v := ?_) rfl rfl ?_ ?_ ?_; rotate_left; (focus rfl); (focus (intro u hSw; (try dsimp only at hSw); go_simp; (try with_reducible rfl); done)); (try simp only [Act.put, sA, sB, sC])))
 refine planWp_nil ?_
 clear hHeld KEEP
 go_wp2_with fail
 go_ret
 exact ⟨rfl, H1.out, HC1.out⟩
def place (x : Core) (sl : Int) : Nat := 1 + x.rl + (sl * x.w).toNat
set_option maxHeartbeats 2000000 in
theorem from_any {T : TypeId} {bx mb : Nat} {sv r0 : Value} {W0 W : World} {x : Core} {rec ws : List Int} {n : Int} (sl : Int) (hsl : 0 <= sl /\ sl <= 16) (hw : 1 <= x.w /\ x.w <= 8) (hrl : x.rl <= 100) (h : St T bx mb sv W0 r0 W x rec ws n) :
 Calls Tryz.prog 145 #[.pointer (some ⟨bx, 0, none⟩), .int .u32 sl] W fun e W' => e = .returned (.int .i64 ((place x sl : Nat) : Int)) /\ Chg [] W W' := by
 have H := hid h
 have hb := mul_bd (c := sl) (w := x.w) (m := 16) hsl ⟨by omega, hw.2⟩ (by omega)
 have k1 : IntKind.i64.wrap sl = sl := by rw [IntKind.wrap_i64]; omega
 have k2 : IntKind.i64.wrap (sl * x.w) = sl * x.w := by rw [IntKind.wrap_i64]; omega
 have k3 : IntKind.i64.wrap (((1 + x.rl : Nat) : Int) + sl * x.w) = ((place x sl : Nat) : Int) := by unfold place; rw [IntKind.wrap_i64]; omega
 have k4 : IntKind.i64.wrap ((1 + (x.rl : Int)) + sl * x.w) = ((place x sl : Nat) : Int) := by unfold place; rw [IntKind.wrap_i64]; omega
 have HDT := hid (fun V => data_any x.k x.w x.s x.c x.st x.ia x.il x.ic x.wr x.ra x.rl x.rc hrl V)
 have eS0 : W.cell? ⟨bx, 1, none⟩ = some (.int .i64 x.w) := H.out.cell 1 _ (fun _ => rfl)
 have KEEP := hid (fun (V : World) (h : Chg [] W V) => (⟨H.out.loadO h (by simp), h.keep eS0 (by simp), hid h⟩ : (fun V : World => (Instr.loadAt 26 (.pointer (some ⟨bx, 0, none⟩))).run Tryz.prog V = .ok (.agg #[.int .i64 x.k, .int .i64 x.w, .int .i64 x.s, .int .i64 x.c, .int .u32 x.st, .slice x.ia x.il x.ic, .int .i64 x.wr, .slice x.ra x.rl x.rc]) V /\ V.cell? ⟨bx, 1, none⟩ = some (.int .i64 x.w) /\ Hid (Chg [] W V)) V))
 clear eS0
 generalize place x sl = pl at *
 clear h hb hsl hw hrl
 go_enter Tryz.func145, Tryz.ntmps145
 go_wp2_with fail
 have hHeld : (fun V : World => (Instr.loadAt 26 (.pointer (some ⟨bx, 0, none⟩))).run Tryz.prog V = .ok (.agg #[.int .i64 x.k, .int .i64 x.w, .int .i64 x.s, .int .i64 x.c, .int .u32 x.st, .slice x.ia x.il x.ic, .int .i64 x.wr, .slice x.ra x.rl x.rc]) V /\ V.cell? ⟨bx, 1, none⟩ = some (.int .i64 x.w) /\ Hid (Chg [] W V)) (World.drew W) := KEEP.out _ (Chg.refl _ _).drew
 refine wp_region_plan (fun V : World => (Instr.loadAt 26 (.pointer (some ⟨bx, 0, none⟩))).run Tryz.prog V = .ok (.agg #[.int .i64 x.k, .int .i64 x.w, .int .i64 x.s, .int .i64 x.c, .int .u32 x.st, .slice x.ia x.il x.ic, .int .i64 x.wr, .slice x.ra x.rl x.rc]) V /\ V.cell? ⟨bx, 1, none⟩ = some (.int .i64 x.w) /\ Hid (Chg [] W V)) [(0, true, some 5), (1, true, some 6), (2, true, some 7), (3, true, some 8), (4, true, some 9), (6, true, some 11), (7, true, some 12), (8, true, some 13), (9, true, some 14), (10, true, some 15), (11, true, some 16), (12, true, some 17), (13, true, some 18), (14, true, some 19), (5, false, some 10), (15, true, some 20), (16, true, some 4)] (by kernel_rfl) (by kernel_rfl) (by kernel_rfl) (by kernel_rfl) (fun d c a v w h => by cases d <;> exact h) hHeld ?_
 repeat (first | (refine planWp_load rfl rfl rfl 26 _ rfl _ rfl (fun u hSw => hSw.1) ?_; (try simp only [Act.put, sA, sB, sC])) | (refine planWp_read (v := ?_) rfl rfl ?_ ?_ ?_; rotate_left; (focus rfl); (focus (intro u hSw; (try dsimp only at hSw); go_simp; (try with_reducible rfl); done)); (try simp only [Act.put, sA, sB, sC])))
 refine planWp_do rfl rfl ?_ (fun K hK => ?_)
 · rfl
 go_simp
 go_wp2_with (go_at_call 95; refine (HDT.out _).mono ?_; rintro e w2 ⟨rfl, hx⟩; have HC2 := hid ((Chg.refl [] W).drew.trans hx); clear hx)
 refine hK.out _ _ (KEEP.out _ HC2.out) (fun hHeld2 => ?_)
 clear hK K hHeld
 have hHeld := hHeld2
 clear hHeld2
 try simp only [Act.put, sA, sB, sC]
 repeat (first | (refine planWp_load rfl rfl rfl 26 _ rfl _ rfl (fun u hSw => hSw.1) ?_; (try simp only [Act.put, sA, sB, sC])) | (refine planWp_read (v := ?_) rfl rfl ?_ ?_ ?_; rotate_left; (focus rfl); (focus (intro u hSw; (try dsimp only at hSw); go_simp; (try with_reducible rfl); done)); (try simp only [Act.put, sA, sB, sC])))
 refine planWp_nil ?_
 clear hHeld KEEP
 go_wp2_with fail
 go_ret
 exact ⟨rfl, HC2.out⟩
set_option maxHeartbeats 4000000 in
theorem scan_any {T : TypeId} {bx mb : Nat} {sv r0 : Value} {W0 W : World} {x : Core} {rec ws : List Int} {n : Int} (bN iN : Nat) (hT : ∀ V x' rec' ws' n', St T bx mb sv W0 r0 V x' rec' ws' n' -> bitm.Tab V) (hm : x.m = .pointer (some ⟨mb, 0, none⟩)) (hb : x.base = (bN : Int)) (hn : 0 <= n /\ n <= 1000000) (hi : x.i = (iN : Int)) (hil : iN < 100) (hrl : x.rl <= 100) (ha : 0 <= x.a /\ x.a <= 4294967295) (hu : 0 <= x.used /\ x.used < 2097152) (hj : bN + (1 + iN) < ws.length) (h : St T bx mb sv W0 r0 W x rec ws n) :
 Calls Tryz.prog 144 #[.pointer (some ⟨bx, 0, none⟩)] W fun e W' => e = .returned (.tuple #[]) /\ St T bx mb sv W0 r0 W' (if x.rl <= iN + 1 then { x with used := bitm.markU (if 0 < (ws.getD (bN + (1 + iN)) 0) then bitm.markU x.used ((ws.getD (bN + (1 + iN)) 0) - 1) else x.used) x.a, b := bitm.freeU (bitm.markU (if 0 < (ws.getD (bN + (1 + iN)) 0) then bitm.markU x.used ((ws.getD (bN + (1 + iN)) 0) - 1) else x.used) x.a), phase := 2, i := 0 } else { x with used := (if 0 < (ws.getD (bN + (1 + iN)) 0) then bitm.markU x.used ((ws.getD (bN + (1 + iN)) 0) - 1) else x.used), i := (iN : Int) + 1 }) rec ws (n + 1) := by
 have H := hid h
 have HM := hid hm
 have HB := hid hb
 have HN := hid hn
 have NB : Hid (bx ∉ (mb :: sv.ownBlock.toList)) := hid (by obtain ⟨v, hp, he⟩ := h; simp; exact ⟨hp.ne, fun hh => hp.ns bx hh rfl⟩)
 obtain ⟨vv, hvv⟩ : ∃ vv, ws.getD (bN + (1 + iN)) 0 = vv := ⟨_, rfl⟩
 have hvb : 0 <= vv /\ vv <= 4294967295 := by rw [<- hvv]; exact u32_bd h.memory hj
 have HVV := hid hvv
 rw [hvv]
 have hadd : IntKind.i64.wrap (1 + (iN : Int)) = ((1 + iN : Nat) : Int) := by rw [IntKind.wrap_i64]; omega
 have HJ := hid hj
 have HA := hid ha
 have HTT := hid hT
 have HI : Hid (0 <= x.i /\ x.i <= 1000000) := hid (by omega)
 have HII := hid hi
 have eS0 : W.cell? ⟨bx, 11, none⟩ = some (.int .i64 (iN : Int)) := by rw [<- hi]; exact H.out.cell 11 _ (fun _ => rfl)
 have KEEP := hid (fun (V : World) (h : Chg (mb :: sv.ownBlock.toList) W V) => (⟨h.keep eS0 NB.out, hid h⟩ : (fun V : World => V.cell? ⟨bx, 11, none⟩ = some (.int .i64 (iN : Int)) /\ Hid (Chg (mb :: sv.ownBlock.toList) W V)) V))
 clear eS0
 clear h hm hb hn hj ha hrl hvv hT hi
 have HU := hid hu
 have hm0 := bitm.markU_bd hu HA.out.1
 have HU2 := hid hm0
 by_cases hp : 0 < vv
 · rw [if_pos hp]
   have HV1 : Hid (0 <= vv - 1 /\ vv - 1 <= 4294967295) := hid (by omega)
   have hm1 := bitm.markU_bd hu HV1.out.1
   have HUM := hid hm1
   have HUM2 := hid (bitm.markU_bd hm1 HA.out.1)
   have kv : IntKind.u32.wrap (vv - 1) = vv - 1 := by rw [IntKind.wrap_u32]; omega
   have hpb : decide (0 < vv) = true := by simpa using hp
   clear hu hm0 hm1
   by_cases hle : x.rl <= iN + 1
   · rw [if_pos hle]
     have HDEC : Hid (decide ((x.rl : Int) <= x.i + 1) = true) := hid (by rw [HII.out]; simpa using (by omega : (x.rl : Int) <= (iN : Int) + 1))
     clear hle
     go_enter Tryz.func144, Tryz.ntmps144
     go_wp2_with fail
     have hHeld : (fun V : World => V.cell? ⟨bx, 11, none⟩ = some (.int .i64 (iN : Int)) /\ Hid (Chg (mb :: sv.ownBlock.toList) W V)) (World.drew W) := KEEP.out _ (Chg.refl _ _).drew
     refine wp_region_plan (fun V : World => V.cell? ⟨bx, 11, none⟩ = some (.int .i64 (iN : Int)) /\ Hid (Chg (mb :: sv.ownBlock.toList) W V)) [(0, true, some 3), (1, true, some 4), (2, true, some 5), (3, true, some 6), (4, true, some 7), (5, true, some 8), (6, true, some 9), (7, true, some 10), (8, true, some 11), (9, false, some 12), (10, true, some 2)] (by kernel_rfl) (by kernel_rfl) (by kernel_rfl) (by kernel_rfl) (fun d c a v w h => by cases d <;> exact h) hHeld ?_
     repeat (first | (refine planWp_load rfl rfl rfl 26 _ rfl _ rfl (fun u hSw => hSw.1) ?_; (try simp only [Act.put, sA, sB, sC])) | (refine planWp_read (v := ?_) rfl rfl ?_ ?_ ?_; rotate_left; (focus rfl); (focus (intro u hSw; (try dsimp only at hSw); go_simp; (try with_reducible rfl); done)); (try simp only [Act.put, sA, sB, sC])))
     refine planWp_do rfl rfl ?_ (fun K hK => ?_)
     · rfl
     go_simp
     go_wp2_with (go_at_call 127; refine (Read_at bN (1 + iN) HM.out HB.out HJ.out HN.out (H.out.keep (Chg.refl _ _).drew)).mono ?_; rintro e w1 ⟨rfl, hx⟩; rw [HVV.out]; have H1 := hid hx.1; have HC1 := hid ((Chg.refl _ W).drew.trans hx.2.2); clear hx)
     refine hK.out _ _ (KEEP.out _ HC1.out) (fun hHeld2 => ?_)
     clear hK K hHeld
     have hHeld := hHeld2
     clear hHeld2
     try simp only [Act.put, sA, sB, sC]
     repeat (first | (refine planWp_load rfl rfl rfl 26 _ rfl _ rfl (fun u hSw => hSw.1) ?_; (try simp only [Act.put, sA, sB, sC])) | (refine planWp_read (v := ?_) rfl rfl ?_ ?_ ?_; rotate_left; (focus rfl); (focus (intro u hSw; (try dsimp only at hSw); go_simp; (try with_reducible rfl); done)); (try simp only [Act.put, sA, sB, sC])))
     refine planWp_nil ?_
     clear hHeld KEEP
     go_upto_region 3 with (go_at_call 152; refine (Mark_any (vv - 1) HV1.out HU.out H1.out).mono ?_; rintro e w2 ⟨rfl, hx⟩; have H2 := hid hx; clear hx)
     have hHeld : (fun V : World => V.cell? ⟨bx, 7, none⟩ = some (.slice x.ra x.rl x.rc)) (World.drew w2) := (H2.out.keep (Chg.refl _ _).drew).cell 7 _ (fun _ => rfl)
     refine wp_region_plan (fun V : World => V.cell? ⟨bx, 7, none⟩ = some (.slice x.ra x.rl x.rc)) [(0, true, some 21), (1, true, some 22), (2, true, some 23), (3, true, some 24), (4, true, some 25), (5, true, some 26), (6, true, some 27), (7, true, some 28), (8, true, some 29), (9, true, some 30), (10, false, some 31), (11, true, some 32)] (by kernel_rfl) (by kernel_rfl) (by kernel_rfl) (by kernel_rfl) (fun d c a v w h => by cases d <;> exact h) hHeld ?_
     repeat (first | (refine planWp_load rfl rfl rfl 26 _ rfl _ rfl (fun u hSw => hSw.1) ?_; (try simp only [Act.put, sA, sB, sC])) | (refine planWp_read (v := ?_) rfl rfl ?_ ?_ ?_; rotate_left; (focus rfl); (focus (intro u hSw; (try dsimp only at hSw); go_simp; (try with_reducible rfl); done)); (try simp only [Act.put, sA, sB, sC])))
     refine planWp_do rfl rfl ?_ (fun K hK => ?_)
     · rfl
     go_simp
     go_wp2_with (go_at_call 137; refine (Each_any (x := { x with used := (bitm.markU x.used (vv - 1)) }) (x.rl : Int) HI.out (H2.out.keep (Chg.refl _ _).drew)).mono ?_; rintro e w3 ⟨he, hx⟩; rw [show e = .returned (.bool true) from he.trans (congrArg (fun b => Ending.returned (Value.bool b)) HDEC.out)]; clear he; have H3 := hid hx; clear hx)
     refine hK.out _ _ (H3.out.cell 7 _ (fun _ => rfl)) (fun hHeld2 => ?_)
     clear hK K hHeld
     have hHeld := hHeld2
     clear hHeld2
     try simp only [Act.put, sA, sB, sC]
     repeat (first | (refine planWp_load rfl rfl rfl 26 _ rfl _ rfl (fun u hSw => hSw.1) ?_; (try simp only [Act.put, sA, sB, sC])) | (refine planWp_read (v := ?_) rfl rfl ?_ ?_ ?_; rotate_left; (focus rfl); (focus (intro u hSw; (try dsimp only at hSw); go_simp; (try with_reducible rfl); done)); (try simp only [Act.put, sA, sB, sC])))
     refine planWp_nil ?_
     clear hHeld
     go_upto_region 4 with fail
     have eS0 : w3.cell? ⟨bx, 13, none⟩ = some (.int .u32 x.a) := H3.out.cell 13 _ (fun _ => rfl)
     have KEEP := hid (fun (V : World) (h : Chg [] w3 V) => (⟨h.keep eS0 (by simp), hid h⟩ : (fun V : World => V.cell? ⟨bx, 13, none⟩ = some (.int .u32 x.a) /\ Hid (Chg [] w3 V)) V))
     clear eS0
     have hHeld : (fun V : World => V.cell? ⟨bx, 13, none⟩ = some (.int .u32 x.a) /\ Hid (Chg [] w3 V)) (World.drew w3) := KEEP.out _ (Chg.refl _ _).drew
     refine wp_region_planT (fun V : World => V.cell? ⟨bx, 13, none⟩ = some (.int .u32 x.a) /\ Hid (Chg [] w3 V)) 8 [(0, true, some 33), (1, true, some 34), (2, true, some 35), (3, true, some 36), (4, true, some 37), (5, true, some 38), (6, true, some 39), (7, true, some 40)] (by kernel_rfl) (by kernel_rfl) (by kernel_rfl) (by kernel_rfl) (by kernel_rfl) (fun d c a v w h => by cases d <;> exact h) hHeld ?_
     repeat (first | (refine planT_load rfl rfl rfl 26 _ rfl _ rfl (fun u hSw => hSw.1) ?_; (try simp only [Act.put, sA, sB, sC])) | (refine planT_read (v := ?_) rfl rfl ?_ ?_ ?_; rotate_left; (focus rfl); (focus (intro u hSw; (try dsimp only at hSw); go_simp; (try with_reducible rfl); done)); (try simp only [Act.put, sA, sB, sC])))
     refine planT_last rfl ?_ (fun K hK => ?_)
     · rfl
     go_simp
     go_wp2_with (go_at_call 152; refine (Mark_any (x := { x with used := (bitm.markU x.used (vv - 1)), i := x.i + 1 }) x.a HA.out HUM.out (H3.out.keep (Chg.refl _ _).drew)).mono ?_; rintro e w4 ⟨rfl, hx⟩; have H4 := hid hx; clear hx)
     refine hK.out _ _ ?_
     clear hK K hHeld KEEP
     have e14 := H4.out.cell 14 _ (fun _ => rfl)
     have f14 := H4.out.free 14
     go_wp2_with (first | (go_at_call 153; refine (Free_any (x := { x with used := bitm.markU (bitm.markU x.used (vv - 1)) x.a, i := x.i + 1 }) (HTT.out _ _ _ _ _ H4.out) HUM2.out H4.out).mono ?_; rintro e w5 ⟨rfl, rfl⟩; have H5 := hid (H4.out.put 14 (.int .u32 (bitm.freeU (bitm.markU (bitm.markU x.used (vv - 1)) x.a))) { x with used := bitm.markU (bitm.markU x.used (vv - 1)) x.a, i := x.i + 1, b := bitm.freeU (bitm.markU (bitm.markU x.used (vv - 1)) x.a) } (fun _ => rfl))) | (go_at_call 128; refine (Go_any 2 H5.out).mono ?_; rintro e w6 ⟨rfl, hx⟩; have H6 := hid hx; clear hx))
     all_goals (first | (go_end0; exact ⟨rfl, H6.out⟩) | (refine bodyPost_ret (results_none rfl _ _ _) rfl ?_; exact ⟨rfl, H6.out⟩))
   · rw [if_neg hle]
     have HDEC : Hid (decide ((x.rl : Int) <= x.i + 1) = false) := hid (by rw [HII.out]; simpa using (by omega : ¬ (x.rl : Int) <= (iN : Int) + 1))
     clear hle
     go_enter Tryz.func144, Tryz.ntmps144
     go_wp2_with fail
     have hHeld : (fun V : World => V.cell? ⟨bx, 11, none⟩ = some (.int .i64 (iN : Int)) /\ Hid (Chg (mb :: sv.ownBlock.toList) W V)) (World.drew W) := KEEP.out _ (Chg.refl _ _).drew
     refine wp_region_plan (fun V : World => V.cell? ⟨bx, 11, none⟩ = some (.int .i64 (iN : Int)) /\ Hid (Chg (mb :: sv.ownBlock.toList) W V)) [(0, true, some 3), (1, true, some 4), (2, true, some 5), (3, true, some 6), (4, true, some 7), (5, true, some 8), (6, true, some 9), (7, true, some 10), (8, true, some 11), (9, false, some 12), (10, true, some 2)] (by kernel_rfl) (by kernel_rfl) (by kernel_rfl) (by kernel_rfl) (fun d c a v w h => by cases d <;> exact h) hHeld ?_
     repeat (first | (refine planWp_load rfl rfl rfl 26 _ rfl _ rfl (fun u hSw => hSw.1) ?_; (try simp only [Act.put, sA, sB, sC])) | (refine planWp_read (v := ?_) rfl rfl ?_ ?_ ?_; rotate_left; (focus rfl); (focus (intro u hSw; (try dsimp only at hSw); go_simp; (try with_reducible rfl); done)); (try simp only [Act.put, sA, sB, sC])))
     refine planWp_do rfl rfl ?_ (fun K hK => ?_)
     · rfl
     go_simp
     go_wp2_with (go_at_call 127; refine (Read_at bN (1 + iN) HM.out HB.out HJ.out HN.out (H.out.keep (Chg.refl _ _).drew)).mono ?_; rintro e w1 ⟨rfl, hx⟩; rw [HVV.out]; have H1 := hid hx.1; have HC1 := hid ((Chg.refl _ W).drew.trans hx.2.2); clear hx)
     refine hK.out _ _ (KEEP.out _ HC1.out) (fun hHeld2 => ?_)
     clear hK K hHeld
     have hHeld := hHeld2
     clear hHeld2
     try simp only [Act.put, sA, sB, sC]
     repeat (first | (refine planWp_load rfl rfl rfl 26 _ rfl _ rfl (fun u hSw => hSw.1) ?_; (try simp only [Act.put, sA, sB, sC])) | (refine planWp_read (v := ?_) rfl rfl ?_ ?_ ?_; rotate_left; (focus rfl); (focus (intro u hSw; (try dsimp only at hSw); go_simp; (try with_reducible rfl); done)); (try simp only [Act.put, sA, sB, sC])))
     refine planWp_nil ?_
     clear hHeld KEEP
     go_upto_region 3 with (go_at_call 152; refine (Mark_any (vv - 1) HV1.out HU.out H1.out).mono ?_; rintro e w2 ⟨rfl, hx⟩; have H2 := hid hx; clear hx)
     have hHeld : (fun V : World => V.cell? ⟨bx, 7, none⟩ = some (.slice x.ra x.rl x.rc)) (World.drew w2) := (H2.out.keep (Chg.refl _ _).drew).cell 7 _ (fun _ => rfl)
     refine wp_region_plan (fun V : World => V.cell? ⟨bx, 7, none⟩ = some (.slice x.ra x.rl x.rc)) [(0, true, some 21), (1, true, some 22), (2, true, some 23), (3, true, some 24), (4, true, some 25), (5, true, some 26), (6, true, some 27), (7, true, some 28), (8, true, some 29), (9, true, some 30), (10, false, some 31), (11, true, some 32)] (by kernel_rfl) (by kernel_rfl) (by kernel_rfl) (by kernel_rfl) (fun d c a v w h => by cases d <;> exact h) hHeld ?_
     repeat (first | (refine planWp_load rfl rfl rfl 26 _ rfl _ rfl (fun u hSw => hSw.1) ?_; (try simp only [Act.put, sA, sB, sC])) | (refine planWp_read (v := ?_) rfl rfl ?_ ?_ ?_; rotate_left; (focus rfl); (focus (intro u hSw; (try dsimp only at hSw); go_simp; (try with_reducible rfl); done)); (try simp only [Act.put, sA, sB, sC])))
     refine planWp_do rfl rfl ?_ (fun K hK => ?_)
     · rfl
     go_simp
     go_wp2_with (go_at_call 137; refine (Each_any (x := { x with used := (bitm.markU x.used (vv - 1)) }) (x.rl : Int) HI.out (H2.out.keep (Chg.refl _ _).drew)).mono ?_; rintro e w3 ⟨he, hx⟩; rw [show e = .returned (.bool false) from he.trans (congrArg (fun b => Ending.returned (Value.bool b)) HDEC.out)]; clear he; have H3 := hid hx; clear hx)
     refine hK.out _ _ (H3.out.cell 7 _ (fun _ => rfl)) (fun hHeld2 => ?_)
     clear hK K hHeld
     have hHeld := hHeld2
     clear hHeld2
     try simp only [Act.put, sA, sB, sC]
     repeat (first | (refine planWp_load rfl rfl rfl 26 _ rfl _ rfl (fun u hSw => hSw.1) ?_; (try simp only [Act.put, sA, sB, sC])) | (refine planWp_read (v := ?_) rfl rfl ?_ ?_ ?_; rotate_left; (focus rfl); (focus (intro u hSw; (try dsimp only at hSw); go_simp; (try with_reducible rfl); done)); (try simp only [Act.put, sA, sB, sC])))
     refine planWp_nil ?_
     clear hHeld
     go_wp2_with fail
     refine bodyPost_ret (results_none rfl _ _ _) rfl ?_
     refine ⟨rfl, ?_⟩
     have h9 := H3.out
     rw [show ({ x with used := (bitm.markU x.used (vv - 1)) } : Core).i + 1 = (iN : Int) + 1 from by show x.i + 1 = _; rw [HII.out]] at h9
     exact h9
 · rw [if_neg hp]
   have hpb : decide (0 < vv) = false := by simpa using hp
   clear hu hm0
   by_cases hle : x.rl <= iN + 1
   · rw [if_pos hle]
     have HDEC : Hid (decide ((x.rl : Int) <= x.i + 1) = true) := hid (by rw [HII.out]; simpa using (by omega : (x.rl : Int) <= (iN : Int) + 1))
     clear hle
     go_enter Tryz.func144, Tryz.ntmps144
     go_wp2_with fail
     have hHeld : (fun V : World => V.cell? ⟨bx, 11, none⟩ = some (.int .i64 (iN : Int)) /\ Hid (Chg (mb :: sv.ownBlock.toList) W V)) (World.drew W) := KEEP.out _ (Chg.refl _ _).drew
     refine wp_region_plan (fun V : World => V.cell? ⟨bx, 11, none⟩ = some (.int .i64 (iN : Int)) /\ Hid (Chg (mb :: sv.ownBlock.toList) W V)) [(0, true, some 3), (1, true, some 4), (2, true, some 5), (3, true, some 6), (4, true, some 7), (5, true, some 8), (6, true, some 9), (7, true, some 10), (8, true, some 11), (9, false, some 12), (10, true, some 2)] (by kernel_rfl) (by kernel_rfl) (by kernel_rfl) (by kernel_rfl) (fun d c a v w h => by cases d <;> exact h) hHeld ?_
     repeat (first | (refine planWp_load rfl rfl rfl 26 _ rfl _ rfl (fun u hSw => hSw.1) ?_; (try simp only [Act.put, sA, sB, sC])) | (refine planWp_read (v := ?_) rfl rfl ?_ ?_ ?_; rotate_left; (focus rfl); (focus (intro u hSw; (try dsimp only at hSw); go_simp; (try with_reducible rfl); done)); (try simp only [Act.put, sA, sB, sC])))
     refine planWp_do rfl rfl ?_ (fun K hK => ?_)
     · rfl
     go_simp
     go_wp2_with (go_at_call 127; refine (Read_at bN (1 + iN) HM.out HB.out HJ.out HN.out (H.out.keep (Chg.refl _ _).drew)).mono ?_; rintro e w1 ⟨rfl, hx⟩; rw [HVV.out]; have H1 := hid hx.1; have HC1 := hid ((Chg.refl _ W).drew.trans hx.2.2); clear hx)
     refine hK.out _ _ (KEEP.out _ HC1.out) (fun hHeld2 => ?_)
     clear hK K hHeld
     have hHeld := hHeld2
     clear hHeld2
     try simp only [Act.put, sA, sB, sC]
     repeat (first | (refine planWp_load rfl rfl rfl 26 _ rfl _ rfl (fun u hSw => hSw.1) ?_; (try simp only [Act.put, sA, sB, sC])) | (refine planWp_read (v := ?_) rfl rfl ?_ ?_ ?_; rotate_left; (focus rfl); (focus (intro u hSw; (try dsimp only at hSw); go_simp; (try with_reducible rfl); done)); (try simp only [Act.put, sA, sB, sC])))
     refine planWp_nil ?_
     clear hHeld KEEP
     go_upto_region 3 with fail
     have hHeld : (fun V : World => V.cell? ⟨bx, 7, none⟩ = some (.slice x.ra x.rl x.rc)) (World.drew w1) := (H1.out.keep (Chg.refl _ _).drew).cell 7 _ (fun _ => rfl)
     refine wp_region_plan (fun V : World => V.cell? ⟨bx, 7, none⟩ = some (.slice x.ra x.rl x.rc)) [(0, true, some 21), (1, true, some 22), (2, true, some 23), (3, true, some 24), (4, true, some 25), (5, true, some 26), (6, true, some 27), (7, true, some 28), (8, true, some 29), (9, true, some 30), (10, false, some 31), (11, true, some 32)] (by kernel_rfl) (by kernel_rfl) (by kernel_rfl) (by kernel_rfl) (fun d c a v w h => by cases d <;> exact h) hHeld ?_
     repeat (first | (refine planWp_load rfl rfl rfl 26 _ rfl _ rfl (fun u hSw => hSw.1) ?_; (try simp only [Act.put, sA, sB, sC])) | (refine planWp_read (v := ?_) rfl rfl ?_ ?_ ?_; rotate_left; (focus rfl); (focus (intro u hSw; (try dsimp only at hSw); go_simp; (try with_reducible rfl); done)); (try simp only [Act.put, sA, sB, sC])))
     refine planWp_do rfl rfl ?_ (fun K hK => ?_)
     · rfl
     go_simp
     go_wp2_with (go_at_call 137; refine (Each_any (x := x) (x.rl : Int) HI.out (H1.out.keep (Chg.refl _ _).drew)).mono ?_; rintro e w3 ⟨he, hx⟩; rw [show e = .returned (.bool true) from he.trans (congrArg (fun b => Ending.returned (Value.bool b)) HDEC.out)]; clear he; have H3 := hid hx; clear hx)
     refine hK.out _ _ (H3.out.cell 7 _ (fun _ => rfl)) (fun hHeld2 => ?_)
     clear hK K hHeld
     have hHeld := hHeld2
     clear hHeld2
     try simp only [Act.put, sA, sB, sC]
     repeat (first | (refine planWp_load rfl rfl rfl 26 _ rfl _ rfl (fun u hSw => hSw.1) ?_; (try simp only [Act.put, sA, sB, sC])) | (refine planWp_read (v := ?_) rfl rfl ?_ ?_ ?_; rotate_left; (focus rfl); (focus (intro u hSw; (try dsimp only at hSw); go_simp; (try with_reducible rfl); done)); (try simp only [Act.put, sA, sB, sC])))
     refine planWp_nil ?_
     clear hHeld
     go_upto_region 4 with fail
     have eS0 : w3.cell? ⟨bx, 13, none⟩ = some (.int .u32 x.a) := H3.out.cell 13 _ (fun _ => rfl)
     have KEEP := hid (fun (V : World) (h : Chg [] w3 V) => (⟨h.keep eS0 (by simp), hid h⟩ : (fun V : World => V.cell? ⟨bx, 13, none⟩ = some (.int .u32 x.a) /\ Hid (Chg [] w3 V)) V))
     clear eS0
     have hHeld : (fun V : World => V.cell? ⟨bx, 13, none⟩ = some (.int .u32 x.a) /\ Hid (Chg [] w3 V)) (World.drew w3) := KEEP.out _ (Chg.refl _ _).drew
     refine wp_region_planT (fun V : World => V.cell? ⟨bx, 13, none⟩ = some (.int .u32 x.a) /\ Hid (Chg [] w3 V)) 8 [(0, true, some 33), (1, true, some 34), (2, true, some 35), (3, true, some 36), (4, true, some 37), (5, true, some 38), (6, true, some 39), (7, true, some 40)] (by kernel_rfl) (by kernel_rfl) (by kernel_rfl) (by kernel_rfl) (by kernel_rfl) (fun d c a v w h => by cases d <;> exact h) hHeld ?_
     repeat (first | (refine planT_load rfl rfl rfl 26 _ rfl _ rfl (fun u hSw => hSw.1) ?_; (try simp only [Act.put, sA, sB, sC])) | (refine planT_read (v := ?_) rfl rfl ?_ ?_ ?_; rotate_left; (focus rfl); (focus (intro u hSw; (try dsimp only at hSw); go_simp; (try with_reducible rfl); done)); (try simp only [Act.put, sA, sB, sC])))
     refine planT_last rfl ?_ (fun K hK => ?_)
     · rfl
     go_simp
     go_wp2_with (go_at_call 152; refine (Mark_any (x := { x with used := x.used, i := x.i + 1 }) x.a HA.out HU.out (H3.out.keep (Chg.refl _ _).drew)).mono ?_; rintro e w4 ⟨rfl, hx⟩; have H4 := hid hx; clear hx)
     refine hK.out _ _ ?_
     clear hK K hHeld KEEP
     have e14 := H4.out.cell 14 _ (fun _ => rfl)
     have f14 := H4.out.free 14
     go_wp2_with (first | (go_at_call 153; refine (Free_any (x := { x with used := bitm.markU x.used x.a, i := x.i + 1 }) (HTT.out _ _ _ _ _ H4.out) HU2.out H4.out).mono ?_; rintro e w5 ⟨rfl, rfl⟩; have H5 := hid (H4.out.put 14 (.int .u32 (bitm.freeU (bitm.markU x.used x.a))) { x with used := bitm.markU x.used x.a, i := x.i + 1, b := bitm.freeU (bitm.markU x.used x.a) } (fun _ => rfl))) | (go_at_call 128; refine (Go_any 2 H5.out).mono ?_; rintro e w6 ⟨rfl, hx⟩; have H6 := hid hx; clear hx))
     all_goals (first | (go_end0; exact ⟨rfl, H6.out⟩) | (refine bodyPost_ret (results_none rfl _ _ _) rfl ?_; exact ⟨rfl, H6.out⟩))
   · rw [if_neg hle]
     have HDEC : Hid (decide ((x.rl : Int) <= x.i + 1) = false) := hid (by rw [HII.out]; simpa using (by omega : ¬ (x.rl : Int) <= (iN : Int) + 1))
     clear hle
     go_enter Tryz.func144, Tryz.ntmps144
     go_wp2_with fail
     have hHeld : (fun V : World => V.cell? ⟨bx, 11, none⟩ = some (.int .i64 (iN : Int)) /\ Hid (Chg (mb :: sv.ownBlock.toList) W V)) (World.drew W) := KEEP.out _ (Chg.refl _ _).drew
     refine wp_region_plan (fun V : World => V.cell? ⟨bx, 11, none⟩ = some (.int .i64 (iN : Int)) /\ Hid (Chg (mb :: sv.ownBlock.toList) W V)) [(0, true, some 3), (1, true, some 4), (2, true, some 5), (3, true, some 6), (4, true, some 7), (5, true, some 8), (6, true, some 9), (7, true, some 10), (8, true, some 11), (9, false, some 12), (10, true, some 2)] (by kernel_rfl) (by kernel_rfl) (by kernel_rfl) (by kernel_rfl) (fun d c a v w h => by cases d <;> exact h) hHeld ?_
     repeat (first | (refine planWp_load rfl rfl rfl 26 _ rfl _ rfl (fun u hSw => hSw.1) ?_; (try simp only [Act.put, sA, sB, sC])) | (refine planWp_read (v := ?_) rfl rfl ?_ ?_ ?_; rotate_left; (focus rfl); (focus (intro u hSw; (try dsimp only at hSw); go_simp; (try with_reducible rfl); done)); (try simp only [Act.put, sA, sB, sC])))
     refine planWp_do rfl rfl ?_ (fun K hK => ?_)
     · rfl
     go_simp
     go_wp2_with (go_at_call 127; refine (Read_at bN (1 + iN) HM.out HB.out HJ.out HN.out (H.out.keep (Chg.refl _ _).drew)).mono ?_; rintro e w1 ⟨rfl, hx⟩; rw [HVV.out]; have H1 := hid hx.1; have HC1 := hid ((Chg.refl _ W).drew.trans hx.2.2); clear hx)
     refine hK.out _ _ (KEEP.out _ HC1.out) (fun hHeld2 => ?_)
     clear hK K hHeld
     have hHeld := hHeld2
     clear hHeld2
     try simp only [Act.put, sA, sB, sC]
     repeat (first | (refine planWp_load rfl rfl rfl 26 _ rfl _ rfl (fun u hSw => hSw.1) ?_; (try simp only [Act.put, sA, sB, sC])) | (refine planWp_read (v := ?_) rfl rfl ?_ ?_ ?_; rotate_left; (focus rfl); (focus (intro u hSw; (try dsimp only at hSw); go_simp; (try with_reducible rfl); done)); (try simp only [Act.put, sA, sB, sC])))
     refine planWp_nil ?_
     clear hHeld KEEP
     go_upto_region 3 with fail
     have hHeld : (fun V : World => V.cell? ⟨bx, 7, none⟩ = some (.slice x.ra x.rl x.rc)) (World.drew w1) := (H1.out.keep (Chg.refl _ _).drew).cell 7 _ (fun _ => rfl)
     refine wp_region_plan (fun V : World => V.cell? ⟨bx, 7, none⟩ = some (.slice x.ra x.rl x.rc)) [(0, true, some 21), (1, true, some 22), (2, true, some 23), (3, true, some 24), (4, true, some 25), (5, true, some 26), (6, true, some 27), (7, true, some 28), (8, true, some 29), (9, true, some 30), (10, false, some 31), (11, true, some 32)] (by kernel_rfl) (by kernel_rfl) (by kernel_rfl) (by kernel_rfl) (fun d c a v w h => by cases d <;> exact h) hHeld ?_
     repeat (first | (refine planWp_load rfl rfl rfl 26 _ rfl _ rfl (fun u hSw => hSw.1) ?_; (try simp only [Act.put, sA, sB, sC])) | (refine planWp_read (v := ?_) rfl rfl ?_ ?_ ?_; rotate_left; (focus rfl); (focus (intro u hSw; (try dsimp only at hSw); go_simp; (try with_reducible rfl); done)); (try simp only [Act.put, sA, sB, sC])))
     refine planWp_do rfl rfl ?_ (fun K hK => ?_)
     · rfl
     go_simp
     go_wp2_with (go_at_call 137; refine (Each_any (x := x) (x.rl : Int) HI.out (H1.out.keep (Chg.refl _ _).drew)).mono ?_; rintro e w3 ⟨he, hx⟩; rw [show e = .returned (.bool false) from he.trans (congrArg (fun b => Ending.returned (Value.bool b)) HDEC.out)]; clear he; have H3 := hid hx; clear hx)
     refine hK.out _ _ (H3.out.cell 7 _ (fun _ => rfl)) (fun hHeld2 => ?_)
     clear hK K hHeld
     have hHeld := hHeld2
     clear hHeld2
     try simp only [Act.put, sA, sB, sC]
     repeat (first | (refine planWp_load rfl rfl rfl 26 _ rfl _ rfl (fun u hSw => hSw.1) ?_; (try simp only [Act.put, sA, sB, sC])) | (refine planWp_read (v := ?_) rfl rfl ?_ ?_ ?_; rotate_left; (focus rfl); (focus (intro u hSw; (try dsimp only at hSw); go_simp; (try with_reducible rfl); done)); (try simp only [Act.put, sA, sB, sC])))
     refine planWp_nil ?_
     clear hHeld
     go_wp2_with fail
     refine bodyPost_ret (results_none rfl _ _ _) rfl ?_
     refine ⟨rfl, ?_⟩
     have h9 := H3.out
     rw [show (x : Core).i + 1 = (iN : Int) + 1 from by show x.i + 1 = _; rw [HII.out]] at h9
     exact h9
set_option maxHeartbeats 4000000 in
theorem write_0 {T : TypeId} {bx mb : Nat} {sv r0 : Value} {W0 W : World} {x : Core} {rec ws : List Int} {n : Int} (bN : Nat) (hm : x.m = .pointer (some ⟨mb, 0, none⟩)) (hb : x.base = (bN : Int)) (hn : 0 <= n /\ n <= 1000000) (hs : 1 <= x.s /\ x.s <= 16) (hj : bN + 0 < ws.length) (hph : x.phase = 0) (h : St T bx mb sv W0 r0 W x rec ws n) :
 Calls Tryz.prog 113 #[.pointer (some ⟨bx, 0, none⟩)] W fun e W' => e = .returned (.tuple #[]) /\ St T bx mb sv W0 r0 W' { x with a := ws.getD (bN + 0) 0 % x.s, phase := 1, i := 0 } rec ws (n + 1) := by
 have H := hid h
 have HM := hid hm
 have HB := hid hb
 have HN := hid hn
 obtain ⟨vv, hvv⟩ : ∃ vv, ws.getD (bN + 0) 0 % x.s = vv := ⟨_, rfl⟩
 have HVV := hid hvv
 rw [hvv]
 have e10 : W.cell? ⟨bx, 10, none⟩ = some (.int .i64 0) := by rw [<- hph]; exact H.out.cell 10 _ (fun _ => rfl)
 have HJ := hid hj
 have HS1 := hid hs
 clear h hph hm hb hn hj hs hvv
 go_enter Tryz.func113, Tryz.ntmps113
 go_wp2_with (first | (go_at_call 143; refine (newest_any bN HM.out HB.out HN.out HJ.out HS1.out H.out).mono ?_; rintro e w1 ⟨rfl, hx⟩; rw [HVV.out]; have e13 : w1.cell? ⟨bx, 13, none⟩ = some (.int .u32 x.a) := hx.1.cell 13 _ (fun _ => rfl); have f13 := hx.1.free 13; have H1 := hid hx.1; have HC1 := hid ((Chg.refl _ W).trans hx.2); clear hx) | (go_at_call 128; refine (Go_any 1 (H1.out.put 13 (.int .u32 vv) ({ x with a := vv }) (fun _ => rfl))).mono ?_; rintro e w2 ⟨rfl, hx⟩; have H2 := hid hx; clear hx))
 all_goals (first | (go_end0; exact ⟨rfl, H2.out⟩) | (refine bodyPost_ret (results_none rfl _ _ _) rfl ?_; exact ⟨rfl, H2.out⟩))
def markM (x : Core) (u : Int) : Int := if 0 < u then bitm.markU x.used (u - 1) else x.used
def scanC (x : Core) (u : Int) : Core := if x.rl <= x.i.toNat + 1 then { x with used := bitm.markU (if 0 < u then bitm.markU x.used (u - 1) else x.used) x.a, b := bitm.freeU (bitm.markU (if 0 < u then bitm.markU x.used (u - 1) else x.used) x.a), phase := 2, i := 0 } else { x with used := (if 0 < u then bitm.markU x.used (u - 1) else x.used), i := (x.i.toNat : Int) + 1 }
set_option maxHeartbeats 2000000 in
theorem write_1 {T : TypeId} {bx mb : Nat} {sv r0 : Value} {W0 W : World} {x : Core} {rec ws : List Int} {n : Int} (bN iN : Nat) (hT : ∀ V x' rec' ws' n', St T bx mb sv W0 r0 V x' rec' ws' n' -> bitm.Tab V) (hm : x.m = .pointer (some ⟨mb, 0, none⟩)) (hb : x.base = (bN : Int)) (hn : 0 <= n /\ n <= 1000000) (hi : x.i = (iN : Int)) (hil : iN < 100) (hrl : x.rl <= 100) (ha : 0 <= x.a /\ x.a <= 4294967295) (hu : 0 <= x.used /\ x.used < 2097152) (hj : bN + (1 + iN) < ws.length) (hph : x.phase = 1) (h : St T bx mb sv W0 r0 W x rec ws n) :
 Calls Tryz.prog 113 #[.pointer (some ⟨bx, 0, none⟩)] W fun e W' => e = .returned (.tuple #[]) /\ St T bx mb sv W0 r0 W' (scanC x (ws.getD (bN + (1 + iN)) 0)) rec ws (n + 1) := by
 have H := hid h
 have hsc := scan_any bN iN hT hm hb hn hi hil hrl ha hu hj h
 have heq : (if x.rl <= iN + 1 then { x with used := bitm.markU (if 0 < ws.getD (bN + (1 + iN)) 0 then bitm.markU x.used (ws.getD (bN + (1 + iN)) 0 - 1) else x.used) x.a, b := bitm.freeU (bitm.markU (if 0 < ws.getD (bN + (1 + iN)) 0 then bitm.markU x.used (ws.getD (bN + (1 + iN)) 0 - 1) else x.used) x.a), phase := 2, i := 0 } else { x with used := (if 0 < ws.getD (bN + (1 + iN)) 0 then bitm.markU x.used (ws.getD (bN + (1 + iN)) 0 - 1) else x.used), i := (iN : Int) + 1 } : Core) = scanC x (ws.getD (bN + (1 + iN)) 0) := by
  unfold scanC; rw [hi]; simp only [Int.toNat_natCast]
 rw [heq] at hsc
 have HSC := hid hsc
 have e10 : W.cell? ⟨bx, 10, none⟩ = some (.int .i64 1) := by rw [<- hph]; exact H.out.cell 10 _ (fun _ => rfl)
 clear h hph hm hb hn hj ha hrl hT hi hil hu hsc heq
 generalize scanC x (ws.getD (bN + (1 + iN)) 0) = y at *
 go_enter Tryz.func113, Tryz.ntmps113
 go_wp2_with (go_at_call 144; refine HSC.out.mono ?_; rintro e w1 ⟨rfl, hx⟩; have H6 := hid hx; clear hx)
 all_goals (first | (go_end0; exact ⟨rfl, H6.out⟩) | (refine bodyPost_ret (results_none rfl _ _ _) rfl ?_; exact ⟨rfl, H6.out⟩))
set_option maxHeartbeats 4000000 in
theorem write_2 {T : TypeId} {bx mb : Nat} {sv r0 : Value} {W0 W : World} {x : Core} {rec ws : List Int} {n : Int} (bN : Nat) (hm : x.m = .pointer (some ⟨mb, 0, none⟩)) (hb : x.base = (bN : Int)) (hn : 0 <= n /\ n <= 1000000) (wN iN fN : Nat) (hwb : 1 <= x.w /\ x.w <= 8) (hrl : x.rl <= 100) (hsl : 0 <= x.b /\ x.b <= 16) (hf : place x x.b = fN) (hw : x.w = (wN : Int)) (hi : x.i = (iN : Int)) (hil : iN < 8) (hop : x.op = 2 \/ x.op = 3) (hir : iN < rec.length) (hj : bN + (fN + iN) < ws.length) (hph : x.phase = 2) (h : St T bx mb sv W0 r0 W x rec ws n) :
 Calls Tryz.prog 113 #[.pointer (some ⟨bx, 0, none⟩)] W fun e W' => e = .returned (.tuple #[]) /\ St T bx mb sv W0 r0 W' (if wN <= iN + 1 then { x with phase := 3, i := 0 } else { x with i := (iN : Int) + 1 }) rec (ws.set (bN + (fN + iN)) (rec.getD iN 0)) (n + 1) := by
 have H := hid h
 have HM := hid hm
 have HB := hid hb
 have HN := hid hn
 have e10 : W.cell? ⟨bx, 10, none⟩ = some (.int .i64 2) := by rw [<- hph]; exact H.out.cell 10 _ (fun _ => rfl)
 have HW := hid hw
 have HWB := hid hwb
 have HSL := hid hsl
 have HRLL := hid hrl
 have HF := hid hf
 have HI := hid hi
 have HOP := hid hop
 have HIR := hid hir
 have HJ := hid hj
 have eS0 : W.cell? ⟨bx, 14, none⟩ = some (.int .u32 x.b) := H.out.cell 14 _ (fun _ => rfl)
 have KEEP := hid (fun (V : World) (h : Chg [] W V) => (⟨h.keep eS0 (by simp), hid h⟩ : (fun V : World => V.cell? ⟨bx, 14, none⟩ = some (.int .u32 x.b) /\ Hid (Chg [] W V)) V))
 clear eS0
 clear h hph hm hb hn hj hw hi hop hir hwb hsl hf hrl
 by_cases hle : wN <= iN + 1
 · have HDEC : Hid (decide ((wN : Int) <= (iN : Int) + 1) = true) := hid (by simpa using (by omega : (wN : Int) <= (iN : Int) + 1))
   rw [if_pos hle]
   clear hle
   go_enter Tryz.func113, Tryz.ntmps113
   go_wp2_with fail
   have hHeld : (fun V : World => V.cell? ⟨bx, 14, none⟩ = some (.int .u32 x.b) /\ Hid (Chg [] W V)) (World.drew W) := KEEP.out _ (Chg.refl _ _).drew
   refine wp_region_planT (fun V : World => V.cell? ⟨bx, 14, none⟩ = some (.int .u32 x.b) /\ Hid (Chg [] W V)) 10 [(0, true, some 38), (1, true, some 39), (2, true, some 40), (3, true, some 41), (4, true, some 42), (5, true, some 43), (6, true, some 44), (7, true, some 45), (8, true, some 46), (9, false, some 47)] (by kernel_rfl) (by kernel_rfl) (by kernel_rfl) (by kernel_rfl) (by kernel_rfl) (fun d c a v w h => by cases d <;> exact h) hHeld ?_
   repeat (first | (refine planT_load rfl rfl rfl 26 _ rfl _ rfl (fun u hSw => hSw.1) ?_; (try simp only [Act.put, sA, sB, sC])) | (refine planT_read (v := ?_) rfl rfl ?_ ?_ ?_; rotate_left; (focus rfl); (focus (intro u hSw; (try dsimp only at hSw); go_simp; (try with_reducible rfl); done)); (try simp only [Act.put, sA, sB, sC])))
   refine planT_do rfl rfl ?_ (fun K hK => ?_)
   · rfl
   go_simp
   go_wp2_with (go_at_call 145; refine (from_any x.b HSL.out HWB.out HRLL.out (H.out.keep (Chg.refl _ _).drew)).mono ?_; rintro e w1 ⟨rfl, hx⟩; rw [HF.out]; have HC1 := hid ((Chg.refl [] W).drew.trans hx); have H1 := hid (H.out.keep HC1.out); clear hx)
   refine hK.out _ _ (KEEP.out _ HC1.out) (fun hHeld2 => ?_)
   clear hK K hHeld
   have hHeld := hHeld2
   clear hHeld2
   try simp only [Act.put, sA, sB, sC]
   repeat (first | (refine planT_load rfl rfl rfl 26 _ rfl _ rfl (fun u hSw => hSw.1) ?_; (try simp only [Act.put, sA, sB, sC])) | (refine planT_read (v := ?_) rfl rfl ?_ ?_ ?_; rotate_left; (focus rfl); (focus (intro u hSw; (try dsimp only at hSw); go_simp; (try with_reducible rfl); done)); (try simp only [Act.put, sA, sB, sC])))
   refine planT_last rfl ?_ (fun K hK => ?_)
   · rfl
   go_simp
   go_wp2_with (go_at_call 129; refine (Word_write bN fN iN HOP.out HM.out HB.out HI.out HIR.out HJ.out HN.out H1.out).mono ?_; rintro e w4 ⟨rfl, hx⟩; rw [HW.out, HDEC.out]; have H4 := hid hx; clear hx)
   refine hK.out _ _ ?_
   clear hK K hHeld KEEP
   go_wp2_with (go_at_call 128; refine (Go_any 3 H4.out).mono ?_; rintro e w6 ⟨rfl, hx⟩; have H6 := hid hx; clear hx)
   all_goals (first | (go_end0; exact ⟨rfl, H6.out⟩) | (refine bodyPost_ret (results_none rfl _ _ _) rfl ?_; exact ⟨rfl, H6.out⟩))
 · have HDEC : Hid (decide ((wN : Int) <= (iN : Int) + 1) = false) := hid (by simpa using (by omega : ¬ (wN : Int) <= (iN : Int) + 1))
   rw [if_neg hle]
   clear hle
   go_enter Tryz.func113, Tryz.ntmps113
   go_wp2_with fail
   have hHeld : (fun V : World => V.cell? ⟨bx, 14, none⟩ = some (.int .u32 x.b) /\ Hid (Chg [] W V)) (World.drew W) := KEEP.out _ (Chg.refl _ _).drew
   refine wp_region_planT (fun V : World => V.cell? ⟨bx, 14, none⟩ = some (.int .u32 x.b) /\ Hid (Chg [] W V)) 10 [(0, true, some 38), (1, true, some 39), (2, true, some 40), (3, true, some 41), (4, true, some 42), (5, true, some 43), (6, true, some 44), (7, true, some 45), (8, true, some 46), (9, false, some 47)] (by kernel_rfl) (by kernel_rfl) (by kernel_rfl) (by kernel_rfl) (by kernel_rfl) (fun d c a v w h => by cases d <;> exact h) hHeld ?_
   repeat (first | (refine planT_load rfl rfl rfl 26 _ rfl _ rfl (fun u hSw => hSw.1) ?_; (try simp only [Act.put, sA, sB, sC])) | (refine planT_read (v := ?_) rfl rfl ?_ ?_ ?_; rotate_left; (focus rfl); (focus (intro u hSw; (try dsimp only at hSw); go_simp; (try with_reducible rfl); done)); (try simp only [Act.put, sA, sB, sC])))
   refine planT_do rfl rfl ?_ (fun K hK => ?_)
   · rfl
   go_simp
   go_wp2_with (go_at_call 145; refine (from_any x.b HSL.out HWB.out HRLL.out (H.out.keep (Chg.refl _ _).drew)).mono ?_; rintro e w1 ⟨rfl, hx⟩; rw [HF.out]; have HC1 := hid ((Chg.refl [] W).drew.trans hx); have H1 := hid (H.out.keep HC1.out); clear hx)
   refine hK.out _ _ (KEEP.out _ HC1.out) (fun hHeld2 => ?_)
   clear hK K hHeld
   have hHeld := hHeld2
   clear hHeld2
   try simp only [Act.put, sA, sB, sC]
   repeat (first | (refine planT_load rfl rfl rfl 26 _ rfl _ rfl (fun u hSw => hSw.1) ?_; (try simp only [Act.put, sA, sB, sC])) | (refine planT_read (v := ?_) rfl rfl ?_ ?_ ?_; rotate_left; (focus rfl); (focus (intro u hSw; (try dsimp only at hSw); go_simp; (try with_reducible rfl); done)); (try simp only [Act.put, sA, sB, sC])))
   refine planT_last rfl ?_ (fun K hK => ?_)
   · rfl
   go_simp
   go_wp2_with (go_at_call 129; refine (Word_write bN fN iN HOP.out HM.out HB.out HI.out HIR.out HJ.out HN.out H1.out).mono ?_; rintro e w4 ⟨rfl, hx⟩; rw [HW.out, HDEC.out]; have H4 := hid hx; clear hx)
   refine hK.out _ _ ?_
   clear hK K hHeld KEEP
   go_wp2_with fail
   all_goals (first | (go_end0; exact ⟨rfl, H4.out⟩) | (refine bodyPost_ret (results_none rfl _ _ _) rfl ?_; exact ⟨rfl, H4.out⟩))
set_option maxHeartbeats 4000000 in
theorem write_3 {T : TypeId} {bx mb : Nat} {sv r0 : Value} {W0 W : World} {x : Core} {rec ws : List Int} {n : Int} (bN : Nat) (hm : x.m = .pointer (some ⟨mb, 0, none⟩)) (hb : x.base = (bN : Int)) (hn : 0 <= n /\ n <= 1000000) (hbb : 0 <= x.b /\ x.b <= 4294967295) (hj : bN + 0 < ws.length) (hph : x.phase = 3) (h : St T bx mb sv W0 r0 W x rec ws n) :
 Calls Tryz.prog 113 #[.pointer (some ⟨bx, 0, none⟩)] W fun e W' => e = .returned (.tuple #[]) /\ St T bx mb sv W0 r0 W' { x with over := true, code := 0 } (endRec x.op 0 rec) (ws.set (bN + 0) x.b) (n + 1) := by
 have H := hid h
 have HM := hid hm
 have HB := hid hb
 have HN := hid hn
 have e10 : W.cell? ⟨bx, 10, none⟩ = some (.int .i64 3) := by rw [<- hph]; exact H.out.cell 10 _ (fun _ => rfl)
 have G0 : Hid (W.cell? ⟨bx, 14, none⟩ = some (.int .u32 x.b)) := hid (by skip; exact H.out.cell 14 _ (fun _ => rfl))
 have HA := hid hbb
 have HJ := hid hj
 clear h hph hm hb hn hj hbb
 go_enter Tryz.func113, Tryz.ntmps113
 go_wp2_with fail
 refine wp_region_tail 8 (by kernel_rfl) (by kernel_rfl) ?_
 intro W3 hW3
 have g0 : W3.cell? ⟨bx, 14, none⟩ = some (.int .u32 x.b) := by rw [hW3.out]; exact G0.out
 have H3 : Hid (St T bx mb sv W0 r0 W3 x rec ws n) := hid (by rw [hW3.out]; exact H.out.keep (Chg.refl _ _).drew)
 clear hW3
 simp only [List.take_succ_cons, List.take_zero, List.drop_succ_cons, List.drop_zero]
 repeat still_step
 refine wpStill_nil ?_
 go_wp2_with (first | (go_at_call 131; refine (Write_at bN 0 x.b HA.out HM.out HB.out HJ.out HN.out H3.out).mono ?_; rintro e w4 ⟨rfl, hx⟩; have H4 := hid hx; clear hx) | (go_at_call 132; refine (End_any 0 H4.out).mono ?_; rintro e w2 ⟨rfl, hx⟩; have H6 := hid hx; clear hx))
 go_end0
 exact ⟨rfl, H6.out⟩
set_option maxHeartbeats 4000000 in
theorem read_0 {T : TypeId} {bx mb : Nat} {sv r0 : Value} {W0 W : World} {x : Core} {rec ws : List Int} {n : Int} (bN : Nat) (hm : x.m = .pointer (some ⟨mb, 0, none⟩)) (hb : x.base = (bN : Int)) (hn : 0 <= n /\ n <= 1000000) (rN : Nat) (hrd : x.reader = (rN : Int)) (hrb : rN <= 100) (hs : 1 <= x.s /\ x.s <= 16) (hj : bN + 0 < ws.length) (hph : x.phase = 0) (h : St T bx mb sv W0 r0 W x rec ws n) :
 Calls Tryz.prog 114 #[.pointer (some ⟨bx, 0, none⟩)] W fun e W' => e = .returned (.tuple #[]) /\ St T bx mb sv W0 r0 W' { x with a := ws.getD (bN + 0) 0 % x.s, phase := 1, i := 0 } rec ws (n + 1) := by
 have H := hid h
 have HM := hid hm
 have HB := hid hb
 have HN := hid hn
 obtain ⟨vv, hvv⟩ : ∃ vv, ws.getD (bN + 0) 0 % x.s = vv := ⟨_, rfl⟩
 have HVV := hid hvv
 rw [hvv]
 have e10 : W.cell? ⟨bx, 10, none⟩ = some (.int .i64 0) := by rw [<- hph]; exact H.out.cell 10 _ (fun _ => rfl)
 have e9 : W.cell? ⟨bx, 9, none⟩ = some (.int .i64 (rN : Int)) := by rw [<- hrd]; exact H.out.cell 9 _ (fun _ => rfl)
 have hown : IntKind.i64.wrap (1 + (rN : Int)) = ((1 + rN : Nat) : Int) := by rw [IntKind.wrap_i64]; omega
 have HJ := hid hj
 have HS1 := hid hs
 clear h hph hm hb hn hj hs hvv hrd hrb
 go_enter Tryz.func114, Tryz.ntmps114
 go_wp2_with (first | (go_at_call 143; refine (newest_any bN HM.out HB.out HN.out HJ.out HS1.out H.out).mono ?_; rintro e w1 ⟨rfl, hx⟩; rw [HVV.out]; have e13 : w1.cell? ⟨bx, 13, none⟩ = some (.int .u32 x.a) := hx.1.cell 13 _ (fun _ => rfl); have f13 := hx.1.free 13; have H1 := hid hx.1; have HC1 := hid ((Chg.refl _ W).trans hx.2); clear hx) | (go_at_call 128; refine (Go_any 1 (H1.out.put 13 (.int .u32 vv) ({ x with a := vv }) (fun _ => rfl))).mono ?_; rintro e w2 ⟨rfl, hx⟩; have H2 := hid hx; clear hx))
 all_goals (first | (go_end0; exact ⟨rfl, H2.out⟩) | (refine bodyPost_ret (results_none rfl _ _ _) rfl ?_; exact ⟨rfl, H2.out⟩))
set_option maxHeartbeats 4000000 in
theorem read_1 {T : TypeId} {bx mb : Nat} {sv r0 : Value} {W0 W : World} {x : Core} {rec ws : List Int} {n : Int} (bN : Nat) (hm : x.m = .pointer (some ⟨mb, 0, none⟩)) (hb : x.base = (bN : Int)) (hn : 0 <= n /\ n <= 1000000) (rN : Nat) (hrd : x.reader = (rN : Int)) (hrb : rN <= 100) (ha : 0 <= x.a /\ x.a <= 4294967295) (hj : bN + (1 + rN) < ws.length) (hph : x.phase = 1) (h : St T bx mb sv W0 r0 W x rec ws n) :
 Calls Tryz.prog 114 #[.pointer (some ⟨bx, 0, none⟩)] W fun e W' => e = .returned (.tuple #[]) /\ St T bx mb sv W0 r0 W' { x with phase := 2, i := 0 } rec (ws.set (bN + (1 + rN)) ((x.a + 1) % 4294967296)) (n + 1) := by
 have H := hid h
 have HM := hid hm
 have HB := hid hb
 have HN := hid hn
 have e10 : W.cell? ⟨bx, 10, none⟩ = some (.int .i64 1) := by rw [<- hph]; exact H.out.cell 10 _ (fun _ => rfl)
 have e9 : W.cell? ⟨bx, 9, none⟩ = some (.int .i64 (rN : Int)) := by rw [<- hrd]; exact H.out.cell 9 _ (fun _ => rfl)
 have hown : IntKind.i64.wrap (1 + (rN : Int)) = ((1 + rN : Nat) : Int) := by rw [IntKind.wrap_i64]; omega
 have hw32 : IntKind.u32.wrap (x.a + 1) = (x.a + 1) % 4294967296 := by rw [IntKind.wrap_u32]
 have HU : Hid (0 <= (x.a + 1) % 4294967296 /\ (x.a + 1) % 4294967296 <= 4294967295) := hid (by omega)
 have HJ := hid hj
 have eS0 : W.cell? ⟨bx, 13, none⟩ = some (.int .u32 x.a) := H.out.cell 13 _ (fun _ => rfl)
 have KEEP := hid (fun (V : World) (h : Chg [] W V) => (⟨h.keep eS0 (by simp), hid h⟩ : (fun V : World => V.cell? ⟨bx, 13, none⟩ = some (.int .u32 x.a) /\ Hid (Chg [] W V)) V))
 clear eS0
 clear h hph hm hb hn hj ha hrd hrb
 go_enter Tryz.func114, Tryz.ntmps114
 go_wp2_with fail
 have hHeld : (fun V : World => V.cell? ⟨bx, 13, none⟩ = some (.int .u32 x.a) /\ Hid (Chg [] W V)) (World.drew W) := KEEP.out _ (Chg.refl _ _).drew
 refine wp_region_planT (fun V : World => V.cell? ⟨bx, 13, none⟩ = some (.int .u32 x.a) /\ Hid (Chg [] W V)) 10 [(0, true, some 43), (1, true, some 44), (2, true, some 45), (3, true, some 46), (4, true, some 47), (5, true, some 48), (6, true, some 49), (7, true, some 50), (8, true, some 51), (9, true, some 52)] (by kernel_rfl) (by kernel_rfl) (by kernel_rfl) (by kernel_rfl) (by kernel_rfl) (fun d c a v w h => by cases d <;> exact h) hHeld ?_
 repeat (first | (refine planT_load rfl rfl rfl 26 _ rfl _ rfl (fun u hSw => hSw.1) ?_; (try simp only [Act.put, sA, sB, sC])) | (refine planT_read (v := ?_) rfl rfl ?_ ?_ ?_; rotate_left; (focus rfl); (focus (intro u hSw; (try dsimp only at hSw); go_simp; (try with_reducible rfl); done)); (try simp only [Act.put, sA, sB, sC])))
 refine planT_last rfl ?_ (fun K hK => ?_)
 · rfl
 go_simp
 go_wp2_with (go_at_call 131; refine (Write_at bN (1 + rN) ((x.a + 1) % 4294967296) HU.out HM.out HB.out HJ.out HN.out (H.out.keep (Chg.refl _ _).drew)).mono ?_; rintro e w4 ⟨rfl, hx⟩; have H4 := hid hx; clear hx)
 refine hK.out _ _ ?_
 clear hK K hHeld KEEP
 go_wp2_with (go_at_call 128; refine (Go_any 2 H4.out).mono ?_; rintro e w6 ⟨rfl, hx⟩; have H6 := hid hx; clear hx)
 all_goals (first | (go_end0; exact ⟨rfl, H6.out⟩) | (refine bodyPost_ret (results_none rfl _ _ _) rfl ?_; exact ⟨rfl, H6.out⟩))
def failC (x : Core) : Core := if x.c <= x.tries + 1 then { x with tries := x.tries + 1, phase := 4, i := 0, b := 1 } else { x with tries := x.tries + 1, phase := 0, i := 0 }
set_option maxHeartbeats 4000000 in
theorem read_2 {T : TypeId} {bx mb : Nat} {sv r0 : Value} {W0 W : World} {x : Core} {rec ws : List Int} {n : Int} (bN : Nat) (hm : x.m = .pointer (some ⟨mb, 0, none⟩)) (hb : x.base = (bN : Int)) (hn : 0 <= n /\ n <= 1000000) (rN : Nat) (hrd : x.reader = (rN : Int)) (hrb : rN <= 100) (ht : 0 <= x.tries /\ x.tries <= 1000000) (hs : 1 <= x.s /\ x.s <= 16) (hj : bN + 0 < ws.length) (hph : x.phase = 2) (h : St T bx mb sv W0 r0 W x rec ws n) :
 Calls Tryz.prog 114 #[.pointer (some ⟨bx, 0, none⟩)] W fun e W' => e = .returned (.tuple #[]) /\ St T bx mb sv W0 r0 W' (if (ws.getD (bN + 0) 0 % x.s) = x.a then { x with phase := 3, i := 0 } else failC x) (if (ws.getD (bN + 0) 0 % x.s) = x.a then rec else []) ws (n + 1) := by
 have H := hid h
 have HM := hid hm
 have HB := hid hb
 have HN := hid hn
 have NB : Hid (bx ∉ (mb :: sv.ownBlock.toList)) := hid (by obtain ⟨v, hp, he⟩ := h; simp; exact ⟨hp.ne, fun hh => hp.ns bx hh rfl⟩)
 obtain ⟨vv, hvv⟩ : ∃ vv, ws.getD (bN + 0) 0 % x.s = vv := ⟨_, rfl⟩
 have HVV := hid hvv
 rw [hvv]
 have e10 : W.cell? ⟨bx, 10, none⟩ = some (.int .i64 2) := by rw [<- hph]; exact H.out.cell 10 _ (fun _ => rfl)
 have e9 : W.cell? ⟨bx, 9, none⟩ = some (.int .i64 (rN : Int)) := by rw [<- hrd]; exact H.out.cell 9 _ (fun _ => rfl)
 have hown : IntKind.i64.wrap (1 + (rN : Int)) = ((1 + rN : Nat) : Int) := by rw [IntKind.wrap_i64]; omega
 have HJ := hid hj
 have HS1 := hid hs
 have HT := hid ht
 have eS0 : W.cell? ⟨bx, 13, none⟩ = some (.int .u32 x.a) := H.out.cell 13 _ (fun _ => rfl)
 have KEEP := hid (fun (V : World) (h : Chg (mb :: sv.ownBlock.toList) W V) => (⟨h.keep eS0 NB.out, hid h⟩ : (fun V : World => V.cell? ⟨bx, 13, none⟩ = some (.int .u32 x.a) /\ Hid (Chg (mb :: sv.ownBlock.toList) W V)) V))
 clear eS0
 clear h hph hm hb hn hj hs hvv ht hrd hrb
 by_cases hle : vv = x.a
 · have hb1 : (vv == x.a) = true := by simpa using hle
   rw [if_pos hle, if_pos hle]
   clear hle
   go_enter Tryz.func114, Tryz.ntmps114
   go_wp2_with fail
   have hHeld : (fun V : World => V.cell? ⟨bx, 13, none⟩ = some (.int .u32 x.a) /\ Hid (Chg (mb :: sv.ownBlock.toList) W V)) (World.drew W) := KEEP.out _ (Chg.refl _ _).drew
   refine wp_region_plan (fun V : World => V.cell? ⟨bx, 13, none⟩ = some (.int .u32 x.a) /\ Hid (Chg (mb :: sv.ownBlock.toList) W V)) [(0, true, some 60), (2, true, some 62), (3, true, some 63), (4, true, some 64), (5, true, some 65), (6, true, some 66), (1, false, some 61), (7, true, some 67)] (by kernel_rfl) (by kernel_rfl) (by kernel_rfl) (by kernel_rfl) (fun d c a v w h => by cases d <;> exact h) hHeld ?_
   repeat (first | (refine planWp_load rfl rfl rfl 26 _ rfl _ rfl (fun u hSw => hSw.1) ?_; (try simp only [Act.put, sA, sB, sC])) | (refine planWp_read (v := ?_) rfl rfl ?_ ?_ ?_; rotate_left; (focus rfl); (focus (intro u hSw; (try dsimp only at hSw); go_simp; (try with_reducible rfl); done)); (try simp only [Act.put, sA, sB, sC])))
   refine planWp_do rfl rfl ?_ (fun K hK => ?_)
   · rfl
   go_simp
   go_wp2_with (go_at_call 143; refine (newest_any bN HM.out HB.out HN.out HJ.out HS1.out (H.out.keep (Chg.refl _ _).drew)).mono ?_; rintro e w1 ⟨rfl, hx⟩; rw [HVV.out]; have H1 := hid hx.1; have HC1 := hid ((Chg.refl _ W).drew.trans hx.2); clear hx)
   refine hK.out _ _ (KEEP.out _ HC1.out) (fun hHeld2 => ?_)
   clear hK K hHeld
   have hHeld := hHeld2
   clear hHeld2
   try simp only [Act.put, sA, sB, sC]
   repeat (first | (refine planWp_load rfl rfl rfl 26 _ rfl _ rfl (fun u hSw => hSw.1) ?_; (try simp only [Act.put, sA, sB, sC])) | (refine planWp_read (v := ?_) rfl rfl ?_ ?_ ?_; rotate_left; (focus rfl); (focus (intro u hSw; (try dsimp only at hSw); go_simp; (try with_reducible rfl); done)); (try simp only [Act.put, sA, sB, sC])))
   refine planWp_nil ?_
   clear hHeld KEEP
   go_wp2_with (go_at_call 128; refine (Go_any 3 H1.out).mono ?_; rintro e w6 ⟨rfl, hx⟩; have H6 := hid hx; clear hx)
   all_goals (first | (go_end0; exact ⟨rfl, H6.out⟩) | (refine bodyPost_ret (results_none rfl _ _ _) rfl ?_; exact ⟨rfl, H6.out⟩))
 · have hb1 : (vv == x.a) = false := by simpa using hle
   rw [if_neg hle, if_neg hle]
   clear hle
   by_cases hc : x.c <= x.tries + 1
   · have HDEC : Hid (decide (x.c <= x.tries + 1) = true) := hid (by simpa using hc)
     have HF : Hid (failC x = { x with tries := x.tries + 1, phase := 4, i := 0, b := 1 }) := hid (if_pos hc)
     rw [HF.out]
     clear hc
     go_enter Tryz.func114, Tryz.ntmps114
     go_wp2_with fail
     have hHeld : (fun V : World => V.cell? ⟨bx, 13, none⟩ = some (.int .u32 x.a) /\ Hid (Chg (mb :: sv.ownBlock.toList) W V)) (World.drew W) := KEEP.out _ (Chg.refl _ _).drew
     refine wp_region_plan (fun V : World => V.cell? ⟨bx, 13, none⟩ = some (.int .u32 x.a) /\ Hid (Chg (mb :: sv.ownBlock.toList) W V)) [(0, true, some 60), (2, true, some 62), (3, true, some 63), (4, true, some 64), (5, true, some 65), (6, true, some 66), (1, false, some 61), (7, true, some 67)] (by kernel_rfl) (by kernel_rfl) (by kernel_rfl) (by kernel_rfl) (fun d c a v w h => by cases d <;> exact h) hHeld ?_
     repeat (first | (refine planWp_load rfl rfl rfl 26 _ rfl _ rfl (fun u hSw => hSw.1) ?_; (try simp only [Act.put, sA, sB, sC])) | (refine planWp_read (v := ?_) rfl rfl ?_ ?_ ?_; rotate_left; (focus rfl); (focus (intro u hSw; (try dsimp only at hSw); go_simp; (try with_reducible rfl); done)); (try simp only [Act.put, sA, sB, sC])))
     refine planWp_do rfl rfl ?_ (fun K hK => ?_)
     · rfl
     go_simp
     go_wp2_with (go_at_call 143; refine (newest_any bN HM.out HB.out HN.out HJ.out HS1.out (H.out.keep (Chg.refl _ _).drew)).mono ?_; rintro e w1 ⟨rfl, hx⟩; rw [HVV.out]; have H1 := hid hx.1; have HC1 := hid ((Chg.refl _ W).drew.trans hx.2); clear hx)
     refine hK.out _ _ (KEEP.out _ HC1.out) (fun hHeld2 => ?_)
     clear hK K hHeld
     have hHeld := hHeld2
     clear hHeld2
     try simp only [Act.put, sA, sB, sC]
     repeat (first | (refine planWp_load rfl rfl rfl 26 _ rfl _ rfl (fun u hSw => hSw.1) ?_; (try simp only [Act.put, sA, sB, sC])) | (refine planWp_read (v := ?_) rfl rfl ?_ ?_ ?_; rotate_left; (focus rfl); (focus (intro u hSw; (try dsimp only at hSw); go_simp; (try with_reducible rfl); done)); (try simp only [Act.put, sA, sB, sC])))
     refine planWp_nil ?_
     clear hHeld KEEP
     go_wp2_with (first | (go_at_call 142; refine (Fail_any HT.out H1.out).mono ?_; rintro e w5 ⟨rfl, hx⟩; rw [HDEC.out]; have e14 : w5.cell? ⟨bx, 14, none⟩ = some (.int .u32 x.b) := hx.cell 14 _ (fun _ => rfl); have f14 := hx.free 14; have H5 := hid (hx.put 14 (.int .u32 1) { x with tries := x.tries + 1, phase := 0, i := 0, b := 1 } (fun _ => rfl)); clear hx) | (go_at_call 128; refine (Go_any 4 H5.out).mono ?_; rintro e w6 ⟨rfl, hx⟩; have H6 := hid hx; clear hx))
     all_goals (first | (go_end0; exact ⟨rfl, H6.out⟩) | (refine bodyPost_ret (results_none rfl _ _ _) rfl ?_; exact ⟨rfl, H6.out⟩))
   · have HDEC : Hid (decide (x.c <= x.tries + 1) = false) := hid (by simpa using hc)
     have HF : Hid (failC x = { x with tries := x.tries + 1, phase := 0, i := 0 }) := hid (if_neg hc)
     rw [HF.out]
     clear hc
     go_enter Tryz.func114, Tryz.ntmps114
     go_wp2_with fail
     have hHeld : (fun V : World => V.cell? ⟨bx, 13, none⟩ = some (.int .u32 x.a) /\ Hid (Chg (mb :: sv.ownBlock.toList) W V)) (World.drew W) := KEEP.out _ (Chg.refl _ _).drew
     refine wp_region_plan (fun V : World => V.cell? ⟨bx, 13, none⟩ = some (.int .u32 x.a) /\ Hid (Chg (mb :: sv.ownBlock.toList) W V)) [(0, true, some 60), (2, true, some 62), (3, true, some 63), (4, true, some 64), (5, true, some 65), (6, true, some 66), (1, false, some 61), (7, true, some 67)] (by kernel_rfl) (by kernel_rfl) (by kernel_rfl) (by kernel_rfl) (fun d c a v w h => by cases d <;> exact h) hHeld ?_
     repeat (first | (refine planWp_load rfl rfl rfl 26 _ rfl _ rfl (fun u hSw => hSw.1) ?_; (try simp only [Act.put, sA, sB, sC])) | (refine planWp_read (v := ?_) rfl rfl ?_ ?_ ?_; rotate_left; (focus rfl); (focus (intro u hSw; (try dsimp only at hSw); go_simp; (try with_reducible rfl); done)); (try simp only [Act.put, sA, sB, sC])))
     refine planWp_do rfl rfl ?_ (fun K hK => ?_)
     · rfl
     go_simp
     go_wp2_with (go_at_call 143; refine (newest_any bN HM.out HB.out HN.out HJ.out HS1.out (H.out.keep (Chg.refl _ _).drew)).mono ?_; rintro e w1 ⟨rfl, hx⟩; rw [HVV.out]; have H1 := hid hx.1; have HC1 := hid ((Chg.refl _ W).drew.trans hx.2); clear hx)
     refine hK.out _ _ (KEEP.out _ HC1.out) (fun hHeld2 => ?_)
     clear hK K hHeld
     have hHeld := hHeld2
     clear hHeld2
     try simp only [Act.put, sA, sB, sC]
     repeat (first | (refine planWp_load rfl rfl rfl 26 _ rfl _ rfl (fun u hSw => hSw.1) ?_; (try simp only [Act.put, sA, sB, sC])) | (refine planWp_read (v := ?_) rfl rfl ?_ ?_ ?_; rotate_left; (focus rfl); (focus (intro u hSw; (try dsimp only at hSw); go_simp; (try with_reducible rfl); done)); (try simp only [Act.put, sA, sB, sC])))
     refine planWp_nil ?_
     clear hHeld KEEP
     go_wp2_with (go_at_call 142; refine (Fail_any HT.out H1.out).mono ?_; rintro e w5 ⟨rfl, hx⟩; rw [HDEC.out]; have H6 := hid hx; clear hx)
     all_goals (first | (go_end0; exact ⟨rfl, H6.out⟩) | (refine bodyPost_ret (results_none rfl _ _ _) rfl ?_; exact ⟨rfl, H6.out⟩))
set_option maxHeartbeats 4000000 in
theorem read_3 {T : TypeId} {bx mb : Nat} {sv r0 : Value} {W0 W : World} {x : Core} {rec ws : List Int} {n : Int} (bN : Nat) (hm : x.m = .pointer (some ⟨mb, 0, none⟩)) (hb : x.base = (bN : Int)) (hn : 0 <= n /\ n <= 1000000) (rN : Nat) (hrd : x.reader = (rN : Int)) (hrb : rN <= 100) (wN iN fN : Nat) (hwb : 1 <= x.w /\ x.w <= 8) (hrl : x.rl <= 100) (hsl : 0 <= x.a /\ x.a <= 16) (hf : place x x.a = fN) (hw : x.w = (wN : Int)) (hi : x.i = (iN : Int)) (hil : iN < 8) (hop : x.op ≠ 2 /\ x.op ≠ 3) (hir : rec.length < 1000) (hj : bN + (fN + iN) < ws.length) (hph : x.phase = 3) (h : St T bx mb sv W0 r0 W x rec ws n) :
 Calls Tryz.prog 114 #[.pointer (some ⟨bx, 0, none⟩)] W fun e W' => e = .returned (.tuple #[]) /\ St T bx mb sv W0 r0 W' (if wN <= iN + 1 then { x with phase := 4, i := 0 } else { x with i := (iN : Int) + 1 }) (rec ++ [ws.getD (bN + (fN + iN)) 0]) ws (n + 1) := by
 have H := hid h
 have HM := hid hm
 have HB := hid hb
 have HN := hid hn
 have e10 : W.cell? ⟨bx, 10, none⟩ = some (.int .i64 3) := by rw [<- hph]; exact H.out.cell 10 _ (fun _ => rfl)
 have e9 : W.cell? ⟨bx, 9, none⟩ = some (.int .i64 (rN : Int)) := by rw [<- hrd]; exact H.out.cell 9 _ (fun _ => rfl)
 have hown : IntKind.i64.wrap (1 + (rN : Int)) = ((1 + rN : Nat) : Int) := by rw [IntKind.wrap_i64]; omega
 have HW := hid hw
 have HWB := hid hwb
 have HSL := hid hsl
 have HRLL := hid hrl
 have HF := hid hf
 have HI := hid hi
 have HOP := hid hop
 have HIR := hid hir
 have HJ := hid hj
 have eS0 : W.cell? ⟨bx, 13, none⟩ = some (.int .u32 x.a) := H.out.cell 13 _ (fun _ => rfl)
 have KEEP := hid (fun (V : World) (h : Chg [] W V) => (⟨h.keep eS0 (by simp), hid h⟩ : (fun V : World => V.cell? ⟨bx, 13, none⟩ = some (.int .u32 x.a) /\ Hid (Chg [] W V)) V))
 clear eS0
 clear h hph hm hb hn hj hw hi hop hir hwb hsl hf hrl hrd hrb
 by_cases hle : wN <= iN + 1
 · have HDEC : Hid (decide ((wN : Int) <= (iN : Int) + 1) = true) := hid (by simpa using (by omega : (wN : Int) <= (iN : Int) + 1))
   rw [if_pos hle]
   clear hle
   go_enter Tryz.func114, Tryz.ntmps114
   go_wp2_with fail
   have hHeld : (fun V : World => V.cell? ⟨bx, 13, none⟩ = some (.int .u32 x.a) /\ Hid (Chg [] W V)) (World.drew W) := KEEP.out _ (Chg.refl _ _).drew
   refine wp_region_planT (fun V : World => V.cell? ⟨bx, 13, none⟩ = some (.int .u32 x.a) /\ Hid (Chg [] W V)) 10 [(0, true, some 86), (1, true, some 87), (2, true, some 88), (3, true, some 89), (4, true, some 90), (5, true, some 91), (6, true, some 92), (7, true, some 93), (8, true, some 94), (9, false, some 95)] (by kernel_rfl) (by kernel_rfl) (by kernel_rfl) (by kernel_rfl) (by kernel_rfl) (fun d c a v w h => by cases d <;> exact h) hHeld ?_
   repeat (first | (refine planT_load rfl rfl rfl 26 _ rfl _ rfl (fun u hSw => hSw.1) ?_; (try simp only [Act.put, sA, sB, sC])) | (refine planT_read (v := ?_) rfl rfl ?_ ?_ ?_; rotate_left; (focus rfl); (focus (intro u hSw; (try dsimp only at hSw); go_simp; (try with_reducible rfl); done)); (try simp only [Act.put, sA, sB, sC])))
   refine planT_do rfl rfl ?_ (fun K hK => ?_)
   · rfl
   go_simp
   go_wp2_with (go_at_call 145; refine (from_any x.a HSL.out HWB.out HRLL.out (H.out.keep (Chg.refl _ _).drew)).mono ?_; rintro e w1 ⟨rfl, hx⟩; rw [HF.out]; have HC1 := hid ((Chg.refl [] W).drew.trans hx); have H1 := hid (H.out.keep HC1.out); clear hx)
   refine hK.out _ _ (KEEP.out _ HC1.out) (fun hHeld2 => ?_)
   clear hK K hHeld
   have hHeld := hHeld2
   clear hHeld2
   try simp only [Act.put, sA, sB, sC]
   repeat (first | (refine planT_load rfl rfl rfl 26 _ rfl _ rfl (fun u hSw => hSw.1) ?_; (try simp only [Act.put, sA, sB, sC])) | (refine planT_read (v := ?_) rfl rfl ?_ ?_ ?_; rotate_left; (focus rfl); (focus (intro u hSw; (try dsimp only at hSw); go_simp; (try with_reducible rfl); done)); (try simp only [Act.put, sA, sB, sC])))
   refine planT_last rfl ?_ (fun K hK => ?_)
   · rfl
   go_simp
   go_wp2_with (go_at_call 129; refine (Word_read bN fN iN HOP.out HM.out HB.out HI.out HIR.out (by omega) HJ.out HN.out H1.out).mono ?_; rintro e w4 ⟨rfl, hx⟩; rw [HW.out, HDEC.out]; have H4 := hid hx; clear hx)
   refine hK.out _ _ ?_
   clear hK K hHeld KEEP
   go_wp2_with (go_at_call 128; refine (Go_any 4 H4.out).mono ?_; rintro e w6 ⟨rfl, hx⟩; have H6 := hid hx; clear hx)
   all_goals (first | (go_end0; exact ⟨rfl, H6.out⟩) | (refine bodyPost_ret (results_none rfl _ _ _) rfl ?_; exact ⟨rfl, H6.out⟩))
 · have HDEC : Hid (decide ((wN : Int) <= (iN : Int) + 1) = false) := hid (by simpa using (by omega : ¬ (wN : Int) <= (iN : Int) + 1))
   rw [if_neg hle]
   clear hle
   go_enter Tryz.func114, Tryz.ntmps114
   go_wp2_with fail
   have hHeld : (fun V : World => V.cell? ⟨bx, 13, none⟩ = some (.int .u32 x.a) /\ Hid (Chg [] W V)) (World.drew W) := KEEP.out _ (Chg.refl _ _).drew
   refine wp_region_planT (fun V : World => V.cell? ⟨bx, 13, none⟩ = some (.int .u32 x.a) /\ Hid (Chg [] W V)) 10 [(0, true, some 86), (1, true, some 87), (2, true, some 88), (3, true, some 89), (4, true, some 90), (5, true, some 91), (6, true, some 92), (7, true, some 93), (8, true, some 94), (9, false, some 95)] (by kernel_rfl) (by kernel_rfl) (by kernel_rfl) (by kernel_rfl) (by kernel_rfl) (fun d c a v w h => by cases d <;> exact h) hHeld ?_
   repeat (first | (refine planT_load rfl rfl rfl 26 _ rfl _ rfl (fun u hSw => hSw.1) ?_; (try simp only [Act.put, sA, sB, sC])) | (refine planT_read (v := ?_) rfl rfl ?_ ?_ ?_; rotate_left; (focus rfl); (focus (intro u hSw; (try dsimp only at hSw); go_simp; (try with_reducible rfl); done)); (try simp only [Act.put, sA, sB, sC])))
   refine planT_do rfl rfl ?_ (fun K hK => ?_)
   · rfl
   go_simp
   go_wp2_with (go_at_call 145; refine (from_any x.a HSL.out HWB.out HRLL.out (H.out.keep (Chg.refl _ _).drew)).mono ?_; rintro e w1 ⟨rfl, hx⟩; rw [HF.out]; have HC1 := hid ((Chg.refl [] W).drew.trans hx); have H1 := hid (H.out.keep HC1.out); clear hx)
   refine hK.out _ _ (KEEP.out _ HC1.out) (fun hHeld2 => ?_)
   clear hK K hHeld
   have hHeld := hHeld2
   clear hHeld2
   try simp only [Act.put, sA, sB, sC]
   repeat (first | (refine planT_load rfl rfl rfl 26 _ rfl _ rfl (fun u hSw => hSw.1) ?_; (try simp only [Act.put, sA, sB, sC])) | (refine planT_read (v := ?_) rfl rfl ?_ ?_ ?_; rotate_left; (focus rfl); (focus (intro u hSw; (try dsimp only at hSw); go_simp; (try with_reducible rfl); done)); (try simp only [Act.put, sA, sB, sC])))
   refine planT_last rfl ?_ (fun K hK => ?_)
   · rfl
   go_simp
   go_wp2_with (go_at_call 129; refine (Word_read bN fN iN HOP.out HM.out HB.out HI.out HIR.out (by omega) HJ.out HN.out H1.out).mono ?_; rintro e w4 ⟨rfl, hx⟩; rw [HW.out, HDEC.out]; have H4 := hid hx; clear hx)
   refine hK.out _ _ ?_
   clear hK K hHeld KEEP
   go_wp2_with fail
   all_goals (first | (go_end0; exact ⟨rfl, H4.out⟩) | (refine bodyPost_ret (results_none rfl _ _ _) rfl ?_; exact ⟨rfl, H4.out⟩))
set_option maxHeartbeats 4000000 in
theorem read_4 {T : TypeId} {bx mb : Nat} {sv r0 : Value} {W0 W : World} {x : Core} {rec ws : List Int} {n : Int} (bN : Nat) (hm : x.m = .pointer (some ⟨mb, 0, none⟩)) (hb : x.base = (bN : Int)) (hn : 0 <= n /\ n <= 1000000) (rN : Nat) (hrd : x.reader = (rN : Int)) (hrb : rN <= 100) (hbb : 0 <= x.b /\ x.b <= 4294967295) (hj : bN + (1 + rN) < ws.length) (hph : x.phase = 4) (h : St T bx mb sv W0 r0 W x rec ws n) :
 Calls Tryz.prog 114 #[.pointer (some ⟨bx, 0, none⟩)] W fun e W' => e = .returned (.tuple #[]) /\ St T bx mb sv W0 r0 W' { x with over := true, code := x.b } (endRec x.op x.b rec) (ws.set (bN + (1 + rN)) 0) (n + 1) := by
 have H := hid h
 have HM := hid hm
 have HB := hid hb
 have HN := hid hn
 have e10 : W.cell? ⟨bx, 10, none⟩ = some (.int .i64 4) := by rw [<- hph]; exact H.out.cell 10 _ (fun _ => rfl)
 have e9 : W.cell? ⟨bx, 9, none⟩ = some (.int .i64 (rN : Int)) := by rw [<- hrd]; exact H.out.cell 9 _ (fun _ => rfl)
 have hown : IntKind.i64.wrap (1 + (rN : Int)) = ((1 + rN : Nat) : Int) := by rw [IntKind.wrap_i64]; omega
 have hcv : IntKind.i64.wrap x.b = x.b := by rw [IntKind.wrap_i64]; omega
 have HU : Hid (0 <= (0 : Int) /\ (0 : Int) <= 4294967295) := hid (by omega)
 have HJ := hid hj
 clear h hph hm hb hn hj hbb hrd hrb
 go_enter Tryz.func114, Tryz.ntmps114
 go_upto_region 3 with (go_at_call 131; refine (Write_at bN (1 + rN) 0 HU.out HM.out HB.out HJ.out HN.out H.out).mono ?_; rintro e w1 ⟨rfl, hx⟩; have H1 := hid hx; clear hx)
 have eS0 : w1.cell? ⟨bx, 14, none⟩ = some (.int .u32 x.b) := H1.out.cell 14 _ (fun _ => rfl)
 have KEEP := hid (fun (V : World) (h : Chg [] w1 V) => (⟨h.keep eS0 (by simp), hid h⟩ : (fun V : World => V.cell? ⟨bx, 14, none⟩ = some (.int .u32 x.b) /\ Hid (Chg [] w1 V)) V))
 clear eS0
 have hHeld : (fun V : World => V.cell? ⟨bx, 14, none⟩ = some (.int .u32 x.b) /\ Hid (Chg [] w1 V)) (World.drew w1) := KEEP.out _ (Chg.refl _ _).drew
 refine wp_region_planT (fun V : World => V.cell? ⟨bx, 14, none⟩ = some (.int .u32 x.b) /\ Hid (Chg [] w1 V)) 9 [(0, true, some 19), (1, true, some 20), (2, true, some 21), (3, true, some 22), (4, true, some 23), (5, true, some 24), (6, true, some 25), (7, true, some 26), (8, true, some 27)] (by kernel_rfl) (by kernel_rfl) (by kernel_rfl) (by kernel_rfl) (by kernel_rfl) (fun d c a v w h => by cases d <;> exact h) hHeld ?_
 repeat (first | (refine planT_load rfl rfl rfl 26 _ rfl _ rfl (fun u hSw => hSw.1) ?_; (try simp only [Act.put, sA, sB, sC])) | (refine planT_read (v := ?_) rfl rfl ?_ ?_ ?_; rotate_left; (focus rfl); (focus (intro u hSw; (try dsimp only at hSw); go_simp; (try with_reducible rfl); done)); (try simp only [Act.put, sA, sB, sC])))
 refine planT_last rfl ?_ (fun K hK => ?_)
 · rfl
 go_simp
 go_wp2_with (go_at_call 132; refine (End_any x.b (H1.out.keep (Chg.refl _ _).drew)).mono ?_; rintro e w6 ⟨rfl, hx⟩; have H6 := hid hx; clear hx)
 refine hK.out _ _ ?_
 clear hK K hHeld KEEP
 go_wp2_with fail
 all_goals (first | (go_end0; exact ⟨rfl, H6.out⟩) | (refine bodyPost_ret (results_none rfl _ _ _) rfl ?_; exact ⟨rfl, H6.out⟩))
open Go Go.RowKit kit mem rop core
def stepW (x : Core) (rec ws : List Int) : Core × List Int × List Int :=
 if x.phase = 0 then ({ x with a := (ws.getD (x.base.toNat + 0) 0 % x.s), phase := 1, i := 0 }, rec, ws)
 else if x.phase = 1 then (scanC x (ws.getD (x.base.toNat + (1 + x.i.toNat)) 0), rec, ws)
 else if x.phase = 2 then (if x.w.toNat <= x.i.toNat + 1 then { x with phase := 3, i := 0 } else { x with i := (x.i.toNat : Int) + 1 }, rec, ws.set (x.base.toNat + (place x x.b + x.i.toNat)) (rec.getD x.i.toNat 0))
 else ({ x with over := true, code := 0 }, endRec x.op 0 rec, ws.set (x.base.toNat + 0) x.b)
def stepR (x : Core) (rec ws : List Int) : Core × List Int × List Int :=
 if x.phase = 0 then ({ x with a := (ws.getD (x.base.toNat + 0) 0 % x.s), phase := 1, i := 0 }, rec, ws)
 else if x.phase = 1 then ({ x with phase := 2, i := 0 }, rec, ws.set (x.base.toNat + (1 + x.reader.toNat)) ((x.a + 1) % 4294967296))
 else if x.phase = 2 then (if (ws.getD (x.base.toNat + 0) 0 % x.s) = x.a then { x with phase := 3, i := 0 } else failC x, if (ws.getD (x.base.toNat + 0) 0 % x.s) = x.a then rec else [], ws)
 else if x.phase = 3 then (if x.w.toNat <= x.i.toNat + 1 then { x with phase := 4, i := 0 } else { x with i := (x.i.toNat : Int) + 1 }, rec ++ [ws.getD (x.base.toNat + (place x x.a + x.i.toNat)) 0], ws)
 else ({ x with over := true, code := x.b }, endRec x.op x.b rec, ws.set (x.base.toNat + (1 + x.reader.toNat)) 0)
def step (x : Core) (mv : Value) (rec ws : List Int) : Core × List Int × List Int :=
 if x.op = 2 then stepW { x with m := mv, steps := x.steps + 1 } rec ws else stepR { x with m := mv, steps := x.steps + 1 } rec ws
structure Shape (x : Core) (rec : List Int) : Prop where
 w : 1 <= x.w /\ x.w <= 8
 rl : 1 <= x.rl /\ x.rl <= 4
 s : (x.rl : Int) + 2 <= x.s /\ x.s <= 16
 a : 0 <= x.a /\ x.a < x.s
 b : 0 <= x.b /\ x.b < x.s
 c : 1 <= x.c /\ x.c <= 16
 reader : 0 <= x.reader /\ x.reader < x.rl
 tries : 0 <= x.tries /\ x.tries <= 1000 /\ (x.over = false -> x.phase ≠ 4 -> x.tries < x.c)
 base : 0 <= x.base
 size : x.size = 1 + x.rl + x.s * x.w
 marks : x.over = false -> x.op = 2 -> x.phase <= 1 -> bitm.Marks x.used (if x.phase = 1 then x.i else 0)
 i : x.over = false -> 0 <= x.i /\ (if x.op = 2 /\ x.phase = 1 then x.i < x.rl else x.i < x.w)
 op : (x.op = 2 /\ (0 <= x.phase /\ x.phase <= 3) /\ (x.over = false -> (rec.length : Int) = x.w)) \/ (x.op = 1 /\ (0 <= x.phase /\ x.phase <= 4) /\ (x.over = false -> (rec.length : Int) = if x.phase = 3 then x.i else if x.phase = 4 then (rec.length : Int) else 0))
theorem place_fit {x : Core} {sl : Int} (hs : 1 <= x.s /\ x.s <= 16) (hw : 1 <= x.w /\ x.w <= 8) (h : 0 <= sl /\ sl < x.s) : 1 + x.rl <= place x sl /\ (place x sl : Int) + x.w <= 1 + x.rl + x.s * x.w := by
 have h3 := mul_bd (c := sl) (w := x.w) (m := x.s - 1) ⟨h.1, by omega⟩ (by omega) (by omega)
 have h4 : (x.s - 1) * x.w = x.s * x.w - x.w := by rw [Int.sub_mul, Int.one_mul]
 unfold place
 omega
set_option maxHeartbeats 2000000 in
theorem write_any {T : TypeId} {bx mb : Nat} {sv r0 : Value} {W0 W : World} {x : Core} {rec ws : List Int} {n : Int} (hT : ∀ V x' rec' ws' n', St T bx mb sv W0 r0 V x' rec' ws' n' -> bitm.Tab V) (hI : Shape x rec) (hov : x.over = false) (hop : x.op = 2) (hm : x.m = .pointer (some ⟨mb, 0, none⟩)) (hfit : x.base + x.size <= ws.length) (hn : 0 <= n /\ n <= 1000000) (h : St T bx mb sv W0 r0 W x rec ws n) :
 Calls Tryz.prog 113 #[.pointer (some ⟨bx, 0, none⟩)] W fun e W' => e = .returned (.tuple #[]) /\ St T bx mb sv W0 r0 W' (stepW x rec ws).1 (stepW x rec ws).2.1 (stepW x rec ws).2.2 (n + 1) := by
 have hw := hI.w; have ha := hI.a; have hb := hI.b; have hba := hI.base; have hsz := hI.size; have hi := hI.i hov; have hs := hI.s; have hrl := hI.rl; have hrd := hI.reader
 have hfa := place_fit (x := x) (sl := x.a) (by omega) hw ha
 have hfb := place_fit (x := x) (sl := x.b) (by omega) hw hb
 have hph : (0 <= x.phase /\ x.phase <= 3) /\ (rec.length : Int) = x.w := by rcases hI.op with ⟨_, h1, h2⟩ | ⟨h1, _⟩; exact ⟨h1, h2 hov⟩; omega
 have eb : x.base = (x.base.toNat : Int) := by omega
 have ei : x.i = (x.i.toNat : Int) := by omega
 have ew : x.w = (x.w.toNat : Int) := by omega
 have er : x.reader = (x.reader.toNat : Int) := by omega
 have hnn := Int.mul_nonneg (show 0 <= x.s by omega) (show 0 <= x.w by omega)
 have hj0 : x.base.toNat + 0 < ws.length := by omega
 have hjr : x.base.toNat + (1 + x.reader.toNat) < ws.length := by omega
 rcases (by omega : x.phase = 0 \/ x.phase = 1 \/ x.phase = 2 \/ x.phase = 3) with p | p | p | p
 · have hst : stepW x rec ws = ({ x with a := (ws.getD (x.base.toNat + 0) 0 % x.s), phase := 1, i := 0 }, rec, ws) := by simp [stepW, p]
   rw [hst]
   exact write_0 x.base.toNat hm eb hn ⟨by omega, hs.2⟩ hj0 p h
 · have hst : stepW x rec ws = (scanC x (ws.getD (x.base.toNat + (1 + x.i.toNat)) 0), rec, ws) := by simp [stepW, p]
   rw [hst]
   rw [if_pos ⟨hop, p⟩] at hi
   have h11 : x.base.toNat + (1 + x.i.toNat) < ws.length := by omega
   exact write_1 x.base.toNat x.i.toNat hT hm eb hn ei (by omega) (by omega) ⟨ha.1, by omega⟩ (hI.marks hov hop (by omega)).bd h11 p h
 · have hst : stepW x rec ws = (if x.w.toNat <= x.i.toNat + 1 then { x with phase := 3, i := 0 } else { x with i := (x.i.toNat : Int) + 1 }, rec, ws.set (x.base.toNat + (place x x.b + x.i.toNat)) (rec.getD x.i.toNat 0)) := by simp [stepW, p]
   rw [hst]
   rw [if_neg (by omega)] at hi
   have h9 := hph.2
   have h10 : x.i.toNat < rec.length := by omega
   have h11 : x.base.toNat + (place x x.b + x.i.toNat) < ws.length := by omega
   exact write_2 x.base.toNat hm eb hn x.w.toNat x.i.toNat (place x x.b) hw (by omega) ⟨hb.1, by omega⟩ rfl ew ei (by omega) (.inl hop) h10 h11 p h
 · have hst : stepW x rec ws = ({ x with over := true, code := 0 }, endRec x.op 0 rec, ws.set (x.base.toNat + 0) x.b) := by simp [stepW, p]
   rw [hst]
   exact write_3 x.base.toNat hm eb hn ⟨hb.1, by omega⟩ hj0 p h
set_option maxHeartbeats 2000000 in
theorem read_any {T : TypeId} {bx mb : Nat} {sv r0 : Value} {W0 W : World} {x : Core} {rec ws : List Int} {n : Int}  (hI : Shape x rec) (hov : x.over = false) (hop : x.op = 1) (hm : x.m = .pointer (some ⟨mb, 0, none⟩)) (hfit : x.base + x.size <= ws.length) (hn : 0 <= n /\ n <= 1000000) (h : St T bx mb sv W0 r0 W x rec ws n) :
 Calls Tryz.prog 114 #[.pointer (some ⟨bx, 0, none⟩)] W fun e W' => e = .returned (.tuple #[]) /\ St T bx mb sv W0 r0 W' (stepR x rec ws).1 (stepR x rec ws).2.1 (stepR x rec ws).2.2 (n + 1) := by
 have hw := hI.w; have ha := hI.a; have hb := hI.b; have hba := hI.base; have hsz := hI.size; have hi := hI.i hov; have hs := hI.s; have hrl := hI.rl; have hrd := hI.reader
 have hfa := place_fit (x := x) (sl := x.a) (by omega) hw ha
 have hfb := place_fit (x := x) (sl := x.b) (by omega) hw hb
 have hph : (0 <= x.phase /\ x.phase <= 4) /\ (rec.length : Int) = if x.phase = 3 then x.i else if x.phase = 4 then (rec.length : Int) else 0 := by rcases hI.op with ⟨h1, _⟩ | ⟨_, h1, h2⟩; omega; exact ⟨h1, h2 hov⟩
 rw [if_neg (by omega)] at hi
 have ht := hI.tries
 have eb : x.base = (x.base.toNat : Int) := by omega
 have ei : x.i = (x.i.toNat : Int) := by omega
 have ew : x.w = (x.w.toNat : Int) := by omega
 have er : x.reader = (x.reader.toNat : Int) := by omega
 have hnn := Int.mul_nonneg (show 0 <= x.s by omega) (show 0 <= x.w by omega)
 have hj0 : x.base.toNat + 0 < ws.length := by omega
 have hjr : x.base.toNat + (1 + x.reader.toNat) < ws.length := by omega
 rcases (by omega : x.phase = 0 \/ x.phase = 1 \/ x.phase = 2 \/ x.phase = 3 \/ x.phase = 4) with p | p | p | p | p
 · have hst : stepR x rec ws = ({ x with a := (ws.getD (x.base.toNat + 0) 0 % x.s), phase := 1, i := 0 }, rec, ws) := by simp [stepR, p]
   rw [hst]
   exact read_0 x.base.toNat hm eb hn x.reader.toNat er (by omega) ⟨by omega, hs.2⟩ hj0 p h
 · have hst : stepR x rec ws = ({ x with phase := 2, i := 0 }, rec, ws.set (x.base.toNat + (1 + x.reader.toNat)) ((x.a + 1) % 4294967296)) := by simp [stepR, p]
   rw [hst]
   exact read_1 x.base.toNat hm eb hn x.reader.toNat er (by omega) ⟨ha.1, by omega⟩ hjr p h
 · have hst : stepR x rec ws = (if (ws.getD (x.base.toNat + 0) 0 % x.s) = x.a then { x with phase := 3, i := 0 } else failC x, if (ws.getD (x.base.toNat + 0) 0 % x.s) = x.a then rec else [], ws) := by simp [stepR, p]
   rw [hst]
   exact read_2 x.base.toNat hm eb hn x.reader.toNat er (by omega) ⟨ht.1, by omega⟩ ⟨by omega, hs.2⟩ hj0 p h
 · have hst : stepR x rec ws = (if x.w.toNat <= x.i.toNat + 1 then { x with phase := 4, i := 0 } else { x with i := (x.i.toNat : Int) + 1 }, rec ++ [ws.getD (x.base.toNat + (place x x.a + x.i.toNat)) 0], ws) := by simp [stepR, p]
   rw [hst]
   have hrlen : rec.length < 1000 := by have h9 := hph.2; rw [if_pos p] at h9; omega
   have h11 : x.base.toNat + (place x x.a + x.i.toNat) < ws.length := by omega
   exact read_3 x.base.toNat hm eb hn x.reader.toNat er (by omega) x.w.toNat x.i.toNat (place x x.a) hw (by omega) ⟨ha.1, by omega⟩ rfl ew ei (by omega) (by omega) hrlen h11 p h
 · have hst : stepR x rec ws = ({ x with over := true, code := x.b }, endRec x.op x.b rec, ws.set (x.base.toNat + (1 + x.reader.toNat)) 0) := by simp [stepR, p]
   rw [hst]
   exact read_4 x.base.toNat hm eb hn x.reader.toNat er (by omega) ⟨hb.1, by omega⟩ hjr p h
theorem e8of {T : TypeId} {bx mb : Nat} {sv r0 : Value} {W0 W : World} {x : Core} {rec ws : List Int} {n o : Int} {mv : Value} {k : Int} (ho : x.op = o) (h : St T bx mb sv W0 r0 W { x with m := mv, steps := k } rec ws n) : W.cell? ⟨bx, 8, none⟩ = some (.int .i64 o) := by
 rw [<- ho]; exact h.cell 8 _ (fun _ => rfl)
theorem Shape.up {x : Core} {rec : List Int} (h : Shape x rec) (mv : Value) (k : Int) : Shape { x with m := mv, steps := k } rec := ⟨h.w, h.rl, h.s, h.a, h.b, h.c, h.reader, h.tries, h.base, h.size, h.marks, h.i, h.op⟩
theorem opens_spec {x : Core} {l : Nat} (h : opens x l = true) : x.over = false /\ 0 <= x.base /\ 0 <= x.size /\ x.base + x.size <= l := by
 simp only [opens, insB, Bool.and_eq_true, Bool.not_eq_true', decide_eq_true_eq] at h
 exact ⟨h.1, h.2.1, h.2.2.1, by omega⟩
set_option maxHeartbeats 2000000 in
theorem Step_yes {T : TypeId} {bx mb : Nat} {sv r0 : Value} {W0 W : World} {x : Core} {rec ws : List Int} {n : Int} (hT : ∀ V x' rec' ws' n', St T bx mb sv W0 r0 V x' rec' ws' n' -> bitm.Tab V) (hI : Shape x rec) (hs : 0 <= x.steps /\ x.steps <= 1000000) (ho : opens x ws.length = true) (hn : 0 <= n /\ n <= 1000000) (h : St T bx mb sv W0 r0 W x rec ws n) :
 Calls Tryz.prog 66 #[.pointer (some ⟨bx, 0, none⟩), .pointer (some ⟨mb, 0, none⟩)] W fun e W' => e = .returned (.bool true) ∧
  St T bx mb sv W0 r0 W' (step x (.pointer (some ⟨mb, 0, none⟩)) rec ws).1 (step x (.pointer (some ⟨mb, 0, none⟩)) rec ws).2.1 (step x (.pointer (some ⟨mb, 0, none⟩)) rec ws).2.2 (n + 1) := by
 have H := hid h
 obtain ⟨hov, _, _, hfit⟩ := opens_spec ho
 have HS := hid hs
 have HO := hid ho
 have hop : (x.op = 2 \/ x.op = 1) := by rcases hI.op with h1 | h1 <;> simp [h1.1]
 rcases hop with hop | hop
 · have hst : step x (.pointer (some ⟨mb, 0, none⟩)) rec ws = stepW { x with m := .pointer (some ⟨mb, 0, none⟩), steps := x.steps + 1 } rec ws := by simp [step, hop]
   rw [hst]
   have K := hid (fun W1 (hx : St T bx mb sv W0 r0 W1 { x with m := .pointer (some ⟨mb, 0, none⟩), steps := x.steps + 1 } rec ws n) => write_any hT (hI.up (.pointer (some ⟨mb, 0, none⟩)) (x.steps + 1)) hov hop rfl hfit hn hx)
   have HOP := hid hop
   clear h hst hI hov hfit hop hs ho hn hT
   go_enter Tryz.func66, Tryz.ntmps66
   go_wp2_with (first | (go_at_call 104; refine (Open_yes HS.out HO.out H.out).mono ?_; rintro e w1 ⟨rfl, hx⟩; have e8 : w1.cell? ⟨bx, 8, none⟩ = some (.int .i64 2) := e8of HOP.out hx; have H1 := hid hx; clear hx) | (go_at_call 113; refine (K.out _ H1.out).mono ?_; rintro e w2 ⟨rfl, hx⟩; have H2 := hid hx; clear hx))
   go_ret
   exact ⟨rfl, H2.out⟩
 · have hst : step x (.pointer (some ⟨mb, 0, none⟩)) rec ws = stepR { x with m := .pointer (some ⟨mb, 0, none⟩), steps := x.steps + 1 } rec ws := by simp [step, hop]
   rw [hst]
   have K := hid (fun W1 (hx : St T bx mb sv W0 r0 W1 { x with m := .pointer (some ⟨mb, 0, none⟩), steps := x.steps + 1 } rec ws n) => read_any (hI.up (.pointer (some ⟨mb, 0, none⟩)) (x.steps + 1)) hov hop rfl hfit hn hx)
   have HOP := hid hop
   clear h hst hI hov hfit hop hs ho hn hT
   go_enter Tryz.func66, Tryz.ntmps66
   go_wp2_with (first | (go_at_call 104; refine (Open_yes HS.out HO.out H.out).mono ?_; rintro e w1 ⟨rfl, hx⟩; have e8 : w1.cell? ⟨bx, 8, none⟩ = some (.int .i64 1) := e8of HOP.out hx; have H1 := hid hx; clear hx) | (go_at_call 114; refine (K.out _ H1.out).mono ?_; rintro e w2 ⟨rfl, hx⟩; have H2 := hid hx; clear hx))
   go_ret
   exact ⟨rfl, H2.out⟩
def left (x : Core) : Int :=
 if x.over then 0 else if x.op = 2 then (if x.phase = 0 then x.w + x.rl + 2 else if x.phase = 1 then x.w + x.rl + 1 - x.i else if x.phase = 2 then x.w + 1 - x.i else 1) else (if x.phase = 0 then 3 * (x.c - x.tries) + x.w + 1 else if x.phase = 1 then 3 * (x.c - x.tries) + x.w else if x.phase = 2 then 3 * (x.c - x.tries) + x.w - 1 else if x.phase = 3 then x.w + 1 - x.i else 1)
theorem left_over {x : Core} (ho : x.over = true) : left x = 0 := by simp [left, ho]
theorem left_pos {x : Core} {rec : List Int} (h : Shape x rec) (ho : x.over = false) : 1 <= left x := by
 have hw := h.w; have hi := h.i ho; have ht := h.tries; have hrl := h.rl
 rcases h.op with ⟨o, p, _⟩ | ⟨o, p, _⟩
 · simp only [left, ho, o]; simp
   (repeat' split) <;> (simp [o, *] at hi; omega)
 · simp only [left, ho, o]; simp
   rw [if_neg (by omega)] at hi
   have ht2 := ht.2.2 ho
   (repeat' split) <;> omega
theorem step_len (x : Core) (mv : Value) (rec ws : List Int) : (step x mv rec ws).2.2.length = ws.length := by
 simp only [step, stepW, stepR]
 (repeat' split) <;> simp
theorem mod_bd {s v : Int} (hs : 1 <= s) : 0 <= v % s /\ v % s < s := ⟨Int.emod_nonneg v (by omega), Int.emod_lt_of_pos v (by omega)⟩
theorem step_ok {x : Core} {rec ws : List Int} (mv : Value) (h : Shape x rec) (ho : x.over = false) (hws : ∀ z ∈ ws, 0 <= z /\ z <= 4294967295) :
 Shape (step x mv rec ws).1 (step x mv rec ws).2.1 /\ left (step x mv rec ws).1 + 1 <= left x /\ (step x mv rec ws).1.steps = x.steps + 1 /\ (step x mv rec ws).1.m = mv /\ (step x mv rec ws).1.base = x.base /\ (step x mv rec ws).1.size = x.size := by
 obtain ⟨hw, hrl, hs, ha, hb, hc, hrd, ht, hba, hsz, hmk, hi, hop⟩ := h
 have hi := hi ho
 have ht2 := ht.2.2 ho
 have g1 := fun v => mod_bd (v := v) (show 1 <= x.s by omega)
 rcases hop with ⟨o, p, r⟩ | ⟨o, p, r⟩
 · have r := r ho
   have hmk := hmk ho o
   have hst : step x mv rec ws = stepW { x with m := mv, steps := x.steps + 1 } rec ws := by unfold step; rw [if_pos o]
   rw [hst]
   have hl : left x = (if x.phase = 0 then x.w + x.rl + 2 else if x.phase = 1 then x.w + x.rl + 1 - x.i else if x.phase = 2 then x.w + 1 - x.i else 1) := by unfold left; rw [if_neg (by simp [ho]), if_pos o]
   rcases (by omega : x.phase = 0 \/ x.phase = 1 \/ x.phase = 2 \/ x.phase = 3) with q | q | q | q
   · have hmk := hmk (by omega)
     rw [if_neg (by omega)] at hmk
     unfold stepW
     rw [if_pos (show ({ x with m := mv, steps := x.steps + 1 } : Core).phase = 0 from q)]
     dsimp only
     refine ⟨⟨hw, hrl, hs, g1 _, hb, hc, hrd, ⟨ht.1, ht.2.1, fun _ _ => ht2 (by omega)⟩, hba, hsz, fun _ _ _ => by simp only [if_true]; exact hmk, fun _ => by simp [o]; omega, .inl ⟨o, by simp, fun _ => r⟩⟩, ?_, rfl, rfl, rfl, rfl⟩
     rw [hl, if_pos q]
     simp [left, ho, o] <;> omega
   · have hmk := hmk (by omega)
     rw [if_pos q] at hmk
     rw [if_pos ⟨o, q⟩] at hi
     obtain ⟨u, hu⟩ : ∃ u, ws.getD (x.base.toNat + (1 + x.i.toNat)) 0 = u := ⟨_, rfl⟩
     have hm1 : bitm.Marks (if 0 < u then bitm.markU x.used (u - 1) else x.used) (x.i + 1) := by
      split
      · exact hmk.mark (by omega)
      · exact hmk.more (by omega)
     unfold stepW
     rw [if_neg (show ¬ ({ x with m := mv, steps := x.steps + 1 } : Core).phase = 0 by show ¬ x.phase = 0; omega), if_pos (show ({ x with m := mv, steps := x.steps + 1 } : Core).phase = 1 from q)]
     dsimp only
     rw [hu]
     unfold scanC
     dsimp only
     obtain ⟨U1, hU1⟩ : ∃ U1, (if 0 < u then bitm.markU x.used (u - 1) else x.used) = U1 := ⟨_, rfl⟩
     rw [hU1] at hm1
     simp only [hU1]
     split
     · have hm2 := hm1.mark (s := x.a) ha.1
       have hf := hm2.free
       refine ⟨⟨hw, hrl, hs, ha, by simp only []; omega, hc, hrd, ⟨ht.1, ht.2.1, fun _ _ => ht2 (by omega)⟩, hba, hsz, fun _ _ h9 => by simp at h9, fun _ => by simp [o]; omega, .inl ⟨o, by simp, fun _ => r⟩⟩, ?_, rfl, rfl, rfl, rfl⟩
       rw [hl, if_neg (by omega), if_pos q]
       simp [left, ho, o] <;> omega
     · refine ⟨⟨hw, hrl, hs, ha, hb, hc, hrd, ⟨ht.1, ht.2.1, fun _ _ => ht2 (by omega)⟩, hba, hsz, fun _ _ _ => by
        simp only [q, if_true]
        rw [show (x.i.toNat : Int) + 1 = x.i + 1 by omega]; exact hm1, fun _ => by simp [o, q]; omega, .inl ⟨o, by simp [q], fun _ => r⟩⟩, ?_, rfl, rfl, rfl, rfl⟩
       rw [hl, if_neg (by omega), if_pos q]
       simp [left, ho, o, q] <;> omega
   · rw [if_neg (by omega)] at hi
     unfold stepW
     rw [if_neg (show ¬ ({ x with m := mv, steps := x.steps + 1 } : Core).phase = 0 by show ¬ x.phase = 0; omega), if_neg (show ¬ ({ x with m := mv, steps := x.steps + 1 } : Core).phase = 1 by show ¬ x.phase = 1; omega), if_pos (show ({ x with m := mv, steps := x.steps + 1 } : Core).phase = 2 from q)]
     dsimp only
     split
     · refine ⟨⟨hw, hrl, hs, ha, hb, hc, hrd, ⟨ht.1, ht.2.1, fun _ _ => ht2 (by omega)⟩, hba, hsz, fun _ _ h9 => by simp at h9, fun _ => by simp [o]; omega, .inl ⟨o, by simp, fun _ => r⟩⟩, ?_, rfl, rfl, rfl, rfl⟩
       rw [hl, if_neg (by omega), if_neg (by omega), if_pos q]
       simp [left, ho, o] <;> omega
     · refine ⟨⟨hw, hrl, hs, ha, hb, hc, hrd, ⟨ht.1, ht.2.1, fun _ _ => ht2 (by omega)⟩, hba, hsz, fun _ _ h9 => by simp [q] at h9, fun _ => by simp [o, q]; omega, .inl ⟨o, by simp [q], fun _ => r⟩⟩, ?_, rfl, rfl, rfl, rfl⟩
       rw [hl, if_neg (by omega), if_neg (by omega), if_pos q]
       simp [left, ho, o, q] <;> omega
   · unfold stepW
     rw [if_neg (show ¬ ({ x with m := mv, steps := x.steps + 1 } : Core).phase = 0 by show ¬ x.phase = 0; omega), if_neg (show ¬ ({ x with m := mv, steps := x.steps + 1 } : Core).phase = 1 by show ¬ x.phase = 1; omega), if_neg (show ¬ ({ x with m := mv, steps := x.steps + 1 } : Core).phase = 2 by show ¬ x.phase = 2; omega)]
     dsimp only
     refine ⟨⟨hw, hrl, hs, ha, hb, hc, hrd, ⟨ht.1, ht.2.1, fun h9 => by simp at h9⟩, hba, hsz, fun h9 => by simp at h9, fun h9 => by simp at h9, .inl ⟨o, by simp [q], fun h9 => by simp at h9⟩⟩, ?_, rfl, rfl, rfl, rfl⟩
     rw [hl, if_neg (by omega), if_neg (by omega), if_neg (by omega)]
     simp [left]
 · have r := r ho
   rw [if_neg (by omega)] at hi
   have hst : step x mv rec ws = stepR { x with m := mv, steps := x.steps + 1 } rec ws := by unfold step; rw [if_neg (by omega)]
   rw [hst]
   have hl : left x = (if x.phase = 0 then 3 * (x.c - x.tries) + x.w + 1 else if x.phase = 1 then 3 * (x.c - x.tries) + x.w else if x.phase = 2 then 3 * (x.c - x.tries) + x.w - 1 else if x.phase = 3 then x.w + 1 - x.i else 1) := by unfold left; rw [if_neg (by simp [ho]), if_neg (by omega)]
   have hnm : ∀ (y : Core), y.op = x.op -> y.over = false -> y.op = 2 -> y.phase <= 1 -> bitm.Marks y.used (if y.phase = 1 then y.i else 0) := fun y h1 _ h2 => by rw [h1, o] at h2; omega
   rcases (by omega : x.phase = 0 \/ x.phase = 1 \/ x.phase = 2 \/ x.phase = 3 \/ x.phase = 4) with q | q | q | q | q
   · unfold stepR
     rw [if_pos (show ({ x with m := mv, steps := x.steps + 1 } : Core).phase = 0 from q)]
     dsimp only
     refine ⟨⟨hw, hrl, hs, g1 _, hb, hc, hrd, ⟨ht.1, ht.2.1, fun _ _ => ht2 (by omega)⟩, hba, hsz, hnm _ rfl, fun _ => by simp [o]; omega, .inr ⟨o, by simp, fun _ => by simp [q] at r ⊢; exact r⟩⟩, ?_, rfl, rfl, rfl, rfl⟩
     rw [hl, if_pos q]
     simp [left, ho, o] <;> omega
   · unfold stepR
     rw [if_neg (show ¬ ({ x with m := mv, steps := x.steps + 1 } : Core).phase = 0 by show ¬ x.phase = 0; omega), if_pos (show ({ x with m := mv, steps := x.steps + 1 } : Core).phase = 1 from q)]
     dsimp only
     refine ⟨⟨hw, hrl, hs, ha, hb, hc, hrd, ⟨ht.1, ht.2.1, fun _ _ => ht2 (by omega)⟩, hba, hsz, hnm _ rfl, fun _ => by simp [o]; omega, .inr ⟨o, by simp, fun _ => by simp [q] at r ⊢; exact r⟩⟩, ?_, rfl, rfl, rfl, rfl⟩
     rw [hl, if_neg (by omega), if_pos q]
     simp [left, ho, o] <;> omega
   · unfold stepR
     rw [if_neg (show ¬ ({ x with m := mv, steps := x.steps + 1 } : Core).phase = 0 by show ¬ x.phase = 0; omega), if_neg (show ¬ ({ x with m := mv, steps := x.steps + 1 } : Core).phase = 1 by show ¬ x.phase = 1; omega), if_pos (show ({ x with m := mv, steps := x.steps + 1 } : Core).phase = 2 from q)]
     dsimp only
     have htt := ht2 (by omega)
     split
     · refine ⟨⟨hw, hrl, hs, ha, hb, hc, hrd, ⟨ht.1, ht.2.1, fun _ _ => htt⟩, hba, hsz, hnm _ rfl, fun _ => by simp [o]; omega, .inr ⟨o, by simp, fun _ => by simp [q] at r ⊢; exact r⟩⟩, ?_, rfl, rfl, rfl, rfl⟩
       rw [hl, if_neg (by omega), if_neg (by omega), if_pos q]
       simp [left, ho, o] <;> omega
     · unfold failC
       dsimp only
       split
       · refine ⟨⟨hw, hrl, hs, ha, by simp only []; omega, hc, hrd, ⟨by simp only []; omega, by simp only []; omega, fun _ h9 => by simp at h9⟩, hba, hsz, hnm _ rfl, fun _ => by simp [o]; omega, .inr ⟨o, by simp, fun _ => by simp⟩⟩, ?_, rfl, rfl, rfl, rfl⟩
         rw [hl, if_neg (by omega), if_neg (by omega), if_pos q]
         simp [left, ho, o] <;> omega
       · refine ⟨⟨hw, hrl, hs, ha, hb, hc, hrd, ⟨by simp only []; omega, by simp only []; omega, fun _ _ => by simp only []; omega⟩, hba, hsz, hnm _ rfl, fun _ => by simp [o]; omega, .inr ⟨o, by simp, fun _ => by simp⟩⟩, ?_, rfl, rfl, rfl, rfl⟩
         rw [hl, if_neg (by omega), if_neg (by omega), if_pos q]
         simp [left, ho, o] <;> omega
   · unfold stepR
     rw [if_neg (show ¬ ({ x with m := mv, steps := x.steps + 1 } : Core).phase = 0 by show ¬ x.phase = 0; omega), if_neg (show ¬ ({ x with m := mv, steps := x.steps + 1 } : Core).phase = 1 by show ¬ x.phase = 1; omega), if_neg (show ¬ ({ x with m := mv, steps := x.steps + 1 } : Core).phase = 2 by show ¬ x.phase = 2; omega), if_pos (show ({ x with m := mv, steps := x.steps + 1 } : Core).phase = 3 from q)]
     dsimp only
     rw [if_pos q] at r
     split
     · refine ⟨⟨hw, hrl, hs, ha, hb, hc, hrd, ⟨ht.1, ht.2.1, fun _ h9 => by simp at h9⟩, hba, hsz, hnm _ rfl, fun _ => by simp [o]; omega, .inr ⟨o, by simp, fun _ => by simp⟩⟩, ?_, rfl, rfl, rfl, rfl⟩
       rw [hl, if_neg (by omega), if_neg (by omega), if_neg (by omega), if_pos q]
       simp [left, ho, o] <;> omega
     · refine ⟨⟨hw, hrl, hs, ha, hb, hc, hrd, ⟨ht.1, ht.2.1, fun _ _ => ht2 (by omega)⟩, hba, hsz, hnm _ rfl, fun _ => by simp [o, q]; omega, .inr ⟨o, by simp [q], fun _ => by simp [q]; omega⟩⟩, ?_, rfl, rfl, rfl, rfl⟩
       rw [hl, if_neg (by omega), if_neg (by omega), if_neg (by omega), if_pos q]
       simp [left, ho, o, q] <;> omega
   · unfold stepR
     rw [if_neg (show ¬ ({ x with m := mv, steps := x.steps + 1 } : Core).phase = 0 by show ¬ x.phase = 0; omega), if_neg (show ¬ ({ x with m := mv, steps := x.steps + 1 } : Core).phase = 1 by show ¬ x.phase = 1; omega), if_neg (show ¬ ({ x with m := mv, steps := x.steps + 1 } : Core).phase = 2 by show ¬ x.phase = 2; omega), if_neg (show ¬ ({ x with m := mv, steps := x.steps + 1 } : Core).phase = 3 by show ¬ x.phase = 3; omega)]
     dsimp only
     refine ⟨⟨hw, hrl, hs, ha, hb, hc, hrd, ⟨ht.1, ht.2.1, fun h9 => by simp at h9⟩, hba, hsz, fun h9 => by simp at h9, fun h9 => by simp at h9, .inr ⟨o, by simp [q], fun h9 => by simp at h9⟩⟩, ?_, rfl, rfl, rfl, rfl⟩
     rw [hl, if_neg (by omega), if_neg (by omega), if_neg (by omega), if_neg (by omega)]
     simp [left]
def K : Kind where
 step := step
 Shape := Shape
 left := left
 ok mv h ho hws := step_ok mv h ho hws
 len := step_len
 pos := left_pos
 zero := left_over
end Go.Proofs.YtphfnjcboellhaaGreatDoor.cab
