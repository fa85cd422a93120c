import Derived.Test.YtphfnjcboellhaaGreatDoorSets
import Derived.Test.YtphfnjcboellhaaGreatDoorObjA
import Derived.Deep.Cut
namespace Go.Proofs.YtphfnjcboellhaaGreatDoor.chen
open Go Go.RowKit kit mem rop core obj
set_option maxRecDepth 20000
theorem mul_bd {c w m : Int} (hc : 0 <= c /\ c <= m) (hw : 0 <= w /\ w <= 8) (hm : m <= 16) : 0 <= c * w /\ c * w <= m * w /\ c * w <= 128 := by
 have h1 := Int.mul_nonneg hc.1 hw.1
 have h2 := Int.mul_le_mul_of_nonneg_right hc.2 hw.1
 have h3 := Int.mul_le_mul_of_nonneg_left hw.2 (show 0 <= m by omega)
 omega
theorem data_any (k w s c st : Int) (ia : Option Addr) (il ic : Nat) (wr : Int) (ra : Option Addr) (rl rc : Nat) (hrl : rl <= 100) (W : World) :
 Calls Tryz.prog 93 #[.agg #[.int .i64 k, .int .i64 w, .int .i64 s, .int .i64 c, .int .u32 st, .slice ia il ic, .int .i64 wr, .slice ra rl rc]] W fun e W' => e = .returned (.int .i64 ((1 + rl : Nat) : Int)) /\ Chg [] W W' := by
 have k1 : IntKind.i64.wrap (1 + (rl : Int)) = ((1 + rl : Nat) : Int) := by rw [IntKind.wrap_i64]; omega
 clear hrl
 go_enter Tryz.func93, Tryz.ntmps93
 go_wp2
 go_ret
 exact ⟨rfl, (Chg.refl _ _).alloc _⟩
theorem slots_any (k w s c st : Int) (ia : Option Addr) (il ic : Nat) (wr : Int) (ra : Option Addr) (rl rc : Nat) (hrl : rl <= 100) (W : World) :
 Calls Tryz.prog 123 #[.agg #[.int .i64 k, .int .i64 w, .int .i64 s, .int .i64 c, .int .u32 st, .slice ia il ic, .int .i64 wr, .slice ra rl rc]] W fun e W' => e = .returned (.int .i64 ((rl : Int) + 2)) /\ Chg [] W W' := by
 have k1 : IntKind.i64.wrap ((rl : Int) + 2) = (rl : Int) + 2 := by rw [IntKind.wrap_i64]; omega
 clear hrl
 go_enter Tryz.func123, Tryz.ntmps123
 go_wp2
 go_ret
 exact ⟨rfl, (Chg.refl _ _).alloc _⟩
set_option maxHeartbeats 1000000 in
theorem none_any {T : TypeId} {bx mb : Nat} {sv r0 : Value} {W0 W : World} {x : Core} {rec ws : List Int} {n : Int} (hrl : x.rl <= 100) (h : St T bx mb sv W0 r0 W x rec ws n) :
 Calls Tryz.prog 136 #[.pointer (some ⟨bx, 0, none⟩)] W fun e W' => e = .returned (.int .u32 ((x.rl : Int) + 2)) /\ Chg [] W W' := by
 have H := hid h
 have k1 : IntKind.u32.wrap ((x.rl : Int) + 2) = ((x.rl : Int) + 2) := by rw [IntKind.wrap_u32]; omega
 have HSL := hid (fun V => slots_any x.k x.w x.s x.c x.st x.ia x.il x.ic x.wr x.ra x.rl x.rc hrl V)
 have e0 : W.cell? ⟨bx, 0, none⟩ = some (.int .i64 x.k) := H.out.cell 0 _ (fun _ => rfl)
 have e1 : W.cell? ⟨bx, 1, none⟩ = some (.int .i64 x.w) := H.out.cell 1 _ (fun _ => rfl)
 have e2 : W.cell? ⟨bx, 2, none⟩ = some (.int .i64 x.s) := H.out.cell 2 _ (fun _ => rfl)
 have e3 : W.cell? ⟨bx, 3, none⟩ = some (.int .i64 x.c) := H.out.cell 3 _ (fun _ => rfl)
 have e4 : W.cell? ⟨bx, 4, none⟩ = some (.int .u32 x.st) := H.out.cell 4 _ (fun _ => rfl)
 have e5 : W.cell? ⟨bx, 5, none⟩ = some (.slice x.ia x.il x.ic) := H.out.cell 5 _ (fun _ => rfl)
 have e6 : W.cell? ⟨bx, 6, none⟩ = some (.int .i64 x.wr) := H.out.cell 6 _ (fun _ => rfl)
 have e7 : W.cell? ⟨bx, 7, none⟩ = some (.slice x.ra x.rl x.rc) := H.out.cell 7 _ (fun _ => rfl)
 clear h hrl
 go_enter Tryz.func136, Tryz.ntmps136
 go_wp2_with (go_at_call 123; refine (HSL.out _).mono ?_; rintro e w1 ⟨rfl, hx⟩; have HC := hid hx; clear hx)
 go_ret
 exact ⟨rfl, HC.out⟩
def place (x : Core) (sl : Int) : Nat := 1 + x.rl + (sl * x.w).toNat
set_option maxHeartbeats 2000000 in
theorem from_any {T : TypeId} {bx mb : Nat} {sv r0 : Value} {W0 W : World} {x : Core} {rec ws : List Int} {n : Int} (hsl : 0 <= x.b /\ x.b <= 16) (hw : 1 <= x.w /\ x.w <= 8) (hrl : x.rl <= 100) (h : St T bx mb sv W0 r0 W x rec ws n) :
 Calls Tryz.prog 134 #[.pointer (some ⟨bx, 0, none⟩)] W fun e W' => e = .returned (.int .i64 ((place x x.b : Nat) : Int)) /\ Chg [] W W' := by
 have H := hid h
 have hb := mul_bd (c := x.b) (w := x.w) (m := 16) hsl ⟨by omega, hw.2⟩ (by omega)
 have k1 : IntKind.i64.wrap x.b = x.b := by rw [IntKind.wrap_i64]; omega
 have k2 : IntKind.i64.wrap (x.b * x.w) = x.b * x.w := by rw [IntKind.wrap_i64]; omega
 have k3 : IntKind.i64.wrap (((1 + x.rl : Nat) : Int) + x.b * x.w) = ((place x x.b : Nat) : Int) := by unfold place; rw [IntKind.wrap_i64]; omega
 have k4 : IntKind.i64.wrap ((1 + (x.rl : Int)) + x.b * x.w) = ((place x x.b : Nat) : Int) := by unfold place; rw [IntKind.wrap_i64]; omega
 have HDT := hid (fun V => data_any x.k x.w x.s x.c x.st x.ia x.il x.ic x.wr x.ra x.rl x.rc hrl V)
 have eS0 : W.cell? ⟨bx, 14, none⟩ = some (.int .u32 x.b) := H.out.cell 14 _ (fun _ => rfl)
 have eS1 : W.cell? ⟨bx, 1, none⟩ = some (.int .i64 x.w) := H.out.cell 1 _ (fun _ => rfl)
 have KEEP := hid (fun (V : World) (h : Chg [] W V) => (⟨H.out.loadO h (by simp), h.keep eS0 (by simp), h.keep eS1 (by simp), hid h⟩ : (fun V : World => (Instr.loadAt 26 (.pointer (some ⟨bx, 0, none⟩))).run Tryz.prog V = .ok (.agg #[.int .i64 x.k, .int .i64 x.w, .int .i64 x.s, .int .i64 x.c, .int .u32 x.st, .slice x.ia x.il x.ic, .int .i64 x.wr, .slice x.ra x.rl x.rc]) V /\ V.cell? ⟨bx, 14, none⟩ = some (.int .u32 x.b) /\ V.cell? ⟨bx, 1, none⟩ = some (.int .i64 x.w) /\ Hid (Chg [] W V)) V))
 clear eS0 eS1
 generalize place x x.b = pl at *
 clear h hb hsl hw hrl
 go_enter Tryz.func134, Tryz.ntmps134
 go_wp2_with fail
 have hHeld : (fun V : World => (Instr.loadAt 26 (.pointer (some ⟨bx, 0, none⟩))).run Tryz.prog V = .ok (.agg #[.int .i64 x.k, .int .i64 x.w, .int .i64 x.s, .int .i64 x.c, .int .u32 x.st, .slice x.ia x.il x.ic, .int .i64 x.wr, .slice x.ra x.rl x.rc]) V /\ V.cell? ⟨bx, 14, none⟩ = some (.int .u32 x.b) /\ V.cell? ⟨bx, 1, none⟩ = some (.int .i64 x.w) /\ Hid (Chg [] W V)) (World.drew W) := KEEP.out _ (Chg.refl _ _).drew
 refine wp_region_plan (fun V : World => (Instr.loadAt 26 (.pointer (some ⟨bx, 0, none⟩))).run Tryz.prog V = .ok (.agg #[.int .i64 x.k, .int .i64 x.w, .int .i64 x.s, .int .i64 x.c, .int .u32 x.st, .slice x.ia x.il x.ic, .int .i64 x.wr, .slice x.ra x.rl x.rc]) V /\ V.cell? ⟨bx, 14, none⟩ = some (.int .u32 x.b) /\ V.cell? ⟨bx, 1, none⟩ = some (.int .i64 x.w) /\ Hid (Chg [] W V)) [(0, true, some 3), (1, true, some 4), (2, true, some 5), (3, true, some 6), (4, true, some 7), (6, true, some 9), (7, true, some 10), (8, true, some 11), (9, true, some 12), (10, true, some 13), (11, true, some 14), (12, true, some 15), (13, true, some 16), (14, true, some 17), (15, true, some 18), (16, true, some 19), (17, true, some 20), (18, true, some 21), (5, false, some 8), (19, true, some 22), (20, true, some 2)] (by kernel_rfl) (by kernel_rfl) (by kernel_rfl) (by kernel_rfl) (fun d c a v w h => by cases d <;> exact h) hHeld ?_
 repeat (first | (refine planWp_load rfl rfl rfl 26 _ rfl _ rfl (fun u hSw => hSw.1) ?_; (try simp only [Act.put, sA, sB, sC])) | (refine planWp_read (v := ?_) rfl rfl ?_ ?_ ?_; rotate_left; (focus rfl); (focus (intro u hSw; (try dsimp only at hSw); go_simp; (try with_reducible rfl); done)); (try simp only [Act.put, sA, sB, sC])))
 refine planWp_do rfl rfl ?_ (fun K hK => ?_)
 · rfl
 go_simp
 go_wp2_with (go_at_call 93; refine (HDT.out _).mono ?_; rintro e w2 ⟨rfl, hx⟩; have HC2 := hid ((Chg.refl [] W).drew.trans hx); clear hx)
 refine hK.out _ _ (KEEP.out _ HC2.out) (fun hHeld2 => ?_)
 clear hK K hHeld
 have hHeld := hHeld2
 clear hHeld2
 try simp only [Act.put, sA, sB, sC]
 repeat (first | (refine planWp_load rfl rfl rfl 26 _ rfl _ rfl (fun u hSw => hSw.1) ?_; (try simp only [Act.put, sA, sB, sC])) | (refine planWp_read (v := ?_) rfl rfl ?_ ?_ ?_; rotate_left; (focus rfl); (focus (intro u hSw; (try dsimp only at hSw); go_simp; (try with_reducible rfl); done)); (try simp only [Act.put, sA, sB, sC])))
 refine planWp_nil ?_
 clear hHeld KEEP
 go_wp2_with fail
 go_ret
 exact ⟨rfl, HC2.out⟩
set_option maxHeartbeats 4000000 in
theorem scan_any {T : TypeId} {bx mb : Nat} {sv r0 : Value} {W0 W : World} {x : Core} {rec ws : List Int} {n : Int} (bN iN : Nat) (hT : ∀ V x' rec' ws' n', St T bx mb sv W0 r0 V x' rec' ws' n' -> bitm.Tab V) (hm : x.m = .pointer (some ⟨mb, 0, none⟩)) (hb : x.base = (bN : Int)) (hn : 0 <= n /\ n <= 1000000) (hi : x.i = (iN : Int)) (hil : iN < 100) (hrl : x.rl <= 100) (ha : 0 <= x.a /\ x.a <= 4294967295) (hu : 0 <= x.used /\ x.used < 2097152) (hj : bN + (1 + iN) < ws.length) (h : St T bx mb sv W0 r0 W x rec ws n) :
 Calls Tryz.prog 133 #[.pointer (some ⟨bx, 0, none⟩)] W fun e W' => e = .returned (.tuple #[]) /\ St T bx mb sv W0 r0 W' (if x.rl <= iN + 1 then { x with used := bitm.markU (bitm.markU x.used (ws.getD (bN + (1 + iN)) 0)) x.a, b := bitm.freeU (bitm.markU (bitm.markU x.used (ws.getD (bN + (1 + iN)) 0)) x.a), phase := 2, i := 0 } else { x with used := (bitm.markU x.used (ws.getD (bN + (1 + iN)) 0)), i := (iN : Int) + 1 }) rec ws (n + 1) := by
 have H := hid h
 have HM := hid hm
 have HB := hid hb
 have HN := hid hn
 have NB : Hid (bx ∉ (mb :: sv.ownBlock.toList)) := hid (by obtain ⟨v, hp, he⟩ := h; simp; exact ⟨hp.ne, fun hh => hp.ns bx hh rfl⟩)
 obtain ⟨vv, hvv⟩ : ∃ vv, ws.getD (bN + (1 + iN)) 0 = vv := ⟨_, rfl⟩
 have hvb : 0 <= vv /\ vv <= 4294967295 := by rw [<- hvv]; exact u32_bd h.memory hj
 have HVV := hid hvv
 rw [hvv]
 have hadd : IntKind.i64.wrap (1 + (iN : Int)) = ((1 + iN : Nat) : Int) := by rw [IntKind.wrap_i64]; omega
 have HJ := hid hj
 have HA := hid ha
 have HTT := hid hT
 have HV1 := hid hvb
 have HU := hid hu
 have hm1 := bitm.markU_bd hu hvb.1
 have HUM := hid hm1
 have HUM2 := hid (bitm.markU_bd hm1 ha.1)
 have HI : Hid (0 <= x.i /\ x.i <= 1000000) := hid (by omega)
 have HII := hid hi
 have eS0 : W.cell? ⟨bx, 11, none⟩ = some (.int .i64 (iN : Int)) := by rw [<- hi]; exact H.out.cell 11 _ (fun _ => rfl)
 have KEEP := hid (fun (V : World) (h : Chg (mb :: sv.ownBlock.toList) W V) => (⟨h.keep eS0 NB.out, hid h⟩ : (fun V : World => V.cell? ⟨bx, 11, none⟩ = some (.int .i64 (iN : Int)) /\ Hid (Chg (mb :: sv.ownBlock.toList) W V)) V))
 clear eS0
 clear h hm hb hn hj ha hrl hvv hT hi hvb hu hm1
 by_cases hle : x.rl <= iN + 1
 · rw [if_pos hle]
   have HDEC : Hid (decide ((x.rl : Int) <= x.i + 1) = true) := hid (by rw [HII.out]; simpa using (by omega : (x.rl : Int) <= (iN : Int) + 1))
   clear hle
   go_enter Tryz.func133, Tryz.ntmps133
   go_wp2_with fail
   have hHeld : (fun V : World => V.cell? ⟨bx, 11, none⟩ = some (.int .i64 (iN : Int)) /\ Hid (Chg (mb :: sv.ownBlock.toList) W V)) (World.drew W) := KEEP.out _ (Chg.refl _ _).drew
   refine wp_region_planT (fun V : World => V.cell? ⟨bx, 11, none⟩ = some (.int .i64 (iN : Int)) /\ Hid (Chg (mb :: sv.ownBlock.toList) W V)) 13 [(0, true, some 2), (1, true, some 3), (2, true, some 4), (3, true, some 5), (4, true, some 6), (5, true, some 7), (6, true, some 8), (7, true, some 9), (8, true, some 10), (9, true, some 11), (10, true, some 12), (11, true, some 13), (12, false, some 14)] (by kernel_rfl) (by kernel_rfl) (by kernel_rfl) (by kernel_rfl) (by kernel_rfl) (fun d c a v w h => by cases d <;> exact h) hHeld ?_
   repeat (first | (refine planT_load rfl rfl rfl 26 _ rfl _ rfl (fun u hSw => hSw.1) ?_; (try simp only [Act.put, sA, sB, sC])) | (refine planT_read (v := ?_) rfl rfl ?_ ?_ ?_; rotate_left; (focus rfl); (focus (intro u hSw; (try dsimp only at hSw); go_simp; (try with_reducible rfl); done)); (try simp only [Act.put, sA, sB, sC])))
   refine planT_do rfl rfl ?_ (fun K hK => ?_)
   · rfl
   go_simp
   go_wp2_with (go_at_call 127; refine (Read_at bN (1 + iN) HM.out HB.out HJ.out HN.out (H.out.keep (Chg.refl _ _).drew)).mono ?_; rintro e w1 ⟨rfl, hx⟩; rw [HVV.out]; have H1 := hid hx.1; have HC1 := hid ((Chg.refl _ W).drew.trans hx.2.2); clear hx)
   refine hK.out _ _ (KEEP.out _ HC1.out) (fun hHeld2 => ?_)
   clear hK K hHeld
   have hHeld := hHeld2
   clear hHeld2
   try simp only [Act.put, sA, sB, sC]
   repeat (first | (refine planT_load rfl rfl rfl 26 _ rfl _ rfl (fun u hSw => hSw.1) ?_; (try simp only [Act.put, sA, sB, sC])) | (refine planT_read (v := ?_) rfl rfl ?_ ?_ ?_; rotate_left; (focus rfl); (focus (intro u hSw; (try dsimp only at hSw); go_simp; (try with_reducible rfl); done)); (try simp only [Act.put, sA, sB, sC])))
   refine planT_last rfl ?_ (fun K hK => ?_)
   · rfl
   go_simp
   go_wp2_with (go_at_call 152; refine (Mark_any vv HV1.out HU.out H1.out).mono ?_; rintro e w2 ⟨rfl, hx⟩; have H2 := hid hx; clear hx)
   refine hK.out _ _ ?_
   clear hK K hHeld KEEP
   go_upto_region 1 with fail
   have hHeld : (fun V : World => V.cell? ⟨bx, 7, none⟩ = some (.slice x.ra x.rl x.rc)) (World.drew w2) := (H2.out.keep (Chg.refl _ _).drew).cell 7 _ (fun _ => rfl)
   refine wp_region_plan (fun V : World => V.cell? ⟨bx, 7, none⟩ = some (.slice x.ra x.rl x.rc)) [(0, true, some 16), (1, true, some 17), (2, true, some 18), (3, true, some 19), (4, true, some 20), (5, true, some 21), (6, true, some 22), (7, true, some 23), (8, true, some 24), (9, true, some 25), (10, false, some 26), (11, true, some 27)] (by kernel_rfl) (by kernel_rfl) (by kernel_rfl) (by kernel_rfl) (fun d c a v w h => by cases d <;> exact h) hHeld ?_
   repeat (first | (refine planWp_load rfl rfl rfl 26 _ rfl _ rfl (fun u hSw => hSw.1) ?_; (try simp only [Act.put, sA, sB, sC])) | (refine planWp_read (v := ?_) rfl rfl ?_ ?_ ?_; rotate_left; (focus rfl); (focus (intro u hSw; (try dsimp only at hSw); go_simp; (try with_reducible rfl); done)); (try simp only [Act.put, sA, sB, sC])))
   refine planWp_do rfl rfl ?_ (fun K hK => ?_)
   · rfl
   go_simp
   go_wp2_with (go_at_call 137; refine (Each_any (x := { x with used := bitm.markU x.used vv }) (x.rl : Int) HI.out (H2.out.keep (Chg.refl _ _).drew)).mono ?_; rintro e w3 ⟨he, hx⟩; rw [show e = .returned (.bool true) from he.trans (congrArg (fun b => Ending.returned (Value.bool b)) HDEC.out)]; clear he; have H3 := hid hx; clear hx)
   refine hK.out _ _ (H3.out.cell 7 _ (fun _ => rfl)) (fun hHeld2 => ?_)
   clear hK K hHeld
   have hHeld := hHeld2
   clear hHeld2
   try simp only [Act.put, sA, sB, sC]
   repeat (first | (refine planWp_load rfl rfl rfl 26 _ rfl _ rfl (fun u hSw => hSw.1) ?_; (try simp only [Act.put, sA, sB, sC])) | (refine planWp_read (v := ?_) rfl rfl ?_ ?_ ?_; rotate_left; (focus rfl); (focus (intro u hSw; (try dsimp only at hSw); go_simp; (try with_reducible rfl); done)); (try simp only [Act.put, sA, sB, sC])))
   refine planWp_nil ?_
   clear hHeld
   go_upto_region 2 with fail
   have eS0 : w3.cell? ⟨bx, 13, none⟩ = some (.int .u32 x.a) := H3.out.cell 13 _ (fun _ => rfl)
   have KEEP := hid (fun (V : World) (h : Chg [] w3 V) => (⟨h.keep eS0 (by simp), hid h⟩ : (fun V : World => V.cell? ⟨bx, 13, none⟩ = some (.int .u32 x.a) /\ Hid (Chg [] w3 V)) V))
   clear eS0
   have hHeld : (fun V : World => V.cell? ⟨bx, 13, none⟩ = some (.int .u32 x.a) /\ Hid (Chg [] w3 V)) (World.drew w3) := KEEP.out _ (Chg.refl _ _).drew
   refine wp_region_planT (fun V : World => V.cell? ⟨bx, 13, none⟩ = some (.int .u32 x.a) /\ Hid (Chg [] w3 V)) 8 [(0, true, some 28), (1, true, some 29), (2, true, some 30), (3, true, some 31), (4, true, some 32), (5, true, some 33), (6, true, some 34), (7, true, some 35)] (by kernel_rfl) (by kernel_rfl) (by kernel_rfl) (by kernel_rfl) (by kernel_rfl) (fun d c a v w h => by cases d <;> exact h) hHeld ?_
   repeat (first | (refine planT_load rfl rfl rfl 26 _ rfl _ rfl (fun u hSw => hSw.1) ?_; (try simp only [Act.put, sA, sB, sC])) | (refine planT_read (v := ?_) rfl rfl ?_ ?_ ?_; rotate_left; (focus rfl); (focus (intro u hSw; (try dsimp only at hSw); go_simp; (try with_reducible rfl); done)); (try simp only [Act.put, sA, sB, sC])))
   refine planT_last rfl ?_ (fun K hK => ?_)
   · rfl
   go_simp
   go_wp2_with (go_at_call 152; refine (Mark_any (x := { x with used := bitm.markU x.used vv, i := x.i + 1 }) x.a HA.out HUM.out (H3.out.keep (Chg.refl _ _).drew)).mono ?_; rintro e w4 ⟨rfl, hx⟩; have H4 := hid hx; clear hx)
   refine hK.out _ _ ?_
   clear hK K hHeld KEEP
   have e14 := H4.out.cell 14 _ (fun _ => rfl)
   have f14 := H4.out.free 14
   go_wp2_with (first | (go_at_call 153; refine (Free_any (x := { x with used := bitm.markU (bitm.markU x.used vv) x.a, i := x.i + 1 }) (HTT.out _ _ _ _ _ H4.out) HUM2.out H4.out).mono ?_; rintro e w5 ⟨rfl, rfl⟩; have H5 := hid (H4.out.put 14 (.int .u32 (bitm.freeU (bitm.markU (bitm.markU x.used vv) x.a))) { x with used := bitm.markU (bitm.markU x.used vv) x.a, i := x.i + 1, b := bitm.freeU (bitm.markU (bitm.markU x.used vv) x.a) } (fun _ => rfl))) | (go_at_call 128; refine (Go_any 2 H5.out).mono ?_; rintro e w6 ⟨rfl, hx⟩; have H6 := hid hx; clear hx))
   all_goals (first | (go_end0; exact ⟨rfl, H6.out⟩) | (refine bodyPost_ret (results_none rfl _ _ _) rfl ?_; exact ⟨rfl, H6.out⟩))
 · rw [if_neg hle]
   have HDEC : Hid (decide ((x.rl : Int) <= x.i + 1) = false) := hid (by rw [HII.out]; simpa using (by omega : ¬ (x.rl : Int) <= (iN : Int) + 1))
   clear hle
   go_enter Tryz.func133, Tryz.ntmps133
   go_wp2_with fail
   have hHeld : (fun V : World => V.cell? ⟨bx, 11, none⟩ = some (.int .i64 (iN : Int)) /\ Hid (Chg (mb :: sv.ownBlock.toList) W V)) (World.drew W) := KEEP.out _ (Chg.refl _ _).drew
   refine wp_region_planT (fun V : World => V.cell? ⟨bx, 11, none⟩ = some (.int .i64 (iN : Int)) /\ Hid (Chg (mb :: sv.ownBlock.toList) W V)) 13 [(0, true, some 2), (1, true, some 3), (2, true, some 4), (3, true, some 5), (4, true, some 6), (5, true, some 7), (6, true, some 8), (7, true, some 9), (8, true, some 10), (9, true, some 11), (10, true, some 12), (11, true, some 13), (12, false, some 14)] (by kernel_rfl) (by kernel_rfl) (by kernel_rfl) (by kernel_rfl) (by kernel_rfl) (fun d c a v w h => by cases d <;> exact h) hHeld ?_
   repeat (first | (refine planT_load rfl rfl rfl 26 _ rfl _ rfl (fun u hSw => hSw.1) ?_; (try simp only [Act.put, sA, sB, sC])) | (refine planT_read (v := ?_) rfl rfl ?_ ?_ ?_; rotate_left; (focus rfl); (focus (intro u hSw; (try dsimp only at hSw); go_simp; (try with_reducible rfl); done)); (try simp only [Act.put, sA, sB, sC])))
   refine planT_do rfl rfl ?_ (fun K hK => ?_)
   · rfl
   go_simp
   go_wp2_with (go_at_call 127; refine (Read_at bN (1 + iN) HM.out HB.out HJ.out HN.out (H.out.keep (Chg.refl _ _).drew)).mono ?_; rintro e w1 ⟨rfl, hx⟩; rw [HVV.out]; have H1 := hid hx.1; have HC1 := hid ((Chg.refl _ W).drew.trans hx.2.2); clear hx)
   refine hK.out _ _ (KEEP.out _ HC1.out) (fun hHeld2 => ?_)
   clear hK K hHeld
   have hHeld := hHeld2
   clear hHeld2
   try simp only [Act.put, sA, sB, sC]
   repeat (first | (refine planT_load rfl rfl rfl 26 _ rfl _ rfl (fun u hSw => hSw.1) ?_; (try simp only [Act.put, sA, sB, sC])) | (refine planT_read (v := ?_) rfl rfl ?_ ?_ ?_; rotate_left; (focus rfl); (focus (intro u hSw; (try dsimp only at hSw); go_simp; (try with_reducible rfl); done)); (try simp only [Act.put, sA, sB, sC])))
   refine planT_last rfl ?_ (fun K hK => ?_)
   · rfl
   go_simp
   go_wp2_with (go_at_call 152; refine (Mark_any vv HV1.out HU.out H1.out).mono ?_; rintro e w2 ⟨rfl, hx⟩; have H2 := hid hx; clear hx)
   refine hK.out _ _ ?_
   clear hK K hHeld KEEP
   go_upto_region 1 with fail
   have hHeld : (fun V : World => V.cell? ⟨bx, 7, none⟩ = some (.slice x.ra x.rl x.rc)) (World.drew w2) := (H2.out.keep (Chg.refl _ _).drew).cell 7 _ (fun _ => rfl)
   refine wp_region_plan (fun V : World => V.cell? ⟨bx, 7, none⟩ = some (.slice x.ra x.rl x.rc)) [(0, true, some 16), (1, true, some 17), (2, true, some 18), (3, true, some 19), (4, true, some 20), (5, true, some 21), (6, true, some 22), (7, true, some 23), (8, true, some 24), (9, true, some 25), (10, false, some 26), (11, true, some 27)] (by kernel_rfl) (by kernel_rfl) (by kernel_rfl) (by kernel_rfl) (fun d c a v w h => by cases d <;> exact h) hHeld ?_
   repeat (first | (refine planWp_load rfl rfl rfl 26 _ rfl _ rfl (fun u hSw => hSw.1) ?_; (try simp only [Act.put, sA, sB, sC])) | (refine planWp_read (v := ?_) rfl rfl ?_ ?_ ?_; rotate_left; (focus rfl); (focus (intro u hSw; (try dsimp only at hSw); go_simp; (try with_reducible rfl); done)); (try simp only [Act.put, sA, sB, sC])))
   refine planWp_do rfl rfl ?_ (fun K hK => ?_)
   · rfl
   go_simp
   go_wp2_with (go_at_call 137; refine (Each_any (x := { x with used := bitm.markU x.used vv }) (x.rl : Int) HI.out (H2.out.keep (Chg.refl _ _).drew)).mono ?_; rintro e w3 ⟨he, hx⟩; rw [show e = .returned (.bool false) from he.trans (congrArg (fun b => Ending.returned (Value.bool b)) HDEC.out)]; clear he; have H3 := hid hx; clear hx)
   refine hK.out _ _ (H3.out.cell 7 _ (fun _ => rfl)) (fun hHeld2 => ?_)
   clear hK K hHeld
   have hHeld := hHeld2
   clear hHeld2
   try simp only [Act.put, sA, sB, sC]
   repeat (first | (refine planWp_load rfl rfl rfl 26 _ rfl _ rfl (fun u hSw => hSw.1) ?_; (try simp only [Act.put, sA, sB, sC])) | (refine planWp_read (v := ?_) rfl rfl ?_ ?_ ?_; rotate_left; (focus rfl); (focus (intro u hSw; (try dsimp only at hSw); go_simp; (try with_reducible rfl); done)); (try simp only [Act.put, sA, sB, sC])))
   refine planWp_nil ?_
   clear hHeld
   go_wp2_with fail
   refine bodyPost_ret (results_none rfl _ _ _) rfl ?_
   refine ⟨rfl, ?_⟩
   have h9 := H3.out
   rw [show ({ x with used := bitm.markU x.used vv } : Core).i + 1 = (iN : Int) + 1 from by show x.i + 1 = _; rw [HII.out]] at h9
   exact h9
set_option maxHeartbeats 4000000 in
theorem write_0 {T : TypeId} {bx mb : Nat} {sv r0 : Value} {W0 W : World} {x : Core} {rec ws : List Int} {n : Int} (bN : Nat) (hm : x.m = .pointer (some ⟨mb, 0, none⟩)) (hb : x.base = (bN : Int)) (hn : 0 <= n /\ n <= 1000000) (hj : bN + 0 < ws.length) (hph : x.phase = 0) (h : St T bx mb sv W0 r0 W x rec ws n) :
 Calls Tryz.prog 107 #[.pointer (some ⟨bx, 0, none⟩)] W fun e W' => e = .returned (.tuple #[]) /\ St T bx mb sv W0 r0 W' { x with a := ws.getD (bN + 0) 0, phase := 1, i := 0 } rec ws (n + 1) := by
 have H := hid h
 have HM := hid hm
 have HB := hid hb
 have HN := hid hn
 obtain ⟨vv, hvv⟩ : ∃ vv, ws.getD (bN + 0) 0 = vv := ⟨_, rfl⟩
 have hvb : 0 <= vv /\ vv <= 4294967295 := by rw [<- hvv]; exact u32_bd h.memory hj
 have HVV := hid hvv
 rw [hvv]
 have e10 : W.cell? ⟨bx, 10, none⟩ = some (.int .i64 0) := by rw [<- hph]; exact H.out.cell 10 _ (fun _ => rfl)
 have HJ := hid hj
 clear h hph hm hb hn hj hvv hvb
 go_enter Tryz.func107, Tryz.ntmps107
 go_wp2_with (first | (go_at_call 127; refine (Read_at bN 0 HM.out HB.out HJ.out HN.out H.out).mono ?_; rintro e w1 ⟨rfl, hx⟩; rw [HVV.out]; have e13 : w1.cell? ⟨bx, 13, none⟩ = some (.int .u32 x.a) := hx.1.cell 13 _ (fun _ => rfl); have f13 := hx.1.free 13; have H1 := hid hx; clear hx) | (go_at_call 128; refine (Go_any 1 (H1.out.1.put 13 (.int .u32 vv) ({ x with a := vv }) (fun _ => rfl))).mono ?_; rintro e w2 ⟨rfl, hx⟩; have H6 := hid hx; clear hx))
 all_goals (first | (go_end0; exact ⟨rfl, H6.out⟩) | (refine bodyPost_ret (results_none rfl _ _ _) rfl ?_; exact ⟨rfl, H6.out⟩))
def scanC (x : Core) (u : Int) : Core := if x.rl <= x.i.toNat + 1 then { x with used := bitm.markU (bitm.markU x.used u) x.a, b := bitm.freeU (bitm.markU (bitm.markU x.used u) x.a), phase := 2, i := 0 } else { x with used := bitm.markU x.used u, i := (x.i.toNat : Int) + 1 }
set_option maxHeartbeats 2000000 in
theorem write_1 {T : TypeId} {bx mb : Nat} {sv r0 : Value} {W0 W : World} {x : Core} {rec ws : List Int} {n : Int} (bN iN : Nat) (hT : ∀ V x' rec' ws' n', St T bx mb sv W0 r0 V x' rec' ws' n' -> bitm.Tab V) (hm : x.m = .pointer (some ⟨mb, 0, none⟩)) (hb : x.base = (bN : Int)) (hn : 0 <= n /\ n <= 1000000) (hi : x.i = (iN : Int)) (hil : iN < 100) (hrl : x.rl <= 100) (ha : 0 <= x.a /\ x.a <= 4294967295) (hu : 0 <= x.used /\ x.used < 2097152) (hj : bN + (1 + iN) < ws.length) (hph : x.phase = 1) (h : St T bx mb sv W0 r0 W x rec ws n) :
 Calls Tryz.prog 107 #[.pointer (some ⟨bx, 0, none⟩)] W fun e W' => e = .returned (.tuple #[]) /\ St T bx mb sv W0 r0 W' (scanC x (ws.getD (bN + (1 + iN)) 0)) rec ws (n + 1) := by
 have H := hid h
 have hsc := scan_any bN iN hT hm hb hn hi hil hrl ha hu hj h
 have heq : (if x.rl <= iN + 1 then { x with used := bitm.markU (bitm.markU x.used (ws.getD (bN + (1 + iN)) 0)) x.a, b := bitm.freeU (bitm.markU (bitm.markU x.used (ws.getD (bN + (1 + iN)) 0)) x.a), phase := 2, i := 0 } else { x with used := (bitm.markU x.used (ws.getD (bN + (1 + iN)) 0)), i := (iN : Int) + 1 } : Core) = scanC x (ws.getD (bN + (1 + iN)) 0) := by
  unfold scanC; rw [hi]; simp only [Int.toNat_natCast]
 rw [heq] at hsc
 have HSC := hid hsc
 have e10 : W.cell? ⟨bx, 10, none⟩ = some (.int .i64 1) := by rw [<- hph]; exact H.out.cell 10 _ (fun _ => rfl)
 clear h hph hm hb hn hj ha hrl hT hi hil hu hsc heq
 generalize scanC x (ws.getD (bN + (1 + iN)) 0) = y at *
 go_enter Tryz.func107, Tryz.ntmps107
 go_wp2_with (go_at_call 133; refine HSC.out.mono ?_; rintro e w1 ⟨rfl, hx⟩; have H6 := hid hx; clear hx)
 all_goals (first | (go_end0; exact ⟨rfl, H6.out⟩) | (refine bodyPost_ret (results_none rfl _ _ _) rfl ?_; exact ⟨rfl, H6.out⟩))
set_option maxHeartbeats 4000000 in
theorem write_2 {T : TypeId} {bx mb : Nat} {sv r0 : Value} {W0 W : World} {x : Core} {rec ws : List Int} {n : Int} (bN : Nat) (hm : x.m = .pointer (some ⟨mb, 0, none⟩)) (hb : x.base = (bN : Int)) (hn : 0 <= n /\ n <= 1000000) (wN iN fN : Nat) (hwb : 1 <= x.w /\ x.w <= 8) (hrl : x.rl <= 100) (hsl : 0 <= x.b /\ x.b <= 16) (hf : place x x.b = fN) (hw : x.w = (wN : Int)) (hi : x.i = (iN : Int)) (hil : iN < 8) (hop : x.op = 2 \/ x.op = 3) (hir : iN < rec.length) (hj : bN + (fN + iN) < ws.length) (hph : x.phase = 2) (h : St T bx mb sv W0 r0 W x rec ws n) :
 Calls Tryz.prog 107 #[.pointer (some ⟨bx, 0, none⟩)] W fun e W' => e = .returned (.tuple #[]) /\ St T bx mb sv W0 r0 W' (if wN <= iN + 1 then { x with phase := 3, i := 0 } else { x with i := (iN : Int) + 1 }) rec (ws.set (bN + (fN + iN)) (rec.getD iN 0)) (n + 1) := by
 have H := hid h
 have HM := hid hm
 have HB := hid hb
 have HN := hid hn
 have e10 : W.cell? ⟨bx, 10, none⟩ = some (.int .i64 2) := by rw [<- hph]; exact H.out.cell 10 _ (fun _ => rfl)
 have HW := hid hw
 have HWB := hid hwb
 have HSL := hid hsl
 have HRLL := hid hrl
 have HF := hid hf
 have HI := hid hi
 have HOP := hid hop
 have HIR := hid hir
 have HJ := hid hj
 have KEEP : Hid (∀ V, Chg [] W V -> (fun V : World => Hid (Chg [] W V)) V) := hid (fun V h => hid h)
 clear h hph hm hb hn hj hw hi hop hir hwb hsl hf hrl
 by_cases hle : wN <= iN + 1
 · have HDEC : Hid (decide ((wN : Int) <= (iN : Int) + 1) = true) := hid (by simpa using (by omega : (wN : Int) <= (iN : Int) + 1))
   rw [if_pos hle]
   clear hle
   go_enter Tryz.func107, Tryz.ntmps107
   go_wp2_with fail
   have hHeld : (fun V : World => Hid (Chg [] W V)) (World.drew W) := KEEP.out _ (Chg.refl _ _).drew
   refine wp_region_planT (fun V : World => Hid (Chg [] W V)) 5 [(0, true, some 59), (1, true, some 60), (2, true, some 61), (3, true, some 62), (4, false, some 63)] (by kernel_rfl) (by kernel_rfl) (by kernel_rfl) (by kernel_rfl) (by kernel_rfl) (fun d c a v w h => by cases d <;> exact h) hHeld ?_
   repeat (first | (refine planT_load rfl rfl rfl 26 _ rfl _ rfl (fun u hSw => hSw.1) ?_; (try simp only [Act.put, sA, sB, sC])) | (refine planT_read (v := ?_) rfl rfl ?_ ?_ ?_; rotate_left; (focus rfl); (focus (intro u hSw; (try dsimp only at hSw); go_simp; (try with_reducible rfl); done)); (try simp only [Act.put, sA, sB, sC])))
   refine planT_do rfl rfl ?_ (fun K hK => ?_)
   · rfl
   go_simp
   go_wp2_with (go_at_call 134; refine (from_any HSL.out HWB.out HRLL.out (H.out.keep (Chg.refl _ _).drew)).mono ?_; rintro e w1 ⟨rfl, hx⟩; rw [HF.out]; have HC1 := hid ((Chg.refl [] W).drew.trans hx); have H1 := hid (H.out.keep HC1.out); clear hx)
   refine hK.out _ _ (KEEP.out _ HC1.out) (fun hHeld2 => ?_)
   clear hK K hHeld
   have hHeld := hHeld2
   clear hHeld2
   try simp only [Act.put, sA, sB, sC]
   repeat (first | (refine planT_load rfl rfl rfl 26 _ rfl _ rfl (fun u hSw => hSw.1) ?_; (try simp only [Act.put, sA, sB, sC])) | (refine planT_read (v := ?_) rfl rfl ?_ ?_ ?_; rotate_left; (focus rfl); (focus (intro u hSw; (try dsimp only at hSw); go_simp; (try with_reducible rfl); done)); (try simp only [Act.put, sA, sB, sC])))
   refine planT_last rfl ?_ (fun K hK => ?_)
   · rfl
   go_simp
   go_wp2_with (go_at_call 129; refine (Word_write bN fN iN HOP.out HM.out HB.out HI.out HIR.out HJ.out HN.out H1.out).mono ?_; rintro e w4 ⟨rfl, hx⟩; rw [HW.out, HDEC.out]; have H4 := hid hx; clear hx)
   refine hK.out _ _ ?_
   clear hK K hHeld KEEP
   go_wp2_with (go_at_call 128; refine (Go_any 3 H4.out).mono ?_; rintro e w6 ⟨rfl, hx⟩; have H6 := hid hx; clear hx)
   all_goals (first | (go_end0; exact ⟨rfl, H6.out⟩) | (refine bodyPost_ret (results_none rfl _ _ _) rfl ?_; exact ⟨rfl, H6.out⟩))
 · have HDEC : Hid (decide ((wN : Int) <= (iN : Int) + 1) = false) := hid (by simpa using (by omega : ¬ (wN : Int) <= (iN : Int) + 1))
   rw [if_neg hle]
   clear hle
   go_enter Tryz.func107, Tryz.ntmps107
   go_wp2_with fail
   have hHeld : (fun V : World => Hid (Chg [] W V)) (World.drew W) := KEEP.out _ (Chg.refl _ _).drew
   refine wp_region_planT (fun V : World => Hid (Chg [] W V)) 5 [(0, true, some 59), (1, true, some 60), (2, true, some 61), (3, true, some 62), (4, false, some 63)] (by kernel_rfl) (by kernel_rfl) (by kernel_rfl) (by kernel_rfl) (by kernel_rfl) (fun d c a v w h => by cases d <;> exact h) hHeld ?_
   repeat (first | (refine planT_load rfl rfl rfl 26 _ rfl _ rfl (fun u hSw => hSw.1) ?_; (try simp only [Act.put, sA, sB, sC])) | (refine planT_read (v := ?_) rfl rfl ?_ ?_ ?_; rotate_left; (focus rfl); (focus (intro u hSw; (try dsimp only at hSw); go_simp; (try with_reducible rfl); done)); (try simp only [Act.put, sA, sB, sC])))
   refine planT_do rfl rfl ?_ (fun K hK => ?_)
   · rfl
   go_simp
   go_wp2_with (go_at_call 134; refine (from_any HSL.out HWB.out HRLL.out (H.out.keep (Chg.refl _ _).drew)).mono ?_; rintro e w1 ⟨rfl, hx⟩; rw [HF.out]; have HC1 := hid ((Chg.refl [] W).drew.trans hx); have H1 := hid (H.out.keep HC1.out); clear hx)
   refine hK.out _ _ (KEEP.out _ HC1.out) (fun hHeld2 => ?_)
   clear hK K hHeld
   have hHeld := hHeld2
   clear hHeld2
   try simp only [Act.put, sA, sB, sC]
   repeat (first | (refine planT_load rfl rfl rfl 26 _ rfl _ rfl (fun u hSw => hSw.1) ?_; (try simp only [Act.put, sA, sB, sC])) | (refine planT_read (v := ?_) rfl rfl ?_ ?_ ?_; rotate_left; (focus rfl); (focus (intro u hSw; (try dsimp only at hSw); go_simp; (try with_reducible rfl); done)); (try simp only [Act.put, sA, sB, sC])))
   refine planT_last rfl ?_ (fun K hK => ?_)
   · rfl
   go_simp
   go_wp2_with (go_at_call 129; refine (Word_write bN fN iN HOP.out HM.out HB.out HI.out HIR.out HJ.out HN.out H1.out).mono ?_; rintro e w4 ⟨rfl, hx⟩; rw [HW.out, HDEC.out]; have H4 := hid hx; clear hx)
   refine hK.out _ _ ?_
   clear hK K hHeld KEEP
   go_wp2_with fail
   all_goals (first | (go_end0; exact ⟨rfl, H4.out⟩) | (refine bodyPost_ret (results_none rfl _ _ _) rfl ?_; exact ⟨rfl, H4.out⟩))
set_option maxHeartbeats 4000000 in
theorem write_3 {T : TypeId} {bx mb : Nat} {sv r0 : Value} {W0 W : World} {x : Core} {rec ws : List Int} {n : Int} (bN : Nat) (hm : x.m = .pointer (some ⟨mb, 0, none⟩)) (hb : x.base = (bN : Int)) (hn : 0 <= n /\ n <= 1000000) (hbb : 0 <= x.b /\ x.b <= 4294967295) (hj : bN + 0 < ws.length) (hph : x.phase = 3) (h : St T bx mb sv W0 r0 W x rec ws n) :
 Calls Tryz.prog 107 #[.pointer (some ⟨bx, 0, none⟩)] W fun e W' => e = .returned (.tuple #[]) /\ St T bx mb sv W0 r0 W' { x with phase := 4, i := 0 } rec (ws.set (bN + 0) x.b) (n + 1) := by
 have H := hid h
 have HM := hid hm
 have HB := hid hb
 have HN := hid hn
 have e10 : W.cell? ⟨bx, 10, none⟩ = some (.int .i64 3) := by rw [<- hph]; exact H.out.cell 10 _ (fun _ => rfl)
 have G0 : Hid (W.cell? ⟨bx, 14, none⟩ = some (.int .u32 x.b)) := hid (by skip; exact H.out.cell 14 _ (fun _ => rfl))
 have HA := hid hbb
 have HJ := hid hj
 clear h hph hm hb hn hj hbb
 go_enter Tryz.func107, Tryz.ntmps107
 go_wp2_with fail
 refine wp_region_tail 8 (by kernel_rfl) (by kernel_rfl) ?_
 intro W3 hW3
 have g0 : W3.cell? ⟨bx, 14, none⟩ = some (.int .u32 x.b) := by rw [hW3.out]; exact G0.out
 have H3 : Hid (St T bx mb sv W0 r0 W3 x rec ws n) := hid (by rw [hW3.out]; exact H.out.keep (Chg.refl _ _).drew)
 clear hW3
 simp only [List.take_succ_cons, List.take_zero, List.drop_succ_cons, List.drop_zero]
 repeat still_step
 refine wpStill_nil ?_
 go_wp2_with (first | (go_at_call 131; refine (Write_at bN 0 x.b HA.out HM.out HB.out HJ.out HN.out H3.out).mono ?_; rintro e w4 ⟨rfl, hx⟩; have H4 := hid hx; clear hx) | (go_at_call 128; refine (Go_any 4 H4.out).mono ?_; rintro e w2 ⟨rfl, hx⟩; have H6 := hid hx; clear hx))
 all_goals (first | (go_end0; exact ⟨rfl, H6.out⟩) | (refine bodyPost_ret (results_none rfl _ _ _) rfl ?_; exact ⟨rfl, H6.out⟩))
set_option maxHeartbeats 4000000 in
theorem write_4 {T : TypeId} {bx mb : Nat} {sv r0 : Value} {W0 W : World} {x : Core} {rec ws : List Int} {n : Int} (bN : Nat) (hm : x.m = .pointer (some ⟨mb, 0, none⟩)) (hb : x.base = (bN : Int)) (hn : 0 <= n /\ n <= 1000000) (iN : Nat) (hi : x.i = (iN : Int)) (hil : iN < 100) (hrl : x.rl <= 100) (hbb : 0 <= x.b /\ x.b <= 4294967295) (hj : bN + (1 + iN) < ws.length) (hph : x.phase = 4) (h : St T bx mb sv W0 r0 W x rec ws n) :
 Calls Tryz.prog 107 #[.pointer (some ⟨bx, 0, none⟩)] W fun e W' => e = .returned (.tuple #[]) /\ St T bx mb sv W0 r0 W' (if x.rl <= iN + 1 then { x with i := (iN : Int) + 1, over := true, code := 0 } else { x with i := (iN : Int) + 1 }) (if x.rl <= iN + 1 then endRec x.op 0 rec else rec) (swapL ws (bN + (1 + iN)) ((x.rl : Int) + 2) x.b) (n + 1) := by
 have H := hid h
 have HM := hid hm
 have HB := hid hb
 have HN := hid hn
 have e10 : W.cell? ⟨bx, 10, none⟩ = some (.int .i64 4) := by rw [<- hph]; exact H.out.cell 10 _ (fun _ => rfl)
 have hadd : IntKind.i64.wrap (1 + (iN : Int)) = ((1 + iN : Nat) : Int) := by rw [IntKind.wrap_i64]; omega
 have HBB := hid hbb
 have HRLL := hid hrl
 have HJ := hid hj
 have HI : Hid (0 <= x.i /\ x.i <= 1000000) := hid (by omega)
 have HII := hid hi
 have eS0 : W.cell? ⟨bx, 11, none⟩ = some (.int .i64 (iN : Int)) := by rw [<- hi]; exact H.out.cell 11 _ (fun _ => rfl)
 have eS1 : W.cell? ⟨bx, 14, none⟩ = some (.int .u32 x.b) := H.out.cell 14 _ (fun _ => rfl)
 have KEEP := hid (fun (V : World) (h : Chg [] W V) => (⟨h.keep eS0 (by simp), h.keep eS1 (by simp), hid h⟩ : (fun V : World => V.cell? ⟨bx, 11, none⟩ = some (.int .i64 (iN : Int)) /\ V.cell? ⟨bx, 14, none⟩ = some (.int .u32 x.b) /\ Hid (Chg [] W V)) V))
 clear eS0 eS1
 clear h hph hm hb hn hj hbb hrl hi
 by_cases hle : x.rl <= iN + 1
 · rw [if_pos hle, if_pos hle]
   have HDEC : Hid (decide ((x.rl : Int) <= x.i + 1) = true) := hid (by rw [HII.out]; simpa using (by omega : (x.rl : Int) <= (iN : Int) + 1))
   clear hle
   go_enter Tryz.func107, Tryz.ntmps107
   go_wp2_with fail
   have hHeld : (fun V : World => V.cell? ⟨bx, 11, none⟩ = some (.int .i64 (iN : Int)) /\ V.cell? ⟨bx, 14, none⟩ = some (.int .u32 x.b) /\ Hid (Chg [] W V)) (World.drew W) := KEEP.out _ (Chg.refl _ _).drew
   refine wp_region_planT (fun V : World => V.cell? ⟨bx, 11, none⟩ = some (.int .i64 (iN : Int)) /\ V.cell? ⟨bx, 14, none⟩ = some (.int .u32 x.b) /\ Hid (Chg [] W V)) 16 [(0, true, some 7), (1, true, some 8), (2, true, some 9), (3, true, some 10), (4, true, some 11), (5, true, some 12), (6, true, some 13), (7, true, some 14), (8, true, some 15), (9, true, some 16), (11, true, some 18), (12, true, some 19), (13, true, some 20), (14, true, some 21), (15, true, some 22), (10, false, some 17)] (by kernel_rfl) (by kernel_rfl) (by kernel_rfl) (by kernel_rfl) (by kernel_rfl) (fun d c a v w h => by cases d <;> exact h) hHeld ?_
   repeat (first | (refine planT_load rfl rfl rfl 26 _ rfl _ rfl (fun u hSw => hSw.1) ?_; (try simp only [Act.put, sA, sB, sC])) | (refine planT_read (v := ?_) rfl rfl ?_ ?_ ?_; rotate_left; (focus rfl); (focus (intro u hSw; (try dsimp only at hSw); go_simp; (try with_reducible rfl); done)); (try simp only [Act.put, sA, sB, sC])))
   refine planT_do rfl rfl ?_ (fun K hK => ?_)
   · rfl
   go_simp
   go_wp2_with (go_at_call 136; refine (none_any HRLL.out (H.out.keep (Chg.refl _ _).drew)).mono ?_; rintro e w1 ⟨rfl, hx⟩; have HC1 := hid ((Chg.refl [] W).drew.trans hx); have H1 := hid (H.out.keep HC1.out); clear hx)
   refine hK.out _ _ (KEEP.out _ HC1.out) (fun hHeld2 => ?_)
   clear hK K hHeld
   have hHeld := hHeld2
   clear hHeld2
   try simp only [Act.put, sA, sB, sC]
   repeat (first | (refine planT_load rfl rfl rfl 26 _ rfl _ rfl (fun u hSw => hSw.1) ?_; (try simp only [Act.put, sA, sB, sC])) | (refine planT_read (v := ?_) rfl rfl ?_ ?_ ?_; rotate_left; (focus rfl); (focus (intro u hSw; (try dsimp only at hSw); go_simp; (try with_reducible rfl); done)); (try simp only [Act.put, sA, sB, sC])))
   refine planT_last rfl ?_ (fun K hK => ?_)
   · rfl
   go_simp
   go_wp2_with (go_at_call 135; refine (Swap_at bN (1 + iN) ((x.rl : Int) + 2) x.b HBB.out HM.out HB.out HJ.out HN.out H1.out).mono ?_; rintro e w2 ⟨rfl, hx⟩; have H2 := hid hx; clear hx)
   refine hK.out _ _ ?_
   clear hK K hHeld KEEP
   go_upto_region 2 with fail
   have hHeld : (fun V : World => V.cell? ⟨bx, 7, none⟩ = some (.slice x.ra x.rl x.rc)) (World.drew w2) := (H2.out.keep (Chg.refl _ _).drew).cell 7 _ (fun _ => rfl)
   refine wp_region_planT (fun V : World => V.cell? ⟨bx, 7, none⟩ = some (.slice x.ra x.rl x.rc)) 10 [(0, true, some 24), (1, true, some 25), (2, true, some 26), (3, true, some 27), (4, true, some 28), (5, true, some 29), (6, true, some 30), (7, true, some 31), (8, true, some 32), (9, true, some 33)] (by kernel_rfl) (by kernel_rfl) (by kernel_rfl) (by kernel_rfl) (by kernel_rfl) (fun d c a v w h => by cases d <;> exact h) hHeld ?_
   repeat (first | (refine planT_load rfl rfl rfl 26 _ rfl _ rfl (fun u hSw => hSw.1) ?_; (try simp only [Act.put, sA, sB, sC])) | (refine planT_read (v := ?_) rfl rfl ?_ ?_ ?_; rotate_left; (focus rfl); (focus (intro u hSw; (try dsimp only at hSw); go_simp; (try with_reducible rfl); done)); (try simp only [Act.put, sA, sB, sC])))
   refine planT_last rfl ?_ (fun K hK => ?_)
   · rfl
   go_simp
   go_wp2_with (go_at_call 137; refine (Each_any (x := x) (x.rl : Int) HI.out (H2.out.keep (Chg.refl _ _).drew)).mono ?_; rintro e w3 ⟨he, hx⟩; rw [show e = .returned (.bool true) from he.trans (congrArg (fun b => Ending.returned (Value.bool b)) HDEC.out)]; clear he; have H3 := hid hx; clear hx)
   refine hK.out _ _ ?_
   clear hK K hHeld
   have h9 := H3.out
   rw [show x.i + 1 = (iN : Int) + 1 from by rw [HII.out]] at h9
   have H4 := hid h9
   clear h9
   go_wp2_with (go_at_call 132; refine (End_any 0 H4.out).mono ?_; rintro e w6 ⟨rfl, hx⟩; have H6 := hid hx; clear hx)
   all_goals (first | (go_end0; exact ⟨rfl, H6.out⟩) | (refine bodyPost_ret (results_none rfl _ _ _) rfl ?_; exact ⟨rfl, H6.out⟩))
 · rw [if_neg hle, if_neg hle]
   have HDEC : Hid (decide ((x.rl : Int) <= x.i + 1) = false) := hid (by rw [HII.out]; simpa using (by omega : ¬ (x.rl : Int) <= (iN : Int) + 1))
   clear hle
   go_enter Tryz.func107, Tryz.ntmps107
   go_wp2_with fail
   have hHeld : (fun V : World => V.cell? ⟨bx, 11, none⟩ = some (.int .i64 (iN : Int)) /\ V.cell? ⟨bx, 14, none⟩ = some (.int .u32 x.b) /\ Hid (Chg [] W V)) (World.drew W) := KEEP.out _ (Chg.refl _ _).drew
   refine wp_region_planT (fun V : World => V.cell? ⟨bx, 11, none⟩ = some (.int .i64 (iN : Int)) /\ V.cell? ⟨bx, 14, none⟩ = some (.int .u32 x.b) /\ Hid (Chg [] W V)) 16 [(0, true, some 7), (1, true, some 8), (2, true, some 9), (3, true, some 10), (4, true, some 11), (5, true, some 12), (6, true, some 13), (7, true, some 14), (8, true, some 15), (9, true, some 16), (11, true, some 18), (12, true, some 19), (13, true, some 20), (14, true, some 21), (15, true, some 22), (10, false, some 17)] (by kernel_rfl) (by kernel_rfl) (by kernel_rfl) (by kernel_rfl) (by kernel_rfl) (fun d c a v w h => by cases d <;> exact h) hHeld ?_
   repeat (first | (refine planT_load rfl rfl rfl 26 _ rfl _ rfl (fun u hSw => hSw.1) ?_; (try simp only [Act.put, sA, sB, sC])) | (refine planT_read (v := ?_) rfl rfl ?_ ?_ ?_; rotate_left; (focus rfl); (focus (intro u hSw; (try dsimp only at hSw); go_simp; (try with_reducible rfl); done)); (try simp only [Act.put, sA, sB, sC])))
   refine planT_do rfl rfl ?_ (fun K hK => ?_)
   · rfl
   go_simp
   go_wp2_with (go_at_call 136; refine (none_any HRLL.out (H.out.keep (Chg.refl _ _).drew)).mono ?_; rintro e w1 ⟨rfl, hx⟩; have HC1 := hid ((Chg.refl [] W).drew.trans hx); have H1 := hid (H.out.keep HC1.out); clear hx)
   refine hK.out _ _ (KEEP.out _ HC1.out) (fun hHeld2 => ?_)
   clear hK K hHeld
   have hHeld := hHeld2
   clear hHeld2
   try simp only [Act.put, sA, sB, sC]
   repeat (first | (refine planT_load rfl rfl rfl 26 _ rfl _ rfl (fun u hSw => hSw.1) ?_; (try simp only [Act.put, sA, sB, sC])) | (refine planT_read (v := ?_) rfl rfl ?_ ?_ ?_; rotate_left; (focus rfl); (focus (intro u hSw; (try dsimp only at hSw); go_simp; (try with_reducible rfl); done)); (try simp only [Act.put, sA, sB, sC])))
   refine planT_last rfl ?_ (fun K hK => ?_)
   · rfl
   go_simp
   go_wp2_with (go_at_call 135; refine (Swap_at bN (1 + iN) ((x.rl : Int) + 2) x.b HBB.out HM.out HB.out HJ.out HN.out H1.out).mono ?_; rintro e w2 ⟨rfl, hx⟩; have H2 := hid hx; clear hx)
   refine hK.out _ _ ?_
   clear hK K hHeld KEEP
   go_upto_region 2 with fail
   have hHeld : (fun V : World => V.cell? ⟨bx, 7, none⟩ = some (.slice x.ra x.rl x.rc)) (World.drew w2) := (H2.out.keep (Chg.refl _ _).drew).cell 7 _ (fun _ => rfl)
   refine wp_region_planT (fun V : World => V.cell? ⟨bx, 7, none⟩ = some (.slice x.ra x.rl x.rc)) 10 [(0, true, some 24), (1, true, some 25), (2, true, some 26), (3, true, some 27), (4, true, some 28), (5, true, some 29), (6, true, some 30), (7, true, some 31), (8, true, some 32), (9, true, some 33)] (by kernel_rfl) (by kernel_rfl) (by kernel_rfl) (by kernel_rfl) (by kernel_rfl) (fun d c a v w h => by cases d <;> exact h) hHeld ?_
   repeat (first | (refine planT_load rfl rfl rfl 26 _ rfl _ rfl (fun u hSw => hSw.1) ?_; (try simp only [Act.put, sA, sB, sC])) | (refine planT_read (v := ?_) rfl rfl ?_ ?_ ?_; rotate_left; (focus rfl); (focus (intro u hSw; (try dsimp only at hSw); go_simp; (try with_reducible rfl); done)); (try simp only [Act.put, sA, sB, sC])))
   refine planT_last rfl ?_ (fun K hK => ?_)
   · rfl
   go_simp
   go_wp2_with (go_at_call 137; refine (Each_any (x := x) (x.rl : Int) HI.out (H2.out.keep (Chg.refl _ _).drew)).mono ?_; rintro e w3 ⟨he, hx⟩; rw [show e = .returned (.bool false) from he.trans (congrArg (fun b => Ending.returned (Value.bool b)) HDEC.out)]; clear he; have H3 := hid hx; clear hx)
   refine hK.out _ _ ?_
   clear hK K hHeld
   have h9 := H3.out
   rw [show x.i + 1 = (iN : Int) + 1 from by rw [HII.out]] at h9
   have H4 := hid h9
   clear h9
   go_wp2_with fail
   all_goals (first | (go_end0; exact ⟨rfl, H4.out⟩) | (refine bodyPost_ret (results_none rfl _ _ _) rfl ?_; exact ⟨rfl, H4.out⟩))
set_option maxHeartbeats 4000000 in
theorem read_0 {T : TypeId} {bx mb : Nat} {sv r0 : Value} {W0 W : World} {x : Core} {rec ws : List Int} {n : Int} (bN : Nat) (hm : x.m = .pointer (some ⟨mb, 0, none⟩)) (hb : x.base = (bN : Int)) (hn : 0 <= n /\ n <= 1000000) (rN : Nat) (hrd : x.reader = (rN : Int)) (hrb : rN <= 100) (hrl : x.rl <= 100) (hj : bN + (1 + rN) < ws.length) (hph : x.phase = 0) (h : St T bx mb sv W0 r0 W x rec ws n) :
 Calls Tryz.prog 108 #[.pointer (some ⟨bx, 0, none⟩)] W fun e W' => e = .returned (.tuple #[]) /\ St T bx mb sv W0 r0 W' { x with phase := 1, i := 0 } rec (ws.set (bN + (1 + rN)) ((x.rl : Int) + 2)) (n + 1) := by
 have H := hid h
 have HM := hid hm
 have HB := hid hb
 have HN := hid hn
 have e10 : W.cell? ⟨bx, 10, none⟩ = some (.int .i64 0) := by rw [<- hph]; exact H.out.cell 10 _ (fun _ => rfl)
 have e9 : W.cell? ⟨bx, 9, none⟩ = some (.int .i64 (rN : Int)) := by rw [<- hrd]; exact H.out.cell 9 _ (fun _ => rfl)
 have hown : IntKind.i64.wrap (1 + (rN : Int)) = ((1 + rN : Nat) : Int) := by rw [IntKind.wrap_i64]; omega
 have HU : Hid (0 <= ((x.rl : Int) + 2) /\ ((x.rl : Int) + 2) <= 4294967295) := hid (by omega)
 have HRLL := hid hrl
 have HJ := hid hj
 have KEEP : Hid (∀ V, Chg [] W V -> (fun V : World => Hid (Chg [] W V)) V) := hid (fun V h => hid h)
 clear h hph hm hb hn hj hrl hrd hrb
 go_enter Tryz.func108, Tryz.ntmps108
 go_wp2_with fail
 have hHeld : (fun V : World => Hid (Chg [] W V)) (World.drew W) := KEEP.out _ (Chg.refl _ _).drew
 refine wp_region_planT (fun V : World => Hid (Chg [] W V)) 6 [(0, true, some 26), (1, true, some 27), (2, true, some 28), (3, true, some 29), (4, true, some 30), (5, false, some 31)] (by kernel_rfl) (by kernel_rfl) (by kernel_rfl) (by kernel_rfl) (by kernel_rfl) (fun d c a v w h => by cases d <;> exact h) hHeld ?_
 repeat (first | (refine planT_load rfl rfl rfl 26 _ rfl _ rfl (fun u hSw => hSw.1) ?_; (try simp only [Act.put, sA, sB, sC])) | (refine planT_read (v := ?_) rfl rfl ?_ ?_ ?_; rotate_left; (focus rfl); (focus (intro u hSw; (try dsimp only at hSw); go_simp; (try with_reducible rfl); done)); (try simp only [Act.put, sA, sB, sC])))
 refine planT_do rfl rfl ?_ (fun K hK => ?_)
 · rfl
 go_simp
 go_wp2_with (go_at_call 136; refine (none_any HRLL.out (H.out.keep (Chg.refl _ _).drew)).mono ?_; rintro e w1 ⟨rfl, hx⟩; have HC1 := hid ((Chg.refl [] W).drew.trans hx); have H1 := hid (H.out.keep HC1.out); clear hx)
 refine hK.out _ _ (KEEP.out _ HC1.out) (fun hHeld2 => ?_)
 clear hK K hHeld
 have hHeld := hHeld2
 clear hHeld2
 try simp only [Act.put, sA, sB, sC]
 repeat (first | (refine planT_load rfl rfl rfl 26 _ rfl _ rfl (fun u hSw => hSw.1) ?_; (try simp only [Act.put, sA, sB, sC])) | (refine planT_read (v := ?_) rfl rfl ?_ ?_ ?_; rotate_left; (focus rfl); (focus (intro u hSw; (try dsimp only at hSw); go_simp; (try with_reducible rfl); done)); (try simp only [Act.put, sA, sB, sC])))
 refine planT_last rfl ?_ (fun K hK => ?_)
 · rfl
 go_simp
 go_wp2_with (go_at_call 131; refine (Write_at bN (1 + rN) ((x.rl : Int) + 2) HU.out HM.out HB.out HJ.out HN.out H1.out).mono ?_; rintro e w4 ⟨rfl, hx⟩; have H4 := hid hx; clear hx)
 refine hK.out _ _ ?_
 clear hK K hHeld KEEP
 go_wp2_with (go_at_call 128; refine (Go_any 1 H4.out).mono ?_; rintro e w6 ⟨rfl, hx⟩; have H6 := hid hx; clear hx)
 all_goals (first | (go_end0; exact ⟨rfl, H6.out⟩) | (refine bodyPost_ret (results_none rfl _ _ _) rfl ?_; exact ⟨rfl, H6.out⟩))
set_option maxHeartbeats 4000000 in
theorem read_1 {T : TypeId} {bx mb : Nat} {sv r0 : Value} {W0 W : World} {x : Core} {rec ws : List Int} {n : Int} (bN : Nat) (hm : x.m = .pointer (some ⟨mb, 0, none⟩)) (hb : x.base = (bN : Int)) (hn : 0 <= n /\ n <= 1000000) (rN : Nat) (hrd : x.reader = (rN : Int)) (hrb : rN <= 100) (hj : bN + 0 < ws.length) (hph : x.phase = 1) (h : St T bx mb sv W0 r0 W x rec ws n) :
 Calls Tryz.prog 108 #[.pointer (some ⟨bx, 0, none⟩)] W fun e W' => e = .returned (.tuple #[]) /\ St T bx mb sv W0 r0 W' { x with a := ws.getD (bN + 0) 0, phase := 2, i := 0 } rec ws (n + 1) := by
 have H := hid h
 have HM := hid hm
 have HB := hid hb
 have HN := hid hn
 obtain ⟨vv, hvv⟩ : ∃ vv, ws.getD (bN + 0) 0 = vv := ⟨_, rfl⟩
 have hvb : 0 <= vv /\ vv <= 4294967295 := by rw [<- hvv]; exact u32_bd h.memory hj
 have HVV := hid hvv
 rw [hvv]
 have e10 : W.cell? ⟨bx, 10, none⟩ = some (.int .i64 1) := by rw [<- hph]; exact H.out.cell 10 _ (fun _ => rfl)
 have e9 : W.cell? ⟨bx, 9, none⟩ = some (.int .i64 (rN : Int)) := by rw [<- hrd]; exact H.out.cell 9 _ (fun _ => rfl)
 have hown : IntKind.i64.wrap (1 + (rN : Int)) = ((1 + rN : Nat) : Int) := by rw [IntKind.wrap_i64]; omega
 have HJ := hid hj
 clear h hph hm hb hn hj hvv hvb hrd hrb
 go_enter Tryz.func108, Tryz.ntmps108
 go_wp2_with (first | (go_at_call 127; refine (Read_at bN 0 HM.out HB.out HJ.out HN.out H.out).mono ?_; rintro e w1 ⟨rfl, hx⟩; rw [HVV.out]; have e13 : w1.cell? ⟨bx, 13, none⟩ = some (.int .u32 x.a) := hx.1.cell 13 _ (fun _ => rfl); have f13 := hx.1.free 13; have H1 := hid hx; clear hx) | (go_at_call 128; refine (Go_any 2 (H1.out.1.put 13 (.int .u32 vv) ({ x with a := vv }) (fun _ => rfl))).mono ?_; rintro e w2 ⟨rfl, hx⟩; have H6 := hid hx; clear hx))
 all_goals (first | (go_end0; exact ⟨rfl, H6.out⟩) | (refine bodyPost_ret (results_none rfl _ _ _) rfl ?_; exact ⟨rfl, H6.out⟩))
set_option maxHeartbeats 4000000 in
theorem read_2 {T : TypeId} {bx mb : Nat} {sv r0 : Value} {W0 W : World} {x : Core} {rec ws : List Int} {n : Int} (bN : Nat) (hm : x.m = .pointer (some ⟨mb, 0, none⟩)) (hb : x.base = (bN : Int)) (hn : 0 <= n /\ n <= 1000000) (rN : Nat) (hrd : x.reader = (rN : Int)) (hrb : rN <= 100) (hrl : x.rl <= 100) (ha : 0 <= x.a /\ x.a <= 4294967295) (hj : bN + (1 + rN) < ws.length) (hph : x.phase = 2) (h : St T bx mb sv W0 r0 W x rec ws n) :
 Calls Tryz.prog 108 #[.pointer (some ⟨bx, 0, none⟩)] W fun e W' => e = .returned (.tuple #[]) /\ St T bx mb sv W0 r0 W' { x with phase := 3, i := 0 } rec (swapL ws (bN + (1 + rN)) ((x.rl : Int) + 2) x.a) (n + 1) := by
 have H := hid h
 have HM := hid hm
 have HB := hid hb
 have HN := hid hn
 have e10 : W.cell? ⟨bx, 10, none⟩ = some (.int .i64 2) := by rw [<- hph]; exact H.out.cell 10 _ (fun _ => rfl)
 have e9 : W.cell? ⟨bx, 9, none⟩ = some (.int .i64 (rN : Int)) := by rw [<- hrd]; exact H.out.cell 9 _ (fun _ => rfl)
 have hown : IntKind.i64.wrap (1 + (rN : Int)) = ((1 + rN : Nat) : Int) := by rw [IntKind.wrap_i64]; omega
 have HBB := hid ha
 have HRLL := hid hrl
 have HJ := hid hj
 have eS0 : W.cell? ⟨bx, 13, none⟩ = some (.int .u32 x.a) := H.out.cell 13 _ (fun _ => rfl)
 have KEEP := hid (fun (V : World) (h : Chg [] W V) => (⟨h.keep eS0 (by simp), hid h⟩ : (fun V : World => V.cell? ⟨bx, 13, none⟩ = some (.int .u32 x.a) /\ Hid (Chg [] W V)) V))
 clear eS0
 clear h hph hm hb hn hj hrl ha hrd hrb
 go_enter Tryz.func108, Tryz.ntmps108
 go_wp2_with fail
 have hHeld : (fun V : World => V.cell? ⟨bx, 13, none⟩ = some (.int .u32 x.a) /\ Hid (Chg [] W V)) (World.drew W) := KEEP.out _ (Chg.refl _ _).drew
 refine wp_region_planT (fun V : World => V.cell? ⟨bx, 13, none⟩ = some (.int .u32 x.a) /\ Hid (Chg [] W V)) 11 [(0, true, some 53), (1, true, some 54), (2, true, some 55), (3, true, some 56), (4, true, some 57), (6, true, some 59), (7, true, some 60), (8, true, some 61), (9, true, some 62), (10, true, some 63), (5, false, some 58)] (by kernel_rfl) (by kernel_rfl) (by kernel_rfl) (by kernel_rfl) (by kernel_rfl) (fun d c a v w h => by cases d <;> exact h) hHeld ?_
 repeat (first | (refine planT_load rfl rfl rfl 26 _ rfl _ rfl (fun u hSw => hSw.1) ?_; (try simp only [Act.put, sA, sB, sC])) | (refine planT_read (v := ?_) rfl rfl ?_ ?_ ?_; rotate_left; (focus rfl); (focus (intro u hSw; (try dsimp only at hSw); go_simp; (try with_reducible rfl); done)); (try simp only [Act.put, sA, sB, sC])))
 refine planT_do rfl rfl ?_ (fun K hK => ?_)
 · rfl
 go_simp
 go_wp2_with (go_at_call 136; refine (none_any HRLL.out (H.out.keep (Chg.refl _ _).drew)).mono ?_; rintro e w1 ⟨rfl, hx⟩; have HC1 := hid ((Chg.refl [] W).drew.trans hx); have H1 := hid (H.out.keep HC1.out); clear hx)
 refine hK.out _ _ (KEEP.out _ HC1.out) (fun hHeld2 => ?_)
 clear hK K hHeld
 have hHeld := hHeld2
 clear hHeld2
 try simp only [Act.put, sA, sB, sC]
 repeat (first | (refine planT_load rfl rfl rfl 26 _ rfl _ rfl (fun u hSw => hSw.1) ?_; (try simp only [Act.put, sA, sB, sC])) | (refine planT_read (v := ?_) rfl rfl ?_ ?_ ?_; rotate_left; (focus rfl); (focus (intro u hSw; (try dsimp only at hSw); go_simp; (try with_reducible rfl); done)); (try simp only [Act.put, sA, sB, sC])))
 refine planT_last rfl ?_ (fun K hK => ?_)
 · rfl
 go_simp
 go_wp2_with (go_at_call 135; refine (Swap_at bN (1 + rN) ((x.rl : Int) + 2) x.a HBB.out HM.out HB.out HJ.out HN.out H1.out).mono ?_; rintro e w2 ⟨rfl, hx⟩; have H4 := hid hx; clear hx)
 refine hK.out _ _ ?_
 clear hK K hHeld KEEP
 go_wp2_with (go_at_call 128; refine (Go_any 3 H4.out).mono ?_; rintro e w6 ⟨rfl, hx⟩; have H6 := hid hx; clear hx)
 all_goals (first | (go_end0; exact ⟨rfl, H6.out⟩) | (refine bodyPost_ret (results_none rfl _ _ _) rfl ?_; exact ⟨rfl, H6.out⟩))
set_option maxHeartbeats 4000000 in
theorem read_3 {T : TypeId} {bx mb : Nat} {sv r0 : Value} {W0 W : World} {x : Core} {rec ws : List Int} {n : Int} (bN : Nat) (hm : x.m = .pointer (some ⟨mb, 0, none⟩)) (hb : x.base = (bN : Int)) (hn : 0 <= n /\ n <= 1000000) (rN : Nat) (hrd : x.reader = (rN : Int)) (hrb : rN <= 100) (hrl : x.rl <= 100) (hj : bN + (1 + rN) < ws.length) (hph : x.phase = 3) (h : St T bx mb sv W0 r0 W x rec ws n) :
 Calls Tryz.prog 108 #[.pointer (some ⟨bx, 0, none⟩)] W fun e W' => e = .returned (.tuple #[]) /\ St T bx mb sv W0 r0 W' { x with b := ws.getD (bN + (1 + rN)) 0 % ((x.rl : Int) + 2), phase := 4, i := 0 } rec ws (n + 1) := by
 have H := hid h
 have HM := hid hm
 have HB := hid hb
 have HN := hid hn
 obtain ⟨vv, hvv⟩ : ∃ vv, ws.getD (bN + (1 + rN)) 0 = vv := ⟨_, rfl⟩
 have hvb : 0 <= vv /\ vv <= 4294967295 := by rw [<- hvv]; exact u32_bd h.memory hj
 have HVV := hid hvv
 rw [hvv]
 have e10 : W.cell? ⟨bx, 10, none⟩ = some (.int .i64 3) := by rw [<- hph]; exact H.out.cell 10 _ (fun _ => rfl)
 have e9 : W.cell? ⟨bx, 9, none⟩ = some (.int .i64 (rN : Int)) := by rw [<- hrd]; exact H.out.cell 9 _ (fun _ => rfl)
 have hown : IntKind.i64.wrap (1 + (rN : Int)) = ((1 + rN : Nat) : Int) := by rw [IntKind.wrap_i64]; omega
 have hmn : ((x.rl : Int) + 2) ≠ 0 := by omega
 have hm0 : (((x.rl : Int) + 2) == 0) = false := by simp; omega
 have kt : Int.tmod vv ((x.rl : Int) + 2) = vv % ((x.rl : Int) + 2) := tmod_nn hvb.1
 have hlt := Int.emod_lt_of_pos vv (show 0 < ((x.rl : Int) + 2) by omega)
 have hge := Int.emod_nonneg vv hmn
 have kw : IntKind.u32.wrap (vv % ((x.rl : Int) + 2)) = vv % ((x.rl : Int) + 2) := by rw [IntKind.wrap_u32]; omega
 have HRLL := hid hrl
 have HJ := hid hj
 clear h hph hm hb hn hj hvv hvb hrl hrd hrb hlt hge
 go_enter Tryz.func108, Tryz.ntmps108
 go_wp2_with (first | (go_at_call 127; refine (Read_at bN (1 + rN) HM.out HB.out HJ.out HN.out H.out).mono ?_; rintro e w1 ⟨rfl, hx⟩; rw [HVV.out]; have H1 := hid hx; clear hx) | (go_at_call 136; refine (none_any HRLL.out H1.out.1).mono ?_; rintro e w2 ⟨rfl, hx⟩; have H2 := hid (H1.out.1.keep hx); have e14 : w2.cell? ⟨bx, 14, none⟩ = some (.int .u32 x.b) := H2.out.cell 14 _ (fun _ => rfl); have f14 := H2.out.free 14; clear hx) | (go_at_call 128; refine (Go_any 4 (H2.out.put 14 (.int .u32 (vv % ((x.rl : Int) + 2))) ({ x with b := vv % ((x.rl : Int) + 2) }) (fun _ => rfl))).mono ?_; rintro e w6 ⟨rfl, hx⟩; have H6 := hid hx; clear hx))
 all_goals (first | (go_end0; exact ⟨rfl, H6.out⟩) | (refine bodyPost_ret (results_none rfl _ _ _) rfl ?_; exact ⟨rfl, H6.out⟩))
set_option maxHeartbeats 4000000 in
theorem read_4 {T : TypeId} {bx mb : Nat} {sv r0 : Value} {W0 W : World} {x : Core} {rec ws : List Int} {n : Int} (bN : Nat) (hm : x.m = .pointer (some ⟨mb, 0, none⟩)) (hb : x.base = (bN : Int)) (hn : 0 <= n /\ n <= 1000000) (rN : Nat) (hrd : x.reader = (rN : Int)) (hrb : rN <= 100) (wN iN fN : Nat) (hwb : 1 <= x.w /\ x.w <= 8) (hrl : x.rl <= 100) (hsl : 0 <= x.b /\ x.b <= 16) (hf : place x x.b = fN) (hw : x.w = (wN : Int)) (hi : x.i = (iN : Int)) (hil : iN < 8) (hop : x.op ≠ 2 /\ x.op ≠ 3) (hir : rec.length < 1000) (hj : bN + (fN + iN) < ws.length) (hph : x.phase = 4) (h : St T bx mb sv W0 r0 W x rec ws n) :
 Calls Tryz.prog 108 #[.pointer (some ⟨bx, 0, none⟩)] W fun e W' => e = .returned (.tuple #[]) /\ St T bx mb sv W0 r0 W' (if wN <= iN + 1 then { x with i := (iN : Int) + 1, over := true, code := 0 } else { x with i := (iN : Int) + 1 }) (if wN <= iN + 1 then endRec x.op 0 (rec ++ [ws.getD (bN + (fN + iN)) 0]) else (rec ++ [ws.getD (bN + (fN + iN)) 0])) ws (n + 1) := by
 have H := hid h
 have HM := hid hm
 have HB := hid hb
 have HN := hid hn
 have e10 : W.cell? ⟨bx, 10, none⟩ = some (.int .i64 4) := by rw [<- hph]; exact H.out.cell 10 _ (fun _ => rfl)
 have e9 : W.cell? ⟨bx, 9, none⟩ = some (.int .i64 (rN : Int)) := by rw [<- hrd]; exact H.out.cell 9 _ (fun _ => rfl)
 have hown : IntKind.i64.wrap (1 + (rN : Int)) = ((1 + rN : Nat) : Int) := by rw [IntKind.wrap_i64]; omega
 have HW := hid hw
 have HWB := hid hwb
 have HSL := hid hsl
 have HRLL := hid hrl
 have HF := hid hf
 have HI := hid hi
 have HOP := hid hop
 have HIR := hid hir
 have HJ := hid hj
 have KEEP : Hid (∀ V, Chg [] W V -> (fun V : World => Hid (Chg [] W V)) V) := hid (fun V h => hid h)
 clear h hph hm hb hn hj hw hi hop hir hwb hsl hf hrl hrd hrb
 by_cases hle : wN <= iN + 1
 · have HDEC : Hid (decide ((wN : Int) <= (iN : Int) + 1) = true) := hid (by simpa using (by omega : (wN : Int) <= (iN : Int) + 1))
   rw [if_pos hle, if_pos hle]
   clear hle
   go_enter Tryz.func108, Tryz.ntmps108
   go_wp2_with fail
   have hHeld : (fun V : World => Hid (Chg [] W V)) (World.drew W) := KEEP.out _ (Chg.refl _ _).drew
   refine wp_region_planT (fun V : World => Hid (Chg [] W V)) 5 [(0, true, some 14), (1, true, some 15), (2, true, some 16), (3, true, some 17), (4, false, some 18)] (by kernel_rfl) (by kernel_rfl) (by kernel_rfl) (by kernel_rfl) (by kernel_rfl) (fun d c a v w h => by cases d <;> exact h) hHeld ?_
   repeat (first | (refine planT_load rfl rfl rfl 26 _ rfl _ rfl (fun u hSw => hSw.1) ?_; (try simp only [Act.put, sA, sB, sC])) | (refine planT_read (v := ?_) rfl rfl ?_ ?_ ?_; rotate_left; (focus rfl); (focus (intro u hSw; (try dsimp only at hSw); go_simp; (try with_reducible rfl); done)); (try simp only [Act.put, sA, sB, sC])))
   refine planT_do rfl rfl ?_ (fun K hK => ?_)
   · rfl
   go_simp
   go_wp2_with (go_at_call 134; refine (from_any HSL.out HWB.out HRLL.out (H.out.keep (Chg.refl _ _).drew)).mono ?_; rintro e w1 ⟨rfl, hx⟩; rw [HF.out]; have HC1 := hid ((Chg.refl [] W).drew.trans hx); have H1 := hid (H.out.keep HC1.out); clear hx)
   refine hK.out _ _ (KEEP.out _ HC1.out) (fun hHeld2 => ?_)
   clear hK K hHeld
   have hHeld := hHeld2
   clear hHeld2
   try simp only [Act.put, sA, sB, sC]
   repeat (first | (refine planT_load rfl rfl rfl 26 _ rfl _ rfl (fun u hSw => hSw.1) ?_; (try simp only [Act.put, sA, sB, sC])) | (refine planT_read (v := ?_) rfl rfl ?_ ?_ ?_; rotate_left; (focus rfl); (focus (intro u hSw; (try dsimp only at hSw); go_simp; (try with_reducible rfl); done)); (try simp only [Act.put, sA, sB, sC])))
   refine planT_last rfl ?_ (fun K hK => ?_)
   · rfl
   go_simp
   go_wp2_with (go_at_call 129; refine (Word_read bN fN iN HOP.out HM.out HB.out HI.out HIR.out (by omega) HJ.out HN.out H1.out).mono ?_; rintro e w4 ⟨rfl, hx⟩; rw [HW.out, HDEC.out]; have H4 := hid hx; clear hx)
   refine hK.out _ _ ?_
   clear hK K hHeld KEEP
   go_wp2_with (go_at_call 132; refine (End_any 0 H4.out).mono ?_; rintro e w6 ⟨rfl, hx⟩; have H6 := hid hx; clear hx)
   all_goals (first | (go_end0; exact ⟨rfl, H6.out⟩) | (refine bodyPost_ret (results_none rfl _ _ _) rfl ?_; exact ⟨rfl, H6.out⟩))
 · have HDEC : Hid (decide ((wN : Int) <= (iN : Int) + 1) = false) := hid (by simpa using (by omega : ¬ (wN : Int) <= (iN : Int) + 1))
   rw [if_neg hle, if_neg hle]
   clear hle
   go_enter Tryz.func108, Tryz.ntmps108
   go_wp2_with fail
   have hHeld : (fun V : World => Hid (Chg [] W V)) (World.drew W) := KEEP.out _ (Chg.refl _ _).drew
   refine wp_region_planT (fun V : World => Hid (Chg [] W V)) 5 [(0, true, some 14), (1, true, some 15), (2, true, some 16), (3, true, some 17), (4, false, some 18)] (by kernel_rfl) (by kernel_rfl) (by kernel_rfl) (by kernel_rfl) (by kernel_rfl) (fun d c a v w h => by cases d <;> exact h) hHeld ?_
   repeat (first | (refine planT_load rfl rfl rfl 26 _ rfl _ rfl (fun u hSw => hSw.1) ?_; (try simp only [Act.put, sA, sB, sC])) | (refine planT_read (v := ?_) rfl rfl ?_ ?_ ?_; rotate_left; (focus rfl); (focus (intro u hSw; (try dsimp only at hSw); go_simp; (try with_reducible rfl); done)); (try simp only [Act.put, sA, sB, sC])))
   refine planT_do rfl rfl ?_ (fun K hK => ?_)
   · rfl
   go_simp
   go_wp2_with (go_at_call 134; refine (from_any HSL.out HWB.out HRLL.out (H.out.keep (Chg.refl _ _).drew)).mono ?_; rintro e w1 ⟨rfl, hx⟩; rw [HF.out]; have HC1 := hid ((Chg.refl [] W).drew.trans hx); have H1 := hid (H.out.keep HC1.out); clear hx)
   refine hK.out _ _ (KEEP.out _ HC1.out) (fun hHeld2 => ?_)
   clear hK K hHeld
   have hHeld := hHeld2
   clear hHeld2
   try simp only [Act.put, sA, sB, sC]
   repeat (first | (refine planT_load rfl rfl rfl 26 _ rfl _ rfl (fun u hSw => hSw.1) ?_; (try simp only [Act.put, sA, sB, sC])) | (refine planT_read (v := ?_) rfl rfl ?_ ?_ ?_; rotate_left; (focus rfl); (focus (intro u hSw; (try dsimp only at hSw); go_simp; (try with_reducible rfl); done)); (try simp only [Act.put, sA, sB, sC])))
   refine planT_last rfl ?_ (fun K hK => ?_)
   · rfl
   go_simp
   go_wp2_with (go_at_call 129; refine (Word_read bN fN iN HOP.out HM.out HB.out HI.out HIR.out (by omega) HJ.out HN.out H1.out).mono ?_; rintro e w4 ⟨rfl, hx⟩; rw [HW.out, HDEC.out]; have H4 := hid hx; clear hx)
   refine hK.out _ _ ?_
   clear hK K hHeld KEEP
   go_wp2_with fail
   all_goals (first | (go_end0; exact ⟨rfl, H4.out⟩) | (refine bodyPost_ret (results_none rfl _ _ _) rfl ?_; exact ⟨rfl, H4.out⟩))
open Go Go.RowKit kit mem rop core
def stepW (x : Core) (rec ws : List Int) : Core × List Int × List Int :=
 if x.phase = 0 then ({ x with a := ws.getD (x.base.toNat + 0) 0, phase := 1, i := 0 }, rec, ws)
 else if x.phase = 1 then (scanC x (ws.getD (x.base.toNat + (1 + x.i.toNat)) 0), rec, ws)
 else if x.phase = 2 then (if x.w.toNat <= x.i.toNat + 1 then { x with phase := 3, i := 0 } else { x with i := (x.i.toNat : Int) + 1 }, rec, ws.set (x.base.toNat + (place x x.b + x.i.toNat)) (rec.getD x.i.toNat 0))
 else if x.phase = 3 then ({ x with phase := 4, i := 0 }, rec, ws.set (x.base.toNat + 0) x.b)
 else (if x.rl <= x.i.toNat + 1 then { x with i := (x.i.toNat : Int) + 1, over := true, code := 0 } else { x with i := (x.i.toNat : Int) + 1 }, if x.rl <= x.i.toNat + 1 then endRec x.op 0 rec else rec, swapL ws (x.base.toNat + (1 + x.i.toNat)) ((x.rl : Int) + 2) x.b)
def stepR (x : Core) (rec ws : List Int) : Core × List Int × List Int :=
 if x.phase = 0 then ({ x with phase := 1, i := 0 }, rec, ws.set (x.base.toNat + (1 + x.reader.toNat)) ((x.rl : Int) + 2))
 else if x.phase = 1 then ({ x with a := ws.getD (x.base.toNat + 0) 0, phase := 2, i := 0 }, rec, ws)
 else if x.phase = 2 then ({ x with phase := 3, i := 0 }, rec, swapL ws (x.base.toNat + (1 + x.reader.toNat)) ((x.rl : Int) + 2) x.a)
 else if x.phase = 3 then ({ x with b := ws.getD (x.base.toNat + (1 + x.reader.toNat)) 0 % ((x.rl : Int) + 2), phase := 4, i := 0 }, rec, ws)
 else (if x.w.toNat <= x.i.toNat + 1 then { x with i := (x.i.toNat : Int) + 1, over := true, code := 0 } else { x with i := (x.i.toNat : Int) + 1 }, if x.w.toNat <= x.i.toNat + 1 then endRec x.op 0 (rec ++ [ws.getD (x.base.toNat + (place x x.b + x.i.toNat)) 0]) else rec ++ [ws.getD (x.base.toNat + (place x x.b + x.i.toNat)) 0], ws)
def step (x : Core) (mv : Value) (rec ws : List Int) : Core × List Int × List Int :=
 if x.op = 2 then stepW { x with m := mv, steps := x.steps + 1 } rec ws else stepR { x with m := mv, steps := x.steps + 1 } rec ws
structure Shape (x : Core) (rec : List Int) : Prop where
 w : 1 <= x.w /\ x.w <= 8
 rl : 1 <= x.rl /\ x.rl <= 4
 a : 0 <= x.a /\ x.a <= 4294967295
 b : 0 <= x.b /\ x.b < (x.rl : Int) + 2
 reader : 0 <= x.reader /\ x.reader < x.rl
 base : 0 <= x.base
 size : x.size = 1 + x.rl + ((x.rl : Int) + 2) * x.w
 marks : x.over = false -> x.op = 2 -> x.phase <= 1 -> bitm.Marks x.used (if x.phase = 1 then x.i else 0)
 i : x.over = false -> 0 <= x.i /\ (if x.op = 2 /\ (x.phase = 1 \/ x.phase = 4) then x.i < x.rl else x.i < x.w)
 op : (x.op = 2 /\ (0 <= x.phase /\ x.phase <= 4) /\ (x.over = false -> (rec.length : Int) = x.w)) \/ (x.op = 1 /\ (0 <= x.phase /\ x.phase <= 4) /\ (x.over = false -> (rec.length : Int) = if x.phase = 4 then x.i else 0))
theorem place_fit {x : Core} {sl : Int} (hs : 1 <= x.rl /\ x.rl <= 4) (hw : 1 <= x.w /\ x.w <= 8) (h : 0 <= sl /\ sl < (x.rl : Int) + 2) : 1 + x.rl <= place x sl /\ (place x sl : Int) + x.w <= 1 + x.rl + ((x.rl : Int) + 2) * x.w := by
 have h3 := mul_bd (c := sl) (w := x.w) (m := (x.rl : Int) + 1) ⟨h.1, by omega⟩ (by omega) (by omega)
 have h4 : ((x.rl : Int) + 2) * x.w = ((x.rl : Int) + 1) * x.w + x.w := by rw [Int.add_mul, Int.add_mul, Int.one_mul]; omega
 unfold place
 omega
set_option maxHeartbeats 2000000 in
theorem write_any {T : TypeId} {bx mb : Nat} {sv r0 : Value} {W0 W : World} {x : Core} {rec ws : List Int} {n : Int} (hT : ∀ V x' rec' ws' n', St T bx mb sv W0 r0 V x' rec' ws' n' -> bitm.Tab V) (hI : Shape x rec) (hov : x.over = false) (hop : x.op = 2) (hm : x.m = .pointer (some ⟨mb, 0, none⟩)) (hfit : x.base + x.size <= ws.length) (hn : 0 <= n /\ n <= 1000000) (h : St T bx mb sv W0 r0 W x rec ws n) :
 Calls Tryz.prog 107 #[.pointer (some ⟨bx, 0, none⟩)] W fun e W' => e = .returned (.tuple #[]) /\ St T bx mb sv W0 r0 W' (stepW x rec ws).1 (stepW x rec ws).2.1 (stepW x rec ws).2.2 (n + 1) := by
 have hw := hI.w; have ha := hI.a; have hb := hI.b; have hba := hI.base; have hsz := hI.size; have hi := hI.i hov; have hrl := hI.rl; have hrd := hI.reader
 have hfb := place_fit (x := x) (sl := x.b) hrl hw hb
 have hph : (0 <= x.phase /\ x.phase <= 4) /\ (rec.length : Int) = x.w := by rcases hI.op with ⟨_, h1, h2⟩ | ⟨h1, _⟩; exact ⟨h1, h2 hov⟩; omega
 have eb : x.base = (x.base.toNat : Int) := by omega
 have ei : x.i = (x.i.toNat : Int) := by omega
 have ew : x.w = (x.w.toNat : Int) := by omega
 have er : x.reader = (x.reader.toNat : Int) := by omega
 have hnn := Int.mul_nonneg (show 0 <= (x.rl : Int) + 2 by omega) (show 0 <= x.w by omega)
 have hj0 : x.base.toNat + 0 < ws.length := by omega
 have hjr : x.base.toNat + (1 + x.reader.toNat) < ws.length := by omega
 rcases (by omega : x.phase = 0 \/ x.phase = 1 \/ x.phase = 2 \/ x.phase = 3 \/ x.phase = 4) with p | p | p | p | p
 · have hst : stepW x rec ws = ({ x with a := ws.getD (x.base.toNat + 0) 0, phase := 1, i := 0 }, rec, ws) := by simp [stepW, p]
   rw [hst]
   exact write_0 x.base.toNat hm eb hn hj0 p h
 · have hst : stepW x rec ws = (scanC x (ws.getD (x.base.toNat + (1 + x.i.toNat)) 0), rec, ws) := by simp [stepW, p]
   rw [hst]
   rw [if_pos ⟨hop, .inl p⟩] at hi
   have h11 : x.base.toNat + (1 + x.i.toNat) < ws.length := by omega
   exact write_1 x.base.toNat x.i.toNat hT hm eb hn ei (by omega) (by omega) ha (hI.marks hov hop (by omega)).bd h11 p h
 · have hst : stepW x rec ws = (if x.w.toNat <= x.i.toNat + 1 then { x with phase := 3, i := 0 } else { x with i := (x.i.toNat : Int) + 1 }, rec, ws.set (x.base.toNat + (place x x.b + x.i.toNat)) (rec.getD x.i.toNat 0)) := by simp [stepW, p]
   rw [hst]
   rw [if_neg (by omega)] at hi
   have h9 := hph.2
   have h10 : x.i.toNat < rec.length := by omega
   have h11 : x.base.toNat + (place x x.b + x.i.toNat) < ws.length := by omega
   exact write_2 x.base.toNat hm eb hn x.w.toNat x.i.toNat (place x x.b) hw (by omega) ⟨hb.1, by omega⟩ rfl ew ei (by omega) (.inl hop) h10 h11 p h
 · have hst : stepW x rec ws = ({ x with phase := 4, i := 0 }, rec, ws.set (x.base.toNat + 0) x.b) := by simp [stepW, p]
   rw [hst]
   exact write_3 x.base.toNat hm eb hn ⟨hb.1, by omega⟩ hj0 p h
 · have hst : stepW x rec ws = (if x.rl <= x.i.toNat + 1 then { x with i := (x.i.toNat : Int) + 1, over := true, code := 0 } else { x with i := (x.i.toNat : Int) + 1 }, if x.rl <= x.i.toNat + 1 then endRec x.op 0 rec else rec, swapL ws (x.base.toNat + (1 + x.i.toNat)) ((x.rl : Int) + 2) x.b) := by simp [stepW, p]
   rw [hst]
   rw [if_pos ⟨hop, .inr p⟩] at hi
   have h11 : x.base.toNat + (1 + x.i.toNat) < ws.length := by omega
   exact write_4 x.base.toNat hm eb hn x.i.toNat ei (by omega) (by omega) ⟨hb.1, by omega⟩ h11 p h
set_option maxHeartbeats 2000000 in
theorem read_any {T : TypeId} {bx mb : Nat} {sv r0 : Value} {W0 W : World} {x : Core} {rec ws : List Int} {n : Int}  (hI : Shape x rec) (hov : x.over = false) (hop : x.op = 1) (hm : x.m = .pointer (some ⟨mb, 0, none⟩)) (hfit : x.base + x.size <= ws.length) (hn : 0 <= n /\ n <= 1000000) (h : St T bx mb sv W0 r0 W x rec ws n) :
 Calls Tryz.prog 108 #[.pointer (some ⟨bx, 0, none⟩)] W fun e W' => e = .returned (.tuple #[]) /\ St T bx mb sv W0 r0 W' (stepR x rec ws).1 (stepR x rec ws).2.1 (stepR x rec ws).2.2 (n + 1) := by
 have hw := hI.w; have ha := hI.a; have hb := hI.b; have hba := hI.base; have hsz := hI.size; have hi := hI.i hov; have hrl := hI.rl; have hrd := hI.reader
 have hfb := place_fit (x := x) (sl := x.b) hrl hw hb
 have hph : (0 <= x.phase /\ x.phase <= 4) /\ (rec.length : Int) = if x.phase = 4 then x.i else 0 := by rcases hI.op with ⟨h1, _⟩ | ⟨_, h1, h2⟩; omega; exact ⟨h1, h2 hov⟩
 rw [if_neg (by omega)] at hi
 have eb : x.base = (x.base.toNat : Int) := by omega
 have ei : x.i = (x.i.toNat : Int) := by omega
 have ew : x.w = (x.w.toNat : Int) := by omega
 have er : x.reader = (x.reader.toNat : Int) := by omega
 have hnn := Int.mul_nonneg (show 0 <= (x.rl : Int) + 2 by omega) (show 0 <= x.w by omega)
 have hj0 : x.base.toNat + 0 < ws.length := by omega
 have hjr : x.base.toNat + (1 + x.reader.toNat) < ws.length := by omega
 rcases (by omega : x.phase = 0 \/ x.phase = 1 \/ x.phase = 2 \/ x.phase = 3 \/ x.phase = 4) with p | p | p | p | p
 · have hst : stepR x rec ws = ({ x with phase := 1, i := 0 }, rec, ws.set (x.base.toNat + (1 + x.reader.toNat)) ((x.rl : Int) + 2)) := by simp [stepR, p]
   rw [hst]
   exact read_0 x.base.toNat hm eb hn x.reader.toNat er (by omega) (by omega) hjr p h
 · have hst : stepR x rec ws = ({ x with a := ws.getD (x.base.toNat + 0) 0, phase := 2, i := 0 }, rec, ws) := by simp [stepR, p]
   rw [hst]
   exact read_1 x.base.toNat hm eb hn x.reader.toNat er (by omega) hj0 p h
 · have hst : stepR x rec ws = ({ x with phase := 3, i := 0 }, rec, swapL ws (x.base.toNat + (1 + x.reader.toNat)) ((x.rl : Int) + 2) x.a) := by simp [stepR, p]
   rw [hst]
   exact read_2 x.base.toNat hm eb hn x.reader.toNat er (by omega) (by omega) ha hjr p h
 · have hst : stepR x rec ws = ({ x with b := ws.getD (x.base.toNat + (1 + x.reader.toNat)) 0 % ((x.rl : Int) + 2), phase := 4, i := 0 }, rec, ws) := by simp [stepR, p]
   rw [hst]
   exact read_3 x.base.toNat hm eb hn x.reader.toNat er (by omega) (by omega) hjr p h
 · have hst : stepR x rec ws = (if x.w.toNat <= x.i.toNat + 1 then { x with i := (x.i.toNat : Int) + 1, over := true, code := 0 } else { x with i := (x.i.toNat : Int) + 1 }, if x.w.toNat <= x.i.toNat + 1 then endRec x.op 0 (rec ++ [ws.getD (x.base.toNat + (place x x.b + x.i.toNat)) 0]) else rec ++ [ws.getD (x.base.toNat + (place x x.b + x.i.toNat)) 0], ws) := by simp [stepR, p]
   rw [hst]
   have hrlen : rec.length < 1000 := by have h9 := hph.2; rw [if_pos p] at h9; omega
   have h11 : x.base.toNat + (place x x.b + x.i.toNat) < ws.length := by omega
   exact read_4 x.base.toNat hm eb hn x.reader.toNat er (by omega) x.w.toNat x.i.toNat (place x x.b) hw (by omega) ⟨hb.1, by omega⟩ rfl ew ei (by omega) (by omega) hrlen h11 p h
theorem e8of {T : TypeId} {bx mb : Nat} {sv r0 : Value} {W0 W : World} {x : Core} {rec ws : List Int} {n o : Int} {mv : Value} {k : Int} (ho : x.op = o) (h : St T bx mb sv W0 r0 W { x with m := mv, steps := k } rec ws n) : W.cell? ⟨bx, 8, none⟩ = some (.int .i64 o) := by
 rw [<- ho]; exact h.cell 8 _ (fun _ => rfl)
theorem Shape.up {x : Core} {rec : List Int} (h : Shape x rec) (mv : Value) (k : Int) : Shape { x with m := mv, steps := k } rec := ⟨h.w, h.rl, h.a, h.b, h.reader, h.base, h.size, h.marks, h.i, h.op⟩
theorem opens_spec {x : Core} {l : Nat} (h : opens x l = true) : x.over = false /\ 0 <= x.base /\ 0 <= x.size /\ x.base + x.size <= l := by
 simp only [opens, insB, Bool.and_eq_true, Bool.not_eq_true', decide_eq_true_eq] at h
 exact ⟨h.1, h.2.1, h.2.2.1, by omega⟩
set_option maxHeartbeats 2000000 in
theorem Step_yes {T : TypeId} {bx mb : Nat} {sv r0 : Value} {W0 W : World} {x : Core} {rec ws : List Int} {n : Int} (hT : ∀ V x' rec' ws' n', St T bx mb sv W0 r0 V x' rec' ws' n' -> bitm.Tab V) (hI : Shape x rec) (hs : 0 <= x.steps /\ x.steps <= 1000000) (ho : opens x ws.length = true) (hn : 0 <= n /\ n <= 1000000) (h : St T bx mb sv W0 r0 W x rec ws n) :
 Calls Tryz.prog 63 #[.pointer (some ⟨bx, 0, none⟩), .pointer (some ⟨mb, 0, none⟩)] W fun e W' => e = .returned (.bool true) ∧
  St T bx mb sv W0 r0 W' (step x (.pointer (some ⟨mb, 0, none⟩)) rec ws).1 (step x (.pointer (some ⟨mb, 0, none⟩)) rec ws).2.1 (step x (.pointer (some ⟨mb, 0, none⟩)) rec ws).2.2 (n + 1) := by
 have H := hid h
 obtain ⟨hov, _, _, hfit⟩ := opens_spec ho
 have HS := hid hs
 have HO := hid ho
 have hop : (x.op = 2 \/ x.op = 1) := by rcases hI.op with h1 | h1 <;> simp [h1.1]
 rcases hop with hop | hop
 · have hst : step x (.pointer (some ⟨mb, 0, none⟩)) rec ws = stepW { x with m := .pointer (some ⟨mb, 0, none⟩), steps := x.steps + 1 } rec ws := by simp [step, hop]
   rw [hst]
   have K := hid (fun W1 (hx : St T bx mb sv W0 r0 W1 { x with m := .pointer (some ⟨mb, 0, none⟩), steps := x.steps + 1 } rec ws n) => write_any hT (hI.up (.pointer (some ⟨mb, 0, none⟩)) (x.steps + 1)) hov hop rfl hfit hn hx)
   have HOP := hid hop
   clear h hst hI hov hfit hop hs ho hn hT
   go_enter Tryz.func63, Tryz.ntmps63
   go_wp2_with (first | (go_at_call 104; refine (Open_yes HS.out HO.out H.out).mono ?_; rintro e w1 ⟨rfl, hx⟩; have e8 : w1.cell? ⟨bx, 8, none⟩ = some (.int .i64 2) := e8of HOP.out hx; have H1 := hid hx; clear hx) | (go_at_call 107; refine (K.out _ H1.out).mono ?_; rintro e w2 ⟨rfl, hx⟩; have H2 := hid hx; clear hx))
   go_ret
   exact ⟨rfl, H2.out⟩
 · have hst : step x (.pointer (some ⟨mb, 0, none⟩)) rec ws = stepR { x with m := .pointer (some ⟨mb, 0, none⟩), steps := x.steps + 1 } rec ws := by simp [step, hop]
   rw [hst]
   have K := hid (fun W1 (hx : St T bx mb sv W0 r0 W1 { x with m := .pointer (some ⟨mb, 0, none⟩), steps := x.steps + 1 } rec ws n) => read_any (hI.up (.pointer (some ⟨mb, 0, none⟩)) (x.steps + 1)) hov hop rfl hfit hn hx)
   have HOP := hid hop
   clear h hst hI hov hfit hop hs ho hn hT
   go_enter Tryz.func63, Tryz.ntmps63
   go_wp2_with (first | (go_at_call 104; refine (Open_yes HS.out HO.out H.out).mono ?_; rintro e w1 ⟨rfl, hx⟩; have e8 : w1.cell? ⟨bx, 8, none⟩ = some (.int .i64 1) := e8of HOP.out hx; have H1 := hid hx; clear hx) | (go_at_call 108; refine (K.out _ H1.out).mono ?_; rintro e w2 ⟨rfl, hx⟩; have H2 := hid hx; clear hx))
   go_ret
   exact ⟨rfl, H2.out⟩
def left (x : Core) : Int :=
 if x.over then 0 else if x.op = 2 then (if x.phase = 0 then x.w + 2 * x.rl + 2 else if x.phase = 1 then x.w + 2 * x.rl + 1 - x.i else if x.phase = 2 then x.w + x.rl + 1 - x.i else if x.phase = 3 then x.rl + 1 else x.rl - x.i) else (if x.phase = 0 then x.w + 4 else if x.phase = 1 then x.w + 3 else if x.phase = 2 then x.w + 2 else if x.phase = 3 then x.w + 1 else x.w - x.i)
theorem left_over {x : Core} (ho : x.over = true) : left x = 0 := by simp [left, ho]
theorem left_pos {x : Core} {rec : List Int} (h : Shape x rec) (ho : x.over = false) : 1 <= left x := by
 have hw := h.w; have hi := h.i ho; have hrl := h.rl
 rcases h.op with ⟨o, p, _⟩ | ⟨o, p, _⟩
 · simp only [left, ho, o]; simp
   rcases (by omega : x.phase = 0 \/ x.phase = 1 \/ x.phase = 2 \/ x.phase = 3 \/ x.phase = 4) with q | q | q | q | q
   all_goals (simp [o, q] at hi ⊢; omega)
 · simp only [left, ho, o]; simp
   rw [if_neg (by omega)] at hi
   (repeat' split) <;> omega
theorem step_len (x : Core) (mv : Value) (rec ws : List Int) : (step x mv rec ws).2.2.length = ws.length := by
 simp only [step, stepW, stepR]
 (repeat' split) <;> simp [swapL_length]
theorem mod_bd {s v : Int} (hs : 1 <= s) : 0 <= v % s /\ v % s < s := ⟨Int.emod_nonneg v (by omega), Int.emod_lt_of_pos v (by omega)⟩
theorem getD_bd {ws : List Int} (hw : ∀ z ∈ ws, 0 <= z /\ z <= 4294967295) (i : Nat) : 0 <= ws.getD i 0 /\ ws.getD i 0 <= 4294967295 := by
 by_cases h : i < ws.length
 · simp [List.getD, h]; exact hw _ (List.getElem_mem h)
 · simp [List.getD, h]
theorem step_ok {x : Core} {rec ws : List Int} (mv : Value) (h : Shape x rec) (ho : x.over = false) (hws : ∀ z ∈ ws, 0 <= z /\ z <= 4294967295) :
 Shape (step x mv rec ws).1 (step x mv rec ws).2.1 /\ left (step x mv rec ws).1 + 1 <= left x /\ (step x mv rec ws).1.steps = x.steps + 1 /\ (step x mv rec ws).1.m = mv /\ (step x mv rec ws).1.base = x.base /\ (step x mv rec ws).1.size = x.size := by
 obtain ⟨hw, hrl, ha, hb, hrd, hba, hsz, hmk, hi, hop⟩ := h
 have hi := hi ho
 have g0 := getD_bd hws
 rcases hop with ⟨o, p, r⟩ | ⟨o, p, r⟩
 · have r := r ho
   have hmk := hmk ho o
   have hst : step x mv rec ws = stepW { x with m := mv, steps := x.steps + 1 } rec ws := by unfold step; rw [if_pos o]
   rw [hst]
   have hl : left x = (if x.phase = 0 then x.w + 2 * x.rl + 2 else if x.phase = 1 then x.w + 2 * x.rl + 1 - x.i else if x.phase = 2 then x.w + x.rl + 1 - x.i else if x.phase = 3 then x.rl + 1 else x.rl - x.i) := by unfold left; rw [if_neg (by simp [ho]), if_pos o]
   rcases (by omega : x.phase = 0 \/ x.phase = 1 \/ x.phase = 2 \/ x.phase = 3 \/ x.phase = 4) with q | q | q | q | q
   · have hmk := hmk (by omega)
     rw [if_neg (by omega)] at hmk
     rw [if_neg (by omega)] at hi
     unfold stepW
     rw [if_pos (show ({ x with m := mv, steps := x.steps + 1 } : Core).phase = 0 from q)]
     dsimp only
     refine ⟨⟨hw, hrl, g0 _, hb, hrd, hba, hsz, fun _ _ _ => by simp only [if_true]; exact hmk, fun _ => by simp [o]; omega, .inl ⟨o, by simp, fun _ => r⟩⟩, ?_, rfl, rfl, rfl, rfl⟩
     rw [hl, if_pos q]
     simp [left, ho, o] <;> omega
   · have hmk := hmk (by omega)
     rw [if_pos q] at hmk
     rw [if_pos ⟨o, .inl q⟩] at hi
     obtain ⟨u, hu⟩ : ∃ u, ws.getD (x.base.toNat + (1 + x.i.toNat)) 0 = u := ⟨_, rfl⟩
     have hu0 : 0 <= u := by rw [<- hu]; exact (g0 _).1
     have hm1 : bitm.Marks (bitm.markU x.used u) (x.i + 1) := hmk.mark hu0
     unfold stepW
     rw [if_neg (show ¬ ({ x with m := mv, steps := x.steps + 1 } : Core).phase = 0 by show ¬ x.phase = 0; omega), if_pos (show ({ x with m := mv, steps := x.steps + 1 } : Core).phase = 1 from q)]
     dsimp only
     rw [hu]
     unfold scanC
     dsimp only
     obtain ⟨U1, hU1⟩ : ∃ U1, bitm.markU x.used u = U1 := ⟨_, rfl⟩
     rw [hU1] at hm1
     simp only [hU1]
     split
     · have hm2 := hm1.mark (s := x.a) ha.1
       have hf := hm2.free
       refine ⟨⟨hw, hrl, ha, by simp only []; omega, hrd, hba, hsz, fun _ _ h9 => by simp at h9, fun _ => by simp [o]; omega, .inl ⟨o, by simp, fun _ => r⟩⟩, ?_, rfl, rfl, rfl, rfl⟩
       rw [hl, if_neg (by omega), if_pos q]
       simp [left, ho, o] <;> omega
     · refine ⟨⟨hw, hrl, ha, hb, hrd, hba, hsz, fun _ _ _ => by
        simp only [q, if_true]
        rw [show (x.i.toNat : Int) + 1 = x.i + 1 by omega]; exact hm1, fun _ => by simp [o, q]; omega, .inl ⟨o, by simp [q], fun _ => r⟩⟩, ?_, rfl, rfl, rfl, rfl⟩
       rw [hl, if_neg (by omega), if_pos q]
       simp [left, ho, o, q] <;> omega
   · rw [if_neg (by omega)] at hi
     unfold stepW
     rw [if_neg (show ¬ ({ x with m := mv, steps := x.steps + 1 } : Core).phase = 0 by show ¬ x.phase = 0; omega), if_neg (show ¬ ({ x with m := mv, steps := x.steps + 1 } : Core).phase = 1 by show ¬ x.phase = 1; omega), if_pos (show ({ x with m := mv, steps := x.steps + 1 } : Core).phase = 2 from q)]
     dsimp only
     split
     · refine ⟨⟨hw, hrl, ha, hb, hrd, hba, hsz, fun _ _ h9 => by simp at h9, fun _ => by simp [o]; omega, .inl ⟨o, by simp, fun _ => r⟩⟩, ?_, rfl, rfl, rfl, rfl⟩
       rw [hl, if_neg (by omega), if_neg (by omega), if_pos q]
       simp [left, ho, o] <;> omega
     · refine ⟨⟨hw, hrl, ha, hb, hrd, hba, hsz, fun _ _ h9 => by simp [q] at h9, fun _ => by simp [o, q]; omega, .inl ⟨o, by simp [q], fun _ => r⟩⟩, ?_, rfl, rfl, rfl, rfl⟩
       rw [hl, if_neg (by omega), if_neg (by omega), if_pos q]
       simp [left, ho, o, q] <;> omega
   · rw [if_neg (by omega)] at hi
     unfold stepW
     rw [if_neg (show ¬ ({ x with m := mv, steps := x.steps + 1 } : Core).phase = 0 by show ¬ x.phase = 0; omega), if_neg (show ¬ ({ x with m := mv, steps := x.steps + 1 } : Core).phase = 1 by show ¬ x.phase = 1; omega), if_neg (show ¬ ({ x with m := mv, steps := x.steps + 1 } : Core).phase = 2 by show ¬ x.phase = 2; omega), if_pos (show ({ x with m := mv, steps := x.steps + 1 } : Core).phase = 3 from q)]
     dsimp only
     refine ⟨⟨hw, hrl, ha, hb, hrd, hba, hsz, fun _ _ h9 => by simp at h9, fun _ => by simp [o]; omega, .inl ⟨o, by simp, fun _ => r⟩⟩, ?_, rfl, rfl, rfl, rfl⟩
     rw [hl, if_neg (by omega), if_neg (by omega), if_neg (by omega), if_pos q]
     simp [left, ho, o] <;> omega
   · rw [if_pos ⟨o, .inr q⟩] at hi
     unfold stepW
     rw [if_neg (show ¬ ({ x with m := mv, steps := x.steps + 1 } : Core).phase = 0 by show ¬ x.phase = 0; omega), if_neg (show ¬ ({ x with m := mv, steps := x.steps + 1 } : Core).phase = 1 by show ¬ x.phase = 1; omega), if_neg (show ¬ ({ x with m := mv, steps := x.steps + 1 } : Core).phase = 2 by show ¬ x.phase = 2; omega), if_neg (show ¬ ({ x with m := mv, steps := x.steps + 1 } : Core).phase = 3 by show ¬ x.phase = 3; omega)]
     dsimp only
     split
     · refine ⟨⟨hw, hrl, ha, hb, hrd, hba, hsz, fun h9 => by simp at h9, fun h9 => by simp at h9, .inl ⟨o, by simp [q], fun h9 => by simp at h9⟩⟩, ?_, rfl, rfl, rfl, rfl⟩
       rw [hl, if_neg (by omega), if_neg (by omega), if_neg (by omega), if_neg (by omega)]
       simp [left] <;> omega
     · refine ⟨⟨hw, hrl, ha, hb, hrd, hba, hsz, fun _ _ h9 => by simp [q] at h9, fun _ => by simp [o, q]; omega, .inl ⟨o, by simp [q], fun _ => r⟩⟩, ?_, rfl, rfl, rfl, rfl⟩
       rw [hl, if_neg (by omega), if_neg (by omega), if_neg (by omega), if_neg (by omega)]
       simp [left, ho, o, q] <;> omega
 · have r := r ho
   rw [if_neg (by omega)] at hi
   have hst : step x mv rec ws = stepR { x with m := mv, steps := x.steps + 1 } rec ws := by unfold step; rw [if_neg (by omega)]
   rw [hst]
   have hl : left x = (if x.phase = 0 then x.w + 4 else if x.phase = 1 then x.w + 3 else if x.phase = 2 then x.w + 2 else if x.phase = 3 then x.w + 1 else x.w - x.i) := by unfold left; rw [if_neg (by simp [ho]), if_neg (by omega)]
   have hnm : ∀ (y : Core), y.op = x.op -> y.over = false -> y.op = 2 -> y.phase <= 1 -> bitm.Marks y.used (if y.phase = 1 then y.i else 0) := fun y h1 _ h2 => by rw [h1, o] at h2; omega
   rcases (by omega : x.phase = 0 \/ x.phase = 1 \/ x.phase = 2 \/ x.phase = 3 \/ x.phase = 4) with q | q | q | q | q
   · unfold stepR
     rw [if_pos (show ({ x with m := mv, steps := x.steps + 1 } : Core).phase = 0 from q)]
     dsimp only
     refine ⟨⟨hw, hrl, ha, hb, hrd, hba, hsz, hnm _ rfl, fun _ => by simp [o]; omega, .inr ⟨o, by simp, fun _ => by simp [q] at r ⊢; exact r⟩⟩, ?_, rfl, rfl, rfl, rfl⟩
     rw [hl, if_pos q]
     simp [left, ho, o] <;> omega
   · unfold stepR
     rw [if_neg (show ¬ ({ x with m := mv, steps := x.steps + 1 } : Core).phase = 0 by show ¬ x.phase = 0; omega), if_pos (show ({ x with m := mv, steps := x.steps + 1 } : Core).phase = 1 from q)]
     dsimp only
     refine ⟨⟨hw, hrl, g0 _, hb, hrd, hba, hsz, hnm _ rfl, fun _ => by simp [o]; omega, .inr ⟨o, by simp, fun _ => by simp [q] at r ⊢; exact r⟩⟩, ?_, rfl, rfl, rfl, rfl⟩
     rw [hl, if_neg (by omega), if_pos q]
     simp [left, ho, o] <;> omega
   · unfold stepR
     rw [if_neg (show ¬ ({ x with m := mv, steps := x.steps + 1 } : Core).phase = 0 by show ¬ x.phase = 0; omega), if_neg (show ¬ ({ x with m := mv, steps := x.steps + 1 } : Core).phase = 1 by show ¬ x.phase = 1; omega), if_pos (show ({ x with m := mv, steps := x.steps + 1 } : Core).phase = 2 from q)]
     dsimp only
     refine ⟨⟨hw, hrl, ha, hb, hrd, hba, hsz, hnm _ rfl, fun _ => by simp [o]; omega, .inr ⟨o, by simp, fun _ => by simp [q] at r ⊢; exact r⟩⟩, ?_, rfl, rfl, rfl, rfl⟩
     rw [hl, if_neg (by omega), if_neg (by omega), if_pos q]
     simp [left, ho, o] <;> omega
   · unfold stepR
     rw [if_neg (show ¬ ({ x with m := mv, steps := x.steps + 1 } : Core).phase = 0 by show ¬ x.phase = 0; omega), if_neg (show ¬ ({ x with m := mv, steps := x.steps + 1 } : Core).phase = 1 by show ¬ x.phase = 1; omega), if_neg (show ¬ ({ x with m := mv, steps := x.steps + 1 } : Core).phase = 2 by show ¬ x.phase = 2; omega), if_pos (show ({ x with m := mv, steps := x.steps + 1 } : Core).phase = 3 from q)]
     dsimp only
     refine ⟨⟨hw, hrl, ha, by simp only []; exact mod_bd (by omega), hrd, hba, hsz, hnm _ rfl, fun _ => by simp [o]; omega, .inr ⟨o, by simp, fun _ => by simp [q] at r ⊢; exact r⟩⟩, ?_, rfl, rfl, rfl, rfl⟩
     rw [hl, if_neg (by omega), if_neg (by omega), if_neg (by omega), if_pos q]
     simp [left, ho, o] <;> omega
   · unfold stepR
     rw [if_neg (show ¬ ({ x with m := mv, steps := x.steps + 1 } : Core).phase = 0 by show ¬ x.phase = 0; omega), if_neg (show ¬ ({ x with m := mv, steps := x.steps + 1 } : Core).phase = 1 by show ¬ x.phase = 1; omega), if_neg (show ¬ ({ x with m := mv, steps := x.steps + 1 } : Core).phase = 2 by show ¬ x.phase = 2; omega), if_neg (show ¬ ({ x with m := mv, steps := x.steps + 1 } : Core).phase = 3 by show ¬ x.phase = 3; omega)]
     dsimp only
     rw [if_pos q] at r
     split
     · refine ⟨⟨hw, hrl, ha, hb, hrd, hba, hsz, fun h9 => by simp at h9, fun h9 => by simp at h9, .inr ⟨o, by simp [q], fun h9 => by simp at h9⟩⟩, ?_, rfl, rfl, rfl, rfl⟩
       rw [hl, if_neg (by omega), if_neg (by omega), if_neg (by omega), if_neg (by omega)]
       simp [left] <;> omega
     · refine ⟨⟨hw, hrl, ha, hb, hrd, hba, hsz, hnm _ rfl, fun _ => by simp [o, q]; omega, .inr ⟨o, by simp [q], fun _ => by simp [q]; omega⟩⟩, ?_, rfl, rfl, rfl, rfl⟩
       rw [hl, if_neg (by omega), if_neg (by omega), if_neg (by omega), if_neg (by omega)]
       simp [left, ho, o, q] <;> omega
def K : Kind where
 step := step
 Shape := Shape
 left := left
 ok mv h ho hws := step_ok mv h ho hws
 len := step_len
 pos := left_pos
 zero := left_over
end Go.Proofs.YtphfnjcboellhaaGreatDoor.chen
