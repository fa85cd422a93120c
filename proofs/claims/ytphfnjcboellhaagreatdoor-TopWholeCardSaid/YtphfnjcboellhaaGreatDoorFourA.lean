import Derived.Test.YtphfnjcboellhaaGreatDoorCore
import Derived.Test.YtphfnjcboellhaaGreatDoorRopB
namespace Go.Proofs.YtphfnjcboellhaaGreatDoor.four
open Go Go.RowKit kit mem rop core
set_option maxRecDepth 20000
theorem and_one_u32 (E : Int) (h0 : 0 <= E) (h1 : E <= 4294967295) : bits BinOp.and IntKind.u32 E 1 = E % 2 := by
 have h1 : (BitVec.ofInt 32 ((E.toNat : Nat) : Int)).toNat = E.toNat := by
  rw [BitVec.ofInt_natCast, BitVec.toNat_ofNat]; exact Nat.mod_eq_of_lt (by omega)
 have h2 : (BitVec.ofInt 32 (((1 : Nat)) : Int)).toNat = 1 := by
  rw [BitVec.ofInt_natCast, BitVec.toNat_ofNat]
 rw [Int.toNat_of_nonneg h0] at h1
 show IntKind.u32.wrap ((BitVec.ofInt 32 E &&& BitVec.ofInt 32 1).toNat : Int) = _
 have h3 : (BitVec.ofInt 32 (1 : Int)).toNat = 1 := h2
 rw [BitVec.toNat_and, h1, h3, Nat.and_one_is_mod, IntKind.wrap_u32]
 omega
theorem _root_.Go.Proofs.YtphfnjcboellhaaGreatDoor.mem.MemAt.word {W : World} {b : Nat} {sv : Value} {ws : List Int} {n : Int} {i : Nat} (h : MemAt W b sv ws n) (hi : i < ws.length) : 0 <= ws.getD i 0 /\ ws.getD i 0 <= 4294967295 := by
 have hget : ws.getD i 0 = ws[i] := by simp [List.getD, hi]
 rw [hget]
 exact wf_u32 (h.wf _ (List.getElem_mem hi))
set_option maxHeartbeats 4000000 in
theorem write_0 {T : TypeId} {bx mb : Nat} {sv r0 : Value} {W0 W : World} {x : Core} {rec ws : List Int} {n : Int} (bN : Nat) (hm : x.m = .pointer (some ⟨mb, 0, none⟩)) (hb : x.base = (bN : Int)) (hn : 0 <= n /\ n <= 1000000) (hj : bN + 1 < ws.length) (hph : x.phase = 0) (h : St T bx mb sv W0 r0 W x rec ws n) :
 Calls Tryz.prog 105 #[.pointer (some ⟨bx, 0, none⟩)] W fun e W' => e = .returned (.tuple #[]) /\ St T bx mb sv W0 r0 W' { x with a := ((ws.getD (bN + 1) 0 + 1) % 2), phase := 1, i := 0 } rec ws (n + 1) := by
 have H := hid h
 have HM := hid hm
 have HB := hid hb
 have HN := hid hn
 obtain ⟨vv, hvv⟩ : ∃ vv, ws.getD (bN + 1) 0 = vv := ⟨_, rfl⟩
 have hvb : 0 <= vv /\ vv <= 4294967295 := by rw [<- hvv]; exact h.memory.word hj
 have HVV := hid hvv
 rw [hvv]
 have hand : bits BinOp.and IntKind.u32 vv 1 = vv % 2 := and_one_u32 vv hvb.1 hvb.2
 have hsub : IntKind.u32.wrap (1 - vv % 2) = (vv + 1) % 2 := by rw [IntKind.wrap_u32]; omega
 have e10 : W.cell? ⟨bx, 10, none⟩ = some (.int .i64 0) := by rw [<- hph]; exact H.out.cell 10 _ (fun _ => rfl)
 have HJ := hid hj
 clear h hph hm hb hn hj hvv hvb
 go_enter Tryz.func105, Tryz.ntmps105
 go_wp2_with (first | (go_at_call 127; refine (Read_at bN 1 HM.out HB.out HJ.out HN.out H.out).mono ?_; rintro e w1 ⟨rfl, hx⟩; rw [HVV.out]; have e13 : w1.cell? ⟨bx, 13, none⟩ = some (.int .u32 x.a) := hx.1.cell 13 _ (fun _ => rfl); have f13 := hx.1.free 13; have H1 := hid hx; clear hx) | (go_at_call 128; refine (Go_any 1 (H1.out.1.put 13 (.int .u32 ((vv + 1) % 2)) ({ x with a := ((vv + 1) % 2) }) (fun _ => rfl))).mono ?_; rintro e w2 ⟨rfl, hx⟩; have H2 := hid hx; clear hx))
 go_end0
 exact ⟨rfl, H2.out⟩
set_option maxHeartbeats 4000000 in
theorem read_0 {T : TypeId} {bx mb : Nat} {sv r0 : Value} {W0 W : World} {x : Core} {rec ws : List Int} {n : Int} (bN : Nat) (hm : x.m = .pointer (some ⟨mb, 0, none⟩)) (hb : x.base = (bN : Int)) (hn : 0 <= n /\ n <= 1000000) (hj : bN + 0 < ws.length) (hph : x.phase = 0) (h : St T bx mb sv W0 r0 W x rec ws n) :
 Calls Tryz.prog 106 #[.pointer (some ⟨bx, 0, none⟩)] W fun e W' => e = .returned (.tuple #[]) /\ St T bx mb sv W0 r0 W' { x with a := (ws.getD (bN + 0) 0 % 2), phase := 1, i := 0 } rec ws (n + 1) := by
 have H := hid h
 have HM := hid hm
 have HB := hid hb
 have HN := hid hn
 obtain ⟨vv, hvv⟩ : ∃ vv, ws.getD (bN + 0) 0 = vv := ⟨_, rfl⟩
 have hvb : 0 <= vv /\ vv <= 4294967295 := by rw [<- hvv]; exact h.memory.word hj
 have HVV := hid hvv
 rw [hvv]
 have hand : bits BinOp.and IntKind.u32 vv 1 = vv % 2 := and_one_u32 vv hvb.1 hvb.2
 have e10 : W.cell? ⟨bx, 10, none⟩ = some (.int .i64 0) := by rw [<- hph]; exact H.out.cell 10 _ (fun _ => rfl)
 have HJ := hid hj
 clear h hph hm hb hn hj hvv hvb
 go_enter Tryz.func106, Tryz.ntmps106
 go_wp2_with (first | (go_at_call 127; refine (Read_at bN 0 HM.out HB.out HJ.out HN.out H.out).mono ?_; rintro e w1 ⟨rfl, hx⟩; rw [HVV.out]; have e13 : w1.cell? ⟨bx, 13, none⟩ = some (.int .u32 x.a) := hx.1.cell 13 _ (fun _ => rfl); have f13 := hx.1.free 13; have H1 := hid hx; clear hx) | (go_at_call 128; refine (Go_any 1 (H1.out.1.put 13 (.int .u32 (vv % 2)) ({ x with a := (vv % 2) }) (fun _ => rfl))).mono ?_; rintro e w2 ⟨rfl, hx⟩; have H2 := hid hx; clear hx))
 go_end0
 exact ⟨rfl, H2.out⟩
set_option maxHeartbeats 4000000 in
theorem write_1 {T : TypeId} {bx mb : Nat} {sv r0 : Value} {W0 W : World} {x : Core} {rec ws : List Int} {n : Int} (bN : Nat) (hm : x.m = .pointer (some ⟨mb, 0, none⟩)) (hb : x.base = (bN : Int)) (hn : 0 <= n /\ n <= 1000000) (aN : Nat) (ha : x.a = (aN : Int)) (haN : aN <= 1) (hj : bN + (2 + aN) < ws.length) (hph : x.phase = 1) (h : St T bx mb sv W0 r0 W x rec ws n) :
 Calls Tryz.prog 105 #[.pointer (some ⟨bx, 0, none⟩)] W fun e W' => e = .returned (.tuple #[]) /\ St T bx mb sv W0 r0 W' { x with b := ((ws.getD (bN + (2 + aN)) 0 + 1) % 2), phase := 2, i := 0 } rec ws (n + 1) := by
 have H := hid h
 have HM := hid hm
 have HB := hid hb
 have HN := hid hn
 have NB : Hid (bx ∉ (mb :: sv.ownBlock.toList)) := hid (by obtain ⟨v, hp, he⟩ := h; simp; exact ⟨hp.ne, fun hh => hp.ns bx hh rfl⟩)
 obtain ⟨vv, hvv⟩ : ∃ vv, ws.getD (bN + (2 + aN)) 0 = vv := ⟨_, rfl⟩
 have hvb : 0 <= vv /\ vv <= 4294967295 := by rw [<- hvv]; exact h.memory.word hj
 have HVV := hid hvv
 rw [hvv]
 have hand : bits BinOp.and IntKind.u32 vv 1 = vv % 2 := and_one_u32 vv hvb.1 hvb.2
 have hsub : IntKind.u32.wrap (1 - vv % 2) = (vv + 1) % 2 := by rw [IntKind.wrap_u32]; omega
 have hcv : IntKind.i64.wrap (aN : Int) = (aN : Int) := by rw [IntKind.wrap_i64]; omega
 have hadd : IntKind.i64.wrap (2 + (aN : Int)) = ((2 + aN : Nat) : Int) := by rw [IntKind.wrap_i64]; omega
 have e10 : W.cell? ⟨bx, 10, none⟩ = some (.int .i64 1) := by rw [<- hph]; exact H.out.cell 10 _ (fun _ => rfl)
 have eS0 : W.cell? ⟨bx, 13, none⟩ = some (.int .u32 (aN : Int)) := by rw [<- ha]; exact H.out.cell 13 _ (fun _ => rfl)
 have KEEP := hid (fun (V : World) (h : Chg (mb :: sv.ownBlock.toList) W V) => (⟨h.keep eS0 NB.out, hid h⟩ : (fun V : World => V.cell? ⟨bx, 13, none⟩ = some (.int .u32 (aN : Int)) /\ Hid (Chg (mb :: sv.ownBlock.toList) W V)) V))
 clear eS0
 have HJ := hid hj
 clear h hph hm hb hn hj hvv hvb ha haN
 go_enter Tryz.func105, Tryz.ntmps105
 go_wp2_with fail
 have hHeld : (fun V : World => V.cell? ⟨bx, 13, none⟩ = some (.int .u32 (aN : Int)) /\ Hid (Chg (mb :: sv.ownBlock.toList) W V)) W.drew := KEEP.out _ (Chg.refl _ _).drew
 refine wp_region_planT (fun V : World => V.cell? ⟨bx, 13, none⟩ = some (.int .u32 (aN : Int)) /\ Hid (Chg (mb :: sv.ownBlock.toList) W V)) 17 [(0, true, some 38), (1, true, some 39), (2, true, some 40), (3, true, some 41), (4, true, some 42), (5, true, some 43), (6, true, some 44), (7, true, some 45), (8, true, some 46), (9, true, some 47), (10, true, some 48), (11, false, some 49), (12, true, some 50), (13, true, some 51), (14, true, some 52), (15, true, some 53), (16, true, some 54)] (by kernel_rfl) (by kernel_rfl) (by kernel_rfl) (by kernel_rfl) (by kernel_rfl) (fun d c a v w h => by cases d <;> exact h) hHeld ?_
 repeat (refine planT_read (v := ?_) rfl rfl ?_ ?_ ?_; rotate_left; (focus rfl); (focus (intro u hSw; (try dsimp only at hSw); go_simp; (try with_reducible rfl))); (try simp only [Act.put, sA, sB, sC]))
 refine planT_do rfl rfl ?_ (fun K hK => ?_)
 · rfl
 go_simp
 go_wp2_with (go_at_call 127; refine (Read_at bN (2 + aN) HM.out HB.out HJ.out HN.out (H.out.keep (Chg.refl _ _).drew)).mono ?_; rintro e w1 ⟨rfl, hx⟩; rw [HVV.out]; have HX := hid hx; clear hx)
 refine hK.out _ _ (KEEP.out _ ((Chg.refl _ W).drew.trans HX.out.2.2)) (fun hHeld2 => ?_)
 clear hK K hHeld
 have hHeld := hHeld2
 clear hHeld2
 try simp only [Act.put, sA, sB, sC]
 repeat (refine planT_read (v := ?_) rfl rfl ?_ ?_ ?_; rotate_left; (focus rfl); (focus (intro u hSw; (try dsimp only at hSw); go_simp; (try with_reducible rfl))); (try simp only [Act.put, sA, sB, sC]))
 have e14 : w1.cell? ⟨bx, 14, none⟩ = some (.int .u32 x.b) := HX.out.1.cell 14 _ (fun _ => rfl)
 have f14 := HX.out.1.free 14
 refine planT_last rfl ?_ (fun K hK => ?_)
 · rfl
 go_simp
 refine hK.out _ _ ?_
 clear hK K e14 f14 hHeld KEEP
 refine then_gen (R := fun V => Hid (St T bx mb sv W0 r0 V { x with b := ((vv + 1) % 2) } rec ws (n + 1))) (hid (HX.out.1.put 14 (.int .u32 ((vv + 1) % 2)) ({ x with b := ((vv + 1) % 2) }) (fun _ => rfl))) ?_
 rintro W4 H5
 go_wp2_with (go_at_call 128; refine (Go_any 2 H5.out).mono ?_; rintro e w2 ⟨rfl, hx⟩; have H6 := hid hx; clear hx)
 go_end0
 exact ⟨rfl, H6.out⟩
set_option maxHeartbeats 4000000 in
theorem read_2 {T : TypeId} {bx mb : Nat} {sv r0 : Value} {W0 W : World} {x : Core} {rec ws : List Int} {n : Int} (bN : Nat) (hm : x.m = .pointer (some ⟨mb, 0, none⟩)) (hb : x.base = (bN : Int)) (hn : 0 <= n /\ n <= 1000000) (aN : Nat) (ha : x.a = (aN : Int)) (haN : aN <= 1) (hj : bN + (2 + aN) < ws.length) (hph : x.phase = 2) (h : St T bx mb sv W0 r0 W x rec ws n) :
 Calls Tryz.prog 106 #[.pointer (some ⟨bx, 0, none⟩)] W fun e W' => e = .returned (.tuple #[]) /\ St T bx mb sv W0 r0 W' { x with b := (ws.getD (bN + (2 + aN)) 0 % 2), phase := 3, i := 0 } rec ws (n + 1) := by
 have H := hid h
 have HM := hid hm
 have HB := hid hb
 have HN := hid hn
 have NB : Hid (bx ∉ (mb :: sv.ownBlock.toList)) := hid (by obtain ⟨v, hp, he⟩ := h; simp; exact ⟨hp.ne, fun hh => hp.ns bx hh rfl⟩)
 obtain ⟨vv, hvv⟩ : ∃ vv, ws.getD (bN + (2 + aN)) 0 = vv := ⟨_, rfl⟩
 have hvb : 0 <= vv /\ vv <= 4294967295 := by rw [<- hvv]; exact h.memory.word hj
 have HVV := hid hvv
 rw [hvv]
 have hand : bits BinOp.and IntKind.u32 vv 1 = vv % 2 := and_one_u32 vv hvb.1 hvb.2
 have hcv : IntKind.i64.wrap (aN : Int) = (aN : Int) := by rw [IntKind.wrap_i64]; omega
 have hadd : IntKind.i64.wrap (2 + (aN : Int)) = ((2 + aN : Nat) : Int) := by rw [IntKind.wrap_i64]; omega
 have e10 : W.cell? ⟨bx, 10, none⟩ = some (.int .i64 2) := by rw [<- hph]; exact H.out.cell 10 _ (fun _ => rfl)
 have eS0 : W.cell? ⟨bx, 13, none⟩ = some (.int .u32 (aN : Int)) := by rw [<- ha]; exact H.out.cell 13 _ (fun _ => rfl)
 have KEEP := hid (fun (V : World) (h : Chg (mb :: sv.ownBlock.toList) W V) => (⟨h.keep eS0 NB.out, hid h⟩ : (fun V : World => V.cell? ⟨bx, 13, none⟩ = some (.int .u32 (aN : Int)) /\ Hid (Chg (mb :: sv.ownBlock.toList) W V)) V))
 clear eS0
 have HJ := hid hj
 clear h hph hm hb hn hj hvv hvb ha haN
 go_enter Tryz.func106, Tryz.ntmps106
 go_wp2_with fail
 have hHeld : (fun V : World => V.cell? ⟨bx, 13, none⟩ = some (.int .u32 (aN : Int)) /\ Hid (Chg (mb :: sv.ownBlock.toList) W V)) W.drew := KEEP.out _ (Chg.refl _ _).drew
 refine wp_region_planT (fun V : World => V.cell? ⟨bx, 13, none⟩ = some (.int .u32 (aN : Int)) /\ Hid (Chg (mb :: sv.ownBlock.toList) W V)) 16 [(0, true, some 49), (1, true, some 50), (2, true, some 51), (3, true, some 52), (4, true, some 53), (5, true, some 54), (6, true, some 55), (7, true, some 56), (8, true, some 57), (9, true, some 58), (10, true, some 59), (11, false, some 60), (12, true, some 61), (13, true, some 62), (14, true, some 63), (15, true, some 64)] (by kernel_rfl) (by kernel_rfl) (by kernel_rfl) (by kernel_rfl) (by kernel_rfl) (fun d c a v w h => by cases d <;> exact h) hHeld ?_
 repeat (refine planT_read (v := ?_) rfl rfl ?_ ?_ ?_; rotate_left; (focus rfl); (focus (intro u hSw; (try dsimp only at hSw); go_simp; (try with_reducible rfl))); (try simp only [Act.put, sA, sB, sC]))
 refine planT_do rfl rfl ?_ (fun K hK => ?_)
 · rfl
 go_simp
 go_wp2_with (go_at_call 127; refine (Read_at bN (2 + aN) HM.out HB.out HJ.out HN.out (H.out.keep (Chg.refl _ _).drew)).mono ?_; rintro e w1 ⟨rfl, hx⟩; rw [HVV.out]; have HX := hid hx; clear hx)
 refine hK.out _ _ (KEEP.out _ ((Chg.refl _ W).drew.trans HX.out.2.2)) (fun hHeld2 => ?_)
 clear hK K hHeld
 have hHeld := hHeld2
 clear hHeld2
 try simp only [Act.put, sA, sB, sC]
 repeat (refine planT_read (v := ?_) rfl rfl ?_ ?_ ?_; rotate_left; (focus rfl); (focus (intro u hSw; (try dsimp only at hSw); go_simp; (try with_reducible rfl))); (try simp only [Act.put, sA, sB, sC]))
 have e14 : w1.cell? ⟨bx, 14, none⟩ = some (.int .u32 x.b) := HX.out.1.cell 14 _ (fun _ => rfl)
 have f14 := HX.out.1.free 14
 refine planT_last rfl ?_ (fun K hK => ?_)
 · rfl
 go_simp
 refine hK.out _ _ ?_
 clear hK K e14 f14 hHeld KEEP
 refine then_gen (R := fun V => Hid (St T bx mb sv W0 r0 V { x with b := (vv % 2) } rec ws (n + 1))) (hid (HX.out.1.put 14 (.int .u32 (vv % 2)) ({ x with b := (vv % 2) }) (fun _ => rfl))) ?_
 rintro W4 H5
 go_wp2_with (go_at_call 128; refine (Go_any 3 H5.out).mono ?_; rintro e w2 ⟨rfl, hx⟩; have H6 := hid hx; clear hx)
 go_end0
 exact ⟨rfl, H6.out⟩
set_option maxHeartbeats 4000000 in
theorem write_3 {T : TypeId} {bx mb : Nat} {sv r0 : Value} {W0 W : World} {x : Core} {rec ws : List Int} {n : Int} (bN : Nat) (hm : x.m = .pointer (some ⟨mb, 0, none⟩)) (hb : x.base = (bN : Int)) (hn : 0 <= n /\ n <= 1000000) (aN cN : Nat) (ha : x.a = (aN : Int)) (haN : aN <= 1) (hc : x.b = (cN : Int)) (hcN : cN <= 1) (hj : bN + (2 + aN) < ws.length) (hph : x.phase = 3) (h : St T bx mb sv W0 r0 W x rec ws n) :
 Calls Tryz.prog 105 #[.pointer (some ⟨bx, 0, none⟩)] W fun e W' => e = .returned (.tuple #[]) /\ St T bx mb sv W0 r0 W' { x with phase := 4, i := 0 } rec (ws.set (bN + (2 + aN)) (cN : Int)) (n + 1) := by
 have H := hid h
 have HM := hid hm
 have HB := hid hb
 have HN := hid hn
 have e10 : W.cell? ⟨bx, 10, none⟩ = some (.int .i64 3) := by rw [<- hph]; exact H.out.cell 10 _ (fun _ => rfl)
 have hcv : IntKind.i64.wrap (aN : Int) = (aN : Int) := by rw [IntKind.wrap_i64]; omega
 have hadd : IntKind.i64.wrap (2 + (aN : Int)) = ((2 + aN : Nat) : Int) := by rw [IntKind.wrap_i64]; omega
 have HU : Hid (0 <= (cN : Int) /\ (cN : Int) <= 4294967295) := hid (by omega)
 have G0 : Hid (W.cell? ⟨bx, 13, none⟩ = some (.int .u32 (aN : Int))) := hid (by rw [<- ha]; exact H.out.cell 13 _ (fun _ => rfl))
 have G1 : Hid (W.cell? ⟨bx, 14, none⟩ = some (.int .u32 (cN : Int))) := hid (by rw [<- hc]; exact H.out.cell 14 _ (fun _ => rfl))
 have HJ := hid hj
 clear h hph hm hb hn hj ha haN hc hcN
 go_enter Tryz.func105, Tryz.ntmps105
 go_wp2_with fail
 refine wp_region_tail 15 (by kernel_rfl) (by kernel_rfl) ?_
 intro W3 hW3
 have g0 : W3.cell? ⟨bx, 13, none⟩ = some (.int .u32 (aN : Int)) := by rw [hW3.out]; exact G0.out
 have g1 : W3.cell? ⟨bx, 14, none⟩ = some (.int .u32 (cN : Int)) := by rw [hW3.out]; exact G1.out
 have H3 : Hid (St T bx mb sv W0 r0 W3 x rec ws n) := hid (by rw [hW3.out]; exact H.out.keep (Chg.refl _ _).drew)
 clear hW3
 simp only [List.take_succ_cons, List.take_zero, List.drop_succ_cons, List.drop_zero]
 repeat still_step
 refine wpStill_nil ?_
 go_wp2_with (first | (go_at_call 131; refine (Write_at bN (2 + aN) (cN : Int) HU.out HM.out HB.out HJ.out HN.out H3.out).mono ?_; rintro e w4 ⟨rfl, hx⟩; have H4 := hid hx; clear hx) | (go_at_call 128; refine (Go_any 4 H4.out).mono ?_; rintro e w2 ⟨rfl, hx⟩; have H6 := hid hx; clear hx))
 go_end0
 exact ⟨rfl, H6.out⟩
set_option maxHeartbeats 4000000 in
theorem write_4 {T : TypeId} {bx mb : Nat} {sv r0 : Value} {W0 W : World} {x : Core} {rec ws : List Int} {n : Int} (bN : Nat) (hm : x.m = .pointer (some ⟨mb, 0, none⟩)) (hb : x.base = (bN : Int)) (hn : 0 <= n /\ n <= 1000000) (aN : Nat) (ha : x.a = (aN : Int)) (haN : aN <= 1) (hj : bN < ws.length) (hph : x.phase = 4) (h : St T bx mb sv W0 r0 W x rec ws n) :
 Calls Tryz.prog 105 #[.pointer (some ⟨bx, 0, none⟩)] W fun e W' => e = .returned (.tuple #[]) /\ St T bx mb sv W0 r0 W' { x with over := true, code := 0 } (endRec x.op 0 rec) (ws.set bN (aN : Int)) (n + 1) := by
 have H := hid h
 have HM := hid hm
 have HB := hid hb
 have HN := hid hn
 have e10 : W.cell? ⟨bx, 10, none⟩ = some (.int .i64 4) := by rw [<- hph]; exact H.out.cell 10 _ (fun _ => rfl)
 have HU : Hid (0 <= (aN : Int) /\ (aN : Int) <= 4294967295) := hid (by omega)
 have G0 : Hid (W.cell? ⟨bx, 13, none⟩ = some (.int .u32 (aN : Int))) := hid (by rw [<- ha]; exact H.out.cell 13 _ (fun _ => rfl))
 have HJ := hid hj
 clear h hph hm hb hn hj ha haN
 go_enter Tryz.func105, Tryz.ntmps105
 go_wp2_with fail
 refine wp_region_tail 8 (by kernel_rfl) (by kernel_rfl) ?_
 intro W3 hW3
 have g0 : W3.cell? ⟨bx, 13, none⟩ = some (.int .u32 (aN : Int)) := by rw [hW3.out]; exact G0.out
 have H3 : Hid (St T bx mb sv W0 r0 W3 x rec ws n) := hid (by rw [hW3.out]; exact H.out.keep (Chg.refl _ _).drew)
 clear hW3
 simp only [List.take_succ_cons, List.take_zero, List.drop_succ_cons, List.drop_zero]
 repeat still_step
 refine wpStill_nil ?_
 go_wp2_with (first | (go_at_call 131; refine (Write_at bN 0 (aN : Int) HU.out HM.out HB.out HJ.out HN.out H3.out).mono ?_; rintro e w4 ⟨rfl, hx⟩; have H4 := hid hx; clear hx) | (go_at_call 132; refine (End_any 0 H4.out).mono ?_; rintro e w2 ⟨rfl, hx⟩; have H6 := hid hx; clear hx))
 go_end0
 exact ⟨rfl, H6.out⟩
set_option maxHeartbeats 4000000 in
theorem read_1 {T : TypeId} {bx mb : Nat} {sv r0 : Value} {W0 W : World} {x : Core} {rec ws : List Int} {n : Int} (bN : Nat) (hm : x.m = .pointer (some ⟨mb, 0, none⟩)) (hb : x.base = (bN : Int)) (hn : 0 <= n /\ n <= 1000000) (aN : Nat) (ha : x.a = (aN : Int)) (haN : aN <= 1) (hj : bN + 1 < ws.length) (hph : x.phase = 1) (h : St T bx mb sv W0 r0 W x rec ws n) :
 Calls Tryz.prog 106 #[.pointer (some ⟨bx, 0, none⟩)] W fun e W' => e = .returned (.tuple #[]) /\ St T bx mb sv W0 r0 W' { x with phase := 2, i := 0 } rec (ws.set (bN + 1) (aN : Int)) (n + 1) := by
 have H := hid h
 have HM := hid hm
 have HB := hid hb
 have HN := hid hn
 have e10 : W.cell? ⟨bx, 10, none⟩ = some (.int .i64 1) := by rw [<- hph]; exact H.out.cell 10 _ (fun _ => rfl)
 have HU : Hid (0 <= (aN : Int) /\ (aN : Int) <= 4294967295) := hid (by omega)
 have G0 : Hid (W.cell? ⟨bx, 13, none⟩ = some (.int .u32 (aN : Int))) := hid (by rw [<- ha]; exact H.out.cell 13 _ (fun _ => rfl))
 have HJ := hid hj
 clear h hph hm hb hn hj ha haN
 go_enter Tryz.func106, Tryz.ntmps106
 go_wp2_with fail
 refine wp_region_tail 8 (by kernel_rfl) (by kernel_rfl) ?_
 intro W3 hW3
 have g0 : W3.cell? ⟨bx, 13, none⟩ = some (.int .u32 (aN : Int)) := by rw [hW3.out]; exact G0.out
 have H3 : Hid (St T bx mb sv W0 r0 W3 x rec ws n) := hid (by rw [hW3.out]; exact H.out.keep (Chg.refl _ _).drew)
 clear hW3
 simp only [List.take_succ_cons, List.take_zero, List.drop_succ_cons, List.drop_zero]
 repeat still_step
 refine wpStill_nil ?_
 go_wp2_with (first | (go_at_call 131; refine (Write_at bN 1 (aN : Int) HU.out HM.out HB.out HJ.out HN.out H3.out).mono ?_; rintro e w4 ⟨rfl, hx⟩; have H4 := hid hx; clear hx) | (go_at_call 128; refine (Go_any 2 H4.out).mono ?_; rintro e w2 ⟨rfl, hx⟩; have H6 := hid hx; clear hx))
 go_end0
 exact ⟨rfl, H6.out⟩
theorem from_any {T : TypeId} {bx mb : Nat} {sv r0 : Value} {W0 W : World} {x : Core} {rec ws : List Int} {n : Int} (aN cN wN : Nat) (ha : x.a = (aN : Int)) (haN : aN <= 1) (hc : x.b = (cN : Int)) (hcN : cN <= 1) (hw : x.w = (wN : Int)) (hwN : wN <= 8) (h : St T bx mb sv W0 r0 W x rec ws n) :
 Calls Tryz.prog 130 #[.pointer (some ⟨bx, 0, none⟩)] W fun e W' => e = .returned (.int .i64 ((4 + (2 * aN + cN) * wN : Nat) : Int)) /\ Chg [] W W' := by
 have H := hid h
 have k1 : IntKind.u32.wrap (2 * (aN : Int)) = 2 * (aN : Int) := by rw [IntKind.wrap_u32]; omega
 have k2 : IntKind.u32.wrap (2 * (aN : Int) + (cN : Int)) = 2 * (aN : Int) + (cN : Int) := by rw [IntKind.wrap_u32]; omega
 have k3 : IntKind.i64.wrap (2 * (aN : Int) + (cN : Int)) = 2 * (aN : Int) + (cN : Int) := by rw [IntKind.wrap_i64]; omega
 have hq : (2 * (aN : Int) + (cN : Int)) * (wN : Int) = (((2 * aN + cN) * wN : Nat) : Int) := by push_cast; rfl
 have hqb : (2 * aN + cN) * wN <= 3 * 8 := Nat.mul_le_mul (by omega) hwN
 have k4 : IntKind.i64.wrap ((2 * (aN : Int) + (cN : Int)) * (wN : Int)) = (((2 * aN + cN) * wN : Nat) : Int) := by rw [hq, IntKind.wrap_i64]; omega
 have k5 : IntKind.i64.wrap (4 + (((2 * aN + cN) * wN : Nat) : Int)) = ((4 + (2 * aN + cN) * wN : Nat) : Int) := by rw [IntKind.wrap_i64]; omega
 obtain ⟨q, hqq⟩ : ∃ q, (2 * aN + cN) * wN = q := ⟨_, rfl⟩
 rw [hqq] at k4 k5 ⊢
 clear hq hqb hqq
 have eS0 : W.cell? ⟨bx, 13, none⟩ = some (.int .u32 (aN : Int)) := by rw [<- ha]; exact H.out.cell 13 _ (fun _ => rfl)
 have eS1 : W.cell? ⟨bx, 14, none⟩ = some (.int .u32 (cN : Int)) := by rw [<- hc]; exact H.out.cell 14 _ (fun _ => rfl)
 have eS2 : W.cell? ⟨bx, 1, none⟩ = some (.int .i64 (wN : Int)) := by rw [<- hw]; exact H.out.cell 1 _ (fun _ => rfl)
 have KEEP := hid (fun (V : World) (h : Chg [] W V) => (⟨h.keep eS0 (by simp), h.keep eS1 (by simp), h.keep eS2 (by simp), hid h⟩ : (fun V : World => V.cell? ⟨bx, 13, none⟩ = some (.int .u32 (aN : Int)) /\ V.cell? ⟨bx, 14, none⟩ = some (.int .u32 (cN : Int)) /\ V.cell? ⟨bx, 1, none⟩ = some (.int .i64 (wN : Int)) /\ Hid (Chg [] W V)) V))
 clear eS0 eS1 eS2
 clear h haN hcN hwN ha hc hw
 go_enter Tryz.func130, Tryz.ntmps130
 go_wp2_with fail
 have hHeld : (fun V : World => V.cell? ⟨bx, 13, none⟩ = some (.int .u32 (aN : Int)) /\ V.cell? ⟨bx, 14, none⟩ = some (.int .u32 (cN : Int)) /\ V.cell? ⟨bx, 1, none⟩ = some (.int .i64 (wN : Int)) /\ Hid (Chg [] W V)) (World.drew W) := KEEP.out _ (Chg.refl _ _).drew
 refine wp_region_plan (fun V : World => V.cell? ⟨bx, 13, none⟩ = some (.int .u32 (aN : Int)) /\ V.cell? ⟨bx, 14, none⟩ = some (.int .u32 (cN : Int)) /\ V.cell? ⟨bx, 1, none⟩ = some (.int .i64 (wN : Int)) /\ Hid (Chg [] W V)) [(0, true, some 3), (1, true, some 4), (2, true, some 5), (3, true, some 6), (4, true, some 7), (5, true, some 8), (6, true, some 9), (7, true, some 10), (8, true, some 11), (9, true, some 12), (10, true, some 13), (11, true, some 14), (12, true, some 15), (13, true, some 16), (14, true, some 17), (15, true, some 18), (16, true, some 19), (17, true, some 20), (18, true, some 21), (19, true, some 22), (20, true, some 23), (21, true, some 2)] (by kernel_rfl) (by kernel_rfl) (by kernel_rfl) (by kernel_rfl) (fun d c a v w h => by cases d <;> exact h) hHeld ?_
 repeat (first
  | (refine planWp_read (v := ?_) rfl rfl ?_ ?_ ?_; rotate_left; (focus rfl); (focus (intro u hSw; (try dsimp only at hSw); go_simp; (try with_reducible rfl))); (try simp only [Act.put, sA, sB, sC]))
  | (refine planWp_skip rfl rfl ?_ ?_; (focus rfl); (try simp only [Act.put, sA, sB, sC]))
  | (refine planWp_leave rfl rfl ?_ hHeld ?_; (focus rfl); (try simp only [Act.put, sA, sB, sC]))
  | (refine planWp_do rfl rfl ?_ (fun K hK => ?_); (focus rfl); go_simp; (try go_wp2_with fail); refine hK.out _ _ ?_ (fun hHeld2 => ?_); (focus (exact KEEP.out _ hHeld.2.2.2.out)); clear hK K hHeld; have hHeld := hHeld2; clear hHeld2; (try simp only [Act.put, sA, sB, sC])))
 refine planWp_nil ?_
 have HC := hid hHeld.2.2.2.out
 clear hHeld KEEP
 go_wp2_with fail
 go_ret
 exact ⟨rfl, HC.out⟩
set_option maxHeartbeats 4000000 in
theorem write_2 {T : TypeId} {bx mb : Nat} {sv r0 : Value} {W0 W : World} {x : Core} {rec ws : List Int} {n : Int} (bN : Nat) (hm : x.m = .pointer (some ⟨mb, 0, none⟩)) (hb : x.base = (bN : Int)) (hn : 0 <= n /\ n <= 1000000) (aN cN wN iN : Nat) (ha : x.a = (aN : Int)) (haN : aN <= 1) (hc : x.b = (cN : Int)) (hcN : cN <= 1) (hw : x.w = (wN : Int)) (hwN : wN <= 8) (hi : x.i = (iN : Int)) (hil : iN < 8) (hop : x.op = 2 \/ x.op = 3) (hir : iN < rec.length) (hj : bN + ((4 + (2 * aN + cN) * wN) + iN) < ws.length) (hph : x.phase = 2) (h : St T bx mb sv W0 r0 W x rec ws n) :
 Calls Tryz.prog 105 #[.pointer (some ⟨bx, 0, none⟩)] W fun e W' => e = .returned (.tuple #[]) /\ St T bx mb sv W0 r0 W' (if wN <= iN + 1 then { x with phase := 3, i := 0 } else { x with i := (iN : Int) + 1 }) (if wN <= iN + 1 then rec else rec) (ws.set (bN + ((4 + (2 * aN + cN) * wN) + iN)) (rec.getD iN 0)) (n + 1) := by
 have H := hid h
 have HM := hid hm
 have HB := hid hb
 have HN := hid hn
 have e10 : W.cell? ⟨bx, 10, none⟩ = some (.int .i64 2) := by rw [<- hph]; exact H.out.cell 10 _ (fun _ => rfl)
 have HA := hid ha
 have HAN := hid haN
 have HCC := hid hc
 have HCN := hid hcN
 have HW := hid hw
 have HWN := hid hwN
 have HI := hid hi
 have HOP := hid hop
 have HIR := hid hir
 have HJ := hid hj
 clear h hph hm hb hn hj ha haN hc hcN hw hwN hi hop hir
 by_cases hle : wN <= iN + 1
 · have HDEC : Hid (decide ((wN : Int) <= (iN : Int) + 1) = true) := hid (by simpa using (by omega : (wN : Int) <= (iN : Int) + 1))
   rw [if_pos hle, if_pos hle]
   clear hle
   go_enter Tryz.func105, Tryz.ntmps105
   go_wp2_with fail
   have hHeld : (fun V : World => Hid (Chg [] W V)) W.drew := hid (Chg.refl _ _).drew
   refine wp_region_planT (fun V : World => Hid (Chg [] W V)) 5 [(0, true, some 61), (1, true, some 62), (2, true, some 63), (3, true, some 64), (4, false, some 65)] (by kernel_rfl) (by kernel_rfl) (by kernel_rfl) (by kernel_rfl) (by kernel_rfl) (fun d c a v w h => by cases d <;> exact h) hHeld ?_
   repeat (refine planT_read (v := ?_) rfl rfl ?_ ?_ ?_; rotate_left; (focus rfl); (focus (intro u hSw; (try dsimp only at hSw); go_simp; (try with_reducible rfl))); (try simp only [Act.put, sA, sB, sC]))
   refine planT_do rfl rfl ?_ (fun K hK => ?_)
   · rfl
   go_simp
   go_wp2_with (go_at_call 130; refine (from_any aN cN wN HA.out HAN.out HCC.out HCN.out HW.out HWN.out (H.out.keep hHeld.out)).mono ?_; rintro e w3 ⟨rfl, hx⟩; have HC3 := hid (hHeld.out.trans hx); clear hx)
   refine hK.out _ _ HC3 (fun hHeld2 => ?_)
   clear hK K hHeld hHeld2
   try simp only [Act.put, sA, sB, sC]
   refine planT_last rfl ?_ (fun K hK => ?_)
   · rfl
   go_simp
   go_wp2_with (go_at_call 129; refine (Word_write bN (4 + (2 * aN + cN) * wN) iN HOP.out HM.out HB.out HI.out HIR.out HJ.out HN.out (H.out.keep HC3.out)).mono ?_; rintro e w4 ⟨rfl, hx⟩; rw [HW.out, HDEC.out]; have H4 := hid hx; clear hx)
   refine hK.out _ _ ?_
   clear hK K
   go_wp2_with (go_at_call 128; refine (Go_any 3 H4.out).mono ?_; rintro e w6 ⟨rfl, hx⟩; have H6 := hid hx; clear hx)
   go_end0
   exact ⟨rfl, H6.out⟩
 · have HDEC : Hid (decide ((wN : Int) <= (iN : Int) + 1) = false) := hid (by simpa using (by omega : ¬ (wN : Int) <= (iN : Int) + 1))
   rw [if_neg hle, if_neg hle]
   clear hle
   go_enter Tryz.func105, Tryz.ntmps105
   go_wp2_with fail
   have hHeld : (fun V : World => Hid (Chg [] W V)) W.drew := hid (Chg.refl _ _).drew
   refine wp_region_planT (fun V : World => Hid (Chg [] W V)) 5 [(0, true, some 61), (1, true, some 62), (2, true, some 63), (3, true, some 64), (4, false, some 65)] (by kernel_rfl) (by kernel_rfl) (by kernel_rfl) (by kernel_rfl) (by kernel_rfl) (fun d c a v w h => by cases d <;> exact h) hHeld ?_
   repeat (refine planT_read (v := ?_) rfl rfl ?_ ?_ ?_; rotate_left; (focus rfl); (focus (intro u hSw; (try dsimp only at hSw); go_simp; (try with_reducible rfl))); (try simp only [Act.put, sA, sB, sC]))
   refine planT_do rfl rfl ?_ (fun K hK => ?_)
   · rfl
   go_simp
   go_wp2_with (go_at_call 130; refine (from_any aN cN wN HA.out HAN.out HCC.out HCN.out HW.out HWN.out (H.out.keep hHeld.out)).mono ?_; rintro e w3 ⟨rfl, hx⟩; have HC3 := hid (hHeld.out.trans hx); clear hx)
   refine hK.out _ _ HC3 (fun hHeld2 => ?_)
   clear hK K hHeld hHeld2
   try simp only [Act.put, sA, sB, sC]
   refine planT_last rfl ?_ (fun K hK => ?_)
   · rfl
   go_simp
   go_wp2_with (go_at_call 129; refine (Word_write bN (4 + (2 * aN + cN) * wN) iN HOP.out HM.out HB.out HI.out HIR.out HJ.out HN.out (H.out.keep HC3.out)).mono ?_; rintro e w4 ⟨rfl, hx⟩; rw [HW.out, HDEC.out]; have H4 := hid hx; clear hx)
   refine hK.out _ _ ?_
   clear hK K
   go_wp2_with fail
   go_end0
   exact ⟨rfl, H4.out⟩
set_option maxHeartbeats 4000000 in
theorem read_3 {T : TypeId} {bx mb : Nat} {sv r0 : Value} {W0 W : World} {x : Core} {rec ws : List Int} {n : Int} (bN : Nat) (hm : x.m = .pointer (some ⟨mb, 0, none⟩)) (hb : x.base = (bN : Int)) (hn : 0 <= n /\ n <= 1000000) (aN cN wN iN : Nat) (ha : x.a = (aN : Int)) (haN : aN <= 1) (hc : x.b = (cN : Int)) (hcN : cN <= 1) (hw : x.w = (wN : Int)) (hwN : wN <= 8) (hi : x.i = (iN : Int)) (hil : iN < 8) (hop : x.op ≠ 2 /\ x.op ≠ 3) (hir : rec.length < 1000) (hj : bN + ((4 + (2 * aN + cN) * wN) + iN) < ws.length) (hph : x.phase = 3) (h : St T bx mb sv W0 r0 W x rec ws n) :
 Calls Tryz.prog 106 #[.pointer (some ⟨bx, 0, none⟩)] W fun e W' => e = .returned (.tuple #[]) /\ St T bx mb sv W0 r0 W' (if wN <= iN + 1 then { x with i := (iN : Int) + 1, over := true, code := 0 } else { x with i := (iN : Int) + 1 }) (if wN <= iN + 1 then (endRec x.op 0 (rec ++ [ws.getD (bN + ((4 + (2 * aN + cN) * wN) + iN)) 0])) else (rec ++ [ws.getD (bN + ((4 + (2 * aN + cN) * wN) + iN)) 0])) ws (n + 1) := by
 have H := hid h
 have HM := hid hm
 have HB := hid hb
 have HN := hid hn
 have e10 : W.cell? ⟨bx, 10, none⟩ = some (.int .i64 3) := by rw [<- hph]; exact H.out.cell 10 _ (fun _ => rfl)
 have HA := hid ha
 have HAN := hid haN
 have HCC := hid hc
 have HCN := hid hcN
 have HW := hid hw
 have HWN := hid hwN
 have HI := hid hi
 have HOP := hid hop
 have HIR := hid hir
 have HJ := hid hj
 clear h hph hm hb hn hj ha haN hc hcN hw hwN hi hop hir
 by_cases hle : wN <= iN + 1
 · have HDEC : Hid (decide ((wN : Int) <= (iN : Int) + 1) = true) := hid (by simpa using (by omega : (wN : Int) <= (iN : Int) + 1))
   rw [if_pos hle, if_pos hle]
   clear hle
   go_enter Tryz.func106, Tryz.ntmps106
   go_wp2_with fail
   have hHeld : (fun V : World => Hid (Chg [] W V)) W.drew := hid (Chg.refl _ _).drew
   refine wp_region_planT (fun V : World => Hid (Chg [] W V)) 5 [(0, true, some 7), (1, true, some 8), (2, true, some 9), (3, true, some 10), (4, false, some 11)] (by kernel_rfl) (by kernel_rfl) (by kernel_rfl) (by kernel_rfl) (by kernel_rfl) (fun d c a v w h => by cases d <;> exact h) hHeld ?_
   repeat (refine planT_read (v := ?_) rfl rfl ?_ ?_ ?_; rotate_left; (focus rfl); (focus (intro u hSw; (try dsimp only at hSw); go_simp; (try with_reducible rfl))); (try simp only [Act.put, sA, sB, sC]))
   refine planT_do rfl rfl ?_ (fun K hK => ?_)
   · rfl
   go_simp
   go_wp2_with (go_at_call 130; refine (from_any aN cN wN HA.out HAN.out HCC.out HCN.out HW.out HWN.out (H.out.keep hHeld.out)).mono ?_; rintro e w3 ⟨rfl, hx⟩; have HC3 := hid (hHeld.out.trans hx); clear hx)
   refine hK.out _ _ HC3 (fun hHeld2 => ?_)
   clear hK K hHeld hHeld2
   try simp only [Act.put, sA, sB, sC]
   refine planT_last rfl ?_ (fun K hK => ?_)
   · rfl
   go_simp
   go_wp2_with (go_at_call 129; refine (Word_read bN (4 + (2 * aN + cN) * wN) iN HOP.out HM.out HB.out HI.out HIR.out (by omega) HJ.out HN.out (H.out.keep HC3.out)).mono ?_; rintro e w4 ⟨rfl, hx⟩; rw [HW.out, HDEC.out]; have H4 := hid hx; clear hx)
   refine hK.out _ _ ?_
   clear hK K
   go_wp2_with (go_at_call 132; refine (End_any 0 H4.out).mono ?_; rintro e w6 ⟨rfl, hx⟩; have H6 := hid hx; clear hx)
   go_end0
   exact ⟨rfl, H6.out⟩
 · have HDEC : Hid (decide ((wN : Int) <= (iN : Int) + 1) = false) := hid (by simpa using (by omega : ¬ (wN : Int) <= (iN : Int) + 1))
   rw [if_neg hle, if_neg hle]
   clear hle
   go_enter Tryz.func106, Tryz.ntmps106
   go_wp2_with fail
   have hHeld : (fun V : World => Hid (Chg [] W V)) W.drew := hid (Chg.refl _ _).drew
   refine wp_region_planT (fun V : World => Hid (Chg [] W V)) 5 [(0, true, some 7), (1, true, some 8), (2, true, some 9), (3, true, some 10), (4, false, some 11)] (by kernel_rfl) (by kernel_rfl) (by kernel_rfl) (by kernel_rfl) (by kernel_rfl) (fun d c a v w h => by cases d <;> exact h) hHeld ?_
   repeat (refine planT_read (v := ?_) rfl rfl ?_ ?_ ?_; rotate_left; (focus rfl); (focus (intro u hSw; (try dsimp only at hSw); go_simp; (try with_reducible rfl))); (try simp only [Act.put, sA, sB, sC]))
   refine planT_do rfl rfl ?_ (fun K hK => ?_)
   · rfl
   go_simp
   go_wp2_with (go_at_call 130; refine (from_any aN cN wN HA.out HAN.out HCC.out HCN.out HW.out HWN.out (H.out.keep hHeld.out)).mono ?_; rintro e w3 ⟨rfl, hx⟩; have HC3 := hid (hHeld.out.trans hx); clear hx)
   refine hK.out _ _ HC3 (fun hHeld2 => ?_)
   clear hK K hHeld hHeld2
   try simp only [Act.put, sA, sB, sC]
   refine planT_last rfl ?_ (fun K hK => ?_)
   · rfl
   go_simp
   go_wp2_with (go_at_call 129; refine (Word_read bN (4 + (2 * aN + cN) * wN) iN HOP.out HM.out HB.out HI.out HIR.out (by omega) HJ.out HN.out (H.out.keep HC3.out)).mono ?_; rintro e w4 ⟨rfl, hx⟩; rw [HW.out, HDEC.out]; have H4 := hid hx; clear hx)
   refine hK.out _ _ ?_
   clear hK K
   go_wp2_with fail
   go_end0
   exact ⟨rfl, H4.out⟩
def stepW (x : Core) (rec ws : List Int) : Core × List Int × List Int :=
 if x.phase = 0 then ({ x with a := (ws.getD (x.base.toNat + 1) 0 + 1) % 2, phase := 1, i := 0 }, rec, ws)
 else if x.phase = 1 then ({ x with b := (ws.getD (x.base.toNat + (2 + x.a.toNat)) 0 + 1) % 2, phase := 2, i := 0 }, rec, ws)
 else if x.phase = 2 then (if x.w.toNat <= x.i.toNat + 1 then { x with phase := 3, i := 0 } else { x with i := (x.i.toNat : Int) + 1 }, rec, ws.set (x.base.toNat + ((4 + (2 * x.a.toNat + x.b.toNat) * x.w.toNat) + x.i.toNat)) (rec.getD x.i.toNat 0))
 else if x.phase = 3 then ({ x with phase := 4, i := 0 }, rec, ws.set (x.base.toNat + (2 + x.a.toNat)) (x.b.toNat : Int))
 else ({ x with over := true, code := 0 }, endRec x.op 0 rec, ws.set x.base.toNat (x.a.toNat : Int))
def stepR (x : Core) (rec ws : List Int) : Core × List Int × List Int :=
 if x.phase = 0 then ({ x with a := ws.getD (x.base.toNat + 0) 0 % 2, phase := 1, i := 0 }, rec, ws)
 else if x.phase = 1 then ({ x with phase := 2, i := 0 }, rec, ws.set (x.base.toNat + 1) (x.a.toNat : Int))
 else if x.phase = 2 then ({ x with b := ws.getD (x.base.toNat + (2 + x.a.toNat)) 0 % 2, phase := 3, i := 0 }, rec, ws)
 else (if x.w.toNat <= x.i.toNat + 1 then { x with i := (x.i.toNat : Int) + 1, over := true, code := 0 } else { x with i := (x.i.toNat : Int) + 1 },
  if x.w.toNat <= x.i.toNat + 1 then endRec x.op 0 (rec ++ [ws.getD (x.base.toNat + ((4 + (2 * x.a.toNat + x.b.toNat) * x.w.toNat) + x.i.toNat)) 0]) else rec ++ [ws.getD (x.base.toNat + ((4 + (2 * x.a.toNat + x.b.toNat) * x.w.toNat) + x.i.toNat)) 0], ws)
def step (x : Core) (mv : Value) (rec ws : List Int) : Core × List Int × List Int :=
 if x.op = 2 then stepW { x with m := mv, steps := x.steps + 1 } rec ws else stepR { x with m := mv, steps := x.steps + 1 } rec ws
structure Shape (x : Core) (rec : List Int) : Prop where
 w : 1 <= x.w /\ x.w <= 8
 a : x.a = 0 \/ x.a = 1
 b : x.b = 0 \/ x.b = 1
 base : 0 <= x.base
 size : x.size = 4 + 4 * x.w
 i : x.over = false -> 0 <= x.i /\ x.i < x.w
 op : (x.op = 2 /\ (0 <= x.phase /\ x.phase <= 4) /\ (x.over = false -> (rec.length : Int) = x.w)) \/ (x.op = 1 /\ (0 <= x.phase /\ x.phase <= 3) /\ (x.over = false -> (rec.length : Int) = if x.phase = 3 then x.i else 0))
set_option maxHeartbeats 2000000 in
theorem write_any {T : TypeId} {bx mb : Nat} {sv r0 : Value} {W0 W : World} {x : Core} {rec ws : List Int} {n : Int} (hI : Shape x rec) (hov : x.over = false) (hop : x.op = 2) (hm : x.m = .pointer (some ⟨mb, 0, none⟩)) (hfit : x.base + x.size <= ws.length) (hn : 0 <= n /\ n <= 1000000) (h : St T bx mb sv W0 r0 W x rec ws n) :
 Calls Tryz.prog 105 #[.pointer (some ⟨bx, 0, none⟩)] W fun e W' => e = .returned (.tuple #[]) /\ St T bx mb sv W0 r0 W' (stepW x rec ws).1 (stepW x rec ws).2.1 (stepW x rec ws).2.2 (n + 1) := by
 have hw := hI.w; have ha := hI.a; have hb := hI.b; have hba := hI.base; have hsz := hI.size; have hi := hI.i hov
 have hph : (0 <= x.phase /\ x.phase <= 4) /\ (rec.length : Int) = x.w := by rcases hI.op with ⟨_, h1, h2⟩ | ⟨h1, _⟩; exact ⟨h1, h2 hov⟩; omega
 have eb : x.base = (x.base.toNat : Int) := by omega
 have ea : x.a = (x.a.toNat : Int) := by omega
 have ec : x.b = (x.b.toNat : Int) := by omega
 have ei : x.i = (x.i.toNat : Int) := by omega
 have ew : x.w = (x.w.toNat : Int) := by omega
 have la : x.a.toNat <= 1 := by omega
 have lc : x.b.toNat <= 1 := by omega
 have hpos : (2 * x.a.toNat + x.b.toNat) * x.w.toNat + x.w.toNat <= 4 * x.w.toNat := by
  have := Nat.mul_le_mul_right x.w.toNat (by omega : 2 * x.a.toNat + x.b.toNat + 1 <= 4)
  rw [Nat.add_mul, Nat.one_mul] at this
  exact this
 rcases (by omega : x.phase = 0 \/ x.phase = 1 \/ x.phase = 2 \/ x.phase = 3 \/ x.phase = 4) with p | p | p | p | p
 · have hs : stepW x rec ws = ({ x with a := (ws.getD (x.base.toNat + 1) 0 + 1) % 2, phase := 1, i := 0 }, rec, ws) := by simp [stepW, p]
   rw [hs]
   exact write_0 x.base.toNat hm eb hn (by omega) p h
 · have hs : stepW x rec ws = ({ x with b := (ws.getD (x.base.toNat + (2 + x.a.toNat)) 0 + 1) % 2, phase := 2, i := 0 }, rec, ws) := by simp [stepW, p]
   rw [hs]
   exact write_1 x.base.toNat hm eb hn x.a.toNat ea la (by omega) p h
 · have hs : stepW x rec ws = (if x.w.toNat <= x.i.toNat + 1 then { x with phase := 3, i := 0 } else { x with i := (x.i.toNat : Int) + 1 }, rec, ws.set (x.base.toNat + ((4 + (2 * x.a.toNat + x.b.toNat) * x.w.toNat) + x.i.toNat)) (rec.getD x.i.toNat 0)) := by simp [stepW, p]
   rw [hs]
   refine (write_2 x.base.toNat hm eb hn x.a.toNat x.b.toNat x.w.toNat x.i.toNat ea la ec lc ew (by omega) ei (by omega) (.inl hop) (by omega) (by omega) p h).mono ?_
   rintro e W' ⟨rfl, hx⟩
   exact ⟨rfl, by simpa only [ite_self] using hx⟩
 · have hs : stepW x rec ws = ({ x with phase := 4, i := 0 }, rec, ws.set (x.base.toNat + (2 + x.a.toNat)) (x.b.toNat : Int)) := by simp [stepW, p]
   rw [hs]
   exact write_3 x.base.toNat hm eb hn x.a.toNat x.b.toNat ea la ec lc (by omega) p h
 · have hs : stepW x rec ws = ({ x with over := true, code := 0 }, endRec x.op 0 rec, ws.set x.base.toNat (x.a.toNat : Int)) := by simp [stepW, p]
   rw [hs]
   exact write_4 x.base.toNat hm eb hn x.a.toNat ea la (by omega) p h
set_option maxHeartbeats 2000000 in
theorem read_any {T : TypeId} {bx mb : Nat} {sv r0 : Value} {W0 W : World} {x : Core} {rec ws : List Int} {n : Int} (hI : Shape x rec) (hov : x.over = false) (hop : x.op = 1) (hm : x.m = .pointer (some ⟨mb, 0, none⟩)) (hfit : x.base + x.size <= ws.length) (hn : 0 <= n /\ n <= 1000000) (h : St T bx mb sv W0 r0 W x rec ws n) :
 Calls Tryz.prog 106 #[.pointer (some ⟨bx, 0, none⟩)] W fun e W' => e = .returned (.tuple #[]) /\ St T bx mb sv W0 r0 W' (stepR x rec ws).1 (stepR x rec ws).2.1 (stepR x rec ws).2.2 (n + 1) := by
 have hw := hI.w; have ha := hI.a; have hb := hI.b; have hba := hI.base; have hsz := hI.size; have hi := hI.i hov
 have hph : (0 <= x.phase /\ x.phase <= 3) /\ (rec.length : Int) = if x.phase = 3 then x.i else 0 := by rcases hI.op with ⟨h1, _⟩ | ⟨_, h1, h2⟩; omega; exact ⟨h1, h2 hov⟩
 have hrl : rec.length < 1000 := by have := hph.2; split at this <;> omega
 have eb : x.base = (x.base.toNat : Int) := by omega
 have ea : x.a = (x.a.toNat : Int) := by omega
 have ec : x.b = (x.b.toNat : Int) := by omega
 have ei : x.i = (x.i.toNat : Int) := by omega
 have ew : x.w = (x.w.toNat : Int) := by omega
 have la : x.a.toNat <= 1 := by omega
 have lc : x.b.toNat <= 1 := by omega
 have hpos : (2 * x.a.toNat + x.b.toNat) * x.w.toNat + x.w.toNat <= 4 * x.w.toNat := by
  have := Nat.mul_le_mul_right x.w.toNat (by omega : 2 * x.a.toNat + x.b.toNat + 1 <= 4)
  rw [Nat.add_mul, Nat.one_mul] at this
  exact this
 rcases (by omega : x.phase = 0 \/ x.phase = 1 \/ x.phase = 2 \/ x.phase = 3) with p | p | p | p
 · have hs : stepR x rec ws = ({ x with a := ws.getD (x.base.toNat + 0) 0 % 2, phase := 1, i := 0 }, rec, ws) := by simp [stepR, p]
   rw [hs]
   exact read_0 x.base.toNat hm eb hn (by omega) p h
 · have hs : stepR x rec ws = ({ x with phase := 2, i := 0 }, rec, ws.set (x.base.toNat + 1) (x.a.toNat : Int)) := by simp [stepR, p]
   rw [hs]
   exact read_1 x.base.toNat hm eb hn x.a.toNat ea la (by omega) p h
 · have hs : stepR x rec ws = ({ x with b := ws.getD (x.base.toNat + (2 + x.a.toNat)) 0 % 2, phase := 3, i := 0 }, rec, ws) := by simp [stepR, p]
   rw [hs]
   exact read_2 x.base.toNat hm eb hn x.a.toNat ea la (by omega) p h
 · have hs : stepR x rec ws = (if x.w.toNat <= x.i.toNat + 1 then { x with i := (x.i.toNat : Int) + 1, over := true, code := 0 } else { x with i := (x.i.toNat : Int) + 1 },
    if x.w.toNat <= x.i.toNat + 1 then endRec x.op 0 (rec ++ [ws.getD (x.base.toNat + ((4 + (2 * x.a.toNat + x.b.toNat) * x.w.toNat) + x.i.toNat)) 0]) else rec ++ [ws.getD (x.base.toNat + ((4 + (2 * x.a.toNat + x.b.toNat) * x.w.toNat) + x.i.toNat)) 0], ws) := by simp [stepR, p]
   rw [hs]
   exact read_3 x.base.toNat hm eb hn x.a.toNat x.b.toNat x.w.toNat x.i.toNat ea la ec lc ew (by omega) ei (by omega) (by omega) hrl (by omega) p h
theorem e8of {T : TypeId} {bx mb : Nat} {sv r0 : Value} {W0 W : World} {x : Core} {rec ws : List Int} {n o : Int} {mv : Value} {k : Int} (ho : x.op = o) (h : St T bx mb sv W0 r0 W { x with m := mv, steps := k } rec ws n) : W.cell? ⟨bx, 8, none⟩ = some (.int .i64 o) := by
 rw [<- ho]; exact h.cell 8 _ (fun _ => rfl)
theorem Shape.up {x : Core} {rec : List Int} (h : Shape x rec) (mv : Value) (k : Int) : Shape { x with m := mv, steps := k } rec := ⟨h.w, h.a, h.b, h.base, h.size, h.i, h.op⟩
theorem opens_spec {x : Core} {l : Nat} (h : opens x l = true) : x.over = false /\ 0 <= x.base /\ 0 <= x.size /\ x.base + x.size <= l := by
 simp only [opens, insB, Bool.and_eq_true, Bool.not_eq_true', decide_eq_true_eq] at h
 exact ⟨h.1, h.2.1, h.2.2.1, by omega⟩
set_option maxHeartbeats 2000000 in
theorem Step_yes {T : TypeId} {bx mb : Nat} {sv r0 : Value} {W0 W : World} {x : Core} {rec ws : List Int} {n : Int} (hI : Shape x rec) (hs : 0 <= x.steps /\ x.steps <= 1000000) (ho : opens x ws.length = true) (hn : 0 <= n /\ n <= 1000000) (h : St T bx mb sv W0 r0 W x rec ws n) :
 Calls Tryz.prog 62 #[.pointer (some ⟨bx, 0, none⟩), .pointer (some ⟨mb, 0, none⟩)] W fun e W' => e = .returned (.bool true) ∧
  St T bx mb sv W0 r0 W' (step x (.pointer (some ⟨mb, 0, none⟩)) rec ws).1 (step x (.pointer (some ⟨mb, 0, none⟩)) rec ws).2.1 (step x (.pointer (some ⟨mb, 0, none⟩)) rec ws).2.2 (n + 1) := by
 have H := hid h
 obtain ⟨hov, _, _, hfit⟩ := opens_spec ho
 have HS := hid hs
 have HO := hid ho
 have hop : (x.op = 2 \/ x.op = 1) := by rcases hI.op with h1 | h1 <;> simp [h1.1]
 rcases hop with hop | hop
 · have hst : step x (.pointer (some ⟨mb, 0, none⟩)) rec ws = stepW { x with m := .pointer (some ⟨mb, 0, none⟩), steps := x.steps + 1 } rec ws := by simp [step, hop]
   rw [hst]
   have K := hid (fun W1 (hx : St T bx mb sv W0 r0 W1 { x with m := .pointer (some ⟨mb, 0, none⟩), steps := x.steps + 1 } rec ws n) => write_any (hI.up (.pointer (some ⟨mb, 0, none⟩)) (x.steps + 1)) hov hop rfl hfit hn hx)
   have HOP := hid hop
   clear h hst hI hov hfit hop hs ho hn
   go_enter Tryz.func62, Tryz.ntmps62
   go_wp2_with (first | (go_at_call 104; refine (Open_yes HS.out HO.out H.out).mono ?_; rintro e w1 ⟨rfl, hx⟩; have e8 : w1.cell? ⟨bx, 8, none⟩ = some (.int .i64 2) := e8of HOP.out hx; have H1 := hid hx; clear hx) | (go_at_call 105; refine (K.out _ H1.out).mono ?_; rintro e w2 ⟨rfl, hx⟩; have H2 := hid hx; clear hx))
   go_ret
   exact ⟨rfl, H2.out⟩
 · have hst : step x (.pointer (some ⟨mb, 0, none⟩)) rec ws = stepR { x with m := .pointer (some ⟨mb, 0, none⟩), steps := x.steps + 1 } rec ws := by simp [step, hop]
   rw [hst]
   have K := hid (fun W1 (hx : St T bx mb sv W0 r0 W1 { x with m := .pointer (some ⟨mb, 0, none⟩), steps := x.steps + 1 } rec ws n) => read_any (hI.up (.pointer (some ⟨mb, 0, none⟩)) (x.steps + 1)) hov hop rfl hfit hn hx)
   have HOP := hid hop
   clear h hst hI hov hfit hop hs ho hn
   go_enter Tryz.func62, Tryz.ntmps62
   go_wp2_with (first | (go_at_call 104; refine (Open_yes HS.out HO.out H.out).mono ?_; rintro e w1 ⟨rfl, hx⟩; have e8 : w1.cell? ⟨bx, 8, none⟩ = some (.int .i64 1) := e8of HOP.out hx; have H1 := hid hx; clear hx) | (go_at_call 106; refine (K.out _ H1.out).mono ?_; rintro e w2 ⟨rfl, hx⟩; have H2 := hid hx; clear hx))
   go_ret
   exact ⟨rfl, H2.out⟩
def left (x : Core) : Int :=
 if x.over then 0 else if x.op = 2 then (if x.phase = 0 then x.w + 4 else if x.phase = 1 then x.w + 3 else if x.phase = 2 then x.w + 2 - x.i else if x.phase = 3 then 2 else 1)
 else (if x.phase = 0 then x.w + 3 else if x.phase = 1 then x.w + 2 else if x.phase = 2 then x.w + 1 else x.w - x.i)
theorem left_pos {x : Core} {rec : List Int} (h : Shape x rec) (ho : x.over = false) : 1 <= left x := by
 have hw := h.w; have hi := h.i ho
 rcases h.op with ⟨o, p, _⟩ | ⟨o, p, _⟩ <;> simp only [left, ho, o] <;> simp <;> (repeat' split) <;> omega
theorem left_over {x : Core} (ho : x.over = true) : left x = 0 := by simp [left, ho]
theorem getD_wf {ws : List Int} (hw : ∀ z ∈ ws, 0 <= z /\ z <= 4294967295) (i : Nat) : 0 <= ws.getD i 0 := by
 by_cases h : i < ws.length
 · simp [List.getD, h]; exact (hw _ (List.getElem_mem h)).1
 · simp [List.getD, h]
theorem step_len (x : Core) (mv : Value) (rec ws : List Int) : (step x mv rec ws).2.2.length = ws.length := by
 simp only [step, stepW, stepR]
 (repeat' split) <;> simp
theorem step_ok {x : Core} {rec ws : List Int} (mv : Value) (h : Shape x rec) (ho : x.over = false) (hws : ∀ z ∈ ws, 0 <= z /\ z <= 4294967295) :
 Shape (step x mv rec ws).1 (step x mv rec ws).2.1 /\ left (step x mv rec ws).1 + 1 = left x /\ (step x mv rec ws).1.steps = x.steps + 1 /\ (step x mv rec ws).1.m = mv ∧
 (step x mv rec ws).1.w = x.w /\ (step x mv rec ws).1.op = x.op /\ (step x mv rec ws).1.base = x.base /\ (step x mv rec ws).1.size = x.size := by
 obtain ⟨hw, ha, hb, hba, hs, hi, hop⟩ := h
 have hi := hi ho
 have g1 := getD_wf hws (x.base.toNat + 1)
 have g2 := getD_wf hws (x.base.toNat + 0)
 have g3 := getD_wf hws (x.base.toNat + (2 + x.a.toNat))
 rcases hop with ⟨o, p, r⟩ | ⟨o, p, r⟩
 · have r := r ho
   rcases (by omega : x.phase = 0 \/ x.phase = 1 \/ x.phase = 2 \/ x.phase = 3 \/ x.phase = 4) with q | q | q | q | q
   · simp only [step, stepW, o, q, if_true]
     refine ⟨⟨hw, by simp only []; omega, hb, hba, hs, fun _ => by simp only []; omega, .inl ⟨rfl, by simp, fun _ => r⟩⟩, by simp [left, ho, o, q] <;> omega, by simp [o]⟩
   · have e1 : ¬ ((1 : Int) = 0) := by omega
     simp only [step, stepW, o, q, if_true, if_neg e1]
     refine ⟨⟨hw, ha, by simp only []; omega, hba, hs, fun _ => by simp only []; omega, .inl ⟨rfl, by simp, fun _ => r⟩⟩, by simp [left, ho, o, q] <;> omega, by simp [o]⟩
   · have e1 : ¬ ((2 : Int) = 0) := by omega
     have e2 : ¬ ((2 : Int) = 1) := by omega
     simp only [step, stepW, o, q, if_true, if_neg e1, if_neg e2]
     split
     · refine ⟨⟨hw, ha, hb, hba, hs, fun _ => by simp only []; omega, .inl ⟨rfl, by simp, fun _ => r⟩⟩, by simp [left, ho, o, q] <;> omega, by simp [o]⟩
     · refine ⟨⟨hw, ha, hb, hba, hs, fun _ => by simp only []; omega, .inl ⟨rfl, by simp [q], fun _ => r⟩⟩, by simp [left, ho, o, q] <;> omega, by simp [o]⟩
   · have e1 : ¬ ((3 : Int) = 0) := by omega
     have e2 : ¬ ((3 : Int) = 1) := by omega
     have e3 : ¬ ((3 : Int) = 2) := by omega
     simp only [step, stepW, o, q, if_true, if_neg e1, if_neg e2, if_neg e3]
     refine ⟨⟨hw, ha, hb, hba, hs, fun _ => by simp only []; omega, .inl ⟨rfl, by simp, fun _ => r⟩⟩, by simp [left, ho, o, q], by simp [o]⟩
   · have e1 : ¬ ((4 : Int) = 0) := by omega
     have e2 : ¬ ((4 : Int) = 1) := by omega
     have e3 : ¬ ((4 : Int) = 2) := by omega
     have e4 : ¬ ((4 : Int) = 3) := by omega
     simp only [step, stepW, o, q, if_true, if_neg e1, if_neg e2, if_neg e3, if_neg e4]
     refine ⟨⟨hw, ha, hb, hba, hs, by simp, .inl ⟨rfl, by simp [q], by simp⟩⟩, by simp [left, ho, o, q], by simp [o]⟩
 · have r := r ho
   have e0 : ¬ ((1 : Int) = 2) := by omega
   rcases (by omega : x.phase = 0 \/ x.phase = 1 \/ x.phase = 2 \/ x.phase = 3) with q | q | q | q
   · simp only [step, stepR, o, q, if_true, if_neg e0]
     refine ⟨⟨hw, by simp only []; omega, hb, hba, hs, fun _ => by simp only []; omega, .inr ⟨rfl, by simp, fun _ => by simp [q] at r ⊢; exact r⟩⟩, by simp [left, ho, o, q] <;> omega, by simp [o]⟩
   · have e1 : ¬ ((1 : Int) = 0) := by omega
     simp only [step, stepR, o, q, if_true, if_neg e0, if_neg e1]
     refine ⟨⟨hw, ha, hb, hba, hs, fun _ => by simp only []; omega, .inr ⟨rfl, by simp, fun _ => by simp [q] at r ⊢; exact r⟩⟩, by simp [left, ho, o, q] <;> omega, by simp [o]⟩
   · have e1 : ¬ ((2 : Int) = 0) := by omega
     have e2 : ¬ ((2 : Int) = 1) := by omega
     simp only [step, stepR, o, q, if_true, if_neg e0, if_neg e1, if_neg e2]
     refine ⟨⟨hw, ha, by simp only []; omega, hba, hs, fun _ => by simp only []; omega, .inr ⟨rfl, by simp, fun _ => by simp [q] at r ⊢; exact r⟩⟩, by simp [left, ho, o, q] <;> omega, by simp [o]⟩
   · have e1 : ¬ ((3 : Int) = 0) := by omega
     have e2 : ¬ ((3 : Int) = 1) := by omega
     have e3 : ¬ ((3 : Int) = 2) := by omega
     simp only [step, stepR, o, q, if_true, if_neg e0, if_neg e1, if_neg e2, if_neg e3]
     split
     · refine ⟨⟨hw, ha, hb, hba, hs, by simp, .inr ⟨rfl, by simp [q], by simp⟩⟩, by simp [left, ho, o, q] <;> omega, by simp [o]⟩
     · refine ⟨⟨hw, ha, hb, hba, hs, fun _ => by simp only []; omega, .inr ⟨rfl, by simp [q], fun _ => by simp [q] at r ⊢; omega⟩⟩, by simp [left, ho, o, q] <;> omega, by simp [o]⟩
def K : Kind where
 step := step
 Shape := Shape
 left := left
 ok mv h ho hws := by
  obtain ⟨h1, h2, h3, h4, h5, h6, h7, h8⟩ := step_ok mv h ho hws
  exact ⟨h1, by omega, h3, h4, h7, h8⟩
 len := step_len
 pos := left_pos
 zero := left_over
end Go.Proofs.YtphfnjcboellhaaGreatDoor.four
