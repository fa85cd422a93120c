/- Package four: the steps of a write and of a read. -/
import Derived.Test.YtbbpnpokccfhjaaCore5
import Derived.Test.YtbbpnpokccfhjaaRop6
namespace Go.Proofs.Ytbbpnpokccfhjaa.four
open Go Go.RowKit Go.Proofs.Ytbbpnpokccfhjaa.kit Go.Proofs.Ytbbpnpokccfhjaa.mem Go.Proofs.Ytbbpnpokccfhjaa.rop Go.Proofs.Ytbbpnpokccfhjaa.core
set_option linter.unusedVariables false
set_option maxRecDepth 20000

theorem and_one_u32 (E : Int) (h0 : 0 ≤ E) (h1 : E ≤ 4294967295) : bits BinOp.and IntKind.u32 E 1 = E % 2 := by
  have h1 : (BitVec.ofInt 32 ((E.toNat : Nat) : Int)).toNat = E.toNat := by
    rw [BitVec.ofInt_natCast, BitVec.toNat_ofNat]; exact Nat.mod_eq_of_lt (by omega)
  have h2 : (BitVec.ofInt 32 (((1 : Nat)) : Int)).toNat = 1 := by
    rw [BitVec.ofInt_natCast, BitVec.toNat_ofNat]
  rw [Int.toNat_of_nonneg h0] at h1
  show IntKind.u32.wrap ((BitVec.ofInt 32 E &&& BitVec.ofInt 32 1).toNat : Int) = _
  have h3 : (BitVec.ofInt 32 (1 : Int)).toNat = 1 := h2
  rw [BitVec.toNat_and, h1, h3, Nat.and_one_is_mod, IntKind.wrap_u32]
  omega
theorem _root_.Go.Proofs.Ytbbpnpokccfhjaa.mem.MemAt.word {W : World} {b : Nat} {sv : Value} {ws : List Int} {n : Int} {i : Nat} (h : MemAt W b sv ws n) (hi : i < ws.length) : 0 ≤ ws.getD i 0 ∧ ws.getD i 0 ≤ 4294967295 := by
  have hget : ws.getD i 0 = ws[i] := by simp [List.getD, hi]
  rw [hget]
  exact wf_u32 (h.wf _ (List.getElem_mem hi))
set_option maxHeartbeats 4000000 in
theorem write_0 {T : TypeId} {bx mb : Nat} {sv r0 : Value} {W0 W : World} {x : Core} {rec ws : List Int} {n : Int} (bN : Nat) (hm : x.m = .pointer (some ⟨mb, 0, none⟩)) (hb : x.base = (bN : Int)) (hn : 0 ≤ n ∧ n ≤ 1000000) (hj : bN + 1 < ws.length) (hph : x.phase = 0) (h : St T bx mb sv W0 r0 W x rec ws n) :
    Calls Try.prog 58 #[.pointer (some ⟨bx, 0, none⟩)] W fun e W' => e = .returned (.tuple #[]) ∧ St T bx mb sv W0 r0 W' { x with a := ((ws.getD (bN + 1) 0 + 1) % 2), phase := 1, i := 0 } rec ws (n + 1) := by
  have H := Lib.hid h
  have HM := Lib.hid hm
  have HB := Lib.hid hb
  have HN := Lib.hid hn
  obtain ⟨vv, hvv⟩ : ∃ vv, ws.getD (bN + 1) 0 = vv := ⟨_, rfl⟩
  have hvb : 0 ≤ vv ∧ vv ≤ 4294967295 := by rw [← hvv]; exact h.memory.word hj
  have HVV := Lib.hid hvv
  rw [hvv]
  have hand : bits BinOp.and IntKind.u32 vv 1 = vv % 2 := and_one_u32 vv hvb.1 hvb.2
  have hsub : IntKind.u32.wrap (1 - vv % 2) = (vv + 1) % 2 := by rw [IntKind.wrap_u32]; omega
  have e10 : W.cell? ⟨bx, 10, none⟩ = some (.int .i64 0) := by rw [← hph]; exact H.out.cell 10 _ (fun _ => rfl)
  have HJ := Lib.hid hj
  clear h hph hm hb hn hj hvv hvb
  go_enter Try.func58, Try.ntmps58
  go_wp2_with (first | (go_at_call 86; refine (Read_at bN 1 HM.out HB.out HJ.out HN.out H.out).mono ?_; rintro e w1 ⟨rfl, hx⟩; rw [HVV.out]; have e13 : w1.cell? ⟨bx, 13, none⟩ = some (.int .u32 x.a) := hx.1.cell 13 _ (fun _ => rfl); have f13 := hx.1.free 13; have H1 := Lib.hid hx; clear hx) | (go_at_call 87; refine (Go_any 1 (H1.out.1.put 13 (.int .u32 ((vv + 1) % 2)) ({ x with a := ((vv + 1) % 2) }) (fun _ => rfl))).mono ?_; rintro e w2 ⟨rfl, hx⟩; have H2 := Lib.hid hx; clear hx))
  go_end0
  exact ⟨rfl, H2.out⟩
set_option maxHeartbeats 4000000 in
theorem read_0 {T : TypeId} {bx mb : Nat} {sv r0 : Value} {W0 W : World} {x : Core} {rec ws : List Int} {n : Int} (bN : Nat) (hm : x.m = .pointer (some ⟨mb, 0, none⟩)) (hb : x.base = (bN : Int)) (hn : 0 ≤ n ∧ n ≤ 1000000) (hj : bN + 0 < ws.length) (hph : x.phase = 0) (h : St T bx mb sv W0 r0 W x rec ws n) :
    Calls Try.prog 59 #[.pointer (some ⟨bx, 0, none⟩)] W fun e W' => e = .returned (.tuple #[]) ∧ St T bx mb sv W0 r0 W' { x with a := (ws.getD (bN + 0) 0 % 2), phase := 1, i := 0 } rec ws (n + 1) := by
  have H := Lib.hid h
  have HM := Lib.hid hm
  have HB := Lib.hid hb
  have HN := Lib.hid hn
  obtain ⟨vv, hvv⟩ : ∃ vv, ws.getD (bN + 0) 0 = vv := ⟨_, rfl⟩
  have hvb : 0 ≤ vv ∧ vv ≤ 4294967295 := by rw [← hvv]; exact h.memory.word hj
  have HVV := Lib.hid hvv
  rw [hvv]
  have hand : bits BinOp.and IntKind.u32 vv 1 = vv % 2 := and_one_u32 vv hvb.1 hvb.2
  have e10 : W.cell? ⟨bx, 10, none⟩ = some (.int .i64 0) := by rw [← hph]; exact H.out.cell 10 _ (fun _ => rfl)
  have HJ := Lib.hid hj
  clear h hph hm hb hn hj hvv hvb
  go_enter Try.func59, Try.ntmps59
  go_wp2_with (first | (go_at_call 86; refine (Read_at bN 0 HM.out HB.out HJ.out HN.out H.out).mono ?_; rintro e w1 ⟨rfl, hx⟩; rw [HVV.out]; have e13 : w1.cell? ⟨bx, 13, none⟩ = some (.int .u32 x.a) := hx.1.cell 13 _ (fun _ => rfl); have f13 := hx.1.free 13; have H1 := Lib.hid hx; clear hx) | (go_at_call 87; refine (Go_any 1 (H1.out.1.put 13 (.int .u32 (vv % 2)) ({ x with a := (vv % 2) }) (fun _ => rfl))).mono ?_; rintro e w2 ⟨rfl, hx⟩; have H2 := Lib.hid hx; clear hx))
  go_end0
  exact ⟨rfl, H2.out⟩
set_option maxHeartbeats 4000000 in
theorem write_1 {T : TypeId} {bx mb : Nat} {sv r0 : Value} {W0 W : World} {x : Core} {rec ws : List Int} {n : Int} (bN : Nat) (hm : x.m = .pointer (some ⟨mb, 0, none⟩)) (hb : x.base = (bN : Int)) (hn : 0 ≤ n ∧ n ≤ 1000000) (aN : Nat) (ha : x.a = (aN : Int)) (haN : aN ≤ 1) (hj : bN + (2 + aN) < ws.length) (hph : x.phase = 1) (h : St T bx mb sv W0 r0 W x rec ws n) :
    Calls Try.prog 58 #[.pointer (some ⟨bx, 0, none⟩)] W fun e W' => e = .returned (.tuple #[]) ∧ St T bx mb sv W0 r0 W' { x with b := ((ws.getD (bN + (2 + aN)) 0 + 1) % 2), phase := 2, i := 0 } rec ws (n + 1) := by
  have H := Lib.hid h
  have HM := Lib.hid hm
  have HB := Lib.hid hb
  have HN := Lib.hid hn
  have NB : Hid (bx ∉ (mb :: sv.ownBlock.toList)) := Lib.hid (by obtain ⟨v, hp, he⟩ := h; simp; exact ⟨hp.ne, fun hh => hp.ns bx hh rfl⟩)
  obtain ⟨vv, hvv⟩ : ∃ vv, ws.getD (bN + (2 + aN)) 0 = vv := ⟨_, rfl⟩
  have hvb : 0 ≤ vv ∧ vv ≤ 4294967295 := by rw [← hvv]; exact h.memory.word hj
  have HVV := Lib.hid hvv
  rw [hvv]
  have hand : bits BinOp.and IntKind.u32 vv 1 = vv % 2 := and_one_u32 vv hvb.1 hvb.2
  have hsub : IntKind.u32.wrap (1 - vv % 2) = (vv + 1) % 2 := by rw [IntKind.wrap_u32]; omega
  have hcv : IntKind.i64.wrap (aN : Int) = (aN : Int) := by rw [IntKind.wrap_i64]; omega
  have hadd : IntKind.i64.wrap (2 + (aN : Int)) = ((2 + aN : Nat) : Int) := by rw [IntKind.wrap_i64]; omega
  have e10 : W.cell? ⟨bx, 10, none⟩ = some (.int .i64 1) := by rw [← hph]; exact H.out.cell 10 _ (fun _ => rfl)
  have eS0 : W.cell? ⟨bx, 13, none⟩ = some (.int .u32 (aN : Int)) := by rw [← ha]; exact H.out.cell 13 _ (fun _ => rfl)
  have KEEP := Lib.hid (fun (V : World) (h : Chg (mb :: sv.ownBlock.toList) W V) => (⟨h.keep eS0 NB.out, Lib.hid h⟩ : (fun V : World => V.cell? ⟨bx, 13, none⟩ = some (.int .u32 (aN : Int)) ∧ Hid (Chg (mb :: sv.ownBlock.toList) W V)) V))
  clear eS0
  have HJ := Lib.hid hj
  clear h hph hm hb hn hj hvv hvb ha haN
  go_enter Try.func58, Try.ntmps58
  go_wp2_with fail
  have hHeld : (fun V : World => V.cell? ⟨bx, 13, none⟩ = some (.int .u32 (aN : Int)) ∧ Hid (Chg (mb :: sv.ownBlock.toList) W V)) W.drew := KEEP.out _ (Chg.refl _ _).drew
  refine wp_region_planT (fun V : World => V.cell? ⟨bx, 13, none⟩ = some (.int .u32 (aN : Int)) ∧ Hid (Chg (mb :: sv.ownBlock.toList) W V)) 17 [(0, true, some 38), (1, true, some 39), (2, true, some 40), (3, true, some 41), (4, true, some 42), (5, true, some 43), (6, true, some 44), (7, true, some 45), (8, true, some 46), (9, true, some 47), (10, true, some 48), (11, false, some 49), (12, true, some 50), (13, true, some 51), (14, true, some 52), (15, true, some 53), (16, true, some 54)] (by kernel_rfl) (by kernel_rfl) (by kernel_rfl) (by kernel_rfl) (by kernel_rfl) (fun d c a v w h => by cases d <;> exact h) hHeld ?_
  repeat (refine planT_read (v := ?_) rfl rfl ?_ ?_ ?_; rotate_left; (focus rfl); (focus (intro u hSw; (try dsimp only at hSw); go_simp; (try with_reducible rfl))); (try simp only [Act.put, List.setIfInBounds_toArray, List.set_cons_zero, List.set_cons_succ]))
  refine planT_do rfl rfl ?_ (fun K hK => ?_)
  · rfl
  go_simp
  go_wp2_with (go_at_call 86; refine (Read_at bN (2 + aN) HM.out HB.out HJ.out HN.out (H.out.keep (Chg.refl _ _).drew)).mono ?_; rintro e w1 ⟨rfl, hx⟩; rw [HVV.out]; have HX := Lib.hid hx; clear hx)
  refine hK.out _ _ (KEEP.out _ ((Chg.refl _ W).drew.trans HX.out.2.2)) (fun hHeld2 => ?_)
  clear hK K hHeld
  have hHeld := hHeld2
  clear hHeld2
  try simp only [Act.put, List.setIfInBounds_toArray, List.set_cons_zero, List.set_cons_succ]
  repeat (refine planT_read (v := ?_) rfl rfl ?_ ?_ ?_; rotate_left; (focus rfl); (focus (intro u hSw; (try dsimp only at hSw); go_simp; (try with_reducible rfl))); (try simp only [Act.put, List.setIfInBounds_toArray, List.set_cons_zero, List.set_cons_succ]))
  have e14 : w1.cell? ⟨bx, 14, none⟩ = some (.int .u32 x.b) := HX.out.1.cell 14 _ (fun _ => rfl)
  have f14 := HX.out.1.free 14
  refine planT_last rfl ?_ (fun K hK => ?_)
  · rfl
  go_simp
  refine hK.out _ _ ?_
  clear hK K e14 f14 hHeld KEEP
  refine then_gen (R := fun V => Hid (St T bx mb sv W0 r0 V { x with b := ((vv + 1) % 2) } rec ws (n + 1))) (Lib.hid (HX.out.1.put 14 (.int .u32 ((vv + 1) % 2)) ({ x with b := ((vv + 1) % 2) }) (fun _ => rfl))) ?_
  rintro W4 H5
  go_wp2_with (go_at_call 87; refine (Go_any 2 H5.out).mono ?_; rintro e w2 ⟨rfl, hx⟩; have H6 := Lib.hid hx; clear hx)
  go_end0
  exact ⟨rfl, H6.out⟩
set_option maxHeartbeats 4000000 in
theorem read_2 {T : TypeId} {bx mb : Nat} {sv r0 : Value} {W0 W : World} {x : Core} {rec ws : List Int} {n : Int} (bN : Nat) (hm : x.m = .pointer (some ⟨mb, 0, none⟩)) (hb : x.base = (bN : Int)) (hn : 0 ≤ n ∧ n ≤ 1000000) (aN : Nat) (ha : x.a = (aN : Int)) (haN : aN ≤ 1) (hj : bN + (2 + aN) < ws.length) (hph : x.phase = 2) (h : St T bx mb sv W0 r0 W x rec ws n) :
    Calls Try.prog 59 #[.pointer (some ⟨bx, 0, none⟩)] W fun e W' => e = .returned (.tuple #[]) ∧ St T bx mb sv W0 r0 W' { x with b := (ws.getD (bN + (2 + aN)) 0 % 2), phase := 3, i := 0 } rec ws (n + 1) := by
  have H := Lib.hid h
  have HM := Lib.hid hm
  have HB := Lib.hid hb
  have HN := Lib.hid hn
  have NB : Hid (bx ∉ (mb :: sv.ownBlock.toList)) := Lib.hid (by obtain ⟨v, hp, he⟩ := h; simp; exact ⟨hp.ne, fun hh => hp.ns bx hh rfl⟩)
  obtain ⟨vv, hvv⟩ : ∃ vv, ws.getD (bN + (2 + aN)) 0 = vv := ⟨_, rfl⟩
  have hvb : 0 ≤ vv ∧ vv ≤ 4294967295 := by rw [← hvv]; exact h.memory.word hj
  have HVV := Lib.hid hvv
  rw [hvv]
  have hand : bits BinOp.and IntKind.u32 vv 1 = vv % 2 := and_one_u32 vv hvb.1 hvb.2
  have hcv : IntKind.i64.wrap (aN : Int) = (aN : Int) := by rw [IntKind.wrap_i64]; omega
  have hadd : IntKind.i64.wrap (2 + (aN : Int)) = ((2 + aN : Nat) : Int) := by rw [IntKind.wrap_i64]; omega
  have e10 : W.cell? ⟨bx, 10, none⟩ = some (.int .i64 2) := by rw [← hph]; exact H.out.cell 10 _ (fun _ => rfl)
  have eS0 : W.cell? ⟨bx, 13, none⟩ = some (.int .u32 (aN : Int)) := by rw [← ha]; exact H.out.cell 13 _ (fun _ => rfl)
  have KEEP := Lib.hid (fun (V : World) (h : Chg (mb :: sv.ownBlock.toList) W V) => (⟨h.keep eS0 NB.out, Lib.hid h⟩ : (fun V : World => V.cell? ⟨bx, 13, none⟩ = some (.int .u32 (aN : Int)) ∧ Hid (Chg (mb :: sv.ownBlock.toList) W V)) V))
  clear eS0
  have HJ := Lib.hid hj
  clear h hph hm hb hn hj hvv hvb ha haN
  go_enter Try.func59, Try.ntmps59
  go_wp2_with fail
  have hHeld : (fun V : World => V.cell? ⟨bx, 13, none⟩ = some (.int .u32 (aN : Int)) ∧ Hid (Chg (mb :: sv.ownBlock.toList) W V)) W.drew := KEEP.out _ (Chg.refl _ _).drew
  refine wp_region_planT (fun V : World => V.cell? ⟨bx, 13, none⟩ = some (.int .u32 (aN : Int)) ∧ Hid (Chg (mb :: sv.ownBlock.toList) W V)) 16 [(0, true, some 49), (1, true, some 50), (2, true, some 51), (3, true, some 52), (4, true, some 53), (5, true, some 54), (6, true, some 55), (7, true, some 56), (8, true, some 57), (9, true, some 58), (10, true, some 59), (11, false, some 60), (12, true, some 61), (13, true, some 62), (14, true, some 63), (15, true, some 64)] (by kernel_rfl) (by kernel_rfl) (by kernel_rfl) (by kernel_rfl) (by kernel_rfl) (fun d c a v w h => by cases d <;> exact h) hHeld ?_
  repeat (refine planT_read (v := ?_) rfl rfl ?_ ?_ ?_; rotate_left; (focus rfl); (focus (intro u hSw; (try dsimp only at hSw); go_simp; (try with_reducible rfl))); (try simp only [Act.put, List.setIfInBounds_toArray, List.set_cons_zero, List.set_cons_succ]))
  refine planT_do rfl rfl ?_ (fun K hK => ?_)
  · rfl
  go_simp
  go_wp2_with (go_at_call 86; refine (Read_at bN (2 + aN) HM.out HB.out HJ.out HN.out (H.out.keep (Chg.refl _ _).drew)).mono ?_; rintro e w1 ⟨rfl, hx⟩; rw [HVV.out]; have HX := Lib.hid hx; clear hx)
  refine hK.out _ _ (KEEP.out _ ((Chg.refl _ W).drew.trans HX.out.2.2)) (fun hHeld2 => ?_)
  clear hK K hHeld
  have hHeld := hHeld2
  clear hHeld2
  try simp only [Act.put, List.setIfInBounds_toArray, List.set_cons_zero, List.set_cons_succ]
  repeat (refine planT_read (v := ?_) rfl rfl ?_ ?_ ?_; rotate_left; (focus rfl); (focus (intro u hSw; (try dsimp only at hSw); go_simp; (try with_reducible rfl))); (try simp only [Act.put, List.setIfInBounds_toArray, List.set_cons_zero, List.set_cons_succ]))
  have e14 : w1.cell? ⟨bx, 14, none⟩ = some (.int .u32 x.b) := HX.out.1.cell 14 _ (fun _ => rfl)
  have f14 := HX.out.1.free 14
  refine planT_last rfl ?_ (fun K hK => ?_)
  · rfl
  go_simp
  refine hK.out _ _ ?_
  clear hK K e14 f14 hHeld KEEP
  refine then_gen (R := fun V => Hid (St T bx mb sv W0 r0 V { x with b := (vv % 2) } rec ws (n + 1))) (Lib.hid (HX.out.1.put 14 (.int .u32 (vv % 2)) ({ x with b := (vv % 2) }) (fun _ => rfl))) ?_
  rintro W4 H5
  go_wp2_with (go_at_call 87; refine (Go_any 3 H5.out).mono ?_; rintro e w2 ⟨rfl, hx⟩; have H6 := Lib.hid hx; clear hx)
  go_end0
  exact ⟨rfl, H6.out⟩
set_option maxHeartbeats 4000000 in
theorem write_3 {T : TypeId} {bx mb : Nat} {sv r0 : Value} {W0 W : World} {x : Core} {rec ws : List Int} {n : Int} (bN : Nat) (hm : x.m = .pointer (some ⟨mb, 0, none⟩)) (hb : x.base = (bN : Int)) (hn : 0 ≤ n ∧ n ≤ 1000000) (aN cN : Nat) (ha : x.a = (aN : Int)) (haN : aN ≤ 1) (hc : x.b = (cN : Int)) (hcN : cN ≤ 1) (hj : bN + (2 + aN) < ws.length) (hph : x.phase = 3) (h : St T bx mb sv W0 r0 W x rec ws n) :
    Calls Try.prog 58 #[.pointer (some ⟨bx, 0, none⟩)] W fun e W' => e = .returned (.tuple #[]) ∧ St T bx mb sv W0 r0 W' { x with phase := 4, i := 0 } rec (ws.set (bN + (2 + aN)) (cN : Int)) (n + 1) := by
  have H := Lib.hid h
  have HM := Lib.hid hm
  have HB := Lib.hid hb
  have HN := Lib.hid hn
  have e10 : W.cell? ⟨bx, 10, none⟩ = some (.int .i64 3) := by rw [← hph]; exact H.out.cell 10 _ (fun _ => rfl)
  have hcv : IntKind.i64.wrap (aN : Int) = (aN : Int) := by rw [IntKind.wrap_i64]; omega
  have hadd : IntKind.i64.wrap (2 + (aN : Int)) = ((2 + aN : Nat) : Int) := by rw [IntKind.wrap_i64]; omega
  have HU : Hid (0 ≤ (cN : Int) ∧ (cN : Int) ≤ 4294967295) := Lib.hid (by omega)
  have G0 : Hid (W.cell? ⟨bx, 13, none⟩ = some (.int .u32 (aN : Int))) := Lib.hid (by rw [← ha]; exact H.out.cell 13 _ (fun _ => rfl))
  have G1 : Hid (W.cell? ⟨bx, 14, none⟩ = some (.int .u32 (cN : Int))) := Lib.hid (by rw [← hc]; exact H.out.cell 14 _ (fun _ => rfl))
  have HJ := Lib.hid hj
  clear h hph hm hb hn hj ha haN hc hcN
  go_enter Try.func58, Try.ntmps58
  go_wp2_with fail
  refine wp_region_tail 15 (by kernel_rfl) (by kernel_rfl) ?_
  intro W3 hW3
  have g0 : W3.cell? ⟨bx, 13, none⟩ = some (.int .u32 (aN : Int)) := by rw [hW3.out]; exact G0.out
  have g1 : W3.cell? ⟨bx, 14, none⟩ = some (.int .u32 (cN : Int)) := by rw [hW3.out]; exact G1.out
  have H3 : Hid (St T bx mb sv W0 r0 W3 x rec ws n) := Lib.hid (by rw [hW3.out]; exact H.out.keep (Chg.refl _ _).drew)
  clear hW3
  simp only [List.take_succ_cons, List.take_zero, List.drop_succ_cons, List.drop_zero]
  repeat still_step
  refine wpStill_nil ?_
  go_wp2_with (first | (go_at_call 90; refine (Write_at bN (2 + aN) (cN : Int) HU.out HM.out HB.out HJ.out HN.out H3.out).mono ?_; rintro e w4 ⟨rfl, hx⟩; have H4 := Lib.hid hx; clear hx) | (go_at_call 87; refine (Go_any 4 H4.out).mono ?_; rintro e w2 ⟨rfl, hx⟩; have H6 := Lib.hid hx; clear hx))
  go_end0
  exact ⟨rfl, H6.out⟩
set_option maxHeartbeats 4000000 in
theorem write_4 {T : TypeId} {bx mb : Nat} {sv r0 : Value} {W0 W : World} {x : Core} {rec ws : List Int} {n : Int} (bN : Nat) (hm : x.m = .pointer (some ⟨mb, 0, none⟩)) (hb : x.base = (bN : Int)) (hn : 0 ≤ n ∧ n ≤ 1000000) (aN : Nat) (ha : x.a = (aN : Int)) (haN : aN ≤ 1) (hj : bN < ws.length) (hph : x.phase = 4) (h : St T bx mb sv W0 r0 W x rec ws n) :
    Calls Try.prog 58 #[.pointer (some ⟨bx, 0, none⟩)] W fun e W' => e = .returned (.tuple #[]) ∧ St T bx mb sv W0 r0 W' { x with over := true, code := 0 } (endRec x.op 0 rec) (ws.set bN (aN : Int)) (n + 1) := by
  have H := Lib.hid h
  have HM := Lib.hid hm
  have HB := Lib.hid hb
  have HN := Lib.hid hn
  have e10 : W.cell? ⟨bx, 10, none⟩ = some (.int .i64 4) := by rw [← hph]; exact H.out.cell 10 _ (fun _ => rfl)
  have HU : Hid (0 ≤ (aN : Int) ∧ (aN : Int) ≤ 4294967295) := Lib.hid (by omega)
  have G0 : Hid (W.cell? ⟨bx, 13, none⟩ = some (.int .u32 (aN : Int))) := Lib.hid (by rw [← ha]; exact H.out.cell 13 _ (fun _ => rfl))
  have HJ := Lib.hid hj
  clear h hph hm hb hn hj ha haN
  go_enter Try.func58, Try.ntmps58
  go_wp2_with fail
  refine wp_region_tail 8 (by kernel_rfl) (by kernel_rfl) ?_
  intro W3 hW3
  have g0 : W3.cell? ⟨bx, 13, none⟩ = some (.int .u32 (aN : Int)) := by rw [hW3.out]; exact G0.out
  have H3 : Hid (St T bx mb sv W0 r0 W3 x rec ws n) := Lib.hid (by rw [hW3.out]; exact H.out.keep (Chg.refl _ _).drew)
  clear hW3
  simp only [List.take_succ_cons, List.take_zero, List.drop_succ_cons, List.drop_zero]
  repeat still_step
  refine wpStill_nil ?_
  go_wp2_with (first | (go_at_call 90; refine (Write_at bN 0 (aN : Int) HU.out HM.out HB.out HJ.out HN.out H3.out).mono ?_; rintro e w4 ⟨rfl, hx⟩; have H4 := Lib.hid hx; clear hx) | (go_at_call 91; refine (End_any 0 H4.out).mono ?_; rintro e w2 ⟨rfl, hx⟩; have H6 := Lib.hid hx; clear hx))
  go_end0
  exact ⟨rfl, H6.out⟩
set_option maxHeartbeats 4000000 in
theorem read_1 {T : TypeId} {bx mb : Nat} {sv r0 : Value} {W0 W : World} {x : Core} {rec ws : List Int} {n : Int} (bN : Nat) (hm : x.m = .pointer (some ⟨mb, 0, none⟩)) (hb : x.base = (bN : Int)) (hn : 0 ≤ n ∧ n ≤ 1000000) (aN : Nat) (ha : x.a = (aN : Int)) (haN : aN ≤ 1) (hj : bN + 1 < ws.length) (hph : x.phase = 1) (h : St T bx mb sv W0 r0 W x rec ws n) :
    Calls Try.prog 59 #[.pointer (some ⟨bx, 0, none⟩)] W fun e W' => e = .returned (.tuple #[]) ∧ St T bx mb sv W0 r0 W' { x with phase := 2, i := 0 } rec (ws.set (bN + 1) (aN : Int)) (n + 1) := by
  have H := Lib.hid h
  have HM := Lib.hid hm
  have HB := Lib.hid hb
  have HN := Lib.hid hn
  have e10 : W.cell? ⟨bx, 10, none⟩ = some (.int .i64 1) := by rw [← hph]; exact H.out.cell 10 _ (fun _ => rfl)
  have HU : Hid (0 ≤ (aN : Int) ∧ (aN : Int) ≤ 4294967295) := Lib.hid (by omega)
  have G0 : Hid (W.cell? ⟨bx, 13, none⟩ = some (.int .u32 (aN : Int))) := Lib.hid (by rw [← ha]; exact H.out.cell 13 _ (fun _ => rfl))
  have HJ := Lib.hid hj
  clear h hph hm hb hn hj ha haN
  go_enter Try.func59, Try.ntmps59
  go_wp2_with fail
  refine wp_region_tail 8 (by kernel_rfl) (by kernel_rfl) ?_
  intro W3 hW3
  have g0 : W3.cell? ⟨bx, 13, none⟩ = some (.int .u32 (aN : Int)) := by rw [hW3.out]; exact G0.out
  have H3 : Hid (St T bx mb sv W0 r0 W3 x rec ws n) := Lib.hid (by rw [hW3.out]; exact H.out.keep (Chg.refl _ _).drew)
  clear hW3
  simp only [List.take_succ_cons, List.take_zero, List.drop_succ_cons, List.drop_zero]
  repeat still_step
  refine wpStill_nil ?_
  go_wp2_with (first | (go_at_call 90; refine (Write_at bN 1 (aN : Int) HU.out HM.out HB.out HJ.out HN.out H3.out).mono ?_; rintro e w4 ⟨rfl, hx⟩; have H4 := Lib.hid hx; clear hx) | (go_at_call 87; refine (Go_any 2 H4.out).mono ?_; rintro e w2 ⟨rfl, hx⟩; have H6 := Lib.hid hx; clear hx))
  go_end0
  exact ⟨rfl, H6.out⟩
theorem from_any {T : TypeId} {bx mb : Nat} {sv r0 : Value} {W0 W : World} {x : Core} {rec ws : List Int} {n : Int} (aN cN wN : Nat) (ha : x.a = (aN : Int)) (haN : aN ≤ 1) (hc : x.b = (cN : Int)) (hcN : cN ≤ 1) (hw : x.w = (wN : Int)) (hwN : wN ≤ 8) (h : St T bx mb sv W0 r0 W x rec ws n) :
    Calls Try.prog 89 #[.pointer (some ⟨bx, 0, none⟩)] W fun e W' => e = .returned (.int .i64 ((4 + (2 * aN + cN) * wN : Nat) : Int)) ∧ Chg [] W W' := by
  have H := Lib.hid h
  have k1 : IntKind.u32.wrap (2 * (aN : Int)) = 2 * (aN : Int) := by rw [IntKind.wrap_u32]; omega
  have k2 : IntKind.u32.wrap (2 * (aN : Int) + (cN : Int)) = 2 * (aN : Int) + (cN : Int) := by rw [IntKind.wrap_u32]; omega
  have k3 : IntKind.i64.wrap (2 * (aN : Int) + (cN : Int)) = 2 * (aN : Int) + (cN : Int) := by rw [IntKind.wrap_i64]; omega
  have hq : (2 * (aN : Int) + (cN : Int)) * (wN : Int) = (((2 * aN + cN) * wN : Nat) : Int) := by push_cast; rfl
  have hqb : (2 * aN + cN) * wN ≤ 3 * 8 := Nat.mul_le_mul (by omega) hwN
  have k4 : IntKind.i64.wrap ((2 * (aN : Int) + (cN : Int)) * (wN : Int)) = (((2 * aN + cN) * wN : Nat) : Int) := by rw [hq, IntKind.wrap_i64]; omega
  have k5 : IntKind.i64.wrap (4 + (((2 * aN + cN) * wN : Nat) : Int)) = ((4 + (2 * aN + cN) * wN : Nat) : Int) := by rw [IntKind.wrap_i64]; omega
  obtain ⟨q, hqq⟩ : ∃ q, (2 * aN + cN) * wN = q := ⟨_, rfl⟩
  rw [hqq] at k4 k5 ⊢
  clear hq hqb hqq
  have eS0 : W.cell? ⟨bx, 13, none⟩ = some (.int .u32 (aN : Int)) := by rw [← ha]; exact H.out.cell 13 _ (fun _ => rfl)
  have eS1 : W.cell? ⟨bx, 14, none⟩ = some (.int .u32 (cN : Int)) := by rw [← hc]; exact H.out.cell 14 _ (fun _ => rfl)
  have eS2 : W.cell? ⟨bx, 1, none⟩ = some (.int .i64 (wN : Int)) := by rw [← hw]; exact H.out.cell 1 _ (fun _ => rfl)
  have KEEP := Lib.hid (fun (V : World) (h : Chg [] W V) => (⟨h.keep eS0 (by simp), h.keep eS1 (by simp), h.keep eS2 (by simp), Lib.hid h⟩ : (fun V : World => V.cell? ⟨bx, 13, none⟩ = some (.int .u32 (aN : Int)) ∧ V.cell? ⟨bx, 14, none⟩ = some (.int .u32 (cN : Int)) ∧ V.cell? ⟨bx, 1, none⟩ = some (.int .i64 (wN : Int)) ∧ Hid (Chg [] W V)) V))
  clear eS0 eS1 eS2
  clear h haN hcN hwN ha hc hw
  go_enter Try.func89, Try.ntmps89
  go_wp2_with fail
  have hHeld : (fun V : World => V.cell? ⟨bx, 13, none⟩ = some (.int .u32 (aN : Int)) ∧ V.cell? ⟨bx, 14, none⟩ = some (.int .u32 (cN : Int)) ∧ V.cell? ⟨bx, 1, none⟩ = some (.int .i64 (wN : Int)) ∧ Hid (Chg [] W V)) (World.drew W) := KEEP.out _ (Chg.refl _ _).drew
  refine wp_region_plan (fun V : World => V.cell? ⟨bx, 13, none⟩ = some (.int .u32 (aN : Int)) ∧ V.cell? ⟨bx, 14, none⟩ = some (.int .u32 (cN : Int)) ∧ V.cell? ⟨bx, 1, none⟩ = some (.int .i64 (wN : Int)) ∧ Hid (Chg [] W V)) [(0, true, some 3), (1, true, some 4), (2, true, some 5), (3, true, some 6), (4, true, some 7), (5, true, some 8), (6, true, some 9), (7, true, some 10), (8, true, some 11), (9, true, some 12), (10, true, some 13), (11, true, some 14), (12, true, some 15), (13, true, some 16), (14, true, some 17), (15, true, some 18), (16, true, some 19), (17, true, some 20), (18, true, some 21), (19, true, some 22), (20, true, some 23), (21, true, some 2)] (by kernel_rfl) (by kernel_rfl) (by kernel_rfl) (by kernel_rfl) (fun d c a v w h => by cases d <;> exact h) hHeld ?_
  repeat (first
    | (refine planWp_read (v := ?_) rfl rfl ?_ ?_ ?_; rotate_left; (focus rfl); (focus (intro u hSw; (try dsimp only at hSw); go_simp; (try with_reducible rfl))); (try simp only [Act.put, List.setIfInBounds_toArray, List.set_cons_zero, List.set_cons_succ]))
    | (refine planWp_skip rfl rfl ?_ ?_; (focus rfl); (try simp only [Act.put, List.setIfInBounds_toArray, List.set_cons_zero, List.set_cons_succ]))
    | (refine planWp_leave rfl rfl ?_ hHeld ?_; (focus rfl); (try simp only [Act.put, List.setIfInBounds_toArray, List.set_cons_zero, List.set_cons_succ]))
    | (refine planWp_do rfl rfl ?_ (fun K hK => ?_); (focus rfl); go_simp; (try go_wp2_with fail); refine hK.out _ _ ?_ (fun hHeld2 => ?_); (focus (exact KEEP.out _ hHeld.2.2.2.out)); clear hK K hHeld; have hHeld := hHeld2; clear hHeld2; (try simp only [Act.put, List.setIfInBounds_toArray, List.set_cons_zero, List.set_cons_succ])))
  refine planWp_nil ?_
  have HC := Lib.hid hHeld.2.2.2.out
  clear hHeld KEEP
  go_wp2_with fail
  go_ret
  exact ⟨rfl, HC.out⟩
end Go.Proofs.Ytbbpnpokccfhjaa.four
