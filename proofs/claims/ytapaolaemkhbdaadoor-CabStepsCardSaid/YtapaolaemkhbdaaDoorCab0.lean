/- Package cab: what lies where, which slot is the newest, which is free. -/
import Derived.Test.YtapaolaemkhbdaaDoorSets
import Derived.Test.YtapaolaemkhbdaaDoorObjA
import Derived.Deep.Cut
namespace Go.Proofs.YtapaolaemkhbdaaDoor.cab
open Go Go.RowKit Go.Proofs.YtapaolaemkhbdaaDoor.kit Go.Proofs.YtapaolaemkhbdaaDoor.mem Go.Proofs.YtapaolaemkhbdaaDoor.rop Go.Proofs.YtapaolaemkhbdaaDoor.core Go.Proofs.YtapaolaemkhbdaaDoor.obj
set_option linter.unusedVariables false
set_option linter.unusedSimpArgs false
set_option maxRecDepth 20000

theorem mul_bd {c w m : Int} (hc : 0 ≤ c ∧ c ≤ m) (hw : 0 ≤ w ∧ w ≤ 8) (hm : m ≤ 16) : 0 ≤ c * w ∧ c * w ≤ m * w ∧ c * w ≤ 128 := by
  have h1 := Int.mul_nonneg hc.1 hw.1
  have h2 := Int.mul_le_mul_of_nonneg_right hc.2 hw.1
  have h3 := Int.mul_le_mul_of_nonneg_left hw.2 (show 0 ≤ m by omega)
  omega
theorem data_any (k w s c st : Int) (ia : Option Addr) (il ic : Nat) (wr : Int) (ra : Option Addr) (rl rc : Nat) (hrl : rl ≤ 100) (W : World) :
    Calls Tryd.prog 53 #[.agg #[.int .i64 k, .int .i64 w, .int .i64 s, .int .i64 c, .int .u32 st, .slice ia il ic, .int .i64 wr, .slice ra rl rc]] W fun e W' => e = .returned (.int .i64 ((1 + rl : Nat) : Int)) ∧ Chg [] W W' := by
  have k1 : IntKind.i64.wrap (1 + (rl : Int)) = ((1 + rl : Nat) : Int) := by rw [IntKind.wrap_i64]; omega
  clear hrl
  go_enter Tryd.func53, Tryd.ntmps53
  go_wp2
  go_ret
  exact ⟨rfl, (Chg.refl _ _).alloc _⟩
set_option maxHeartbeats 2000000 in
theorem newest_any {T : TypeId} {bx mb : Nat} {sv r0 : Value} {W0 W : World} {x : Core} {rec ws : List Int} {n : Int} (bN : Nat) (hm : x.m = .pointer (some ⟨mb, 0, none⟩)) (hb : x.base = (bN : Int)) (hn : 0 ≤ n ∧ n ≤ 1000000) (hj : bN + 0 < ws.length) (hs : 1 ≤ x.s ∧ x.s ≤ 16) (h : St T bx mb sv W0 r0 W x rec ws n) :
    Calls Tryd.prog 89 #[.pointer (some ⟨bx, 0, none⟩)] W fun e W' => e = .returned (.int .u32 (ws.getD (bN + 0) 0 % x.s)) ∧ St T bx mb sv W0 r0 W' x rec ws (n + 1) ∧ Chg (mb :: sv.ownBlock.toList) W W' := by
  have H := Lib.hid h
  have HM := Lib.hid hm
  have HB := Lib.hid hb
  have HN := Lib.hid hn
  have HJ := Lib.hid hj
  have NB : Hid (bx ∉ (mb :: sv.ownBlock.toList)) := Lib.hid (by obtain ⟨v, hp, he⟩ := h; simp; exact ⟨hp.ne, fun hh => hp.ns bx hh rfl⟩)
  obtain ⟨vv, hvv⟩ : ∃ vv, ws.getD (bN + 0) 0 = vv := ⟨_, rfl⟩
  have hvb : 0 ≤ vv ∧ vv ≤ 4294967295 := by rw [← hvv]; exact u32_bd h.memory hj
  have HVV := Lib.hid hvv
  rw [hvv]
  have hmn : x.s ≠ 0 := by omega
  have hm0 : (x.s == 0) = false := by simp; omega
  have kt : Int.tmod vv x.s = vv % x.s := tmod_nn hvb.1
  have hlt := Int.emod_lt_of_pos vv (show 0 < x.s by omega)
  have hge := Int.emod_nonneg vv hmn
  have kw : IntKind.u32.wrap (vv % x.s) = vv % x.s := by rw [IntKind.wrap_u32]; omega
  have ks : IntKind.u32.wrap x.s = x.s := by rw [IntKind.wrap_u32]; omega
  have eS0 : W.cell? ⟨bx, 2, none⟩ = some (.int .i64 x.s) := H.out.cell 2 _ (fun _ => rfl)
  have KEEP := Lib.hid (fun (V : World) (h : Chg (mb :: sv.ownBlock.toList) W V) => (⟨h.keep eS0 NB.out, Lib.hid h⟩ : (fun V : World => V.cell? ⟨bx, 2, none⟩ = some (.int .i64 x.s) ∧ Hid (Chg (mb :: sv.ownBlock.toList) W V)) V))
  clear eS0
  clear h hm hb hn hj hs hvv hvb hlt hge
  go_enter Tryd.func89, Tryd.ntmps89
  go_wp2_with fail
  have hHeld : (fun V : World => V.cell? ⟨bx, 2, none⟩ = some (.int .i64 x.s) ∧ Hid (Chg (mb :: sv.ownBlock.toList) W V)) (World.drew W) := KEEP.out _ (Chg.refl _ _).drew
  refine wp_region_plan (fun V : World => V.cell? ⟨bx, 2, none⟩ = some (.int .i64 x.s) ∧ Hid (Chg (mb :: sv.ownBlock.toList) W V)) [(0, true, some 3), (1, true, some 4), (2, true, some 5), (4, true, some 7), (5, true, some 8), (6, true, some 9), (7, true, some 10), (8, true, some 11), (9, true, some 12), (10, true, some 13), (3, false, some 6), (11, true, some 14), (12, true, some 2)] (by kernel_rfl) (by kernel_rfl) (by kernel_rfl) (by kernel_rfl) (fun d c a v w h => by cases d <;> exact h) hHeld ?_
  repeat (first | (refine planWp_load (v := .agg #[.int .i64 x.k, .int .i64 x.w, .int .i64 x.s, .int .i64 x.c, .int .u32 x.st, .slice x.ia x.il x.ic, .int .i64 x.wr, .slice x.ra x.rl x.rc]) rfl rfl rfl 26 _ rfl _ rfl (fun u hSw => hSw.1) ?_; (try simp only [Act.put, List.setIfInBounds_toArray, List.set_cons_zero, List.set_cons_succ])) | (refine planWp_read (v := ?_) rfl rfl ?_ ?_ ?_; rotate_left; (focus rfl); (focus (intro u hSw; (try dsimp only at hSw); go_simp; (try with_reducible rfl); done)); (try simp only [Act.put, List.setIfInBounds_toArray, List.set_cons_zero, List.set_cons_succ])))
  refine planWp_do rfl rfl ?_ (fun K hK => ?_)
  · rfl
  go_simp
  go_wp2_with (go_at_call 98; refine (Read_at bN 0 HM.out HB.out HJ.out HN.out (H.out.keep (Chg.refl _ _).drew)).mono ?_; rintro e w1 ⟨rfl, hx⟩; rw [HVV.out]; have H1 := Lib.hid hx.1; have HC1 := Lib.hid ((Chg.refl _ W).drew.trans hx.2.2); clear hx)
  refine hK.out _ _ (KEEP.out _ HC1.out) (fun hHeld2 => ?_)
  clear hK K hHeld
  have hHeld := hHeld2
  clear hHeld2
  try simp only [Act.put, List.setIfInBounds_toArray, List.set_cons_zero, List.set_cons_succ]
  repeat (first | (refine planWp_load (v := .agg #[.int .i64 x.k, .int .i64 x.w, .int .i64 x.s, .int .i64 x.c, .int .u32 x.st, .slice x.ia x.il x.ic, .int .i64 x.wr, .slice x.ra x.rl x.rc]) rfl rfl rfl 26 _ rfl _ rfl (fun u hSw => hSw.1) ?_; (try simp only [Act.put, List.setIfInBounds_toArray, List.set_cons_zero, List.set_cons_succ])) | (refine planWp_read (v := ?_) rfl rfl ?_ ?_ ?_; rotate_left; (focus rfl); (focus (intro u hSw; (try dsimp only at hSw); go_simp; (try with_reducible rfl); done)); (try simp only [Act.put, List.setIfInBounds_toArray, List.set_cons_zero, List.set_cons_succ])))
  refine planWp_nil ?_
  clear hHeld KEEP
  go_wp2_with fail
  go_ret
  exact ⟨rfl, H1.out, HC1.out⟩
/-- where the record of a slot begins -/
def place (x : Core) (sl : Int) : Nat := 1 + x.rl + (sl * x.w).toNat
set_option maxHeartbeats 2000000 in
theorem from_any {T : TypeId} {bx mb : Nat} {sv r0 : Value} {W0 W : World} {x : Core} {rec ws : List Int} {n : Int} (sl : Int) (hsl : 0 ≤ sl ∧ sl ≤ 16) (hw : 1 ≤ x.w ∧ x.w ≤ 8) (hrl : x.rl ≤ 100) (h : St T bx mb sv W0 r0 W x rec ws n) :
    Calls Tryd.prog 93 #[.pointer (some ⟨bx, 0, none⟩), .int .u32 sl] W fun e W' => e = .returned (.int .i64 ((place x sl : Nat) : Int)) ∧ Chg [] W W' := by
  have H := Lib.hid h
  have hb := mul_bd (c := sl) (w := x.w) (m := 16) hsl ⟨by omega, hw.2⟩ (by omega)
  have k1 : IntKind.i64.wrap sl = sl := by rw [IntKind.wrap_i64]; omega
  have k2 : IntKind.i64.wrap (sl * x.w) = sl * x.w := by rw [IntKind.wrap_i64]; omega
  have k3 : IntKind.i64.wrap (((1 + x.rl : Nat) : Int) + sl * x.w) = ((place x sl : Nat) : Int) := by unfold place; rw [IntKind.wrap_i64]; omega
  have k4 : IntKind.i64.wrap ((1 + (x.rl : Int)) + sl * x.w) = ((place x sl : Nat) : Int) := by unfold place; rw [IntKind.wrap_i64]; omega
  have HDT := Lib.hid (fun V => data_any x.k x.w x.s x.c x.st x.ia x.il x.ic x.wr x.ra x.rl x.rc hrl V)
  have eS0 : W.cell? ⟨bx, 1, none⟩ = some (.int .i64 x.w) := H.out.cell 1 _ (fun _ => rfl)
  have KEEP := Lib.hid (fun (V : World) (h : Chg [] W V) => (⟨H.out.loadO h (by simp), h.keep eS0 (by simp), Lib.hid h⟩ : (fun V : World => (Instr.loadAt 26 (.pointer (some ⟨bx, 0, none⟩))).run Tryd.prog V = .ok (.agg #[.int .i64 x.k, .int .i64 x.w, .int .i64 x.s, .int .i64 x.c, .int .u32 x.st, .slice x.ia x.il x.ic, .int .i64 x.wr, .slice x.ra x.rl x.rc]) V ∧ V.cell? ⟨bx, 1, none⟩ = some (.int .i64 x.w) ∧ Hid (Chg [] W V)) V))
  clear eS0
  generalize place x sl = pl at *
  clear h hb hsl hw hrl
  go_enter Tryd.func93, Tryd.ntmps93
  go_wp2_with fail
  have hHeld : (fun V : World => (Instr.loadAt 26 (.pointer (some ⟨bx, 0, none⟩))).run Tryd.prog V = .ok (.agg #[.int .i64 x.k, .int .i64 x.w, .int .i64 x.s, .int .i64 x.c, .int .u32 x.st, .slice x.ia x.il x.ic, .int .i64 x.wr, .slice x.ra x.rl x.rc]) V ∧ V.cell? ⟨bx, 1, none⟩ = some (.int .i64 x.w) ∧ Hid (Chg [] W V)) (World.drew W) := KEEP.out _ (Chg.refl _ _).drew
  refine wp_region_plan (fun V : World => (Instr.loadAt 26 (.pointer (some ⟨bx, 0, none⟩))).run Tryd.prog V = .ok (.agg #[.int .i64 x.k, .int .i64 x.w, .int .i64 x.s, .int .i64 x.c, .int .u32 x.st, .slice x.ia x.il x.ic, .int .i64 x.wr, .slice x.ra x.rl x.rc]) V ∧ V.cell? ⟨bx, 1, none⟩ = some (.int .i64 x.w) ∧ Hid (Chg [] W V)) [(0, true, some 5), (1, true, some 6), (2, true, some 7), (3, true, some 8), (4, true, some 9), (6, true, some 11), (7, true, some 12), (8, true, some 13), (9, true, some 14), (10, true, some 15), (11, true, some 16), (12, true, some 17), (13, true, some 18), (14, true, some 19), (5, false, some 10), (15, true, some 20), (16, true, some 4)] (by kernel_rfl) (by kernel_rfl) (by kernel_rfl) (by kernel_rfl) (fun d c a v w h => by cases d <;> exact h) hHeld ?_
  repeat (first | (refine planWp_load (v := .agg #[.int .i64 x.k, .int .i64 x.w, .int .i64 x.s, .int .i64 x.c, .int .u32 x.st, .slice x.ia x.il x.ic, .int .i64 x.wr, .slice x.ra x.rl x.rc]) rfl rfl rfl 26 _ rfl _ rfl (fun u hSw => hSw.1) ?_; (try simp only [Act.put, List.setIfInBounds_toArray, List.set_cons_zero, List.set_cons_succ])) | (refine planWp_read (v := ?_) rfl rfl ?_ ?_ ?_; rotate_left; (focus rfl); (focus (intro u hSw; (try dsimp only at hSw); go_simp; (try with_reducible rfl); done)); (try simp only [Act.put, List.setIfInBounds_toArray, List.set_cons_zero, List.set_cons_succ])))
  refine planWp_do rfl rfl ?_ (fun K hK => ?_)
  · rfl
  go_simp
  go_wp2_with (go_at_call 53; refine (HDT.out _).mono ?_; rintro e w2 ⟨rfl, hx⟩; have HC2 := Lib.hid ((Chg.refl [] W).drew.trans hx); clear hx)
  refine hK.out _ _ (KEEP.out _ HC2.out) (fun hHeld2 => ?_)
  clear hK K hHeld
  have hHeld := hHeld2
  clear hHeld2
  try simp only [Act.put, List.setIfInBounds_toArray, List.set_cons_zero, List.set_cons_succ]
  repeat (first | (refine planWp_load (v := .agg #[.int .i64 x.k, .int .i64 x.w, .int .i64 x.s, .int .i64 x.c, .int .u32 x.st, .slice x.ia x.il x.ic, .int .i64 x.wr, .slice x.ra x.rl x.rc]) rfl rfl rfl 26 _ rfl _ rfl (fun u hSw => hSw.1) ?_; (try simp only [Act.put, List.setIfInBounds_toArray, List.set_cons_zero, List.set_cons_succ])) | (refine planWp_read (v := ?_) rfl rfl ?_ ?_ ?_; rotate_left; (focus rfl); (focus (intro u hSw; (try dsimp only at hSw); go_simp; (try with_reducible rfl); done)); (try simp only [Act.put, List.setIfInBounds_toArray, List.set_cons_zero, List.set_cons_succ])))
  refine planWp_nil ?_
  clear hHeld KEEP
  go_wp2_with fail
  go_ret
  exact ⟨rfl, HC2.out⟩
set_option maxHeartbeats 4000000 in
theorem scan_any {T : TypeId} {bx mb : Nat} {sv r0 : Value} {W0 W : World} {x : Core} {rec ws : List Int} {n : Int} (bN iN : Nat) (hT : ∀ V x' rec' ws' n', St T bx mb sv W0 r0 V x' rec' ws' n' → bitm.Tab V) (hm : x.m = .pointer (some ⟨mb, 0, none⟩)) (hb : x.base = (bN : Int)) (hn : 0 ≤ n ∧ n ≤ 1000000) (hi : x.i = (iN : Int)) (hil : iN < 100) (hrl : x.rl ≤ 100) (ha : 0 ≤ x.a ∧ x.a ≤ 4294967295) (hu : 0 ≤ x.used ∧ x.used < 2097152) (hj : bN + (1 + iN) < ws.length) (h : St T bx mb sv W0 r0 W x rec ws n) :
    Calls Tryd.prog 91 #[.pointer (some ⟨bx, 0, none⟩)] W fun e W' => e = .returned (.tuple #[]) ∧ St T bx mb sv W0 r0 W' (if x.rl ≤ iN + 1 then { x with used := bitm.markU (if 0 < (ws.getD (bN + (1 + iN)) 0) then bitm.markU x.used ((ws.getD (bN + (1 + iN)) 0) - 1) else x.used) x.a, b := bitm.freeU (bitm.markU (if 0 < (ws.getD (bN + (1 + iN)) 0) then bitm.markU x.used ((ws.getD (bN + (1 + iN)) 0) - 1) else x.used) x.a), phase := 2, i := 0 } else { x with used := (if 0 < (ws.getD (bN + (1 + iN)) 0) then bitm.markU x.used ((ws.getD (bN + (1 + iN)) 0) - 1) else x.used), i := (iN : Int) + 1 }) rec ws (n + 1) := by
  have H := Lib.hid h
  have HM := Lib.hid hm
  have HB := Lib.hid hb
  have HN := Lib.hid hn
  have NB : Hid (bx ∉ (mb :: sv.ownBlock.toList)) := Lib.hid (by obtain ⟨v, hp, he⟩ := h; simp; exact ⟨hp.ne, fun hh => hp.ns bx hh rfl⟩)
  obtain ⟨vv, hvv⟩ : ∃ vv, ws.getD (bN + (1 + iN)) 0 = vv := ⟨_, rfl⟩
  have hvb : 0 ≤ vv ∧ vv ≤ 4294967295 := by rw [← hvv]; exact u32_bd h.memory hj
  have HVV := Lib.hid hvv
  rw [hvv]
  have hadd : IntKind.i64.wrap (1 + (iN : Int)) = ((1 + iN : Nat) : Int) := by rw [IntKind.wrap_i64]; omega
  have HJ := Lib.hid hj
  have HA := Lib.hid ha
  have HTT := Lib.hid hT
  have HI : Hid (0 ≤ x.i ∧ x.i ≤ 1000000) := Lib.hid (by omega)
  have HII := Lib.hid hi
  have eS0 : W.cell? ⟨bx, 11, none⟩ = some (.int .i64 (iN : Int)) := by rw [← hi]; exact H.out.cell 11 _ (fun _ => rfl)
  have KEEP := Lib.hid (fun (V : World) (h : Chg (mb :: sv.ownBlock.toList) W V) => (⟨h.keep eS0 NB.out, Lib.hid h⟩ : (fun V : World => V.cell? ⟨bx, 11, none⟩ = some (.int .i64 (iN : Int)) ∧ Hid (Chg (mb :: sv.ownBlock.toList) W V)) V))
  clear eS0
  clear h hm hb hn hj ha hrl hvv hT hi
  have HU := Lib.hid hu
  have hm0 := bitm.markU_bd hu HA.out.1
  have HU2 := Lib.hid hm0
  by_cases hp : 0 < vv
  · rw [if_pos hp]
    have HV1 : Hid (0 ≤ vv - 1 ∧ vv - 1 ≤ 4294967295) := Lib.hid (by omega)
    have hm1 := bitm.markU_bd hu HV1.out.1
    have HUM := Lib.hid hm1
    have HUM2 := Lib.hid (bitm.markU_bd hm1 HA.out.1)
    have kv : IntKind.u32.wrap (vv - 1) = vv - 1 := by rw [IntKind.wrap_u32]; omega
    have hpb : decide (0 < vv) = true := by simpa using hp
    clear hu hm0 hm1
    by_cases hle : x.rl ≤ iN + 1
    · rw [if_pos hle]
      have HDEC : Hid (decide ((x.rl : Int) ≤ x.i + 1) = true) := Lib.hid (by rw [HII.out]; simpa using (by omega : (x.rl : Int) ≤ (iN : Int) + 1))
      clear hle
      go_enter Tryd.func91, Tryd.ntmps91
      go_wp2_with fail
      have hHeld : (fun V : World => V.cell? ⟨bx, 11, none⟩ = some (.int .i64 (iN : Int)) ∧ Hid (Chg (mb :: sv.ownBlock.toList) W V)) (World.drew W) := KEEP.out _ (Chg.refl _ _).drew
      refine wp_region_plan (fun V : World => V.cell? ⟨bx, 11, none⟩ = some (.int .i64 (iN : Int)) ∧ Hid (Chg (mb :: sv.ownBlock.toList) W V)) [(0, true, some 3), (1, true, some 4), (2, true, some 5), (3, true, some 6), (4, true, some 7), (5, true, some 8), (6, true, some 9), (7, true, some 10), (8, true, some 11), (9, false, some 12), (10, true, some 2)] (by kernel_rfl) (by kernel_rfl) (by kernel_rfl) (by kernel_rfl) (fun d c a v w h => by cases d <;> exact h) hHeld ?_
      repeat (first | (refine planWp_load (v := .agg #[.int .i64 x.k, .int .i64 x.w, .int .i64 x.s, .int .i64 x.c, .int .u32 x.st, .slice x.ia x.il x.ic, .int .i64 x.wr, .slice x.ra x.rl x.rc]) rfl rfl rfl 26 _ rfl _ rfl (fun u hSw => hSw.1) ?_; (try simp only [Act.put, List.setIfInBounds_toArray, List.set_cons_zero, List.set_cons_succ])) | (refine planWp_read (v := ?_) rfl rfl ?_ ?_ ?_; rotate_left; (focus rfl); (focus (intro u hSw; (try dsimp only at hSw); go_simp; (try with_reducible rfl); done)); (try simp only [Act.put, List.setIfInBounds_toArray, List.set_cons_zero, List.set_cons_succ])))
      refine planWp_do rfl rfl ?_ (fun K hK => ?_)
      · rfl
      go_simp
      go_wp2_with (go_at_call 98; refine (Read_at bN (1 + iN) HM.out HB.out HJ.out HN.out (H.out.keep (Chg.refl _ _).drew)).mono ?_; rintro e w1 ⟨rfl, hx⟩; rw [HVV.out]; have H1 := Lib.hid hx.1; have HC1 := Lib.hid ((Chg.refl _ W).drew.trans hx.2.2); clear hx)
      refine hK.out _ _ (KEEP.out _ HC1.out) (fun hHeld2 => ?_)
      clear hK K hHeld
      have hHeld := hHeld2
      clear hHeld2
      try simp only [Act.put, List.setIfInBounds_toArray, List.set_cons_zero, List.set_cons_succ]
      repeat (first | (refine planWp_load (v := .agg #[.int .i64 x.k, .int .i64 x.w, .int .i64 x.s, .int .i64 x.c, .int .u32 x.st, .slice x.ia x.il x.ic, .int .i64 x.wr, .slice x.ra x.rl x.rc]) rfl rfl rfl 26 _ rfl _ rfl (fun u hSw => hSw.1) ?_; (try simp only [Act.put, List.setIfInBounds_toArray, List.set_cons_zero, List.set_cons_succ])) | (refine planWp_read (v := ?_) rfl rfl ?_ ?_ ?_; rotate_left; (focus rfl); (focus (intro u hSw; (try dsimp only at hSw); go_simp; (try with_reducible rfl); done)); (try simp only [Act.put, List.setIfInBounds_toArray, List.set_cons_zero, List.set_cons_succ])))
      refine planWp_nil ?_
      clear hHeld KEEP
      go_upto_region 3 with (go_at_call 113; refine (Mark_any (vv - 1) HV1.out HU.out H1.out).mono ?_; rintro e w2 ⟨rfl, hx⟩; have H2 := Lib.hid hx; clear hx)
      have hHeld : (fun V : World => V.cell? ⟨bx, 7, none⟩ = some (.slice x.ra x.rl x.rc)) (World.drew w2) := (H2.out.keep (Chg.refl _ _).drew).cell 7 _ (fun _ => rfl)
      refine wp_region_plan (fun V : World => V.cell? ⟨bx, 7, none⟩ = some (.slice x.ra x.rl x.rc)) [(0, true, some 21), (1, true, some 22), (2, true, some 23), (3, true, some 24), (4, true, some 25), (5, true, some 26), (6, true, some 27), (7, true, some 28), (8, true, some 29), (9, true, some 30), (10, false, some 31), (11, true, some 32)] (by kernel_rfl) (by kernel_rfl) (by kernel_rfl) (by kernel_rfl) (fun d c a v w h => by cases d <;> exact h) hHeld ?_
      repeat (first | (refine planWp_load (v := .agg #[.int .i64 x.k, .int .i64 x.w, .int .i64 x.s, .int .i64 x.c, .int .u32 x.st, .slice x.ia x.il x.ic, .int .i64 x.wr, .slice x.ra x.rl x.rc]) rfl rfl rfl 26 _ rfl _ rfl (fun u hSw => hSw.1) ?_; (try simp only [Act.put, List.setIfInBounds_toArray, List.set_cons_zero, List.set_cons_succ])) | (refine planWp_read (v := ?_) rfl rfl ?_ ?_ ?_; rotate_left; (focus rfl); (focus (intro u hSw; (try dsimp only at hSw); go_simp; (try with_reducible rfl); done)); (try simp only [Act.put, List.setIfInBounds_toArray, List.set_cons_zero, List.set_cons_succ])))
      refine planWp_do rfl rfl ?_ (fun K hK => ?_)
      · rfl
      go_simp
      go_wp2_with (go_at_call 103; refine (Each_any (x := { x with used := (bitm.markU x.used (vv - 1)) }) (x.rl : Int) HI.out (H2.out.keep (Chg.refl _ _).drew)).mono ?_; rintro e w3 ⟨he, hx⟩; rw [show e = .returned (.bool true) from he.trans (congrArg (fun b => Ending.returned (Value.bool b)) HDEC.out)]; clear he; have H3 := Lib.hid hx; clear hx)
      refine hK.out _ _ (H3.out.cell 7 _ (fun _ => rfl)) (fun hHeld2 => ?_)
      clear hK K hHeld
      have hHeld := hHeld2
      clear hHeld2
      try simp only [Act.put, List.setIfInBounds_toArray, List.set_cons_zero, List.set_cons_succ]
      repeat (first | (refine planWp_load (v := .agg #[.int .i64 x.k, .int .i64 x.w, .int .i64 x.s, .int .i64 x.c, .int .u32 x.st, .slice x.ia x.il x.ic, .int .i64 x.wr, .slice x.ra x.rl x.rc]) rfl rfl rfl 26 _ rfl _ rfl (fun u hSw => hSw.1) ?_; (try simp only [Act.put, List.setIfInBounds_toArray, List.set_cons_zero, List.set_cons_succ])) | (refine planWp_read (v := ?_) rfl rfl ?_ ?_ ?_; rotate_left; (focus rfl); (focus (intro u hSw; (try dsimp only at hSw); go_simp; (try with_reducible rfl); done)); (try simp only [Act.put, List.setIfInBounds_toArray, List.set_cons_zero, List.set_cons_succ])))
      refine planWp_nil ?_
      clear hHeld
      go_upto_region 4 with fail
      have eS0 : w3.cell? ⟨bx, 13, none⟩ = some (.int .u32 x.a) := H3.out.cell 13 _ (fun _ => rfl)
      have KEEP := Lib.hid (fun (V : World) (h : Chg [] w3 V) => (⟨h.keep eS0 (by simp), Lib.hid h⟩ : (fun V : World => V.cell? ⟨bx, 13, none⟩ = some (.int .u32 x.a) ∧ Hid (Chg [] w3 V)) V))
      clear eS0
      have hHeld : (fun V : World => V.cell? ⟨bx, 13, none⟩ = some (.int .u32 x.a) ∧ Hid (Chg [] w3 V)) (World.drew w3) := KEEP.out _ (Chg.refl _ _).drew
      refine wp_region_planT (fun V : World => V.cell? ⟨bx, 13, none⟩ = some (.int .u32 x.a) ∧ Hid (Chg [] w3 V)) 8 [(0, true, some 33), (1, true, some 34), (2, true, some 35), (3, true, some 36), (4, true, some 37), (5, true, some 38), (6, true, some 39), (7, true, some 40)] (by kernel_rfl) (by kernel_rfl) (by kernel_rfl) (by kernel_rfl) (by kernel_rfl) (fun d c a v w h => by cases d <;> exact h) hHeld ?_
      repeat (first | (refine planT_load (v := .agg #[.int .i64 x.k, .int .i64 x.w, .int .i64 x.s, .int .i64 x.c, .int .u32 x.st, .slice x.ia x.il x.ic, .int .i64 x.wr, .slice x.ra x.rl x.rc]) rfl rfl rfl 26 _ rfl _ rfl (fun u hSw => hSw.1) ?_; (try simp only [Act.put, List.setIfInBounds_toArray, List.set_cons_zero, List.set_cons_succ])) | (refine planT_read (v := ?_) rfl rfl ?_ ?_ ?_; rotate_left; (focus rfl); (focus (intro u hSw; (try dsimp only at hSw); go_simp; (try with_reducible rfl); done)); (try simp only [Act.put, List.setIfInBounds_toArray, List.set_cons_zero, List.set_cons_succ])))
      refine planT_last rfl ?_ (fun K hK => ?_)
      · rfl
      go_simp
      go_wp2_with (go_at_call 113; refine (Mark_any (x := { x with used := (bitm.markU x.used (vv - 1)), i := x.i + 1 }) x.a HA.out HUM.out (H3.out.keep (Chg.refl _ _).drew)).mono ?_; rintro e w4 ⟨rfl, hx⟩; have H4 := Lib.hid hx; clear hx)
      refine hK.out _ _ ?_
      clear hK K hHeld KEEP
      have e14 := H4.out.cell 14 _ (fun _ => rfl)
      have f14 := H4.out.free 14
      go_wp2_with (first | (go_at_call 114; refine (Free_any (x := { x with used := bitm.markU (bitm.markU x.used (vv - 1)) x.a, i := x.i + 1 }) (HTT.out _ _ _ _ _ H4.out) HUM2.out H4.out).mono ?_; rintro e w5 ⟨rfl, rfl⟩; have H5 := Lib.hid (H4.out.put 14 (.int .u32 (bitm.freeU (bitm.markU (bitm.markU x.used (vv - 1)) x.a))) { x with used := bitm.markU (bitm.markU x.used (vv - 1)) x.a, i := x.i + 1, b := bitm.freeU (bitm.markU (bitm.markU x.used (vv - 1)) x.a) } (fun _ => rfl))) | (go_at_call 90; refine (Go_any 2 H5.out).mono ?_; rintro e w6 ⟨rfl, hx⟩; have H6 := Lib.hid hx; clear hx))
      all_goals (first | (go_end0; exact ⟨rfl, H6.out⟩) | (refine bodyPost_ret (results_none rfl _ _ _) rfl ?_; exact ⟨rfl, H6.out⟩))
    · rw [if_neg hle]
      have HDEC : Hid (decide ((x.rl : Int) ≤ x.i + 1) = false) := Lib.hid (by rw [HII.out]; simpa using (by omega : ¬ (x.rl : Int) ≤ (iN : Int) + 1))
      clear hle
      go_enter Tryd.func91, Tryd.ntmps91
      go_wp2_with fail
      have hHeld : (fun V : World => V.cell? ⟨bx, 11, none⟩ = some (.int .i64 (iN : Int)) ∧ Hid (Chg (mb :: sv.ownBlock.toList) W V)) (World.drew W) := KEEP.out _ (Chg.refl _ _).drew
      refine wp_region_plan (fun V : World => V.cell? ⟨bx, 11, none⟩ = some (.int .i64 (iN : Int)) ∧ Hid (Chg (mb :: sv.ownBlock.toList) W V)) [(0, true, some 3), (1, true, some 4), (2, true, some 5), (3, true, some 6), (4, true, some 7), (5, true, some 8), (6, true, some 9), (7, true, some 10), (8, true, some 11), (9, false, some 12), (10, true, some 2)] (by kernel_rfl) (by kernel_rfl) (by kernel_rfl) (by kernel_rfl) (fun d c a v w h => by cases d <;> exact h) hHeld ?_
      repeat (first | (refine planWp_load (v := .agg #[.int .i64 x.k, .int .i64 x.w, .int .i64 x.s, .int .i64 x.c, .int .u32 x.st, .slice x.ia x.il x.ic, .int .i64 x.wr, .slice x.ra x.rl x.rc]) rfl rfl rfl 26 _ rfl _ rfl (fun u hSw => hSw.1) ?_; (try simp only [Act.put, List.setIfInBounds_toArray, List.set_cons_zero, List.set_cons_succ])) | (refine planWp_read (v := ?_) rfl rfl ?_ ?_ ?_; rotate_left; (focus rfl); (focus (intro u hSw; (try dsimp only at hSw); go_simp; (try with_reducible rfl); done)); (try simp only [Act.put, List.setIfInBounds_toArray, List.set_cons_zero, List.set_cons_succ])))
      refine planWp_do rfl rfl ?_ (fun K hK => ?_)
      · rfl
      go_simp
      go_wp2_with (go_at_call 98; refine (Read_at bN (1 + iN) HM.out HB.out HJ.out HN.out (H.out.keep (Chg.refl _ _).drew)).mono ?_; rintro e w1 ⟨rfl, hx⟩; rw [HVV.out]; have H1 := Lib.hid hx.1; have HC1 := Lib.hid ((Chg.refl _ W).drew.trans hx.2.2); clear hx)
      refine hK.out _ _ (KEEP.out _ HC1.out) (fun hHeld2 => ?_)
      clear hK K hHeld
      have hHeld := hHeld2
      clear hHeld2
      try simp only [Act.put, List.setIfInBounds_toArray, List.set_cons_zero, List.set_cons_succ]
      repeat (first | (refine planWp_load (v := .agg #[.int .i64 x.k, .int .i64 x.w, .int .i64 x.s, .int .i64 x.c, .int .u32 x.st, .slice x.ia x.il x.ic, .int .i64 x.wr, .slice x.ra x.rl x.rc]) rfl rfl rfl 26 _ rfl _ rfl (fun u hSw => hSw.1) ?_; (try simp only [Act.put, List.setIfInBounds_toArray, List.set_cons_zero, List.set_cons_succ])) | (refine planWp_read (v := ?_) rfl rfl ?_ ?_ ?_; rotate_left; (focus rfl); (focus (intro u hSw; (try dsimp only at hSw); go_simp; (try with_reducible rfl); done)); (try simp only [Act.put, List.setIfInBounds_toArray, List.set_cons_zero, List.set_cons_succ])))
      refine planWp_nil ?_
      clear hHeld KEEP
      go_upto_region 3 with (go_at_call 113; refine (Mark_any (vv - 1) HV1.out HU.out H1.out).mono ?_; rintro e w2 ⟨rfl, hx⟩; have H2 := Lib.hid hx; clear hx)
      have hHeld : (fun V : World => V.cell? ⟨bx, 7, none⟩ = some (.slice x.ra x.rl x.rc)) (World.drew w2) := (H2.out.keep (Chg.refl _ _).drew).cell 7 _ (fun _ => rfl)
      refine wp_region_plan (fun V : World => V.cell? ⟨bx, 7, none⟩ = some (.slice x.ra x.rl x.rc)) [(0, true, some 21), (1, true, some 22), (2, true, some 23), (3, true, some 24), (4, true, some 25), (5, true, some 26), (6, true, some 27), (7, true, some 28), (8, true, some 29), (9, true, some 30), (10, false, some 31), (11, true, some 32)] (by kernel_rfl) (by kernel_rfl) (by kernel_rfl) (by kernel_rfl) (fun d c a v w h => by cases d <;> exact h) hHeld ?_
      repeat (first | (refine planWp_load (v := .agg #[.int .i64 x.k, .int .i64 x.w, .int .i64 x.s, .int .i64 x.c, .int .u32 x.st, .slice x.ia x.il x.ic, .int .i64 x.wr, .slice x.ra x.rl x.rc]) rfl rfl rfl 26 _ rfl _ rfl (fun u hSw => hSw.1) ?_; (try simp only [Act.put, List.setIfInBounds_toArray, List.set_cons_zero, List.set_cons_succ])) | (refine planWp_read (v := ?_) rfl rfl ?_ ?_ ?_; rotate_left; (focus rfl); (focus (intro u hSw; (try dsimp only at hSw); go_simp; (try with_reducible rfl); done)); (try simp only [Act.put, List.setIfInBounds_toArray, List.set_cons_zero, List.set_cons_succ])))
      refine planWp_do rfl rfl ?_ (fun K hK => ?_)
      · rfl
      go_simp
      go_wp2_with (go_at_call 103; refine (Each_any (x := { x with used := (bitm.markU x.used (vv - 1)) }) (x.rl : Int) HI.out (H2.out.keep (Chg.refl _ _).drew)).mono ?_; rintro e w3 ⟨he, hx⟩; rw [show e = .returned (.bool false) from he.trans (congrArg (fun b => Ending.returned (Value.bool b)) HDEC.out)]; clear he; have H3 := Lib.hid hx; clear hx)
      refine hK.out _ _ (H3.out.cell 7 _ (fun _ => rfl)) (fun hHeld2 => ?_)
      clear hK K hHeld
      have hHeld := hHeld2
      clear hHeld2
      try simp only [Act.put, List.setIfInBounds_toArray, List.set_cons_zero, List.set_cons_succ]
      repeat (first | (refine planWp_load (v := .agg #[.int .i64 x.k, .int .i64 x.w, .int .i64 x.s, .int .i64 x.c, .int .u32 x.st, .slice x.ia x.il x.ic, .int .i64 x.wr, .slice x.ra x.rl x.rc]) rfl rfl rfl 26 _ rfl _ rfl (fun u hSw => hSw.1) ?_; (try simp only [Act.put, List.setIfInBounds_toArray, List.set_cons_zero, List.set_cons_succ])) | (refine planWp_read (v := ?_) rfl rfl ?_ ?_ ?_; rotate_left; (focus rfl); (focus (intro u hSw; (try dsimp only at hSw); go_simp; (try with_reducible rfl); done)); (try simp only [Act.put, List.setIfInBounds_toArray, List.set_cons_zero, List.set_cons_succ])))
      refine planWp_nil ?_
      clear hHeld
      go_wp2_with fail
      refine bodyPost_ret (results_none rfl _ _ _) rfl ?_
      refine ⟨rfl, ?_⟩
      have h9 := H3.out
      rw [show ({ x with used := (bitm.markU x.used (vv - 1)) } : Core).i + 1 = (iN : Int) + 1 from by show x.i + 1 = _; rw [HII.out]] at h9
      exact h9
  · rw [if_neg hp]
    have hpb : decide (0 < vv) = false := by simpa using hp
    clear hu hm0
    by_cases hle : x.rl ≤ iN + 1
    · rw [if_pos hle]
      have HDEC : Hid (decide ((x.rl : Int) ≤ x.i + 1) = true) := Lib.hid (by rw [HII.out]; simpa using (by omega : (x.rl : Int) ≤ (iN : Int) + 1))
      clear hle
      go_enter Tryd.func91, Tryd.ntmps91
      go_wp2_with fail
      have hHeld : (fun V : World => V.cell? ⟨bx, 11, none⟩ = some (.int .i64 (iN : Int)) ∧ Hid (Chg (mb :: sv.ownBlock.toList) W V)) (World.drew W) := KEEP.out _ (Chg.refl _ _).drew
      refine wp_region_plan (fun V : World => V.cell? ⟨bx, 11, none⟩ = some (.int .i64 (iN : Int)) ∧ Hid (Chg (mb :: sv.ownBlock.toList) W V)) [(0, true, some 3), (1, true, some 4), (2, true, some 5), (3, true, some 6), (4, true, some 7), (5, true, some 8), (6, true, some 9), (7, true, some 10), (8, true, some 11), (9, false, some 12), (10, true, some 2)] (by kernel_rfl) (by kernel_rfl) (by kernel_rfl) (by kernel_rfl) (fun d c a v w h => by cases d <;> exact h) hHeld ?_
      repeat (first | (refine planWp_load (v := .agg #[.int .i64 x.k, .int .i64 x.w, .int .i64 x.s, .int .i64 x.c, .int .u32 x.st, .slice x.ia x.il x.ic, .int .i64 x.wr, .slice x.ra x.rl x.rc]) rfl rfl rfl 26 _ rfl _ rfl (fun u hSw => hSw.1) ?_; (try simp only [Act.put, List.setIfInBounds_toArray, List.set_cons_zero, List.set_cons_succ])) | (refine planWp_read (v := ?_) rfl rfl ?_ ?_ ?_; rotate_left; (focus rfl); (focus (intro u hSw; (try dsimp only at hSw); go_simp; (try with_reducible rfl); done)); (try simp only [Act.put, List.setIfInBounds_toArray, List.set_cons_zero, List.set_cons_succ])))
      refine planWp_do rfl rfl ?_ (fun K hK => ?_)
      · rfl
      go_simp
      go_wp2_with (go_at_call 98; refine (Read_at bN (1 + iN) HM.out HB.out HJ.out HN.out (H.out.keep (Chg.refl _ _).drew)).mono ?_; rintro e w1 ⟨rfl, hx⟩; rw [HVV.out]; have H1 := Lib.hid hx.1; have HC1 := Lib.hid ((Chg.refl _ W).drew.trans hx.2.2); clear hx)
      refine hK.out _ _ (KEEP.out _ HC1.out) (fun hHeld2 => ?_)
      clear hK K hHeld
      have hHeld := hHeld2
      clear hHeld2
      try simp only [Act.put, List.setIfInBounds_toArray, List.set_cons_zero, List.set_cons_succ]
      repeat (first | (refine planWp_load (v := .agg #[.int .i64 x.k, .int .i64 x.w, .int .i64 x.s, .int .i64 x.c, .int .u32 x.st, .slice x.ia x.il x.ic, .int .i64 x.wr, .slice x.ra x.rl x.rc]) rfl rfl rfl 26 _ rfl _ rfl (fun u hSw => hSw.1) ?_; (try simp only [Act.put, List.setIfInBounds_toArray, List.set_cons_zero, List.set_cons_succ])) | (refine planWp_read (v := ?_) rfl rfl ?_ ?_ ?_; rotate_left; (focus rfl); (focus (intro u hSw; (try dsimp only at hSw); go_simp; (try with_reducible rfl); done)); (try simp only [Act.put, List.setIfInBounds_toArray, List.set_cons_zero, List.set_cons_succ])))
      refine planWp_nil ?_
      clear hHeld KEEP
      go_upto_region 3 with fail
      have hHeld : (fun V : World => V.cell? ⟨bx, 7, none⟩ = some (.slice x.ra x.rl x.rc)) (World.drew w1) := (H1.out.keep (Chg.refl _ _).drew).cell 7 _ (fun _ => rfl)
      refine wp_region_plan (fun V : World => V.cell? ⟨bx, 7, none⟩ = some (.slice x.ra x.rl x.rc)) [(0, true, some 21), (1, true, some 22), (2, true, some 23), (3, true, some 24), (4, true, some 25), (5, true, some 26), (6, true, some 27), (7, true, some 28), (8, true, some 29), (9, true, some 30), (10, false, some 31), (11, true, some 32)] (by kernel_rfl) (by kernel_rfl) (by kernel_rfl) (by kernel_rfl) (fun d c a v w h => by cases d <;> exact h) hHeld ?_
      repeat (first | (refine planWp_load (v := .agg #[.int .i64 x.k, .int .i64 x.w, .int .i64 x.s, .int .i64 x.c, .int .u32 x.st, .slice x.ia x.il x.ic, .int .i64 x.wr, .slice x.ra x.rl x.rc]) rfl rfl rfl 26 _ rfl _ rfl (fun u hSw => hSw.1) ?_; (try simp only [Act.put, List.setIfInBounds_toArray, List.set_cons_zero, List.set_cons_succ])) | (refine planWp_read (v := ?_) rfl rfl ?_ ?_ ?_; rotate_left; (focus rfl); (focus (intro u hSw; (try dsimp only at hSw); go_simp; (try with_reducible rfl); done)); (try simp only [Act.put, List.setIfInBounds_toArray, List.set_cons_zero, List.set_cons_succ])))
      refine planWp_do rfl rfl ?_ (fun K hK => ?_)
      · rfl
      go_simp
      go_wp2_with (go_at_call 103; refine (Each_any (x := x) (x.rl : Int) HI.out (H1.out.keep (Chg.refl _ _).drew)).mono ?_; rintro e w3 ⟨he, hx⟩; rw [show e = .returned (.bool true) from he.trans (congrArg (fun b => Ending.returned (Value.bool b)) HDEC.out)]; clear he; have H3 := Lib.hid hx; clear hx)
      refine hK.out _ _ (H3.out.cell 7 _ (fun _ => rfl)) (fun hHeld2 => ?_)
      clear hK K hHeld
      have hHeld := hHeld2
      clear hHeld2
      try simp only [Act.put, List.setIfInBounds_toArray, List.set_cons_zero, List.set_cons_succ]
      repeat (first | (refine planWp_load (v := .agg #[.int .i64 x.k, .int .i64 x.w, .int .i64 x.s, .int .i64 x.c, .int .u32 x.st, .slice x.ia x.il x.ic, .int .i64 x.wr, .slice x.ra x.rl x.rc]) rfl rfl rfl 26 _ rfl _ rfl (fun u hSw => hSw.1) ?_; (try simp only [Act.put, List.setIfInBounds_toArray, List.set_cons_zero, List.set_cons_succ])) | (refine planWp_read (v := ?_) rfl rfl ?_ ?_ ?_; rotate_left; (focus rfl); (focus (intro u hSw; (try dsimp only at hSw); go_simp; (try with_reducible rfl); done)); (try simp only [Act.put, List.setIfInBounds_toArray, List.set_cons_zero, List.set_cons_succ])))
      refine planWp_nil ?_
      clear hHeld
      go_upto_region 4 with fail
      have eS0 : w3.cell? ⟨bx, 13, none⟩ = some (.int .u32 x.a) := H3.out.cell 13 _ (fun _ => rfl)
      have KEEP := Lib.hid (fun (V : World) (h : Chg [] w3 V) => (⟨h.keep eS0 (by simp), Lib.hid h⟩ : (fun V : World => V.cell? ⟨bx, 13, none⟩ = some (.int .u32 x.a) ∧ Hid (Chg [] w3 V)) V))
      clear eS0
      have hHeld : (fun V : World => V.cell? ⟨bx, 13, none⟩ = some (.int .u32 x.a) ∧ Hid (Chg [] w3 V)) (World.drew w3) := KEEP.out _ (Chg.refl _ _).drew
      refine wp_region_planT (fun V : World => V.cell? ⟨bx, 13, none⟩ = some (.int .u32 x.a) ∧ Hid (Chg [] w3 V)) 8 [(0, true, some 33), (1, true, some 34), (2, true, some 35), (3, true, some 36), (4, true, some 37), (5, true, some 38), (6, true, some 39), (7, true, some 40)] (by kernel_rfl) (by kernel_rfl) (by kernel_rfl) (by kernel_rfl) (by kernel_rfl) (fun d c a v w h => by cases d <;> exact h) hHeld ?_
      repeat (first | (refine planT_load (v := .agg #[.int .i64 x.k, .int .i64 x.w, .int .i64 x.s, .int .i64 x.c, .int .u32 x.st, .slice x.ia x.il x.ic, .int .i64 x.wr, .slice x.ra x.rl x.rc]) rfl rfl rfl 26 _ rfl _ rfl (fun u hSw => hSw.1) ?_; (try simp only [Act.put, List.setIfInBounds_toArray, List.set_cons_zero, List.set_cons_succ])) | (refine planT_read (v := ?_) rfl rfl ?_ ?_ ?_; rotate_left; (focus rfl); (focus (intro u hSw; (try dsimp only at hSw); go_simp; (try with_reducible rfl); done)); (try simp only [Act.put, List.setIfInBounds_toArray, List.set_cons_zero, List.set_cons_succ])))
      refine planT_last rfl ?_ (fun K hK => ?_)
      · rfl
      go_simp
      go_wp2_with (go_at_call 113; refine (Mark_any (x := { x with used := x.used, i := x.i + 1 }) x.a HA.out HU.out (H3.out.keep (Chg.refl _ _).drew)).mono ?_; rintro e w4 ⟨rfl, hx⟩; have H4 := Lib.hid hx; clear hx)
      refine hK.out _ _ ?_
      clear hK K hHeld KEEP
      have e14 := H4.out.cell 14 _ (fun _ => rfl)
      have f14 := H4.out.free 14
      go_wp2_with (first | (go_at_call 114; refine (Free_any (x := { x with used := bitm.markU x.used x.a, i := x.i + 1 }) (HTT.out _ _ _ _ _ H4.out) HU2.out H4.out).mono ?_; rintro e w5 ⟨rfl, rfl⟩; have H5 := Lib.hid (H4.out.put 14 (.int .u32 (bitm.freeU (bitm.markU x.used x.a))) { x with used := bitm.markU x.used x.a, i := x.i + 1, b := bitm.freeU (bitm.markU x.used x.a) } (fun _ => rfl))) | (go_at_call 90; refine (Go_any 2 H5.out).mono ?_; rintro e w6 ⟨rfl, hx⟩; have H6 := Lib.hid hx; clear hx))
      all_goals (first | (go_end0; exact ⟨rfl, H6.out⟩) | (refine bodyPost_ret (results_none rfl _ _ _) rfl ?_; exact ⟨rfl, H6.out⟩))
    · rw [if_neg hle]
      have HDEC : Hid (decide ((x.rl : Int) ≤ x.i + 1) = false) := Lib.hid (by rw [HII.out]; simpa using (by omega : ¬ (x.rl : Int) ≤ (iN : Int) + 1))
      clear hle
      go_enter Tryd.func91, Tryd.ntmps91
      go_wp2_with fail
      have hHeld : (fun V : World => V.cell? ⟨bx, 11, none⟩ = some (.int .i64 (iN : Int)) ∧ Hid (Chg (mb :: sv.ownBlock.toList) W V)) (World.drew W) := KEEP.out _ (Chg.refl _ _).drew
      refine wp_region_plan (fun V : World => V.cell? ⟨bx, 11, none⟩ = some (.int .i64 (iN : Int)) ∧ Hid (Chg (mb :: sv.ownBlock.toList) W V)) [(0, true, some 3), (1, true, some 4), (2, true, some 5), (3, true, some 6), (4, true, some 7), (5, true, some 8), (6, true, some 9), (7, true, some 10), (8, true, some 11), (9, false, some 12), (10, true, some 2)] (by kernel_rfl) (by kernel_rfl) (by kernel_rfl) (by kernel_rfl) (fun d c a v w h => by cases d <;> exact h) hHeld ?_
      repeat (first | (refine planWp_load (v := .agg #[.int .i64 x.k, .int .i64 x.w, .int .i64 x.s, .int .i64 x.c, .int .u32 x.st, .slice x.ia x.il x.ic, .int .i64 x.wr, .slice x.ra x.rl x.rc]) rfl rfl rfl 26 _ rfl _ rfl (fun u hSw => hSw.1) ?_; (try simp only [Act.put, List.setIfInBounds_toArray, List.set_cons_zero, List.set_cons_succ])) | (refine planWp_read (v := ?_) rfl rfl ?_ ?_ ?_; rotate_left; (focus rfl); (focus (intro u hSw; (try dsimp only at hSw); go_simp; (try with_reducible rfl); done)); (try simp only [Act.put, List.setIfInBounds_toArray, List.set_cons_zero, List.set_cons_succ])))
      refine planWp_do rfl rfl ?_ (fun K hK => ?_)
      · rfl
      go_simp
      go_wp2_with (go_at_call 98; refine (Read_at bN (1 + iN) HM.out HB.out HJ.out HN.out (H.out.keep (Chg.refl _ _).drew)).mono ?_; rintro e w1 ⟨rfl, hx⟩; rw [HVV.out]; have H1 := Lib.hid hx.1; have HC1 := Lib.hid ((Chg.refl _ W).drew.trans hx.2.2); clear hx)
      refine hK.out _ _ (KEEP.out _ HC1.out) (fun hHeld2 => ?_)
      clear hK K hHeld
      have hHeld := hHeld2
      clear hHeld2
      try simp only [Act.put, List.setIfInBounds_toArray, List.set_cons_zero, List.set_cons_succ]
      repeat (first | (refine planWp_load (v := .agg #[.int .i64 x.k, .int .i64 x.w, .int .i64 x.s, .int .i64 x.c, .int .u32 x.st, .slice x.ia x.il x.ic, .int .i64 x.wr, .slice x.ra x.rl x.rc]) rfl rfl rfl 26 _ rfl _ rfl (fun u hSw => hSw.1) ?_; (try simp only [Act.put, List.setIfInBounds_toArray, List.set_cons_zero, List.set_cons_succ])) | (refine planWp_read (v := ?_) rfl rfl ?_ ?_ ?_; rotate_left; (focus rfl); (focus (intro u hSw; (try dsimp only at hSw); go_simp; (try with_reducible rfl); done)); (try simp only [Act.put, List.setIfInBounds_toArray, List.set_cons_zero, List.set_cons_succ])))
      refine planWp_nil ?_
      clear hHeld KEEP
      go_upto_region 3 with fail
      have hHeld : (fun V : World => V.cell? ⟨bx, 7, none⟩ = some (.slice x.ra x.rl x.rc)) (World.drew w1) := (H1.out.keep (Chg.refl _ _).drew).cell 7 _ (fun _ => rfl)
      refine wp_region_plan (fun V : World => V.cell? ⟨bx, 7, none⟩ = some (.slice x.ra x.rl x.rc)) [(0, true, some 21), (1, true, some 22), (2, true, some 23), (3, true, some 24), (4, true, some 25), (5, true, some 26), (6, true, some 27), (7, true, some 28), (8, true, some 29), (9, true, some 30), (10, false, some 31), (11, true, some 32)] (by kernel_rfl) (by kernel_rfl) (by kernel_rfl) (by kernel_rfl) (fun d c a v w h => by cases d <;> exact h) hHeld ?_
      repeat (first | (refine planWp_load (v := .agg #[.int .i64 x.k, .int .i64 x.w, .int .i64 x.s, .int .i64 x.c, .int .u32 x.st, .slice x.ia x.il x.ic, .int .i64 x.wr, .slice x.ra x.rl x.rc]) rfl rfl rfl 26 _ rfl _ rfl (fun u hSw => hSw.1) ?_; (try simp only [Act.put, List.setIfInBounds_toArray, List.set_cons_zero, List.set_cons_succ])) | (refine planWp_read (v := ?_) rfl rfl ?_ ?_ ?_; rotate_left; (focus rfl); (focus (intro u hSw; (try dsimp only at hSw); go_simp; (try with_reducible rfl); done)); (try simp only [Act.put, List.setIfInBounds_toArray, List.set_cons_zero, List.set_cons_succ])))
      refine planWp_do rfl rfl ?_ (fun K hK => ?_)
      · rfl
      go_simp
      go_wp2_with (go_at_call 103; refine (Each_any (x := x) (x.rl : Int) HI.out (H1.out.keep (Chg.refl _ _).drew)).mono ?_; rintro e w3 ⟨he, hx⟩; rw [show e = .returned (.bool false) from he.trans (congrArg (fun b => Ending.returned (Value.bool b)) HDEC.out)]; clear he; have H3 := Lib.hid hx; clear hx)
      refine hK.out _ _ (H3.out.cell 7 _ (fun _ => rfl)) (fun hHeld2 => ?_)
      clear hK K hHeld
      have hHeld := hHeld2
      clear hHeld2
      try simp only [Act.put, List.setIfInBounds_toArray, List.set_cons_zero, List.set_cons_succ]
      repeat (first | (refine planWp_load (v := .agg #[.int .i64 x.k, .int .i64 x.w, .int .i64 x.s, .int .i64 x.c, .int .u32 x.st, .slice x.ia x.il x.ic, .int .i64 x.wr, .slice x.ra x.rl x.rc]) rfl rfl rfl 26 _ rfl _ rfl (fun u hSw => hSw.1) ?_; (try simp only [Act.put, List.setIfInBounds_toArray, List.set_cons_zero, List.set_cons_succ])) | (refine planWp_read (v := ?_) rfl rfl ?_ ?_ ?_; rotate_left; (focus rfl); (focus (intro u hSw; (try dsimp only at hSw); go_simp; (try with_reducible rfl); done)); (try simp only [Act.put, List.setIfInBounds_toArray, List.set_cons_zero, List.set_cons_succ])))
      refine planWp_nil ?_
      clear hHeld
      go_wp2_with fail
      refine bodyPost_ret (results_none rfl _ _ _) rfl ?_
      refine ⟨rfl, ?_⟩
      have h9 := H3.out
      rw [show (x : Core).i + 1 = (iN : Int) + 1 from by show x.i + 1 = _; rw [HII.out]] at h9
      exact h9
end Go.Proofs.YtapaolaemkhbdaaDoor.cab
