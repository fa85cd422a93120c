/- Package chen: what lies where, which slot is free. -/
import Derived.Test.YtapaolaemkhbdaaDoorSets
import Derived.Test.YtapaolaemkhbdaaDoorObjA
import Derived.Deep.Cut
namespace Go.Proofs.YtapaolaemkhbdaaDoor.chen
open Go Go.RowKit Go.Proofs.YtapaolaemkhbdaaDoor.kit Go.Proofs.YtapaolaemkhbdaaDoor.mem Go.Proofs.YtapaolaemkhbdaaDoor.rop Go.Proofs.YtapaolaemkhbdaaDoor.core Go.Proofs.YtapaolaemkhbdaaDoor.obj
set_option linter.unusedVariables false
set_option linter.unusedSimpArgs false
set_option maxRecDepth 20000

theorem mul_bd {c w m : Int} (hc : 0 ≤ c ∧ c ≤ m) (hw : 0 ≤ w ∧ w ≤ 8) (hm : m ≤ 16) : 0 ≤ c * w ∧ c * w ≤ m * w ∧ c * w ≤ 128 := by
  have h1 := Int.mul_nonneg hc.1 hw.1
  have h2 := Int.mul_le_mul_of_nonneg_right hc.2 hw.1
  have h3 := Int.mul_le_mul_of_nonneg_left hw.2 (show 0 ≤ m by omega)
  omega
theorem data_any (k w s c st : Int) (ia : Option Addr) (il ic : Nat) (wr : Int) (ra : Option Addr) (rl rc : Nat) (hrl : rl ≤ 100) (W : World) :
    Calls Tryd.prog 59 #[.agg #[.int .i64 k, .int .i64 w, .int .i64 s, .int .i64 c, .int .u32 st, .slice ia il ic, .int .i64 wr, .slice ra rl rc]] W fun e W' => e = .returned (.int .i64 ((1 + rl : Nat) : Int)) ∧ Chg [] W W' := by
  have k1 : IntKind.i64.wrap (1 + (rl : Int)) = ((1 + rl : Nat) : Int) := by rw [IntKind.wrap_i64]; omega
  clear hrl
  go_enter Tryd.func59, Tryd.ntmps59
  go_wp2
  go_ret
  exact ⟨rfl, (Chg.refl _ _).alloc _⟩
theorem slots_any (k w s c st : Int) (ia : Option Addr) (il ic : Nat) (wr : Int) (ra : Option Addr) (rl rc : Nat) (hrl : rl ≤ 100) (W : World) :
    Calls Tryd.prog 87 #[.agg #[.int .i64 k, .int .i64 w, .int .i64 s, .int .i64 c, .int .u32 st, .slice ia il ic, .int .i64 wr, .slice ra rl rc]] W fun e W' => e = .returned (.int .i64 ((rl : Int) + 2)) ∧ Chg [] W W' := by
  have k1 : IntKind.i64.wrap ((rl : Int) + 2) = (rl : Int) + 2 := by rw [IntKind.wrap_i64]; omega
  clear hrl
  go_enter Tryd.func87, Tryd.ntmps87
  go_wp2
  go_ret
  exact ⟨rfl, (Chg.refl _ _).alloc _⟩
set_option maxHeartbeats 1000000 in
theorem none_any {T : TypeId} {bx mb : Nat} {sv r0 : Value} {W0 W : World} {x : Core} {rec ws : List Int} {n : Int} (hrl : x.rl ≤ 100) (h : St T bx mb sv W0 r0 W x rec ws n) :
    Calls Tryd.prog 102 #[.pointer (some ⟨bx, 0, none⟩)] W fun e W' => e = .returned (.int .u32 ((x.rl : Int) + 2)) ∧ Chg [] W W' := by
  have H := Lib.hid h
  have k1 : IntKind.u32.wrap ((x.rl : Int) + 2) = ((x.rl : Int) + 2) := by rw [IntKind.wrap_u32]; omega
  have HSL := Lib.hid (fun V => slots_any x.k x.w x.s x.c x.st x.ia x.il x.ic x.wr x.ra x.rl x.rc hrl V)
  have e0 : W.cell? ⟨bx, 0, none⟩ = some (.int .i64 x.k) := H.out.cell 0 _ (fun _ => rfl)
  have e1 : W.cell? ⟨bx, 1, none⟩ = some (.int .i64 x.w) := H.out.cell 1 _ (fun _ => rfl)
  have e2 : W.cell? ⟨bx, 2, none⟩ = some (.int .i64 x.s) := H.out.cell 2 _ (fun _ => rfl)
  have e3 : W.cell? ⟨bx, 3, none⟩ = some (.int .i64 x.c) := H.out.cell 3 _ (fun _ => rfl)
  have e4 : W.cell? ⟨bx, 4, none⟩ = some (.int .u32 x.st) := H.out.cell 4 _ (fun _ => rfl)
  have e5 : W.cell? ⟨bx, 5, none⟩ = some (.slice x.ia x.il x.ic) := H.out.cell 5 _ (fun _ => rfl)
  have e6 : W.cell? ⟨bx, 6, none⟩ = some (.int .i64 x.wr) := H.out.cell 6 _ (fun _ => rfl)
  have e7 : W.cell? ⟨bx, 7, none⟩ = some (.slice x.ra x.rl x.rc) := H.out.cell 7 _ (fun _ => rfl)
  clear h hrl
  go_enter Tryd.func102, Tryd.ntmps102
  go_wp2_with (go_at_call 87; refine (HSL.out _).mono ?_; rintro e w1 ⟨rfl, hx⟩; have HC := Lib.hid hx; clear hx)
  go_ret
  exact ⟨rfl, HC.out⟩
/-- where the record of a slot begins -/
def place (x : Core) (sl : Int) : Nat := 1 + x.rl + (sl * x.w).toNat
set_option maxHeartbeats 2000000 in
theorem from_any {T : TypeId} {bx mb : Nat} {sv r0 : Value} {W0 W : World} {x : Core} {rec ws : List Int} {n : Int} (hsl : 0 ≤ x.b ∧ x.b ≤ 16) (hw : 1 ≤ x.w ∧ x.w ≤ 8) (hrl : x.rl ≤ 100) (h : St T bx mb sv W0 r0 W x rec ws n) :
    Calls Tryd.prog 100 #[.pointer (some ⟨bx, 0, none⟩)] W fun e W' => e = .returned (.int .i64 ((place x x.b : Nat) : Int)) ∧ Chg [] W W' := by
  have H := Lib.hid h
  have hb := mul_bd (c := x.b) (w := x.w) (m := 16) hsl ⟨by omega, hw.2⟩ (by omega)
  have k1 : IntKind.i64.wrap x.b = x.b := by rw [IntKind.wrap_i64]; omega
  have k2 : IntKind.i64.wrap (x.b * x.w) = x.b * x.w := by rw [IntKind.wrap_i64]; omega
  have k3 : IntKind.i64.wrap (((1 + x.rl : Nat) : Int) + x.b * x.w) = ((place x x.b : Nat) : Int) := by unfold place; rw [IntKind.wrap_i64]; omega
  have k4 : IntKind.i64.wrap ((1 + (x.rl : Int)) + x.b * x.w) = ((place x x.b : Nat) : Int) := by unfold place; rw [IntKind.wrap_i64]; omega
  have HDT := Lib.hid (fun V => data_any x.k x.w x.s x.c x.st x.ia x.il x.ic x.wr x.ra x.rl x.rc hrl V)
  have eS0 : W.cell? ⟨bx, 14, none⟩ = some (.int .u32 x.b) := H.out.cell 14 _ (fun _ => rfl)
  have eS1 : W.cell? ⟨bx, 1, none⟩ = some (.int .i64 x.w) := H.out.cell 1 _ (fun _ => rfl)
  have KEEP := Lib.hid (fun (V : World) (h : Chg [] W V) => (⟨H.out.loadO h (by simp), h.keep eS0 (by simp), h.keep eS1 (by simp), Lib.hid h⟩ : (fun V : World => (Instr.loadAt 26 (.pointer (some ⟨bx, 0, none⟩))).run Tryd.prog V = .ok (.agg #[.int .i64 x.k, .int .i64 x.w, .int .i64 x.s, .int .i64 x.c, .int .u32 x.st, .slice x.ia x.il x.ic, .int .i64 x.wr, .slice x.ra x.rl x.rc]) V ∧ V.cell? ⟨bx, 14, none⟩ = some (.int .u32 x.b) ∧ V.cell? ⟨bx, 1, none⟩ = some (.int .i64 x.w) ∧ Hid (Chg [] W V)) V))
  clear eS0 eS1
  generalize place x x.b = pl at *
  clear h hb hsl hw hrl
  go_enter Tryd.func100, Tryd.ntmps100
  go_wp2_with fail
  have hHeld : (fun V : World => (Instr.loadAt 26 (.pointer (some ⟨bx, 0, none⟩))).run Tryd.prog V = .ok (.agg #[.int .i64 x.k, .int .i64 x.w, .int .i64 x.s, .int .i64 x.c, .int .u32 x.st, .slice x.ia x.il x.ic, .int .i64 x.wr, .slice x.ra x.rl x.rc]) V ∧ V.cell? ⟨bx, 14, none⟩ = some (.int .u32 x.b) ∧ V.cell? ⟨bx, 1, none⟩ = some (.int .i64 x.w) ∧ Hid (Chg [] W V)) (World.drew W) := KEEP.out _ (Chg.refl _ _).drew
  refine wp_region_plan (fun V : World => (Instr.loadAt 26 (.pointer (some ⟨bx, 0, none⟩))).run Tryd.prog V = .ok (.agg #[.int .i64 x.k, .int .i64 x.w, .int .i64 x.s, .int .i64 x.c, .int .u32 x.st, .slice x.ia x.il x.ic, .int .i64 x.wr, .slice x.ra x.rl x.rc]) V ∧ V.cell? ⟨bx, 14, none⟩ = some (.int .u32 x.b) ∧ V.cell? ⟨bx, 1, none⟩ = some (.int .i64 x.w) ∧ Hid (Chg [] W V)) [(0, true, some 3), (1, true, some 4), (2, true, some 5), (3, true, some 6), (4, true, some 7), (6, true, some 9), (7, true, some 10), (8, true, some 11), (9, true, some 12), (10, true, some 13), (11, true, some 14), (12, true, some 15), (13, true, some 16), (14, true, some 17), (15, true, some 18), (16, true, some 19), (17, true, some 20), (18, true, some 21), (5, false, some 8), (19, true, some 22), (20, true, some 2)] (by kernel_rfl) (by kernel_rfl) (by kernel_rfl) (by kernel_rfl) (fun d c a v w h => by cases d <;> exact h) hHeld ?_
  repeat (first | (refine planWp_load (v := .agg #[.int .i64 x.k, .int .i64 x.w, .int .i64 x.s, .int .i64 x.c, .int .u32 x.st, .slice x.ia x.il x.ic, .int .i64 x.wr, .slice x.ra x.rl x.rc]) rfl rfl rfl 26 _ rfl _ rfl (fun u hSw => hSw.1) ?_; (try simp only [Act.put, List.setIfInBounds_toArray, List.set_cons_zero, List.set_cons_succ])) | (refine planWp_read (v := ?_) rfl rfl ?_ ?_ ?_; rotate_left; (focus rfl); (focus (intro u hSw; (try dsimp only at hSw); go_simp; (try with_reducible rfl); done)); (try simp only [Act.put, List.setIfInBounds_toArray, List.set_cons_zero, List.set_cons_succ])))
  refine planWp_do rfl rfl ?_ (fun K hK => ?_)
  · rfl
  go_simp
  go_wp2_with (go_at_call 59; refine (HDT.out _).mono ?_; rintro e w2 ⟨rfl, hx⟩; have HC2 := Lib.hid ((Chg.refl [] W).drew.trans hx); clear hx)
  refine hK.out _ _ (KEEP.out _ HC2.out) (fun hHeld2 => ?_)
  clear hK K hHeld
  have hHeld := hHeld2
  clear hHeld2
  try simp only [Act.put, List.setIfInBounds_toArray, List.set_cons_zero, List.set_cons_succ]
  repeat (first | (refine planWp_load (v := .agg #[.int .i64 x.k, .int .i64 x.w, .int .i64 x.s, .int .i64 x.c, .int .u32 x.st, .slice x.ia x.il x.ic, .int .i64 x.wr, .slice x.ra x.rl x.rc]) rfl rfl rfl 26 _ rfl _ rfl (fun u hSw => hSw.1) ?_; (try simp only [Act.put, List.setIfInBounds_toArray, List.set_cons_zero, List.set_cons_succ])) | (refine planWp_read (v := ?_) rfl rfl ?_ ?_ ?_; rotate_left; (focus rfl); (focus (intro u hSw; (try dsimp only at hSw); go_simp; (try with_reducible rfl); done)); (try simp only [Act.put, List.setIfInBounds_toArray, List.set_cons_zero, List.set_cons_succ])))
  refine planWp_nil ?_
  clear hHeld KEEP
  go_wp2_with fail
  go_ret
  exact ⟨rfl, HC2.out⟩
set_option maxHeartbeats 4000000 in
theorem scan_any {T : TypeId} {bx mb : Nat} {sv r0 : Value} {W0 W : World} {x : Core} {rec ws : List Int} {n : Int} (bN iN : Nat) (hT : ∀ V x' rec' ws' n', St T bx mb sv W0 r0 V x' rec' ws' n' → bitm.Tab V) (hm : x.m = .pointer (some ⟨mb, 0, none⟩)) (hb : x.base = (bN : Int)) (hn : 0 ≤ n ∧ n ≤ 1000000) (hi : x.i = (iN : Int)) (hil : iN < 100) (hrl : x.rl ≤ 100) (ha : 0 ≤ x.a ∧ x.a ≤ 4294967295) (hu : 0 ≤ x.used ∧ x.used < 2097152) (hj : bN + (1 + iN) < ws.length) (h : St T bx mb sv W0 r0 W x rec ws n) :
    Calls Tryd.prog 99 #[.pointer (some ⟨bx, 0, none⟩)] W fun e W' => e = .returned (.tuple #[]) ∧ St T bx mb sv W0 r0 W' (if x.rl ≤ iN + 1 then { x with used := bitm.markU (bitm.markU x.used (ws.getD (bN + (1 + iN)) 0)) x.a, b := bitm.freeU (bitm.markU (bitm.markU x.used (ws.getD (bN + (1 + iN)) 0)) x.a), phase := 2, i := 0 } else { x with used := (bitm.markU x.used (ws.getD (bN + (1 + iN)) 0)), i := (iN : Int) + 1 }) rec ws (n + 1) := by
  have H := Lib.hid h
  have HM := Lib.hid hm
  have HB := Lib.hid hb
  have HN := Lib.hid hn
  have NB : Hid (bx ∉ (mb :: sv.ownBlock.toList)) := Lib.hid (by obtain ⟨v, hp, he⟩ := h; simp; exact ⟨hp.ne, fun hh => hp.ns bx hh rfl⟩)
  obtain ⟨vv, hvv⟩ : ∃ vv, ws.getD (bN + (1 + iN)) 0 = vv := ⟨_, rfl⟩
  have hvb : 0 ≤ vv ∧ vv ≤ 4294967295 := by rw [← hvv]; exact u32_bd h.memory hj
  have HVV := Lib.hid hvv
  rw [hvv]
  have hadd : IntKind.i64.wrap (1 + (iN : Int)) = ((1 + iN : Nat) : Int) := by rw [IntKind.wrap_i64]; omega
  have HJ := Lib.hid hj
  have HA := Lib.hid ha
  have HTT := Lib.hid hT
  have HV1 := Lib.hid hvb
  have HU := Lib.hid hu
  have hm1 := bitm.markU_bd hu hvb.1
  have HUM := Lib.hid hm1
  have HUM2 := Lib.hid (bitm.markU_bd hm1 ha.1)
  have HI : Hid (0 ≤ x.i ∧ x.i ≤ 1000000) := Lib.hid (by omega)
  have HII := Lib.hid hi
  have eS0 : W.cell? ⟨bx, 11, none⟩ = some (.int .i64 (iN : Int)) := by rw [← hi]; exact H.out.cell 11 _ (fun _ => rfl)
  have KEEP := Lib.hid (fun (V : World) (h : Chg (mb :: sv.ownBlock.toList) W V) => (⟨h.keep eS0 NB.out, Lib.hid h⟩ : (fun V : World => V.cell? ⟨bx, 11, none⟩ = some (.int .i64 (iN : Int)) ∧ Hid (Chg (mb :: sv.ownBlock.toList) W V)) V))
  clear eS0
  clear h hm hb hn hj ha hrl hvv hT hi hvb hu hm1
  by_cases hle : x.rl ≤ iN + 1
  · rw [if_pos hle]
    have HDEC : Hid (decide ((x.rl : Int) ≤ x.i + 1) = true) := Lib.hid (by rw [HII.out]; simpa using (by omega : (x.rl : Int) ≤ (iN : Int) + 1))
    clear hle
    go_enter Tryd.func99, Tryd.ntmps99
    go_wp2_with fail
    have hHeld : (fun V : World => V.cell? ⟨bx, 11, none⟩ = some (.int .i64 (iN : Int)) ∧ Hid (Chg (mb :: sv.ownBlock.toList) W V)) (World.drew W) := KEEP.out _ (Chg.refl _ _).drew
    refine wp_region_planT (fun V : World => V.cell? ⟨bx, 11, none⟩ = some (.int .i64 (iN : Int)) ∧ Hid (Chg (mb :: sv.ownBlock.toList) W V)) 13 [(0, true, some 2), (1, true, some 3), (2, true, some 4), (3, true, some 5), (4, true, some 6), (5, true, some 7), (6, true, some 8), (7, true, some 9), (8, true, some 10), (9, true, some 11), (10, true, some 12), (11, true, some 13), (12, false, some 14)] (by kernel_rfl) (by kernel_rfl) (by kernel_rfl) (by kernel_rfl) (by kernel_rfl) (fun d c a v w h => by cases d <;> exact h) hHeld ?_
    repeat (first | (refine planT_load (v := .agg #[.int .i64 x.k, .int .i64 x.w, .int .i64 x.s, .int .i64 x.c, .int .u32 x.st, .slice x.ia x.il x.ic, .int .i64 x.wr, .slice x.ra x.rl x.rc]) rfl rfl rfl 26 _ rfl _ rfl (fun u hSw => hSw.1) ?_; (try simp only [Act.put, List.setIfInBounds_toArray, List.set_cons_zero, List.set_cons_succ])) | (refine planT_read (v := ?_) rfl rfl ?_ ?_ ?_; rotate_left; (focus rfl); (focus (intro u hSw; (try dsimp only at hSw); go_simp; (try with_reducible rfl); done)); (try simp only [Act.put, List.setIfInBounds_toArray, List.set_cons_zero, List.set_cons_succ])))
    refine planT_do rfl rfl ?_ (fun K hK => ?_)
    · rfl
    go_simp
    go_wp2_with (go_at_call 98; refine (Read_at bN (1 + iN) HM.out HB.out HJ.out HN.out (H.out.keep (Chg.refl _ _).drew)).mono ?_; rintro e w1 ⟨rfl, hx⟩; rw [HVV.out]; have H1 := Lib.hid hx.1; have HC1 := Lib.hid ((Chg.refl _ W).drew.trans hx.2.2); clear hx)
    refine hK.out _ _ (KEEP.out _ HC1.out) (fun hHeld2 => ?_)
    clear hK K hHeld
    have hHeld := hHeld2
    clear hHeld2
    try simp only [Act.put, List.setIfInBounds_toArray, List.set_cons_zero, List.set_cons_succ]
    repeat (first | (refine planT_load (v := .agg #[.int .i64 x.k, .int .i64 x.w, .int .i64 x.s, .int .i64 x.c, .int .u32 x.st, .slice x.ia x.il x.ic, .int .i64 x.wr, .slice x.ra x.rl x.rc]) rfl rfl rfl 26 _ rfl _ rfl (fun u hSw => hSw.1) ?_; (try simp only [Act.put, List.setIfInBounds_toArray, List.set_cons_zero, List.set_cons_succ])) | (refine planT_read (v := ?_) rfl rfl ?_ ?_ ?_; rotate_left; (focus rfl); (focus (intro u hSw; (try dsimp only at hSw); go_simp; (try with_reducible rfl); done)); (try simp only [Act.put, List.setIfInBounds_toArray, List.set_cons_zero, List.set_cons_succ])))
    refine planT_last rfl ?_ (fun K hK => ?_)
    · rfl
    go_simp
    go_wp2_with (go_at_call 113; refine (Mark_any vv HV1.out HU.out H1.out).mono ?_; rintro e w2 ⟨rfl, hx⟩; have H2 := Lib.hid hx; clear hx)
    refine hK.out _ _ ?_
    clear hK K hHeld KEEP
    go_upto_region 1 with fail
    have hHeld : (fun V : World => V.cell? ⟨bx, 7, none⟩ = some (.slice x.ra x.rl x.rc)) (World.drew w2) := (H2.out.keep (Chg.refl _ _).drew).cell 7 _ (fun _ => rfl)
    refine wp_region_plan (fun V : World => V.cell? ⟨bx, 7, none⟩ = some (.slice x.ra x.rl x.rc)) [(0, true, some 16), (1, true, some 17), (2, true, some 18), (3, true, some 19), (4, true, some 20), (5, true, some 21), (6, true, some 22), (7, true, some 23), (8, true, some 24), (9, true, some 25), (10, false, some 26), (11, true, some 27)] (by kernel_rfl) (by kernel_rfl) (by kernel_rfl) (by kernel_rfl) (fun d c a v w h => by cases d <;> exact h) hHeld ?_
    repeat (first | (refine planWp_load (v := .agg #[.int .i64 x.k, .int .i64 x.w, .int .i64 x.s, .int .i64 x.c, .int .u32 x.st, .slice x.ia x.il x.ic, .int .i64 x.wr, .slice x.ra x.rl x.rc]) rfl rfl rfl 26 _ rfl _ rfl (fun u hSw => hSw.1) ?_; (try simp only [Act.put, List.setIfInBounds_toArray, List.set_cons_zero, List.set_cons_succ])) | (refine planWp_read (v := ?_) rfl rfl ?_ ?_ ?_; rotate_left; (focus rfl); (focus (intro u hSw; (try dsimp only at hSw); go_simp; (try with_reducible rfl); done)); (try simp only [Act.put, List.setIfInBounds_toArray, List.set_cons_zero, List.set_cons_succ])))
    refine planWp_do rfl rfl ?_ (fun K hK => ?_)
    · rfl
    go_simp
    go_wp2_with (go_at_call 103; refine (Each_any (x := { x with used := bitm.markU x.used vv }) (x.rl : Int) HI.out (H2.out.keep (Chg.refl _ _).drew)).mono ?_; rintro e w3 ⟨he, hx⟩; rw [show e = .returned (.bool true) from he.trans (congrArg (fun b => Ending.returned (Value.bool b)) HDEC.out)]; clear he; have H3 := Lib.hid hx; clear hx)
    refine hK.out _ _ (H3.out.cell 7 _ (fun _ => rfl)) (fun hHeld2 => ?_)
    clear hK K hHeld
    have hHeld := hHeld2
    clear hHeld2
    try simp only [Act.put, List.setIfInBounds_toArray, List.set_cons_zero, List.set_cons_succ]
    repeat (first | (refine planWp_load (v := .agg #[.int .i64 x.k, .int .i64 x.w, .int .i64 x.s, .int .i64 x.c, .int .u32 x.st, .slice x.ia x.il x.ic, .int .i64 x.wr, .slice x.ra x.rl x.rc]) rfl rfl rfl 26 _ rfl _ rfl (fun u hSw => hSw.1) ?_; (try simp only [Act.put, List.setIfInBounds_toArray, List.set_cons_zero, List.set_cons_succ])) | (refine planWp_read (v := ?_) rfl rfl ?_ ?_ ?_; rotate_left; (focus rfl); (focus (intro u hSw; (try dsimp only at hSw); go_simp; (try with_reducible rfl); done)); (try simp only [Act.put, List.setIfInBounds_toArray, List.set_cons_zero, List.set_cons_succ])))
    refine planWp_nil ?_
    clear hHeld
    go_upto_region 2 with fail
    have eS0 : w3.cell? ⟨bx, 13, none⟩ = some (.int .u32 x.a) := H3.out.cell 13 _ (fun _ => rfl)
    have KEEP := Lib.hid (fun (V : World) (h : Chg [] w3 V) => (⟨h.keep eS0 (by simp), Lib.hid h⟩ : (fun V : World => V.cell? ⟨bx, 13, none⟩ = some (.int .u32 x.a) ∧ Hid (Chg [] w3 V)) V))
    clear eS0
    have hHeld : (fun V : World => V.cell? ⟨bx, 13, none⟩ = some (.int .u32 x.a) ∧ Hid (Chg [] w3 V)) (World.drew w3) := KEEP.out _ (Chg.refl _ _).drew
    refine wp_region_planT (fun V : World => V.cell? ⟨bx, 13, none⟩ = some (.int .u32 x.a) ∧ Hid (Chg [] w3 V)) 8 [(0, true, some 28), (1, true, some 29), (2, true, some 30), (3, true, some 31), (4, true, some 32), (5, true, some 33), (6, true, some 34), (7, true, some 35)] (by kernel_rfl) (by kernel_rfl) (by kernel_rfl) (by kernel_rfl) (by kernel_rfl) (fun d c a v w h => by cases d <;> exact h) hHeld ?_
    repeat (first | (refine planT_load (v := .agg #[.int .i64 x.k, .int .i64 x.w, .int .i64 x.s, .int .i64 x.c, .int .u32 x.st, .slice x.ia x.il x.ic, .int .i64 x.wr, .slice x.ra x.rl x.rc]) rfl rfl rfl 26 _ rfl _ rfl (fun u hSw => hSw.1) ?_; (try simp only [Act.put, List.setIfInBounds_toArray, List.set_cons_zero, List.set_cons_succ])) | (refine planT_read (v := ?_) rfl rfl ?_ ?_ ?_; rotate_left; (focus rfl); (focus (intro u hSw; (try dsimp only at hSw); go_simp; (try with_reducible rfl); done)); (try simp only [Act.put, List.setIfInBounds_toArray, List.set_cons_zero, List.set_cons_succ])))
    refine planT_last rfl ?_ (fun K hK => ?_)
    · rfl
    go_simp
    go_wp2_with (go_at_call 113; refine (Mark_any (x := { x with used := bitm.markU x.used vv, i := x.i + 1 }) x.a HA.out HUM.out (H3.out.keep (Chg.refl _ _).drew)).mono ?_; rintro e w4 ⟨rfl, hx⟩; have H4 := Lib.hid hx; clear hx)
    refine hK.out _ _ ?_
    clear hK K hHeld KEEP
    have e14 := H4.out.cell 14 _ (fun _ => rfl)
    have f14 := H4.out.free 14
    go_wp2_with (first | (go_at_call 114; refine (Free_any (x := { x with used := bitm.markU (bitm.markU x.used vv) x.a, i := x.i + 1 }) (HTT.out _ _ _ _ _ H4.out) HUM2.out H4.out).mono ?_; rintro e w5 ⟨rfl, rfl⟩; have H5 := Lib.hid (H4.out.put 14 (.int .u32 (bitm.freeU (bitm.markU (bitm.markU x.used vv) x.a))) { x with used := bitm.markU (bitm.markU x.used vv) x.a, i := x.i + 1, b := bitm.freeU (bitm.markU (bitm.markU x.used vv) x.a) } (fun _ => rfl))) | (go_at_call 90; refine (Go_any 2 H5.out).mono ?_; rintro e w6 ⟨rfl, hx⟩; have H6 := Lib.hid hx; clear hx))
    all_goals (first | (go_end0; exact ⟨rfl, H6.out⟩) | (refine bodyPost_ret (results_none rfl _ _ _) rfl ?_; exact ⟨rfl, H6.out⟩))
  · rw [if_neg hle]
    have HDEC : Hid (decide ((x.rl : Int) ≤ x.i + 1) = false) := Lib.hid (by rw [HII.out]; simpa using (by omega : ¬ (x.rl : Int) ≤ (iN : Int) + 1))
    clear hle
    go_enter Tryd.func99, Tryd.ntmps99
    go_wp2_with fail
    have hHeld : (fun V : World => V.cell? ⟨bx, 11, none⟩ = some (.int .i64 (iN : Int)) ∧ Hid (Chg (mb :: sv.ownBlock.toList) W V)) (World.drew W) := KEEP.out _ (Chg.refl _ _).drew
    refine wp_region_planT (fun V : World => V.cell? ⟨bx, 11, none⟩ = some (.int .i64 (iN : Int)) ∧ Hid (Chg (mb :: sv.ownBlock.toList) W V)) 13 [(0, true, some 2), (1, true, some 3), (2, true, some 4), (3, true, some 5), (4, true, some 6), (5, true, some 7), (6, true, some 8), (7, true, some 9), (8, true, some 10), (9, true, some 11), (10, true, some 12), (11, true, some 13), (12, false, some 14)] (by kernel_rfl) (by kernel_rfl) (by kernel_rfl) (by kernel_rfl) (by kernel_rfl) (fun d c a v w h => by cases d <;> exact h) hHeld ?_
    repeat (first | (refine planT_load (v := .agg #[.int .i64 x.k, .int .i64 x.w, .int .i64 x.s, .int .i64 x.c, .int .u32 x.st, .slice x.ia x.il x.ic, .int .i64 x.wr, .slice x.ra x.rl x.rc]) rfl rfl rfl 26 _ rfl _ rfl (fun u hSw => hSw.1) ?_; (try simp only [Act.put, List.setIfInBounds_toArray, List.set_cons_zero, List.set_cons_succ])) | (refine planT_read (v := ?_) rfl rfl ?_ ?_ ?_; rotate_left; (focus rfl); (focus (intro u hSw; (try dsimp only at hSw); go_simp; (try with_reducible rfl); done)); (try simp only [Act.put, List.setIfInBounds_toArray, List.set_cons_zero, List.set_cons_succ])))
    refine planT_do rfl rfl ?_ (fun K hK => ?_)
    · rfl
    go_simp
    go_wp2_with (go_at_call 98; refine (Read_at bN (1 + iN) HM.out HB.out HJ.out HN.out (H.out.keep (Chg.refl _ _).drew)).mono ?_; rintro e w1 ⟨rfl, hx⟩; rw [HVV.out]; have H1 := Lib.hid hx.1; have HC1 := Lib.hid ((Chg.refl _ W).drew.trans hx.2.2); clear hx)
    refine hK.out _ _ (KEEP.out _ HC1.out) (fun hHeld2 => ?_)
    clear hK K hHeld
    have hHeld := hHeld2
    clear hHeld2
    try simp only [Act.put, List.setIfInBounds_toArray, List.set_cons_zero, List.set_cons_succ]
    repeat (first | (refine planT_load (v := .agg #[.int .i64 x.k, .int .i64 x.w, .int .i64 x.s, .int .i64 x.c, .int .u32 x.st, .slice x.ia x.il x.ic, .int .i64 x.wr, .slice x.ra x.rl x.rc]) rfl rfl rfl 26 _ rfl _ rfl (fun u hSw => hSw.1) ?_; (try simp only [Act.put, List.setIfInBounds_toArray, List.set_cons_zero, List.set_cons_succ])) | (refine planT_read (v := ?_) rfl rfl ?_ ?_ ?_; rotate_left; (focus rfl); (focus (intro u hSw; (try dsimp only at hSw); go_simp; (try with_reducible rfl); done)); (try simp only [Act.put, List.setIfInBounds_toArray, List.set_cons_zero, List.set_cons_succ])))
    refine planT_last rfl ?_ (fun K hK => ?_)
    · rfl
    go_simp
    go_wp2_with (go_at_call 113; refine (Mark_any vv HV1.out HU.out H1.out).mono ?_; rintro e w2 ⟨rfl, hx⟩; have H2 := Lib.hid hx; clear hx)
    refine hK.out _ _ ?_
    clear hK K hHeld KEEP
    go_upto_region 1 with fail
    have hHeld : (fun V : World => V.cell? ⟨bx, 7, none⟩ = some (.slice x.ra x.rl x.rc)) (World.drew w2) := (H2.out.keep (Chg.refl _ _).drew).cell 7 _ (fun _ => rfl)
    refine wp_region_plan (fun V : World => V.cell? ⟨bx, 7, none⟩ = some (.slice x.ra x.rl x.rc)) [(0, true, some 16), (1, true, some 17), (2, true, some 18), (3, true, some 19), (4, true, some 20), (5, true, some 21), (6, true, some 22), (7, true, some 23), (8, true, some 24), (9, true, some 25), (10, false, some 26), (11, true, some 27)] (by kernel_rfl) (by kernel_rfl) (by kernel_rfl) (by kernel_rfl) (fun d c a v w h => by cases d <;> exact h) hHeld ?_
    repeat (first | (refine planWp_load (v := .agg #[.int .i64 x.k, .int .i64 x.w, .int .i64 x.s, .int .i64 x.c, .int .u32 x.st, .slice x.ia x.il x.ic, .int .i64 x.wr, .slice x.ra x.rl x.rc]) rfl rfl rfl 26 _ rfl _ rfl (fun u hSw => hSw.1) ?_; (try simp only [Act.put, List.setIfInBounds_toArray, List.set_cons_zero, List.set_cons_succ])) | (refine planWp_read (v := ?_) rfl rfl ?_ ?_ ?_; rotate_left; (focus rfl); (focus (intro u hSw; (try dsimp only at hSw); go_simp; (try with_reducible rfl); done)); (try simp only [Act.put, List.setIfInBounds_toArray, List.set_cons_zero, List.set_cons_succ])))
    refine planWp_do rfl rfl ?_ (fun K hK => ?_)
    · rfl
    go_simp
    go_wp2_with (go_at_call 103; refine (Each_any (x := { x with used := bitm.markU x.used vv }) (x.rl : Int) HI.out (H2.out.keep (Chg.refl _ _).drew)).mono ?_; rintro e w3 ⟨he, hx⟩; rw [show e = .returned (.bool false) from he.trans (congrArg (fun b => Ending.returned (Value.bool b)) HDEC.out)]; clear he; have H3 := Lib.hid hx; clear hx)
    refine hK.out _ _ (H3.out.cell 7 _ (fun _ => rfl)) (fun hHeld2 => ?_)
    clear hK K hHeld
    have hHeld := hHeld2
    clear hHeld2
    try simp only [Act.put, List.setIfInBounds_toArray, List.set_cons_zero, List.set_cons_succ]
    repeat (first | (refine planWp_load (v := .agg #[.int .i64 x.k, .int .i64 x.w, .int .i64 x.s, .int .i64 x.c, .int .u32 x.st, .slice x.ia x.il x.ic, .int .i64 x.wr, .slice x.ra x.rl x.rc]) rfl rfl rfl 26 _ rfl _ rfl (fun u hSw => hSw.1) ?_; (try simp only [Act.put, List.setIfInBounds_toArray, List.set_cons_zero, List.set_cons_succ])) | (refine planWp_read (v := ?_) rfl rfl ?_ ?_ ?_; rotate_left; (focus rfl); (focus (intro u hSw; (try dsimp only at hSw); go_simp; (try with_reducible rfl); done)); (try simp only [Act.put, List.setIfInBounds_toArray, List.set_cons_zero, List.set_cons_succ])))
    refine planWp_nil ?_
    clear hHeld
    go_wp2_with fail
    refine bodyPost_ret (results_none rfl _ _ _) rfl ?_
    refine ⟨rfl, ?_⟩
    have h9 := H3.out
    rw [show ({ x with used := bitm.markU x.used vv } : Core).i + 1 = (iN : Int) + 1 from by show x.i + 1 = _; rw [HII.out]] at h9
    exact h9
end Go.Proofs.YtapaolaemkhbdaaDoor.chen
