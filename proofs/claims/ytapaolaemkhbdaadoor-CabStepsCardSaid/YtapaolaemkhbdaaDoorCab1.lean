/- Package cab: the steps of a write and of a read. -/
import Derived.Test.YtapaolaemkhbdaaDoorCab0
namespace Go.Proofs.YtapaolaemkhbdaaDoor.cab
open Go Go.RowKit Go.Proofs.YtapaolaemkhbdaaDoor.kit Go.Proofs.YtapaolaemkhbdaaDoor.mem Go.Proofs.YtapaolaemkhbdaaDoor.rop Go.Proofs.YtapaolaemkhbdaaDoor.core Go.Proofs.YtapaolaemkhbdaaDoor.obj
set_option linter.unusedVariables false
set_option linter.unusedSimpArgs false
set_option maxRecDepth 20000

set_option maxHeartbeats 4000000 in
theorem write_0 {T : TypeId} {bx mb : Nat} {sv r0 : Value} {W0 W : World} {x : Core} {rec ws : List Int} {n : Int} (bN : Nat) (hm : x.m = .pointer (some ⟨mb, 0, none⟩)) (hb : x.base = (bN : Int)) (hn : 0 ≤ n ∧ n ≤ 1000000) (hs : 1 ≤ x.s ∧ x.s ≤ 16) (hj : bN + 0 < ws.length) (hph : x.phase = 0) (h : St T bx mb sv W0 r0 W x rec ws n) :
    Calls Tryd.prog 62 #[.pointer (some ⟨bx, 0, none⟩)] W fun e W' => e = .returned (.tuple #[]) ∧ St T bx mb sv W0 r0 W' { x with a := ws.getD (bN + 0) 0 % x.s, phase := 1, i := 0 } rec ws (n + 1) := by
  have H := Lib.hid h
  have HM := Lib.hid hm
  have HB := Lib.hid hb
  have HN := Lib.hid hn
  obtain ⟨vv, hvv⟩ : ∃ vv, ws.getD (bN + 0) 0 % x.s = vv := ⟨_, rfl⟩
  have HVV := Lib.hid hvv
  rw [hvv]
  have e10 : W.cell? ⟨bx, 10, none⟩ = some (.int .i64 0) := by rw [← hph]; exact H.out.cell 10 _ (fun _ => rfl)
  have HJ := Lib.hid hj
  have HS1 := Lib.hid hs
  clear h hph hm hb hn hj hs hvv
  go_enter Tryd.func62, Tryd.ntmps62
  go_wp2_with (first | (go_at_call 89; refine (newest_any bN HM.out HB.out HN.out HJ.out HS1.out H.out).mono ?_; rintro e w1 ⟨rfl, hx⟩; rw [HVV.out]; have e13 : w1.cell? ⟨bx, 13, none⟩ = some (.int .u32 x.a) := hx.1.cell 13 _ (fun _ => rfl); have f13 := hx.1.free 13; have H1 := Lib.hid hx.1; have HC1 := Lib.hid ((Chg.refl _ W).trans hx.2); clear hx) | (go_at_call 90; refine (Go_any 1 (H1.out.put 13 (.int .u32 vv) ({ x with a := vv }) (fun _ => rfl))).mono ?_; rintro e w2 ⟨rfl, hx⟩; have H2 := Lib.hid hx; clear hx))
  all_goals (first | (go_end0; exact ⟨rfl, H2.out⟩) | (refine bodyPost_ret (results_none rfl _ _ _) rfl ?_; exact ⟨rfl, H2.out⟩))
/-- a reader's mark is looked at -/
def markM (x : Core) (u : Int) : Int := if 0 < u then bitm.markU x.used (u - 1) else x.used
def scanC (x : Core) (u : Int) : Core := if x.rl ≤ x.i.toNat + 1 then { x with used := bitm.markU (if 0 < u then bitm.markU x.used (u - 1) else x.used) x.a, b := bitm.freeU (bitm.markU (if 0 < u then bitm.markU x.used (u - 1) else x.used) x.a), phase := 2, i := 0 } else { x with used := (if 0 < u then bitm.markU x.used (u - 1) else x.used), i := (x.i.toNat : Int) + 1 }
set_option maxHeartbeats 2000000 in
theorem write_1 {T : TypeId} {bx mb : Nat} {sv r0 : Value} {W0 W : World} {x : Core} {rec ws : List Int} {n : Int} (bN iN : Nat) (hT : ∀ V x' rec' ws' n', St T bx mb sv W0 r0 V x' rec' ws' n' → bitm.Tab V) (hm : x.m = .pointer (some ⟨mb, 0, none⟩)) (hb : x.base = (bN : Int)) (hn : 0 ≤ n ∧ n ≤ 1000000) (hi : x.i = (iN : Int)) (hil : iN < 100) (hrl : x.rl ≤ 100) (ha : 0 ≤ x.a ∧ x.a ≤ 4294967295) (hu : 0 ≤ x.used ∧ x.used < 2097152) (hj : bN + (1 + iN) < ws.length) (hph : x.phase = 1) (h : St T bx mb sv W0 r0 W x rec ws n) :
    Calls Tryd.prog 62 #[.pointer (some ⟨bx, 0, none⟩)] W fun e W' => e = .returned (.tuple #[]) ∧ St T bx mb sv W0 r0 W' (scanC x (ws.getD (bN + (1 + iN)) 0)) rec ws (n + 1) := by
  have H := Lib.hid h
  have hsc := scan_any bN iN hT hm hb hn hi hil hrl ha hu hj h
  have heq : (if x.rl ≤ iN + 1 then { x with used := bitm.markU (if 0 < ws.getD (bN + (1 + iN)) 0 then bitm.markU x.used (ws.getD (bN + (1 + iN)) 0 - 1) else x.used) x.a, b := bitm.freeU (bitm.markU (if 0 < ws.getD (bN + (1 + iN)) 0 then bitm.markU x.used (ws.getD (bN + (1 + iN)) 0 - 1) else x.used) x.a), phase := 2, i := 0 } else { x with used := (if 0 < ws.getD (bN + (1 + iN)) 0 then bitm.markU x.used (ws.getD (bN + (1 + iN)) 0 - 1) else x.used), i := (iN : Int) + 1 } : Core) = scanC x (ws.getD (bN + (1 + iN)) 0) := by
    unfold scanC; rw [hi]; simp only [Int.toNat_natCast]
  rw [heq] at hsc
  have HSC := Lib.hid hsc
  have e10 : W.cell? ⟨bx, 10, none⟩ = some (.int .i64 1) := by rw [← hph]; exact H.out.cell 10 _ (fun _ => rfl)
  clear h hph hm hb hn hj ha hrl hT hi hil hu hsc heq
  generalize scanC x (ws.getD (bN + (1 + iN)) 0) = y at *
  go_enter Tryd.func62, Tryd.ntmps62
  go_wp2_with (go_at_call 91; refine HSC.out.mono ?_; rintro e w1 ⟨rfl, hx⟩; have H6 := Lib.hid hx; clear hx)
  all_goals (first | (go_end0; exact ⟨rfl, H6.out⟩) | (refine bodyPost_ret (results_none rfl _ _ _) rfl ?_; exact ⟨rfl, H6.out⟩))
set_option maxHeartbeats 4000000 in
theorem write_2 {T : TypeId} {bx mb : Nat} {sv r0 : Value} {W0 W : World} {x : Core} {rec ws : List Int} {n : Int} (bN : Nat) (hm : x.m = .pointer (some ⟨mb, 0, none⟩)) (hb : x.base = (bN : Int)) (hn : 0 ≤ n ∧ n ≤ 1000000) (wN iN fN : Nat) (hwb : 1 ≤ x.w ∧ x.w ≤ 8) (hrl : x.rl ≤ 100) (hsl : 0 ≤ x.b ∧ x.b ≤ 16) (hf : place x x.b = fN) (hw : x.w = (wN : Int)) (hi : x.i = (iN : Int)) (hil : iN < 8) (hop : x.op = 2 ∨ x.op = 3) (hir : iN < rec.length) (hj : bN + (fN + iN) < ws.length) (hph : x.phase = 2) (h : St T bx mb sv W0 r0 W x rec ws n) :
    Calls Tryd.prog 62 #[.pointer (some ⟨bx, 0, none⟩)] W fun e W' => e = .returned (.tuple #[]) ∧ St T bx mb sv W0 r0 W' (if wN ≤ iN + 1 then { x with phase := 3, i := 0 } else { x with i := (iN : Int) + 1 }) rec (ws.set (bN + (fN + iN)) (rec.getD iN 0)) (n + 1) := by
  have H := Lib.hid h
  have HM := Lib.hid hm
  have HB := Lib.hid hb
  have HN := Lib.hid hn
  have e10 : W.cell? ⟨bx, 10, none⟩ = some (.int .i64 2) := by rw [← hph]; exact H.out.cell 10 _ (fun _ => rfl)
  have HW := Lib.hid hw
  have HWB := Lib.hid hwb
  have HSL := Lib.hid hsl
  have HRLL := Lib.hid hrl
  have HF := Lib.hid hf
  have HI := Lib.hid hi
  have HOP := Lib.hid hop
  have HIR := Lib.hid hir
  have HJ := Lib.hid hj
  have eS0 : W.cell? ⟨bx, 14, none⟩ = some (.int .u32 x.b) := H.out.cell 14 _ (fun _ => rfl)
  have KEEP := Lib.hid (fun (V : World) (h : Chg [] W V) => (⟨h.keep eS0 (by simp), Lib.hid h⟩ : (fun V : World => V.cell? ⟨bx, 14, none⟩ = some (.int .u32 x.b) ∧ Hid (Chg [] W V)) V))
  clear eS0
  clear h hph hm hb hn hj hw hi hop hir hwb hsl hf hrl
  by_cases hle : wN ≤ iN + 1
  · have HDEC : Hid (decide ((wN : Int) ≤ (iN : Int) + 1) = true) := Lib.hid (by simpa using (by omega : (wN : Int) ≤ (iN : Int) + 1))
    rw [if_pos hle]
    clear hle
    go_enter Tryd.func62, Tryd.ntmps62
    go_wp2_with fail
    have hHeld : (fun V : World => V.cell? ⟨bx, 14, none⟩ = some (.int .u32 x.b) ∧ Hid (Chg [] W V)) (World.drew W) := KEEP.out _ (Chg.refl _ _).drew
    refine wp_region_planT (fun V : World => V.cell? ⟨bx, 14, none⟩ = some (.int .u32 x.b) ∧ Hid (Chg [] W V)) 10 [(0, true, some 38), (1, true, some 39), (2, true, some 40), (3, true, some 41), (4, true, some 42), (5, true, some 43), (6, true, some 44), (7, true, some 45), (8, true, some 46), (9, false, some 47)] (by kernel_rfl) (by kernel_rfl) (by kernel_rfl) (by kernel_rfl) (by kernel_rfl) (fun d c a v w h => by cases d <;> exact h) hHeld ?_
    repeat (first | (refine planT_load (v := .agg #[.int .i64 x.k, .int .i64 x.w, .int .i64 x.s, .int .i64 x.c, .int .u32 x.st, .slice x.ia x.il x.ic, .int .i64 x.wr, .slice x.ra x.rl x.rc]) rfl rfl rfl 26 _ rfl _ rfl (fun u hSw => hSw.1) ?_; (try simp only [Act.put, List.setIfInBounds_toArray, List.set_cons_zero, List.set_cons_succ])) | (refine planT_read (v := ?_) rfl rfl ?_ ?_ ?_; rotate_left; (focus rfl); (focus (intro u hSw; (try dsimp only at hSw); go_simp; (try with_reducible rfl); done)); (try simp only [Act.put, List.setIfInBounds_toArray, List.set_cons_zero, List.set_cons_succ])))
    refine planT_do rfl rfl ?_ (fun K hK => ?_)
    · rfl
    go_simp
    go_wp2_with (go_at_call 93; refine (from_any x.b HSL.out HWB.out HRLL.out (H.out.keep (Chg.refl _ _).drew)).mono ?_; rintro e w1 ⟨rfl, hx⟩; rw [HF.out]; have HC1 := Lib.hid ((Chg.refl [] W).drew.trans hx); have H1 := Lib.hid (H.out.keep HC1.out); clear hx)
    refine hK.out _ _ (KEEP.out _ HC1.out) (fun hHeld2 => ?_)
    clear hK K hHeld
    have hHeld := hHeld2
    clear hHeld2
    try simp only [Act.put, List.setIfInBounds_toArray, List.set_cons_zero, List.set_cons_succ]
    repeat (first | (refine planT_load (v := .agg #[.int .i64 x.k, .int .i64 x.w, .int .i64 x.s, .int .i64 x.c, .int .u32 x.st, .slice x.ia x.il x.ic, .int .i64 x.wr, .slice x.ra x.rl x.rc]) rfl rfl rfl 26 _ rfl _ rfl (fun u hSw => hSw.1) ?_; (try simp only [Act.put, List.setIfInBounds_toArray, List.set_cons_zero, List.set_cons_succ])) | (refine planT_read (v := ?_) rfl rfl ?_ ?_ ?_; rotate_left; (focus rfl); (focus (intro u hSw; (try dsimp only at hSw); go_simp; (try with_reducible rfl); done)); (try simp only [Act.put, List.setIfInBounds_toArray, List.set_cons_zero, List.set_cons_succ])))
    refine planT_last rfl ?_ (fun K hK => ?_)
    · rfl
    go_simp
    go_wp2_with (go_at_call 92; refine (Word_write bN fN iN HOP.out HM.out HB.out HI.out HIR.out HJ.out HN.out H1.out).mono ?_; rintro e w4 ⟨rfl, hx⟩; rw [HW.out, HDEC.out]; have H4 := Lib.hid hx; clear hx)
    refine hK.out _ _ ?_
    clear hK K hHeld KEEP
    go_wp2_with (go_at_call 90; refine (Go_any 3 H4.out).mono ?_; rintro e w6 ⟨rfl, hx⟩; have H6 := Lib.hid hx; clear hx)
    all_goals (first | (go_end0; exact ⟨rfl, H6.out⟩) | (refine bodyPost_ret (results_none rfl _ _ _) rfl ?_; exact ⟨rfl, H6.out⟩))
  · have HDEC : Hid (decide ((wN : Int) ≤ (iN : Int) + 1) = false) := Lib.hid (by simpa using (by omega : ¬ (wN : Int) ≤ (iN : Int) + 1))
    rw [if_neg hle]
    clear hle
    go_enter Tryd.func62, Tryd.ntmps62
    go_wp2_with fail
    have hHeld : (fun V : World => V.cell? ⟨bx, 14, none⟩ = some (.int .u32 x.b) ∧ Hid (Chg [] W V)) (World.drew W) := KEEP.out _ (Chg.refl _ _).drew
    refine wp_region_planT (fun V : World => V.cell? ⟨bx, 14, none⟩ = some (.int .u32 x.b) ∧ Hid (Chg [] W V)) 10 [(0, true, some 38), (1, true, some 39), (2, true, some 40), (3, true, some 41), (4, true, some 42), (5, true, some 43), (6, true, some 44), (7, true, some 45), (8, true, some 46), (9, false, some 47)] (by kernel_rfl) (by kernel_rfl) (by kernel_rfl) (by kernel_rfl) (by kernel_rfl) (fun d c a v w h => by cases d <;> exact h) hHeld ?_
    repeat (first | (refine planT_load (v := .agg #[.int .i64 x.k, .int .i64 x.w, .int .i64 x.s, .int .i64 x.c, .int .u32 x.st, .slice x.ia x.il x.ic, .int .i64 x.wr, .slice x.ra x.rl x.rc]) rfl rfl rfl 26 _ rfl _ rfl (fun u hSw => hSw.1) ?_; (try simp only [Act.put, List.setIfInBounds_toArray, List.set_cons_zero, List.set_cons_succ])) | (refine planT_read (v := ?_) rfl rfl ?_ ?_ ?_; rotate_left; (focus rfl); (focus (intro u hSw; (try dsimp only at hSw); go_simp; (try with_reducible rfl); done)); (try simp only [Act.put, List.setIfInBounds_toArray, List.set_cons_zero, List.set_cons_succ])))
    refine planT_do rfl rfl ?_ (fun K hK => ?_)
    · rfl
    go_simp
    go_wp2_with (go_at_call 93; refine (from_any x.b HSL.out HWB.out HRLL.out (H.out.keep (Chg.refl _ _).drew)).mono ?_; rintro e w1 ⟨rfl, hx⟩; rw [HF.out]; have HC1 := Lib.hid ((Chg.refl [] W).drew.trans hx); have H1 := Lib.hid (H.out.keep HC1.out); clear hx)
    refine hK.out _ _ (KEEP.out _ HC1.out) (fun hHeld2 => ?_)
    clear hK K hHeld
    have hHeld := hHeld2
    clear hHeld2
    try simp only [Act.put, List.setIfInBounds_toArray, List.set_cons_zero, List.set_cons_succ]
    repeat (first | (refine planT_load (v := .agg #[.int .i64 x.k, .int .i64 x.w, .int .i64 x.s, .int .i64 x.c, .int .u32 x.st, .slice x.ia x.il x.ic, .int .i64 x.wr, .slice x.ra x.rl x.rc]) rfl rfl rfl 26 _ rfl _ rfl (fun u hSw => hSw.1) ?_; (try simp only [Act.put, List.setIfInBounds_toArray, List.set_cons_zero, List.set_cons_succ])) | (refine planT_read (v := ?_) rfl rfl ?_ ?_ ?_; rotate_left; (focus rfl); (focus (intro u hSw; (try dsimp only at hSw); go_simp; (try with_reducible rfl); done)); (try simp only [Act.put, List.setIfInBounds_toArray, List.set_cons_zero, List.set_cons_succ])))
    refine planT_last rfl ?_ (fun K hK => ?_)
    · rfl
    go_simp
    go_wp2_with (go_at_call 92; refine (Word_write bN fN iN HOP.out HM.out HB.out HI.out HIR.out HJ.out HN.out H1.out).mono ?_; rintro e w4 ⟨rfl, hx⟩; rw [HW.out, HDEC.out]; have H4 := Lib.hid hx; clear hx)
    refine hK.out _ _ ?_
    clear hK K hHeld KEEP
    go_wp2_with fail
    all_goals (first | (go_end0; exact ⟨rfl, H4.out⟩) | (refine bodyPost_ret (results_none rfl _ _ _) rfl ?_; exact ⟨rfl, H4.out⟩))
set_option maxHeartbeats 4000000 in
theorem write_3 {T : TypeId} {bx mb : Nat} {sv r0 : Value} {W0 W : World} {x : Core} {rec ws : List Int} {n : Int} (bN : Nat) (hm : x.m = .pointer (some ⟨mb, 0, none⟩)) (hb : x.base = (bN : Int)) (hn : 0 ≤ n ∧ n ≤ 1000000) (hbb : 0 ≤ x.b ∧ x.b ≤ 4294967295) (hj : bN + 0 < ws.length) (hph : x.phase = 3) (h : St T bx mb sv W0 r0 W x rec ws n) :
    Calls Tryd.prog 62 #[.pointer (some ⟨bx, 0, none⟩)] W fun e W' => e = .returned (.tuple #[]) ∧ St T bx mb sv W0 r0 W' { x with over := true, code := 0 } (endRec x.op 0 rec) (ws.set (bN + 0) x.b) (n + 1) := by
  have H := Lib.hid h
  have HM := Lib.hid hm
  have HB := Lib.hid hb
  have HN := Lib.hid hn
  have e10 : W.cell? ⟨bx, 10, none⟩ = some (.int .i64 3) := by rw [← hph]; exact H.out.cell 10 _ (fun _ => rfl)
  have G0 : Hid (W.cell? ⟨bx, 14, none⟩ = some (.int .u32 x.b)) := Lib.hid (by skip; exact H.out.cell 14 _ (fun _ => rfl))
  have HA := Lib.hid hbb
  have HJ := Lib.hid hj
  clear h hph hm hb hn hj hbb
  go_enter Tryd.func62, Tryd.ntmps62
  go_wp2_with fail
  refine wp_region_tail 8 (by kernel_rfl) (by kernel_rfl) ?_
  intro W3 hW3
  have g0 : W3.cell? ⟨bx, 14, none⟩ = some (.int .u32 x.b) := by rw [hW3.out]; exact G0.out
  have H3 : Hid (St T bx mb sv W0 r0 W3 x rec ws n) := Lib.hid (by rw [hW3.out]; exact H.out.keep (Chg.refl _ _).drew)
  clear hW3
  simp only [List.take_succ_cons, List.take_zero, List.drop_succ_cons, List.drop_zero]
  repeat still_step
  refine wpStill_nil ?_
  go_wp2_with (first | (go_at_call 94; refine (Write_at bN 0 x.b HA.out HM.out HB.out HJ.out HN.out H3.out).mono ?_; rintro e w4 ⟨rfl, hx⟩; have H4 := Lib.hid hx; clear hx) | (go_at_call 95; refine (End_any 0 H4.out).mono ?_; rintro e w2 ⟨rfl, hx⟩; have H6 := Lib.hid hx; clear hx))
  go_end0
  exact ⟨rfl, H6.out⟩
set_option maxHeartbeats 4000000 in
theorem read_0 {T : TypeId} {bx mb : Nat} {sv r0 : Value} {W0 W : World} {x : Core} {rec ws : List Int} {n : Int} (bN : Nat) (hm : x.m = .pointer (some ⟨mb, 0, none⟩)) (hb : x.base = (bN : Int)) (hn : 0 ≤ n ∧ n ≤ 1000000) (rN : Nat) (hrd : x.reader = (rN : Int)) (hrb : rN ≤ 100) (hs : 1 ≤ x.s ∧ x.s ≤ 16) (hj : bN + 0 < ws.length) (hph : x.phase = 0) (h : St T bx mb sv W0 r0 W x rec ws n) :
    Calls Tryd.prog 63 #[.pointer (some ⟨bx, 0, none⟩)] W fun e W' => e = .returned (.tuple #[]) ∧ St T bx mb sv W0 r0 W' { x with a := ws.getD (bN + 0) 0 % x.s, phase := 1, i := 0 } rec ws (n + 1) := by
  have H := Lib.hid h
  have HM := Lib.hid hm
  have HB := Lib.hid hb
  have HN := Lib.hid hn
  obtain ⟨vv, hvv⟩ : ∃ vv, ws.getD (bN + 0) 0 % x.s = vv := ⟨_, rfl⟩
  have HVV := Lib.hid hvv
  rw [hvv]
  have e10 : W.cell? ⟨bx, 10, none⟩ = some (.int .i64 0) := by rw [← hph]; exact H.out.cell 10 _ (fun _ => rfl)
  have e9 : W.cell? ⟨bx, 9, none⟩ = some (.int .i64 (rN : Int)) := by rw [← hrd]; exact H.out.cell 9 _ (fun _ => rfl)
  have hown : IntKind.i64.wrap (1 + (rN : Int)) = ((1 + rN : Nat) : Int) := by rw [IntKind.wrap_i64]; omega
  have HJ := Lib.hid hj
  have HS1 := Lib.hid hs
  clear h hph hm hb hn hj hs hvv hrd hrb
  go_enter Tryd.func63, Tryd.ntmps63
  go_wp2_with (first | (go_at_call 89; refine (newest_any bN HM.out HB.out HN.out HJ.out HS1.out H.out).mono ?_; rintro e w1 ⟨rfl, hx⟩; rw [HVV.out]; have e13 : w1.cell? ⟨bx, 13, none⟩ = some (.int .u32 x.a) := hx.1.cell 13 _ (fun _ => rfl); have f13 := hx.1.free 13; have H1 := Lib.hid hx.1; have HC1 := Lib.hid ((Chg.refl _ W).trans hx.2); clear hx) | (go_at_call 90; refine (Go_any 1 (H1.out.put 13 (.int .u32 vv) ({ x with a := vv }) (fun _ => rfl))).mono ?_; rintro e w2 ⟨rfl, hx⟩; have H2 := Lib.hid hx; clear hx))
  all_goals (first | (go_end0; exact ⟨rfl, H2.out⟩) | (refine bodyPost_ret (results_none rfl _ _ _) rfl ?_; exact ⟨rfl, H2.out⟩))
set_option maxHeartbeats 4000000 in
theorem read_1 {T : TypeId} {bx mb : Nat} {sv r0 : Value} {W0 W : World} {x : Core} {rec ws : List Int} {n : Int} (bN : Nat) (hm : x.m = .pointer (some ⟨mb, 0, none⟩)) (hb : x.base = (bN : Int)) (hn : 0 ≤ n ∧ n ≤ 1000000) (rN : Nat) (hrd : x.reader = (rN : Int)) (hrb : rN ≤ 100) (ha : 0 ≤ x.a ∧ x.a ≤ 4294967295) (hj : bN + (1 + rN) < ws.length) (hph : x.phase = 1) (h : St T bx mb sv W0 r0 W x rec ws n) :
    Calls Tryd.prog 63 #[.pointer (some ⟨bx, 0, none⟩)] W fun e W' => e = .returned (.tuple #[]) ∧ St T bx mb sv W0 r0 W' { x with phase := 2, i := 0 } rec (ws.set (bN + (1 + rN)) ((x.a + 1) % 4294967296)) (n + 1) := by
  have H := Lib.hid h
  have HM := Lib.hid hm
  have HB := Lib.hid hb
  have HN := Lib.hid hn
  have e10 : W.cell? ⟨bx, 10, none⟩ = some (.int .i64 1) := by rw [← hph]; exact H.out.cell 10 _ (fun _ => rfl)
  have e9 : W.cell? ⟨bx, 9, none⟩ = some (.int .i64 (rN : Int)) := by rw [← hrd]; exact H.out.cell 9 _ (fun _ => rfl)
  have hown : IntKind.i64.wrap (1 + (rN : Int)) = ((1 + rN : Nat) : Int) := by rw [IntKind.wrap_i64]; omega
  have hw32 : IntKind.u32.wrap (x.a + 1) = (x.a + 1) % 4294967296 := by rw [IntKind.wrap_u32]
  have HU : Hid (0 ≤ (x.a + 1) % 4294967296 ∧ (x.a + 1) % 4294967296 ≤ 4294967295) := Lib.hid (by omega)
  have HJ := Lib.hid hj
  have eS0 : W.cell? ⟨bx, 13, none⟩ = some (.int .u32 x.a) := H.out.cell 13 _ (fun _ => rfl)
  have KEEP := Lib.hid (fun (V : World) (h : Chg [] W V) => (⟨h.keep eS0 (by simp), Lib.hid h⟩ : (fun V : World => V.cell? ⟨bx, 13, none⟩ = some (.int .u32 x.a) ∧ Hid (Chg [] W V)) V))
  clear eS0
  clear h hph hm hb hn hj ha hrd hrb
  go_enter Tryd.func63, Tryd.ntmps63
  go_wp2_with fail
  have hHeld : (fun V : World => V.cell? ⟨bx, 13, none⟩ = some (.int .u32 x.a) ∧ Hid (Chg [] W V)) (World.drew W) := KEEP.out _ (Chg.refl _ _).drew
  refine wp_region_planT (fun V : World => V.cell? ⟨bx, 13, none⟩ = some (.int .u32 x.a) ∧ Hid (Chg [] W V)) 10 [(0, true, some 43), (1, true, some 44), (2, true, some 45), (3, true, some 46), (4, true, some 47), (5, true, some 48), (6, true, some 49), (7, true, some 50), (8, true, some 51), (9, true, some 52)] (by kernel_rfl) (by kernel_rfl) (by kernel_rfl) (by kernel_rfl) (by kernel_rfl) (fun d c a v w h => by cases d <;> exact h) hHeld ?_
  repeat (first | (refine planT_load (v := .agg #[.int .i64 x.k, .int .i64 x.w, .int .i64 x.s, .int .i64 x.c, .int .u32 x.st, .slice x.ia x.il x.ic, .int .i64 x.wr, .slice x.ra x.rl x.rc]) rfl rfl rfl 26 _ rfl _ rfl (fun u hSw => hSw.1) ?_; (try simp only [Act.put, List.setIfInBounds_toArray, List.set_cons_zero, List.set_cons_succ])) | (refine planT_read (v := ?_) rfl rfl ?_ ?_ ?_; rotate_left; (focus rfl); (focus (intro u hSw; (try dsimp only at hSw); go_simp; (try with_reducible rfl); done)); (try simp only [Act.put, List.setIfInBounds_toArray, List.set_cons_zero, List.set_cons_succ])))
  refine planT_last rfl ?_ (fun K hK => ?_)
  · rfl
  go_simp
  go_wp2_with (go_at_call 94; refine (Write_at bN (1 + rN) ((x.a + 1) % 4294967296) HU.out HM.out HB.out HJ.out HN.out (H.out.keep (Chg.refl _ _).drew)).mono ?_; rintro e w4 ⟨rfl, hx⟩; have H4 := Lib.hid hx; clear hx)
  refine hK.out _ _ ?_
  clear hK K hHeld KEEP
  go_wp2_with (go_at_call 90; refine (Go_any 2 H4.out).mono ?_; rintro e w6 ⟨rfl, hx⟩; have H6 := Lib.hid hx; clear hx)
  all_goals (first | (go_end0; exact ⟨rfl, H6.out⟩) | (refine bodyPost_ret (results_none rfl _ _ _) rfl ?_; exact ⟨rfl, H6.out⟩))
/-- an attempt has failed -/
def failC (x : Core) : Core := if x.c ≤ x.tries + 1 then { x with tries := x.tries + 1, phase := 4, i := 0, b := 1 } else { x with tries := x.tries + 1, phase := 0, i := 0 }
set_option maxHeartbeats 4000000 in
theorem read_2 {T : TypeId} {bx mb : Nat} {sv r0 : Value} {W0 W : World} {x : Core} {rec ws : List Int} {n : Int} (bN : Nat) (hm : x.m = .pointer (some ⟨mb, 0, none⟩)) (hb : x.base = (bN : Int)) (hn : 0 ≤ n ∧ n ≤ 1000000) (rN : Nat) (hrd : x.reader = (rN : Int)) (hrb : rN ≤ 100) (ht : 0 ≤ x.tries ∧ x.tries ≤ 1000000) (hs : 1 ≤ x.s ∧ x.s ≤ 16) (hj : bN + 0 < ws.length) (hph : x.phase = 2) (h : St T bx mb sv W0 r0 W x rec ws n) :
    Calls Tryd.prog 63 #[.pointer (some ⟨bx, 0, none⟩)] W fun e W' => e = .returned (.tuple #[]) ∧ St T bx mb sv W0 r0 W' (if (ws.getD (bN + 0) 0 % x.s) = x.a then { x with phase := 3, i := 0 } else failC x) (if (ws.getD (bN + 0) 0 % x.s) = x.a then rec else []) ws (n + 1) := by
  have H := Lib.hid h
  have HM := Lib.hid hm
  have HB := Lib.hid hb
  have HN := Lib.hid hn
  have NB : Hid (bx ∉ (mb :: sv.ownBlock.toList)) := Lib.hid (by obtain ⟨v, hp, he⟩ := h; simp; exact ⟨hp.ne, fun hh => hp.ns bx hh rfl⟩)
  obtain ⟨vv, hvv⟩ : ∃ vv, ws.getD (bN + 0) 0 % x.s = vv := ⟨_, rfl⟩
  have HVV := Lib.hid hvv
  rw [hvv]
  have e10 : W.cell? ⟨bx, 10, none⟩ = some (.int .i64 2) := by rw [← hph]; exact H.out.cell 10 _ (fun _ => rfl)
  have e9 : W.cell? ⟨bx, 9, none⟩ = some (.int .i64 (rN : Int)) := by rw [← hrd]; exact H.out.cell 9 _ (fun _ => rfl)
  have hown : IntKind.i64.wrap (1 + (rN : Int)) = ((1 + rN : Nat) : Int) := by rw [IntKind.wrap_i64]; omega
  have HJ := Lib.hid hj
  have HS1 := Lib.hid hs
  have HT := Lib.hid ht
  have eS0 : W.cell? ⟨bx, 13, none⟩ = some (.int .u32 x.a) := H.out.cell 13 _ (fun _ => rfl)
  have KEEP := Lib.hid (fun (V : World) (h : Chg (mb :: sv.ownBlock.toList) W V) => (⟨h.keep eS0 NB.out, Lib.hid h⟩ : (fun V : World => V.cell? ⟨bx, 13, none⟩ = some (.int .u32 x.a) ∧ Hid (Chg (mb :: sv.ownBlock.toList) W V)) V))
  clear eS0
  clear h hph hm hb hn hj hs hvv ht hrd hrb
  by_cases hle : vv = x.a
  · have hb1 : (vv == x.a) = true := by simpa using hle
    rw [if_pos hle, if_pos hle]
    clear hle
    go_enter Tryd.func63, Tryd.ntmps63
    go_wp2_with fail
    have hHeld : (fun V : World => V.cell? ⟨bx, 13, none⟩ = some (.int .u32 x.a) ∧ Hid (Chg (mb :: sv.ownBlock.toList) W V)) (World.drew W) := KEEP.out _ (Chg.refl _ _).drew
    refine wp_region_plan (fun V : World => V.cell? ⟨bx, 13, none⟩ = some (.int .u32 x.a) ∧ Hid (Chg (mb :: sv.ownBlock.toList) W V)) [(0, true, some 60), (2, true, some 62), (3, true, some 63), (4, true, some 64), (5, true, some 65), (6, true, some 66), (1, false, some 61), (7, true, some 67)] (by kernel_rfl) (by kernel_rfl) (by kernel_rfl) (by kernel_rfl) (fun d c a v w h => by cases d <;> exact h) hHeld ?_
    repeat (first | (refine planWp_load (v := .agg #[.int .i64 x.k, .int .i64 x.w, .int .i64 x.s, .int .i64 x.c, .int .u32 x.st, .slice x.ia x.il x.ic, .int .i64 x.wr, .slice x.ra x.rl x.rc]) rfl rfl rfl 26 _ rfl _ rfl (fun u hSw => hSw.1) ?_; (try simp only [Act.put, List.setIfInBounds_toArray, List.set_cons_zero, List.set_cons_succ])) | (refine planWp_read (v := ?_) rfl rfl ?_ ?_ ?_; rotate_left; (focus rfl); (focus (intro u hSw; (try dsimp only at hSw); go_simp; (try with_reducible rfl); done)); (try simp only [Act.put, List.setIfInBounds_toArray, List.set_cons_zero, List.set_cons_succ])))
    refine planWp_do rfl rfl ?_ (fun K hK => ?_)
    · rfl
    go_simp
    go_wp2_with (go_at_call 89; refine (newest_any bN HM.out HB.out HN.out HJ.out HS1.out (H.out.keep (Chg.refl _ _).drew)).mono ?_; rintro e w1 ⟨rfl, hx⟩; rw [HVV.out]; have H1 := Lib.hid hx.1; have HC1 := Lib.hid ((Chg.refl _ W).drew.trans hx.2); clear hx)
    refine hK.out _ _ (KEEP.out _ HC1.out) (fun hHeld2 => ?_)
    clear hK K hHeld
    have hHeld := hHeld2
    clear hHeld2
    try simp only [Act.put, List.setIfInBounds_toArray, List.set_cons_zero, List.set_cons_succ]
    repeat (first | (refine planWp_load (v := .agg #[.int .i64 x.k, .int .i64 x.w, .int .i64 x.s, .int .i64 x.c, .int .u32 x.st, .slice x.ia x.il x.ic, .int .i64 x.wr, .slice x.ra x.rl x.rc]) rfl rfl rfl 26 _ rfl _ rfl (fun u hSw => hSw.1) ?_; (try simp only [Act.put, List.setIfInBounds_toArray, List.set_cons_zero, List.set_cons_succ])) | (refine planWp_read (v := ?_) rfl rfl ?_ ?_ ?_; rotate_left; (focus rfl); (focus (intro u hSw; (try dsimp only at hSw); go_simp; (try with_reducible rfl); done)); (try simp only [Act.put, List.setIfInBounds_toArray, List.set_cons_zero, List.set_cons_succ])))
    refine planWp_nil ?_
    clear hHeld KEEP
    go_wp2_with (go_at_call 90; refine (Go_any 3 H1.out).mono ?_; rintro e w6 ⟨rfl, hx⟩; have H6 := Lib.hid hx; clear hx)
    all_goals (first | (go_end0; exact ⟨rfl, H6.out⟩) | (refine bodyPost_ret (results_none rfl _ _ _) rfl ?_; exact ⟨rfl, H6.out⟩))
  · have hb1 : (vv == x.a) = false := by simpa using hle
    rw [if_neg hle, if_neg hle]
    clear hle
    by_cases hc : x.c ≤ x.tries + 1
    · have HDEC : Hid (decide (x.c ≤ x.tries + 1) = true) := Lib.hid (by simpa using hc)
      have HF : Hid (failC x = { x with tries := x.tries + 1, phase := 4, i := 0, b := 1 }) := Lib.hid (if_pos hc)
      rw [HF.out]
      clear hc
      go_enter Tryd.func63, Tryd.ntmps63
      go_wp2_with fail
      have hHeld : (fun V : World => V.cell? ⟨bx, 13, none⟩ = some (.int .u32 x.a) ∧ Hid (Chg (mb :: sv.ownBlock.toList) W V)) (World.drew W) := KEEP.out _ (Chg.refl _ _).drew
      refine wp_region_plan (fun V : World => V.cell? ⟨bx, 13, none⟩ = some (.int .u32 x.a) ∧ Hid (Chg (mb :: sv.ownBlock.toList) W V)) [(0, true, some 60), (2, true, some 62), (3, true, some 63), (4, true, some 64), (5, true, some 65), (6, true, some 66), (1, false, some 61), (7, true, some 67)] (by kernel_rfl) (by kernel_rfl) (by kernel_rfl) (by kernel_rfl) (fun d c a v w h => by cases d <;> exact h) hHeld ?_
      repeat (first | (refine planWp_load (v := .agg #[.int .i64 x.k, .int .i64 x.w, .int .i64 x.s, .int .i64 x.c, .int .u32 x.st, .slice x.ia x.il x.ic, .int .i64 x.wr, .slice x.ra x.rl x.rc]) rfl rfl rfl 26 _ rfl _ rfl (fun u hSw => hSw.1) ?_; (try simp only [Act.put, List.setIfInBounds_toArray, List.set_cons_zero, List.set_cons_succ])) | (refine planWp_read (v := ?_) rfl rfl ?_ ?_ ?_; rotate_left; (focus rfl); (focus (intro u hSw; (try dsimp only at hSw); go_simp; (try with_reducible rfl); done)); (try simp only [Act.put, List.setIfInBounds_toArray, List.set_cons_zero, List.set_cons_succ])))
      refine planWp_do rfl rfl ?_ (fun K hK => ?_)
      · rfl
      go_simp
      go_wp2_with (go_at_call 89; refine (newest_any bN HM.out HB.out HN.out HJ.out HS1.out (H.out.keep (Chg.refl _ _).drew)).mono ?_; rintro e w1 ⟨rfl, hx⟩; rw [HVV.out]; have H1 := Lib.hid hx.1; have HC1 := Lib.hid ((Chg.refl _ W).drew.trans hx.2); clear hx)
      refine hK.out _ _ (KEEP.out _ HC1.out) (fun hHeld2 => ?_)
      clear hK K hHeld
      have hHeld := hHeld2
      clear hHeld2
      try simp only [Act.put, List.setIfInBounds_toArray, List.set_cons_zero, List.set_cons_succ]
      repeat (first | (refine planWp_load (v := .agg #[.int .i64 x.k, .int .i64 x.w, .int .i64 x.s, .int .i64 x.c, .int .u32 x.st, .slice x.ia x.il x.ic, .int .i64 x.wr, .slice x.ra x.rl x.rc]) rfl rfl rfl 26 _ rfl _ rfl (fun u hSw => hSw.1) ?_; (try simp only [Act.put, List.setIfInBounds_toArray, List.set_cons_zero, List.set_cons_succ])) | (refine planWp_read (v := ?_) rfl rfl ?_ ?_ ?_; rotate_left; (focus rfl); (focus (intro u hSw; (try dsimp only at hSw); go_simp; (try with_reducible rfl); done)); (try simp only [Act.put, List.setIfInBounds_toArray, List.set_cons_zero, List.set_cons_succ])))
      refine planWp_nil ?_
      clear hHeld KEEP
      go_wp2_with (first | (go_at_call 96; refine (Fail_any HT.out H1.out).mono ?_; rintro e w5 ⟨rfl, hx⟩; rw [HDEC.out]; have e14 : w5.cell? ⟨bx, 14, none⟩ = some (.int .u32 x.b) := hx.cell 14 _ (fun _ => rfl); have f14 := hx.free 14; have H5 := Lib.hid (hx.put 14 (.int .u32 1) { x with tries := x.tries + 1, phase := 0, i := 0, b := 1 } (fun _ => rfl)); clear hx) | (go_at_call 90; refine (Go_any 4 H5.out).mono ?_; rintro e w6 ⟨rfl, hx⟩; have H6 := Lib.hid hx; clear hx))
      all_goals (first | (go_end0; exact ⟨rfl, H6.out⟩) | (refine bodyPost_ret (results_none rfl _ _ _) rfl ?_; exact ⟨rfl, H6.out⟩))
    · have HDEC : Hid (decide (x.c ≤ x.tries + 1) = false) := Lib.hid (by simpa using hc)
      have HF : Hid (failC x = { x with tries := x.tries + 1, phase := 0, i := 0 }) := Lib.hid (if_neg hc)
      rw [HF.out]
      clear hc
      go_enter Tryd.func63, Tryd.ntmps63
      go_wp2_with fail
      have hHeld : (fun V : World => V.cell? ⟨bx, 13, none⟩ = some (.int .u32 x.a) ∧ Hid (Chg (mb :: sv.ownBlock.toList) W V)) (World.drew W) := KEEP.out _ (Chg.refl _ _).drew
      refine wp_region_plan (fun V : World => V.cell? ⟨bx, 13, none⟩ = some (.int .u32 x.a) ∧ Hid (Chg (mb :: sv.ownBlock.toList) W V)) [(0, true, some 60), (2, true, some 62), (3, true, some 63), (4, true, some 64), (5, true, some 65), (6, true, some 66), (1, false, some 61), (7, true, some 67)] (by kernel_rfl) (by kernel_rfl) (by kernel_rfl) (by kernel_rfl) (fun d c a v w h => by cases d <;> exact h) hHeld ?_
      repeat (first | (refine planWp_load (v := .agg #[.int .i64 x.k, .int .i64 x.w, .int .i64 x.s, .int .i64 x.c, .int .u32 x.st, .slice x.ia x.il x.ic, .int .i64 x.wr, .slice x.ra x.rl x.rc]) rfl rfl rfl 26 _ rfl _ rfl (fun u hSw => hSw.1) ?_; (try simp only [Act.put, List.setIfInBounds_toArray, List.set_cons_zero, List.set_cons_succ])) | (refine planWp_read (v := ?_) rfl rfl ?_ ?_ ?_; rotate_left; (focus rfl); (focus (intro u hSw; (try dsimp only at hSw); go_simp; (try with_reducible rfl); done)); (try simp only [Act.put, List.setIfInBounds_toArray, List.set_cons_zero, List.set_cons_succ])))
      refine planWp_do rfl rfl ?_ (fun K hK => ?_)
      · rfl
      go_simp
      go_wp2_with (go_at_call 89; refine (newest_any bN HM.out HB.out HN.out HJ.out HS1.out (H.out.keep (Chg.refl _ _).drew)).mono ?_; rintro e w1 ⟨rfl, hx⟩; rw [HVV.out]; have H1 := Lib.hid hx.1; have HC1 := Lib.hid ((Chg.refl _ W).drew.trans hx.2); clear hx)
      refine hK.out _ _ (KEEP.out _ HC1.out) (fun hHeld2 => ?_)
      clear hK K hHeld
      have hHeld := hHeld2
      clear hHeld2
      try simp only [Act.put, List.setIfInBounds_toArray, List.set_cons_zero, List.set_cons_succ]
      repeat (first | (refine planWp_load (v := .agg #[.int .i64 x.k, .int .i64 x.w, .int .i64 x.s, .int .i64 x.c, .int .u32 x.st, .slice x.ia x.il x.ic, .int .i64 x.wr, .slice x.ra x.rl x.rc]) rfl rfl rfl 26 _ rfl _ rfl (fun u hSw => hSw.1) ?_; (try simp only [Act.put, List.setIfInBounds_toArray, List.set_cons_zero, List.set_cons_succ])) | (refine planWp_read (v := ?_) rfl rfl ?_ ?_ ?_; rotate_left; (focus rfl); (focus (intro u hSw; (try dsimp only at hSw); go_simp; (try with_reducible rfl); done)); (try simp only [Act.put, List.setIfInBounds_toArray, List.set_cons_zero, List.set_cons_succ])))
      refine planWp_nil ?_
      clear hHeld KEEP
      go_wp2_with (go_at_call 96; refine (Fail_any HT.out H1.out).mono ?_; rintro e w5 ⟨rfl, hx⟩; rw [HDEC.out]; have H6 := Lib.hid hx; clear hx)
      all_goals (first | (go_end0; exact ⟨rfl, H6.out⟩) | (refine bodyPost_ret (results_none rfl _ _ _) rfl ?_; exact ⟨rfl, H6.out⟩))
set_option maxHeartbeats 4000000 in
theorem read_3 {T : TypeId} {bx mb : Nat} {sv r0 : Value} {W0 W : World} {x : Core} {rec ws : List Int} {n : Int} (bN : Nat) (hm : x.m = .pointer (some ⟨mb, 0, none⟩)) (hb : x.base = (bN : Int)) (hn : 0 ≤ n ∧ n ≤ 1000000) (rN : Nat) (hrd : x.reader = (rN : Int)) (hrb : rN ≤ 100) (wN iN fN : Nat) (hwb : 1 ≤ x.w ∧ x.w ≤ 8) (hrl : x.rl ≤ 100) (hsl : 0 ≤ x.a ∧ x.a ≤ 16) (hf : place x x.a = fN) (hw : x.w = (wN : Int)) (hi : x.i = (iN : Int)) (hil : iN < 8) (hop : x.op ≠ 2 ∧ x.op ≠ 3) (hir : rec.length < 1000) (hj : bN + (fN + iN) < ws.length) (hph : x.phase = 3) (h : St T bx mb sv W0 r0 W x rec ws n) :
    Calls Tryd.prog 63 #[.pointer (some ⟨bx, 0, none⟩)] W fun e W' => e = .returned (.tuple #[]) ∧ St T bx mb sv W0 r0 W' (if wN ≤ iN + 1 then { x with phase := 4, i := 0 } else { x with i := (iN : Int) + 1 }) (rec ++ [ws.getD (bN + (fN + iN)) 0]) ws (n + 1) := by
  have H := Lib.hid h
  have HM := Lib.hid hm
  have HB := Lib.hid hb
  have HN := Lib.hid hn
  have e10 : W.cell? ⟨bx, 10, none⟩ = some (.int .i64 3) := by rw [← hph]; exact H.out.cell 10 _ (fun _ => rfl)
  have e9 : W.cell? ⟨bx, 9, none⟩ = some (.int .i64 (rN : Int)) := by rw [← hrd]; exact H.out.cell 9 _ (fun _ => rfl)
  have hown : IntKind.i64.wrap (1 + (rN : Int)) = ((1 + rN : Nat) : Int) := by rw [IntKind.wrap_i64]; omega
  have HW := Lib.hid hw
  have HWB := Lib.hid hwb
  have HSL := Lib.hid hsl
  have HRLL := Lib.hid hrl
  have HF := Lib.hid hf
  have HI := Lib.hid hi
  have HOP := Lib.hid hop
  have HIR := Lib.hid hir
  have HJ := Lib.hid hj
  have eS0 : W.cell? ⟨bx, 13, none⟩ = some (.int .u32 x.a) := H.out.cell 13 _ (fun _ => rfl)
  have KEEP := Lib.hid (fun (V : World) (h : Chg [] W V) => (⟨h.keep eS0 (by simp), Lib.hid h⟩ : (fun V : World => V.cell? ⟨bx, 13, none⟩ = some (.int .u32 x.a) ∧ Hid (Chg [] W V)) V))
  clear eS0
  clear h hph hm hb hn hj hw hi hop hir hwb hsl hf hrl hrd hrb
  by_cases hle : wN ≤ iN + 1
  · have HDEC : Hid (decide ((wN : Int) ≤ (iN : Int) + 1) = true) := Lib.hid (by simpa using (by omega : (wN : Int) ≤ (iN : Int) + 1))
    rw [if_pos hle]
    clear hle
    go_enter Tryd.func63, Tryd.ntmps63
    go_wp2_with fail
    have hHeld : (fun V : World => V.cell? ⟨bx, 13, none⟩ = some (.int .u32 x.a) ∧ Hid (Chg [] W V)) (World.drew W) := KEEP.out _ (Chg.refl _ _).drew
    refine wp_region_planT (fun V : World => V.cell? ⟨bx, 13, none⟩ = some (.int .u32 x.a) ∧ Hid (Chg [] W V)) 10 [(0, true, some 86), (1, true, some 87), (2, true, some 88), (3, true, some 89), (4, true, some 90), (5, true, some 91), (6, true, some 92), (7, true, some 93), (8, true, some 94), (9, false, some 95)] (by kernel_rfl) (by kernel_rfl) (by kernel_rfl) (by kernel_rfl) (by kernel_rfl) (fun d c a v w h => by cases d <;> exact h) hHeld ?_
    repeat (first | (refine planT_load (v := .agg #[.int .i64 x.k, .int .i64 x.w, .int .i64 x.s, .int .i64 x.c, .int .u32 x.st, .slice x.ia x.il x.ic, .int .i64 x.wr, .slice x.ra x.rl x.rc]) rfl rfl rfl 26 _ rfl _ rfl (fun u hSw => hSw.1) ?_; (try simp only [Act.put, List.setIfInBounds_toArray, List.set_cons_zero, List.set_cons_succ])) | (refine planT_read (v := ?_) rfl rfl ?_ ?_ ?_; rotate_left; (focus rfl); (focus (intro u hSw; (try dsimp only at hSw); go_simp; (try with_reducible rfl); done)); (try simp only [Act.put, List.setIfInBounds_toArray, List.set_cons_zero, List.set_cons_succ])))
    refine planT_do rfl rfl ?_ (fun K hK => ?_)
    · rfl
    go_simp
    go_wp2_with (go_at_call 93; refine (from_any x.a HSL.out HWB.out HRLL.out (H.out.keep (Chg.refl _ _).drew)).mono ?_; rintro e w1 ⟨rfl, hx⟩; rw [HF.out]; have HC1 := Lib.hid ((Chg.refl [] W).drew.trans hx); have H1 := Lib.hid (H.out.keep HC1.out); clear hx)
    refine hK.out _ _ (KEEP.out _ HC1.out) (fun hHeld2 => ?_)
    clear hK K hHeld
    have hHeld := hHeld2
    clear hHeld2
    try simp only [Act.put, List.setIfInBounds_toArray, List.set_cons_zero, List.set_cons_succ]
    repeat (first | (refine planT_load (v := .agg #[.int .i64 x.k, .int .i64 x.w, .int .i64 x.s, .int .i64 x.c, .int .u32 x.st, .slice x.ia x.il x.ic, .int .i64 x.wr, .slice x.ra x.rl x.rc]) rfl rfl rfl 26 _ rfl _ rfl (fun u hSw => hSw.1) ?_; (try simp only [Act.put, List.setIfInBounds_toArray, List.set_cons_zero, List.set_cons_succ])) | (refine planT_read (v := ?_) rfl rfl ?_ ?_ ?_; rotate_left; (focus rfl); (focus (intro u hSw; (try dsimp only at hSw); go_simp; (try with_reducible rfl); done)); (try simp only [Act.put, List.setIfInBounds_toArray, List.set_cons_zero, List.set_cons_succ])))
    refine planT_last rfl ?_ (fun K hK => ?_)
    · rfl
    go_simp
    go_wp2_with (go_at_call 92; refine (Word_read bN fN iN HOP.out HM.out HB.out HI.out HIR.out (by omega) HJ.out HN.out H1.out).mono ?_; rintro e w4 ⟨rfl, hx⟩; rw [HW.out, HDEC.out]; have H4 := Lib.hid hx; clear hx)
    refine hK.out _ _ ?_
    clear hK K hHeld KEEP
    go_wp2_with (go_at_call 90; refine (Go_any 4 H4.out).mono ?_; rintro e w6 ⟨rfl, hx⟩; have H6 := Lib.hid hx; clear hx)
    all_goals (first | (go_end0; exact ⟨rfl, H6.out⟩) | (refine bodyPost_ret (results_none rfl _ _ _) rfl ?_; exact ⟨rfl, H6.out⟩))
  · have HDEC : Hid (decide ((wN : Int) ≤ (iN : Int) + 1) = false) := Lib.hid (by simpa using (by omega : ¬ (wN : Int) ≤ (iN : Int) + 1))
    rw [if_neg hle]
    clear hle
    go_enter Tryd.func63, Tryd.ntmps63
    go_wp2_with fail
    have hHeld : (fun V : World => V.cell? ⟨bx, 13, none⟩ = some (.int .u32 x.a) ∧ Hid (Chg [] W V)) (World.drew W) := KEEP.out _ (Chg.refl _ _).drew
    refine wp_region_planT (fun V : World => V.cell? ⟨bx, 13, none⟩ = some (.int .u32 x.a) ∧ Hid (Chg [] W V)) 10 [(0, true, some 86), (1, true, some 87), (2, true, some 88), (3, true, some 89), (4, true, some 90), (5, true, some 91), (6, true, some 92), (7, true, some 93), (8, true, some 94), (9, false, some 95)] (by kernel_rfl) (by kernel_rfl) (by kernel_rfl) (by kernel_rfl) (by kernel_rfl) (fun d c a v w h => by cases d <;> exact h) hHeld ?_
    repeat (first | (refine planT_load (v := .agg #[.int .i64 x.k, .int .i64 x.w, .int .i64 x.s, .int .i64 x.c, .int .u32 x.st, .slice x.ia x.il x.ic, .int .i64 x.wr, .slice x.ra x.rl x.rc]) rfl rfl rfl 26 _ rfl _ rfl (fun u hSw => hSw.1) ?_; (try simp only [Act.put, List.setIfInBounds_toArray, List.set_cons_zero, List.set_cons_succ])) | (refine planT_read (v := ?_) rfl rfl ?_ ?_ ?_; rotate_left; (focus rfl); (focus (intro u hSw; (try dsimp only at hSw); go_simp; (try with_reducible rfl); done)); (try simp only [Act.put, List.setIfInBounds_toArray, List.set_cons_zero, List.set_cons_succ])))
    refine planT_do rfl rfl ?_ (fun K hK => ?_)
    · rfl
    go_simp
    go_wp2_with (go_at_call 93; refine (from_any x.a HSL.out HWB.out HRLL.out (H.out.keep (Chg.refl _ _).drew)).mono ?_; rintro e w1 ⟨rfl, hx⟩; rw [HF.out]; have HC1 := Lib.hid ((Chg.refl [] W).drew.trans hx); have H1 := Lib.hid (H.out.keep HC1.out); clear hx)
    refine hK.out _ _ (KEEP.out _ HC1.out) (fun hHeld2 => ?_)
    clear hK K hHeld
    have hHeld := hHeld2
    clear hHeld2
    try simp only [Act.put, List.setIfInBounds_toArray, List.set_cons_zero, List.set_cons_succ]
    repeat (first | (refine planT_load (v := .agg #[.int .i64 x.k, .int .i64 x.w, .int .i64 x.s, .int .i64 x.c, .int .u32 x.st, .slice x.ia x.il x.ic, .int .i64 x.wr, .slice x.ra x.rl x.rc]) rfl rfl rfl 26 _ rfl _ rfl (fun u hSw => hSw.1) ?_; (try simp only [Act.put, List.setIfInBounds_toArray, List.set_cons_zero, List.set_cons_succ])) | (refine planT_read (v := ?_) rfl rfl ?_ ?_ ?_; rotate_left; (focus rfl); (focus (intro u hSw; (try dsimp only at hSw); go_simp; (try with_reducible rfl); done)); (try simp only [Act.put, List.setIfInBounds_toArray, List.set_cons_zero, List.set_cons_succ])))
    refine planT_last rfl ?_ (fun K hK => ?_)
    · rfl
    go_simp
    go_wp2_with (go_at_call 92; refine (Word_read bN fN iN HOP.out HM.out HB.out HI.out HIR.out (by omega) HJ.out HN.out H1.out).mono ?_; rintro e w4 ⟨rfl, hx⟩; rw [HW.out, HDEC.out]; have H4 := Lib.hid hx; clear hx)
    refine hK.out _ _ ?_
    clear hK K hHeld KEEP
    go_wp2_with fail
    all_goals (first | (go_end0; exact ⟨rfl, H4.out⟩) | (refine bodyPost_ret (results_none rfl _ _ _) rfl ?_; exact ⟨rfl, H4.out⟩))
set_option maxHeartbeats 4000000 in
theorem read_4 {T : TypeId} {bx mb : Nat} {sv r0 : Value} {W0 W : World} {x : Core} {rec ws : List Int} {n : Int} (bN : Nat) (hm : x.m = .pointer (some ⟨mb, 0, none⟩)) (hb : x.base = (bN : Int)) (hn : 0 ≤ n ∧ n ≤ 1000000) (rN : Nat) (hrd : x.reader = (rN : Int)) (hrb : rN ≤ 100) (hbb : 0 ≤ x.b ∧ x.b ≤ 4294967295) (hj : bN + (1 + rN) < ws.length) (hph : x.phase = 4) (h : St T bx mb sv W0 r0 W x rec ws n) :
    Calls Tryd.prog 63 #[.pointer (some ⟨bx, 0, none⟩)] W fun e W' => e = .returned (.tuple #[]) ∧ St T bx mb sv W0 r0 W' { x with over := true, code := x.b } (endRec x.op x.b rec) (ws.set (bN + (1 + rN)) 0) (n + 1) := by
  have H := Lib.hid h
  have HM := Lib.hid hm
  have HB := Lib.hid hb
  have HN := Lib.hid hn
  have e10 : W.cell? ⟨bx, 10, none⟩ = some (.int .i64 4) := by rw [← hph]; exact H.out.cell 10 _ (fun _ => rfl)
  have e9 : W.cell? ⟨bx, 9, none⟩ = some (.int .i64 (rN : Int)) := by rw [← hrd]; exact H.out.cell 9 _ (fun _ => rfl)
  have hown : IntKind.i64.wrap (1 + (rN : Int)) = ((1 + rN : Nat) : Int) := by rw [IntKind.wrap_i64]; omega
  have hcv : IntKind.i64.wrap x.b = x.b := by rw [IntKind.wrap_i64]; omega
  have HU : Hid (0 ≤ (0 : Int) ∧ (0 : Int) ≤ 4294967295) := Lib.hid (by omega)
  have HJ := Lib.hid hj
  clear h hph hm hb hn hj hbb hrd hrb
  go_enter Tryd.func63, Tryd.ntmps63
  go_upto_region 3 with (go_at_call 94; refine (Write_at bN (1 + rN) 0 HU.out HM.out HB.out HJ.out HN.out H.out).mono ?_; rintro e w1 ⟨rfl, hx⟩; have H1 := Lib.hid hx; clear hx)
  have eS0 : w1.cell? ⟨bx, 14, none⟩ = some (.int .u32 x.b) := H1.out.cell 14 _ (fun _ => rfl)
  have KEEP := Lib.hid (fun (V : World) (h : Chg [] w1 V) => (⟨h.keep eS0 (by simp), Lib.hid h⟩ : (fun V : World => V.cell? ⟨bx, 14, none⟩ = some (.int .u32 x.b) ∧ Hid (Chg [] w1 V)) V))
  clear eS0
  have hHeld : (fun V : World => V.cell? ⟨bx, 14, none⟩ = some (.int .u32 x.b) ∧ Hid (Chg [] w1 V)) (World.drew w1) := KEEP.out _ (Chg.refl _ _).drew
  refine wp_region_planT (fun V : World => V.cell? ⟨bx, 14, none⟩ = some (.int .u32 x.b) ∧ Hid (Chg [] w1 V)) 9 [(0, true, some 19), (1, true, some 20), (2, true, some 21), (3, true, some 22), (4, true, some 23), (5, true, some 24), (6, true, some 25), (7, true, some 26), (8, true, some 27)] (by kernel_rfl) (by kernel_rfl) (by kernel_rfl) (by kernel_rfl) (by kernel_rfl) (fun d c a v w h => by cases d <;> exact h) hHeld ?_
  repeat (first | (refine planT_load (v := .agg #[.int .i64 x.k, .int .i64 x.w, .int .i64 x.s, .int .i64 x.c, .int .u32 x.st, .slice x.ia x.il x.ic, .int .i64 x.wr, .slice x.ra x.rl x.rc]) rfl rfl rfl 26 _ rfl _ rfl (fun u hSw => hSw.1) ?_; (try simp only [Act.put, List.setIfInBounds_toArray, List.set_cons_zero, List.set_cons_succ])) | (refine planT_read (v := ?_) rfl rfl ?_ ?_ ?_; rotate_left; (focus rfl); (focus (intro u hSw; (try dsimp only at hSw); go_simp; (try with_reducible rfl); done)); (try simp only [Act.put, List.setIfInBounds_toArray, List.set_cons_zero, List.set_cons_succ])))
  refine planT_last rfl ?_ (fun K hK => ?_)
  · rfl
  go_simp
  go_wp2_with (go_at_call 95; refine (End_any x.b (H1.out.keep (Chg.refl _ _).drew)).mono ?_; rintro e w6 ⟨rfl, hx⟩; have H6 := Lib.hid hx; clear hx)
  refine hK.out _ _ ?_
  clear hK K hHeld KEEP
  go_wp2_with fail
  all_goals (first | (go_end0; exact ⟨rfl, H6.out⟩) | (refine bodyPost_ret (results_none rfl _ _ _) rfl ?_; exact ⟨rfl, H6.out⟩))
end Go.Proofs.YtapaolaemkhbdaaDoor.cab
