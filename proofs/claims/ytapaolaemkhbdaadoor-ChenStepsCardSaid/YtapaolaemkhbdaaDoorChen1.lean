/- Package chen: the steps of a write and of a read. -/
import Derived.Test.YtapaolaemkhbdaaDoorChen0
namespace Go.Proofs.YtapaolaemkhbdaaDoor.chen
open Go Go.RowKit Go.Proofs.YtapaolaemkhbdaaDoor.kit Go.Proofs.YtapaolaemkhbdaaDoor.mem Go.Proofs.YtapaolaemkhbdaaDoor.rop Go.Proofs.YtapaolaemkhbdaaDoor.core Go.Proofs.YtapaolaemkhbdaaDoor.obj
set_option linter.unusedVariables false
set_option linter.unusedSimpArgs false
set_option maxRecDepth 20000

set_option maxHeartbeats 4000000 in
theorem write_0 {T : TypeId} {bx mb : Nat} {sv r0 : Value} {W0 W : World} {x : Core} {rec ws : List Int} {n : Int} (bN : Nat) (hm : x.m = .pointer (some ⟨mb, 0, none⟩)) (hb : x.base = (bN : Int)) (hn : 0 ≤ n ∧ n ≤ 1000000) (hj : bN + 0 < ws.length) (hph : x.phase = 0) (h : St T bx mb sv W0 r0 W x rec ws n) :
    Calls Tryd.prog 70 #[.pointer (some ⟨bx, 0, none⟩)] W fun e W' => e = .returned (.tuple #[]) ∧ St T bx mb sv W0 r0 W' { x with a := ws.getD (bN + 0) 0, phase := 1, i := 0 } rec ws (n + 1) := by
  have H := Lib.hid h
  have HM := Lib.hid hm
  have HB := Lib.hid hb
  have HN := Lib.hid hn
  obtain ⟨vv, hvv⟩ : ∃ vv, ws.getD (bN + 0) 0 = vv := ⟨_, rfl⟩
  have hvb : 0 ≤ vv ∧ vv ≤ 4294967295 := by rw [← hvv]; exact u32_bd h.memory hj
  have HVV := Lib.hid hvv
  rw [hvv]
  have e10 : W.cell? ⟨bx, 10, none⟩ = some (.int .i64 0) := by rw [← hph]; exact H.out.cell 10 _ (fun _ => rfl)
  have HJ := Lib.hid hj
  clear h hph hm hb hn hj hvv hvb
  go_enter Tryd.func70, Tryd.ntmps70
  go_wp2_with (first | (go_at_call 98; refine (Read_at bN 0 HM.out HB.out HJ.out HN.out H.out).mono ?_; rintro e w1 ⟨rfl, hx⟩; rw [HVV.out]; have e13 : w1.cell? ⟨bx, 13, none⟩ = some (.int .u32 x.a) := hx.1.cell 13 _ (fun _ => rfl); have f13 := hx.1.free 13; have H1 := Lib.hid hx; clear hx) | (go_at_call 90; refine (Go_any 1 (H1.out.1.put 13 (.int .u32 vv) ({ x with a := vv }) (fun _ => rfl))).mono ?_; rintro e w2 ⟨rfl, hx⟩; have H6 := Lib.hid hx; clear hx))
  all_goals (first | (go_end0; exact ⟨rfl, H6.out⟩) | (refine bodyPost_ret (results_none rfl _ _ _) rfl ?_; exact ⟨rfl, H6.out⟩))
def scanC (x : Core) (u : Int) : Core := if x.rl ≤ x.i.toNat + 1 then { x with used := bitm.markU (bitm.markU x.used u) x.a, b := bitm.freeU (bitm.markU (bitm.markU x.used u) x.a), phase := 2, i := 0 } else { x with used := bitm.markU x.used u, i := (x.i.toNat : Int) + 1 }
set_option maxHeartbeats 2000000 in
theorem write_1 {T : TypeId} {bx mb : Nat} {sv r0 : Value} {W0 W : World} {x : Core} {rec ws : List Int} {n : Int} (bN iN : Nat) (hT : ∀ V x' rec' ws' n', St T bx mb sv W0 r0 V x' rec' ws' n' → bitm.Tab V) (hm : x.m = .pointer (some ⟨mb, 0, none⟩)) (hb : x.base = (bN : Int)) (hn : 0 ≤ n ∧ n ≤ 1000000) (hi : x.i = (iN : Int)) (hil : iN < 100) (hrl : x.rl ≤ 100) (ha : 0 ≤ x.a ∧ x.a ≤ 4294967295) (hu : 0 ≤ x.used ∧ x.used < 2097152) (hj : bN + (1 + iN) < ws.length) (hph : x.phase = 1) (h : St T bx mb sv W0 r0 W x rec ws n) :
    Calls Tryd.prog 70 #[.pointer (some ⟨bx, 0, none⟩)] W fun e W' => e = .returned (.tuple #[]) ∧ St T bx mb sv W0 r0 W' (scanC x (ws.getD (bN + (1 + iN)) 0)) rec ws (n + 1) := by
  have H := Lib.hid h
  have hsc := scan_any bN iN hT hm hb hn hi hil hrl ha hu hj h
  have heq : (if x.rl ≤ iN + 1 then { x with used := bitm.markU (bitm.markU x.used (ws.getD (bN + (1 + iN)) 0)) x.a, b := bitm.freeU (bitm.markU (bitm.markU x.used (ws.getD (bN + (1 + iN)) 0)) x.a), phase := 2, i := 0 } else { x with used := (bitm.markU x.used (ws.getD (bN + (1 + iN)) 0)), i := (iN : Int) + 1 } : Core) = scanC x (ws.getD (bN + (1 + iN)) 0) := by
    unfold scanC; rw [hi]; simp only [Int.toNat_natCast]
  rw [heq] at hsc
  have HSC := Lib.hid hsc
  have e10 : W.cell? ⟨bx, 10, none⟩ = some (.int .i64 1) := by rw [← hph]; exact H.out.cell 10 _ (fun _ => rfl)
  clear h hph hm hb hn hj ha hrl hT hi hil hu hsc heq
  generalize scanC x (ws.getD (bN + (1 + iN)) 0) = y at *
  go_enter Tryd.func70, Tryd.ntmps70
  go_wp2_with (go_at_call 99; refine HSC.out.mono ?_; rintro e w1 ⟨rfl, hx⟩; have H6 := Lib.hid hx; clear hx)
  all_goals (first | (go_end0; exact ⟨rfl, H6.out⟩) | (refine bodyPost_ret (results_none rfl _ _ _) rfl ?_; exact ⟨rfl, H6.out⟩))
set_option maxHeartbeats 4000000 in
theorem write_2 {T : TypeId} {bx mb : Nat} {sv r0 : Value} {W0 W : World} {x : Core} {rec ws : List Int} {n : Int} (bN : Nat) (hm : x.m = .pointer (some ⟨mb, 0, none⟩)) (hb : x.base = (bN : Int)) (hn : 0 ≤ n ∧ n ≤ 1000000) (wN iN fN : Nat) (hwb : 1 ≤ x.w ∧ x.w ≤ 8) (hrl : x.rl ≤ 100) (hsl : 0 ≤ x.b ∧ x.b ≤ 16) (hf : place x x.b = fN) (hw : x.w = (wN : Int)) (hi : x.i = (iN : Int)) (hil : iN < 8) (hop : x.op = 2 ∨ x.op = 3) (hir : iN < rec.length) (hj : bN + (fN + iN) < ws.length) (hph : x.phase = 2) (h : St T bx mb sv W0 r0 W x rec ws n) :
    Calls Tryd.prog 70 #[.pointer (some ⟨bx, 0, none⟩)] W fun e W' => e = .returned (.tuple #[]) ∧ St T bx mb sv W0 r0 W' (if wN ≤ iN + 1 then { x with phase := 3, i := 0 } else { x with i := (iN : Int) + 1 }) rec (ws.set (bN + (fN + iN)) (rec.getD iN 0)) (n + 1) := by
  have H := Lib.hid h
  have HM := Lib.hid hm
  have HB := Lib.hid hb
  have HN := Lib.hid hn
  have e10 : W.cell? ⟨bx, 10, none⟩ = some (.int .i64 2) := by rw [← hph]; exact H.out.cell 10 _ (fun _ => rfl)
  have HW := Lib.hid hw
  have HWB := Lib.hid hwb
  have HSL := Lib.hid hsl
  have HRLL := Lib.hid hrl
  have HF := Lib.hid hf
  have HI := Lib.hid hi
  have HOP := Lib.hid hop
  have HIR := Lib.hid hir
  have HJ := Lib.hid hj
  have KEEP : Hid (∀ V, Chg [] W V → (fun V : World => Hid (Chg [] W V)) V) := Lib.hid (fun V h => Lib.hid h)
  clear h hph hm hb hn hj hw hi hop hir hwb hsl hf hrl
  by_cases hle : wN ≤ iN + 1
  · have HDEC : Hid (decide ((wN : Int) ≤ (iN : Int) + 1) = true) := Lib.hid (by simpa using (by omega : (wN : Int) ≤ (iN : Int) + 1))
    rw [if_pos hle]
    clear hle
    go_enter Tryd.func70, Tryd.ntmps70
    go_wp2_with fail
    have hHeld : (fun V : World => Hid (Chg [] W V)) (World.drew W) := KEEP.out _ (Chg.refl _ _).drew
    refine wp_region_planT (fun V : World => Hid (Chg [] W V)) 5 [(0, true, some 59), (1, true, some 60), (2, true, some 61), (3, true, some 62), (4, false, some 63)] (by kernel_rfl) (by kernel_rfl) (by kernel_rfl) (by kernel_rfl) (by kernel_rfl) (fun d c a v w h => by cases d <;> exact h) hHeld ?_
    repeat (first | (refine planT_load (v := .agg #[.int .i64 x.k, .int .i64 x.w, .int .i64 x.s, .int .i64 x.c, .int .u32 x.st, .slice x.ia x.il x.ic, .int .i64 x.wr, .slice x.ra x.rl x.rc]) rfl rfl rfl 26 _ rfl _ rfl (fun u hSw => hSw.1) ?_; (try simp only [Act.put, List.setIfInBounds_toArray, List.set_cons_zero, List.set_cons_succ])) | (refine planT_read (v := ?_) rfl rfl ?_ ?_ ?_; rotate_left; (focus rfl); (focus (intro u hSw; (try dsimp only at hSw); go_simp; (try with_reducible rfl); done)); (try simp only [Act.put, List.setIfInBounds_toArray, List.set_cons_zero, List.set_cons_succ])))
    refine planT_do rfl rfl ?_ (fun K hK => ?_)
    · rfl
    go_simp
    go_wp2_with (go_at_call 100; refine (from_any HSL.out HWB.out HRLL.out (H.out.keep (Chg.refl _ _).drew)).mono ?_; rintro e w1 ⟨rfl, hx⟩; rw [HF.out]; have HC1 := Lib.hid ((Chg.refl [] W).drew.trans hx); have H1 := Lib.hid (H.out.keep HC1.out); clear hx)
    refine hK.out _ _ (KEEP.out _ HC1.out) (fun hHeld2 => ?_)
    clear hK K hHeld
    have hHeld := hHeld2
    clear hHeld2
    try simp only [Act.put, List.setIfInBounds_toArray, List.set_cons_zero, List.set_cons_succ]
    repeat (first | (refine planT_load (v := .agg #[.int .i64 x.k, .int .i64 x.w, .int .i64 x.s, .int .i64 x.c, .int .u32 x.st, .slice x.ia x.il x.ic, .int .i64 x.wr, .slice x.ra x.rl x.rc]) rfl rfl rfl 26 _ rfl _ rfl (fun u hSw => hSw.1) ?_; (try simp only [Act.put, List.setIfInBounds_toArray, List.set_cons_zero, List.set_cons_succ])) | (refine planT_read (v := ?_) rfl rfl ?_ ?_ ?_; rotate_left; (focus rfl); (focus (intro u hSw; (try dsimp only at hSw); go_simp; (try with_reducible rfl); done)); (try simp only [Act.put, List.setIfInBounds_toArray, List.set_cons_zero, List.set_cons_succ])))
    refine planT_last rfl ?_ (fun K hK => ?_)
    · rfl
    go_simp
    go_wp2_with (go_at_call 92; refine (Word_write bN fN iN HOP.out HM.out HB.out HI.out HIR.out HJ.out HN.out H1.out).mono ?_; rintro e w4 ⟨rfl, hx⟩; rw [HW.out, HDEC.out]; have H4 := Lib.hid hx; clear hx)
    refine hK.out _ _ ?_
    clear hK K hHeld KEEP
    go_wp2_with (go_at_call 90; refine (Go_any 3 H4.out).mono ?_; rintro e w6 ⟨rfl, hx⟩; have H6 := Lib.hid hx; clear hx)
    all_goals (first | (go_end0; exact ⟨rfl, H6.out⟩) | (refine bodyPost_ret (results_none rfl _ _ _) rfl ?_; exact ⟨rfl, H6.out⟩))
  · have HDEC : Hid (decide ((wN : Int) ≤ (iN : Int) + 1) = false) := Lib.hid (by simpa using (by omega : ¬ (wN : Int) ≤ (iN : Int) + 1))
    rw [if_neg hle]
    clear hle
    go_enter Tryd.func70, Tryd.ntmps70
    go_wp2_with fail
    have hHeld : (fun V : World => Hid (Chg [] W V)) (World.drew W) := KEEP.out _ (Chg.refl _ _).drew
    refine wp_region_planT (fun V : World => Hid (Chg [] W V)) 5 [(0, true, some 59), (1, true, some 60), (2, true, some 61), (3, true, some 62), (4, false, some 63)] (by kernel_rfl) (by kernel_rfl) (by kernel_rfl) (by kernel_rfl) (by kernel_rfl) (fun d c a v w h => by cases d <;> exact h) hHeld ?_
    repeat (first | (refine planT_load (v := .agg #[.int .i64 x.k, .int .i64 x.w, .int .i64 x.s, .int .i64 x.c, .int .u32 x.st, .slice x.ia x.il x.ic, .int .i64 x.wr, .slice x.ra x.rl x.rc]) rfl rfl rfl 26 _ rfl _ rfl (fun u hSw => hSw.1) ?_; (try simp only [Act.put, List.setIfInBounds_toArray, List.set_cons_zero, List.set_cons_succ])) | (refine planT_read (v := ?_) rfl rfl ?_ ?_ ?_; rotate_left; (focus rfl); (focus (intro u hSw; (try dsimp only at hSw); go_simp; (try with_reducible rfl); done)); (try simp only [Act.put, List.setIfInBounds_toArray, List.set_cons_zero, List.set_cons_succ])))
    refine planT_do rfl rfl ?_ (fun K hK => ?_)
    · rfl
    go_simp
    go_wp2_with (go_at_call 100; refine (from_any HSL.out HWB.out HRLL.out (H.out.keep (Chg.refl _ _).drew)).mono ?_; rintro e w1 ⟨rfl, hx⟩; rw [HF.out]; have HC1 := Lib.hid ((Chg.refl [] W).drew.trans hx); have H1 := Lib.hid (H.out.keep HC1.out); clear hx)
    refine hK.out _ _ (KEEP.out _ HC1.out) (fun hHeld2 => ?_)
    clear hK K hHeld
    have hHeld := hHeld2
    clear hHeld2
    try simp only [Act.put, List.setIfInBounds_toArray, List.set_cons_zero, List.set_cons_succ]
    repeat (first | (refine planT_load (v := .agg #[.int .i64 x.k, .int .i64 x.w, .int .i64 x.s, .int .i64 x.c, .int .u32 x.st, .slice x.ia x.il x.ic, .int .i64 x.wr, .slice x.ra x.rl x.rc]) rfl rfl rfl 26 _ rfl _ rfl (fun u hSw => hSw.1) ?_; (try simp only [Act.put, List.setIfInBounds_toArray, List.set_cons_zero, List.set_cons_succ])) | (refine planT_read (v := ?_) rfl rfl ?_ ?_ ?_; rotate_left; (focus rfl); (focus (intro u hSw; (try dsimp only at hSw); go_simp; (try with_reducible rfl); done)); (try simp only [Act.put, List.setIfInBounds_toArray, List.set_cons_zero, List.set_cons_succ])))
    refine planT_last rfl ?_ (fun K hK => ?_)
    · rfl
    go_simp
    go_wp2_with (go_at_call 92; refine (Word_write bN fN iN HOP.out HM.out HB.out HI.out HIR.out HJ.out HN.out H1.out).mono ?_; rintro e w4 ⟨rfl, hx⟩; rw [HW.out, HDEC.out]; have H4 := Lib.hid hx; clear hx)
    refine hK.out _ _ ?_
    clear hK K hHeld KEEP
    go_wp2_with fail
    all_goals (first | (go_end0; exact ⟨rfl, H4.out⟩) | (refine bodyPost_ret (results_none rfl _ _ _) rfl ?_; exact ⟨rfl, H4.out⟩))
set_option maxHeartbeats 4000000 in
theorem write_3 {T : TypeId} {bx mb : Nat} {sv r0 : Value} {W0 W : World} {x : Core} {rec ws : List Int} {n : Int} (bN : Nat) (hm : x.m = .pointer (some ⟨mb, 0, none⟩)) (hb : x.base = (bN : Int)) (hn : 0 ≤ n ∧ n ≤ 1000000) (hbb : 0 ≤ x.b ∧ x.b ≤ 4294967295) (hj : bN + 0 < ws.length) (hph : x.phase = 3) (h : St T bx mb sv W0 r0 W x rec ws n) :
    Calls Tryd.prog 70 #[.pointer (some ⟨bx, 0, none⟩)] W fun e W' => e = .returned (.tuple #[]) ∧ St T bx mb sv W0 r0 W' { x with phase := 4, i := 0 } rec (ws.set (bN + 0) x.b) (n + 1) := by
  have H := Lib.hid h
  have HM := Lib.hid hm
  have HB := Lib.hid hb
  have HN := Lib.hid hn
  have e10 : W.cell? ⟨bx, 10, none⟩ = some (.int .i64 3) := by rw [← hph]; exact H.out.cell 10 _ (fun _ => rfl)
  have G0 : Hid (W.cell? ⟨bx, 14, none⟩ = some (.int .u32 x.b)) := Lib.hid (by skip; exact H.out.cell 14 _ (fun _ => rfl))
  have HA := Lib.hid hbb
  have HJ := Lib.hid hj
  clear h hph hm hb hn hj hbb
  go_enter Tryd.func70, Tryd.ntmps70
  go_wp2_with fail
  refine wp_region_tail 8 (by kernel_rfl) (by kernel_rfl) ?_
  intro W3 hW3
  have g0 : W3.cell? ⟨bx, 14, none⟩ = some (.int .u32 x.b) := by rw [hW3.out]; exact G0.out
  have H3 : Hid (St T bx mb sv W0 r0 W3 x rec ws n) := Lib.hid (by rw [hW3.out]; exact H.out.keep (Chg.refl _ _).drew)
  clear hW3
  simp only [List.take_succ_cons, List.take_zero, List.drop_succ_cons, List.drop_zero]
  repeat still_step
  refine wpStill_nil ?_
  go_wp2_with (first | (go_at_call 94; refine (Write_at bN 0 x.b HA.out HM.out HB.out HJ.out HN.out H3.out).mono ?_; rintro e w4 ⟨rfl, hx⟩; have H4 := Lib.hid hx; clear hx) | (go_at_call 90; refine (Go_any 4 H4.out).mono ?_; rintro e w2 ⟨rfl, hx⟩; have H6 := Lib.hid hx; clear hx))
  all_goals (first | (go_end0; exact ⟨rfl, H6.out⟩) | (refine bodyPost_ret (results_none rfl _ _ _) rfl ?_; exact ⟨rfl, H6.out⟩))
set_option maxHeartbeats 4000000 in
theorem write_4 {T : TypeId} {bx mb : Nat} {sv r0 : Value} {W0 W : World} {x : Core} {rec ws : List Int} {n : Int} (bN : Nat) (hm : x.m = .pointer (some ⟨mb, 0, none⟩)) (hb : x.base = (bN : Int)) (hn : 0 ≤ n ∧ n ≤ 1000000) (iN : Nat) (hi : x.i = (iN : Int)) (hil : iN < 100) (hrl : x.rl ≤ 100) (hbb : 0 ≤ x.b ∧ x.b ≤ 4294967295) (hj : bN + (1 + iN) < ws.length) (hph : x.phase = 4) (h : St T bx mb sv W0 r0 W x rec ws n) :
    Calls Tryd.prog 70 #[.pointer (some ⟨bx, 0, none⟩)] W fun e W' => e = .returned (.tuple #[]) ∧ St T bx mb sv W0 r0 W' (if x.rl ≤ iN + 1 then { x with i := (iN : Int) + 1, over := true, code := 0 } else { x with i := (iN : Int) + 1 }) (if x.rl ≤ iN + 1 then endRec x.op 0 rec else rec) (swapL ws (bN + (1 + iN)) ((x.rl : Int) + 2) x.b) (n + 1) := by
  have H := Lib.hid h
  have HM := Lib.hid hm
  have HB := Lib.hid hb
  have HN := Lib.hid hn
  have e10 : W.cell? ⟨bx, 10, none⟩ = some (.int .i64 4) := by rw [← hph]; exact H.out.cell 10 _ (fun _ => rfl)
  have hadd : IntKind.i64.wrap (1 + (iN : Int)) = ((1 + iN : Nat) : Int) := by rw [IntKind.wrap_i64]; omega
  have HBB := Lib.hid hbb
  have HRLL := Lib.hid hrl
  have HJ := Lib.hid hj
  have HI : Hid (0 ≤ x.i ∧ x.i ≤ 1000000) := Lib.hid (by omega)
  have HII := Lib.hid hi
  have eS0 : W.cell? ⟨bx, 11, none⟩ = some (.int .i64 (iN : Int)) := by rw [← hi]; exact H.out.cell 11 _ (fun _ => rfl)
  have eS1 : W.cell? ⟨bx, 14, none⟩ = some (.int .u32 x.b) := H.out.cell 14 _ (fun _ => rfl)
  have KEEP := Lib.hid (fun (V : World) (h : Chg [] W V) => (⟨h.keep eS0 (by simp), h.keep eS1 (by simp), Lib.hid h⟩ : (fun V : World => V.cell? ⟨bx, 11, none⟩ = some (.int .i64 (iN : Int)) ∧ V.cell? ⟨bx, 14, none⟩ = some (.int .u32 x.b) ∧ Hid (Chg [] W V)) V))
  clear eS0 eS1
  clear h hph hm hb hn hj hbb hrl hi
  by_cases hle : x.rl ≤ iN + 1
  · rw [if_pos hle, if_pos hle]
    have HDEC : Hid (decide ((x.rl : Int) ≤ x.i + 1) = true) := Lib.hid (by rw [HII.out]; simpa using (by omega : (x.rl : Int) ≤ (iN : Int) + 1))
    clear hle
    go_enter Tryd.func70, Tryd.ntmps70
    go_wp2_with fail
    have hHeld : (fun V : World => V.cell? ⟨bx, 11, none⟩ = some (.int .i64 (iN : Int)) ∧ V.cell? ⟨bx, 14, none⟩ = some (.int .u32 x.b) ∧ Hid (Chg [] W V)) (World.drew W) := KEEP.out _ (Chg.refl _ _).drew
    refine wp_region_planT (fun V : World => V.cell? ⟨bx, 11, none⟩ = some (.int .i64 (iN : Int)) ∧ V.cell? ⟨bx, 14, none⟩ = some (.int .u32 x.b) ∧ Hid (Chg [] W V)) 16 [(0, true, some 7), (1, true, some 8), (2, true, some 9), (3, true, some 10), (4, true, some 11), (5, true, some 12), (6, true, some 13), (7, true, some 14), (8, true, some 15), (9, true, some 16), (11, true, some 18), (12, true, some 19), (13, true, some 20), (14, true, some 21), (15, true, some 22), (10, false, some 17)] (by kernel_rfl) (by kernel_rfl) (by kernel_rfl) (by kernel_rfl) (by kernel_rfl) (fun d c a v w h => by cases d <;> exact h) hHeld ?_
    repeat (first | (refine planT_load (v := .agg #[.int .i64 x.k, .int .i64 x.w, .int .i64 x.s, .int .i64 x.c, .int .u32 x.st, .slice x.ia x.il x.ic, .int .i64 x.wr, .slice x.ra x.rl x.rc]) rfl rfl rfl 26 _ rfl _ rfl (fun u hSw => hSw.1) ?_; (try simp only [Act.put, List.setIfInBounds_toArray, List.set_cons_zero, List.set_cons_succ])) | (refine planT_read (v := ?_) rfl rfl ?_ ?_ ?_; rotate_left; (focus rfl); (focus (intro u hSw; (try dsimp only at hSw); go_simp; (try with_reducible rfl); done)); (try simp only [Act.put, List.setIfInBounds_toArray, List.set_cons_zero, List.set_cons_succ])))
    refine planT_do rfl rfl ?_ (fun K hK => ?_)
    · rfl
    go_simp
    go_wp2_with (go_at_call 102; refine (none_any HRLL.out (H.out.keep (Chg.refl _ _).drew)).mono ?_; rintro e w1 ⟨rfl, hx⟩; have HC1 := Lib.hid ((Chg.refl [] W).drew.trans hx); have H1 := Lib.hid (H.out.keep HC1.out); clear hx)
    refine hK.out _ _ (KEEP.out _ HC1.out) (fun hHeld2 => ?_)
    clear hK K hHeld
    have hHeld := hHeld2
    clear hHeld2
    try simp only [Act.put, List.setIfInBounds_toArray, List.set_cons_zero, List.set_cons_succ]
    repeat (first | (refine planT_load (v := .agg #[.int .i64 x.k, .int .i64 x.w, .int .i64 x.s, .int .i64 x.c, .int .u32 x.st, .slice x.ia x.il x.ic, .int .i64 x.wr, .slice x.ra x.rl x.rc]) rfl rfl rfl 26 _ rfl _ rfl (fun u hSw => hSw.1) ?_; (try simp only [Act.put, List.setIfInBounds_toArray, List.set_cons_zero, List.set_cons_succ])) | (refine planT_read (v := ?_) rfl rfl ?_ ?_ ?_; rotate_left; (focus rfl); (focus (intro u hSw; (try dsimp only at hSw); go_simp; (try with_reducible rfl); done)); (try simp only [Act.put, List.setIfInBounds_toArray, List.set_cons_zero, List.set_cons_succ])))
    refine planT_last rfl ?_ (fun K hK => ?_)
    · rfl
    go_simp
    go_wp2_with (go_at_call 101; refine (Swap_at bN (1 + iN) ((x.rl : Int) + 2) x.b HBB.out HM.out HB.out HJ.out HN.out H1.out).mono ?_; rintro e w2 ⟨rfl, hx⟩; have H2 := Lib.hid hx; clear hx)
    refine hK.out _ _ ?_
    clear hK K hHeld KEEP
    go_upto_region 2 with fail
    have hHeld : (fun V : World => V.cell? ⟨bx, 7, none⟩ = some (.slice x.ra x.rl x.rc)) (World.drew w2) := (H2.out.keep (Chg.refl _ _).drew).cell 7 _ (fun _ => rfl)
    refine wp_region_planT (fun V : World => V.cell? ⟨bx, 7, none⟩ = some (.slice x.ra x.rl x.rc)) 10 [(0, true, some 24), (1, true, some 25), (2, true, some 26), (3, true, some 27), (4, true, some 28), (5, true, some 29), (6, true, some 30), (7, true, some 31), (8, true, some 32), (9, true, some 33)] (by kernel_rfl) (by kernel_rfl) (by kernel_rfl) (by kernel_rfl) (by kernel_rfl) (fun d c a v w h => by cases d <;> exact h) hHeld ?_
    repeat (first | (refine planT_load (v := .agg #[.int .i64 x.k, .int .i64 x.w, .int .i64 x.s, .int .i64 x.c, .int .u32 x.st, .slice x.ia x.il x.ic, .int .i64 x.wr, .slice x.ra x.rl x.rc]) rfl rfl rfl 26 _ rfl _ rfl (fun u hSw => hSw.1) ?_; (try simp only [Act.put, List.setIfInBounds_toArray, List.set_cons_zero, List.set_cons_succ])) | (refine planT_read (v := ?_) rfl rfl ?_ ?_ ?_; rotate_left; (focus rfl); (focus (intro u hSw; (try dsimp only at hSw); go_simp; (try with_reducible rfl); done)); (try simp only [Act.put, List.setIfInBounds_toArray, List.set_cons_zero, List.set_cons_succ])))
    refine planT_last rfl ?_ (fun K hK => ?_)
    · rfl
    go_simp
    go_wp2_with (go_at_call 103; refine (Each_any (x := x) (x.rl : Int) HI.out (H2.out.keep (Chg.refl _ _).drew)).mono ?_; rintro e w3 ⟨he, hx⟩; rw [show e = .returned (.bool true) from he.trans (congrArg (fun b => Ending.returned (Value.bool b)) HDEC.out)]; clear he; have H3 := Lib.hid hx; clear hx)
    refine hK.out _ _ ?_
    clear hK K hHeld
    have h9 := H3.out
    rw [show x.i + 1 = (iN : Int) + 1 from by rw [HII.out]] at h9
    have H4 := Lib.hid h9
    clear h9
    go_wp2_with (go_at_call 95; refine (End_any 0 H4.out).mono ?_; rintro e w6 ⟨rfl, hx⟩; have H6 := Lib.hid hx; clear hx)
    all_goals (first | (go_end0; exact ⟨rfl, H6.out⟩) | (refine bodyPost_ret (results_none rfl _ _ _) rfl ?_; exact ⟨rfl, H6.out⟩))
  · rw [if_neg hle, if_neg hle]
    have HDEC : Hid (decide ((x.rl : Int) ≤ x.i + 1) = false) := Lib.hid (by rw [HII.out]; simpa using (by omega : ¬ (x.rl : Int) ≤ (iN : Int) + 1))
    clear hle
    go_enter Tryd.func70, Tryd.ntmps70
    go_wp2_with fail
    have hHeld : (fun V : World => V.cell? ⟨bx, 11, none⟩ = some (.int .i64 (iN : Int)) ∧ V.cell? ⟨bx, 14, none⟩ = some (.int .u32 x.b) ∧ Hid (Chg [] W V)) (World.drew W) := KEEP.out _ (Chg.refl _ _).drew
    refine wp_region_planT (fun V : World => V.cell? ⟨bx, 11, none⟩ = some (.int .i64 (iN : Int)) ∧ V.cell? ⟨bx, 14, none⟩ = some (.int .u32 x.b) ∧ Hid (Chg [] W V)) 16 [(0, true, some 7), (1, true, some 8), (2, true, some 9), (3, true, some 10), (4, true, some 11), (5, true, some 12), (6, true, some 13), (7, true, some 14), (8, true, some 15), (9, true, some 16), (11, true, some 18), (12, true, some 19), (13, true, some 20), (14, true, some 21), (15, true, some 22), (10, false, some 17)] (by kernel_rfl) (by kernel_rfl) (by kernel_rfl) (by kernel_rfl) (by kernel_rfl) (fun d c a v w h => by cases d <;> exact h) hHeld ?_
    repeat (first | (refine planT_load (v := .agg #[.int .i64 x.k, .int .i64 x.w, .int .i64 x.s, .int .i64 x.c, .int .u32 x.st, .slice x.ia x.il x.ic, .int .i64 x.wr, .slice x.ra x.rl x.rc]) rfl rfl rfl 26 _ rfl _ rfl (fun u hSw => hSw.1) ?_; (try simp only [Act.put, List.setIfInBounds_toArray, List.set_cons_zero, List.set_cons_succ])) | (refine planT_read (v := ?_) rfl rfl ?_ ?_ ?_; rotate_left; (focus rfl); (focus (intro u hSw; (try dsimp only at hSw); go_simp; (try with_reducible rfl); done)); (try simp only [Act.put, List.setIfInBounds_toArray, List.set_cons_zero, List.set_cons_succ])))
    refine planT_do rfl rfl ?_ (fun K hK => ?_)
    · rfl
    go_simp
    go_wp2_with (go_at_call 102; refine (none_any HRLL.out (H.out.keep (Chg.refl _ _).drew)).mono ?_; rintro e w1 ⟨rfl, hx⟩; have HC1 := Lib.hid ((Chg.refl [] W).drew.trans hx); have H1 := Lib.hid (H.out.keep HC1.out); clear hx)
    refine hK.out _ _ (KEEP.out _ HC1.out) (fun hHeld2 => ?_)
    clear hK K hHeld
    have hHeld := hHeld2
    clear hHeld2
    try simp only [Act.put, List.setIfInBounds_toArray, List.set_cons_zero, List.set_cons_succ]
    repeat (first | (refine planT_load (v := .agg #[.int .i64 x.k, .int .i64 x.w, .int .i64 x.s, .int .i64 x.c, .int .u32 x.st, .slice x.ia x.il x.ic, .int .i64 x.wr, .slice x.ra x.rl x.rc]) rfl rfl rfl 26 _ rfl _ rfl (fun u hSw => hSw.1) ?_; (try simp only [Act.put, List.setIfInBounds_toArray, List.set_cons_zero, List.set_cons_succ])) | (refine planT_read (v := ?_) rfl rfl ?_ ?_ ?_; rotate_left; (focus rfl); (focus (intro u hSw; (try dsimp only at hSw); go_simp; (try with_reducible rfl); done)); (try simp only [Act.put, List.setIfInBounds_toArray, List.set_cons_zero, List.set_cons_succ])))
    refine planT_last rfl ?_ (fun K hK => ?_)
    · rfl
    go_simp
    go_wp2_with (go_at_call 101; refine (Swap_at bN (1 + iN) ((x.rl : Int) + 2) x.b HBB.out HM.out HB.out HJ.out HN.out H1.out).mono ?_; rintro e w2 ⟨rfl, hx⟩; have H2 := Lib.hid hx; clear hx)
    refine hK.out _ _ ?_
    clear hK K hHeld KEEP
    go_upto_region 2 with fail
    have hHeld : (fun V : World => V.cell? ⟨bx, 7, none⟩ = some (.slice x.ra x.rl x.rc)) (World.drew w2) := (H2.out.keep (Chg.refl _ _).drew).cell 7 _ (fun _ => rfl)
    refine wp_region_planT (fun V : World => V.cell? ⟨bx, 7, none⟩ = some (.slice x.ra x.rl x.rc)) 10 [(0, true, some 24), (1, true, some 25), (2, true, some 26), (3, true, some 27), (4, true, some 28), (5, true, some 29), (6, true, some 30), (7, true, some 31), (8, true, some 32), (9, true, some 33)] (by kernel_rfl) (by kernel_rfl) (by kernel_rfl) (by kernel_rfl) (by kernel_rfl) (fun d c a v w h => by cases d <;> exact h) hHeld ?_
    repeat (first | (refine planT_load (v := .agg #[.int .i64 x.k, .int .i64 x.w, .int .i64 x.s, .int .i64 x.c, .int .u32 x.st, .slice x.ia x.il x.ic, .int .i64 x.wr, .slice x.ra x.rl x.rc]) rfl rfl rfl 26 _ rfl _ rfl (fun u hSw => hSw.1) ?_; (try simp only [Act.put, List.setIfInBounds_toArray, List.set_cons_zero, List.set_cons_succ])) | (refine planT_read (v := ?_) rfl rfl ?_ ?_ ?_; rotate_left; (focus rfl); (focus (intro u hSw; (try dsimp only at hSw); go_simp; (try with_reducible rfl); done)); (try simp only [Act.put, List.setIfInBounds_toArray, List.set_cons_zero, List.set_cons_succ])))
    refine planT_last rfl ?_ (fun K hK => ?_)
    · rfl
    go_simp
    go_wp2_with (go_at_call 103; refine (Each_any (x := x) (x.rl : Int) HI.out (H2.out.keep (Chg.refl _ _).drew)).mono ?_; rintro e w3 ⟨he, hx⟩; rw [show e = .returned (.bool false) from he.trans (congrArg (fun b => Ending.returned (Value.bool b)) HDEC.out)]; clear he; have H3 := Lib.hid hx; clear hx)
    refine hK.out _ _ ?_
    clear hK K hHeld
    have h9 := H3.out
    rw [show x.i + 1 = (iN : Int) + 1 from by rw [HII.out]] at h9
    have H4 := Lib.hid h9
    clear h9
    go_wp2_with fail
    all_goals (first | (go_end0; exact ⟨rfl, H4.out⟩) | (refine bodyPost_ret (results_none rfl _ _ _) rfl ?_; exact ⟨rfl, H4.out⟩))
set_option maxHeartbeats 4000000 in
theorem read_0 {T : TypeId} {bx mb : Nat} {sv r0 : Value} {W0 W : World} {x : Core} {rec ws : List Int} {n : Int} (bN : Nat) (hm : x.m = .pointer (some ⟨mb, 0, none⟩)) (hb : x.base = (bN : Int)) (hn : 0 ≤ n ∧ n ≤ 1000000) (rN : Nat) (hrd : x.reader = (rN : Int)) (hrb : rN ≤ 100) (hrl : x.rl ≤ 100) (hj : bN + (1 + rN) < ws.length) (hph : x.phase = 0) (h : St T bx mb sv W0 r0 W x rec ws n) :
    Calls Tryd.prog 71 #[.pointer (some ⟨bx, 0, none⟩)] W fun e W' => e = .returned (.tuple #[]) ∧ St T bx mb sv W0 r0 W' { x with phase := 1, i := 0 } rec (ws.set (bN + (1 + rN)) ((x.rl : Int) + 2)) (n + 1) := by
  have H := Lib.hid h
  have HM := Lib.hid hm
  have HB := Lib.hid hb
  have HN := Lib.hid hn
  have e10 : W.cell? ⟨bx, 10, none⟩ = some (.int .i64 0) := by rw [← hph]; exact H.out.cell 10 _ (fun _ => rfl)
  have e9 : W.cell? ⟨bx, 9, none⟩ = some (.int .i64 (rN : Int)) := by rw [← hrd]; exact H.out.cell 9 _ (fun _ => rfl)
  have hown : IntKind.i64.wrap (1 + (rN : Int)) = ((1 + rN : Nat) : Int) := by rw [IntKind.wrap_i64]; omega
  have HU : Hid (0 ≤ ((x.rl : Int) + 2) ∧ ((x.rl : Int) + 2) ≤ 4294967295) := Lib.hid (by omega)
  have HRLL := Lib.hid hrl
  have HJ := Lib.hid hj
  have KEEP : Hid (∀ V, Chg [] W V → (fun V : World => Hid (Chg [] W V)) V) := Lib.hid (fun V h => Lib.hid h)
  clear h hph hm hb hn hj hrl hrd hrb
  go_enter Tryd.func71, Tryd.ntmps71
  go_wp2_with fail
  have hHeld : (fun V : World => Hid (Chg [] W V)) (World.drew W) := KEEP.out _ (Chg.refl _ _).drew
  refine wp_region_planT (fun V : World => Hid (Chg [] W V)) 6 [(0, true, some 26), (1, true, some 27), (2, true, some 28), (3, true, some 29), (4, true, some 30), (5, false, some 31)] (by kernel_rfl) (by kernel_rfl) (by kernel_rfl) (by kernel_rfl) (by kernel_rfl) (fun d c a v w h => by cases d <;> exact h) hHeld ?_
  repeat (first | (refine planT_load (v := .agg #[.int .i64 x.k, .int .i64 x.w, .int .i64 x.s, .int .i64 x.c, .int .u32 x.st, .slice x.ia x.il x.ic, .int .i64 x.wr, .slice x.ra x.rl x.rc]) rfl rfl rfl 26 _ rfl _ rfl (fun u hSw => hSw.1) ?_; (try simp only [Act.put, List.setIfInBounds_toArray, List.set_cons_zero, List.set_cons_succ])) | (refine planT_read (v := ?_) rfl rfl ?_ ?_ ?_; rotate_left; (focus rfl); (focus (intro u hSw; (try dsimp only at hSw); go_simp; (try with_reducible rfl); done)); (try simp only [Act.put, List.setIfInBounds_toArray, List.set_cons_zero, List.set_cons_succ])))
  refine planT_do rfl rfl ?_ (fun K hK => ?_)
  · rfl
  go_simp
  go_wp2_with (go_at_call 102; refine (none_any HRLL.out (H.out.keep (Chg.refl _ _).drew)).mono ?_; rintro e w1 ⟨rfl, hx⟩; have HC1 := Lib.hid ((Chg.refl [] W).drew.trans hx); have H1 := Lib.hid (H.out.keep HC1.out); clear hx)
  refine hK.out _ _ (KEEP.out _ HC1.out) (fun hHeld2 => ?_)
  clear hK K hHeld
  have hHeld := hHeld2
  clear hHeld2
  try simp only [Act.put, List.setIfInBounds_toArray, List.set_cons_zero, List.set_cons_succ]
  repeat (first | (refine planT_load (v := .agg #[.int .i64 x.k, .int .i64 x.w, .int .i64 x.s, .int .i64 x.c, .int .u32 x.st, .slice x.ia x.il x.ic, .int .i64 x.wr, .slice x.ra x.rl x.rc]) rfl rfl rfl 26 _ rfl _ rfl (fun u hSw => hSw.1) ?_; (try simp only [Act.put, List.setIfInBounds_toArray, List.set_cons_zero, List.set_cons_succ])) | (refine planT_read (v := ?_) rfl rfl ?_ ?_ ?_; rotate_left; (focus rfl); (focus (intro u hSw; (try dsimp only at hSw); go_simp; (try with_reducible rfl); done)); (try simp only [Act.put, List.setIfInBounds_toArray, List.set_cons_zero, List.set_cons_succ])))
  refine planT_last rfl ?_ (fun K hK => ?_)
  · rfl
  go_simp
  go_wp2_with (go_at_call 94; refine (Write_at bN (1 + rN) ((x.rl : Int) + 2) HU.out HM.out HB.out HJ.out HN.out H1.out).mono ?_; rintro e w4 ⟨rfl, hx⟩; have H4 := Lib.hid hx; clear hx)
  refine hK.out _ _ ?_
  clear hK K hHeld KEEP
  go_wp2_with (go_at_call 90; refine (Go_any 1 H4.out).mono ?_; rintro e w6 ⟨rfl, hx⟩; have H6 := Lib.hid hx; clear hx)
  all_goals (first | (go_end0; exact ⟨rfl, H6.out⟩) | (refine bodyPost_ret (results_none rfl _ _ _) rfl ?_; exact ⟨rfl, H6.out⟩))
set_option maxHeartbeats 4000000 in
theorem read_1 {T : TypeId} {bx mb : Nat} {sv r0 : Value} {W0 W : World} {x : Core} {rec ws : List Int} {n : Int} (bN : Nat) (hm : x.m = .pointer (some ⟨mb, 0, none⟩)) (hb : x.base = (bN : Int)) (hn : 0 ≤ n ∧ n ≤ 1000000) (rN : Nat) (hrd : x.reader = (rN : Int)) (hrb : rN ≤ 100) (hj : bN + 0 < ws.length) (hph : x.phase = 1) (h : St T bx mb sv W0 r0 W x rec ws n) :
    Calls Tryd.prog 71 #[.pointer (some ⟨bx, 0, none⟩)] W fun e W' => e = .returned (.tuple #[]) ∧ St T bx mb sv W0 r0 W' { x with a := ws.getD (bN + 0) 0, phase := 2, i := 0 } rec ws (n + 1) := by
  have H := Lib.hid h
  have HM := Lib.hid hm
  have HB := Lib.hid hb
  have HN := Lib.hid hn
  obtain ⟨vv, hvv⟩ : ∃ vv, ws.getD (bN + 0) 0 = vv := ⟨_, rfl⟩
  have hvb : 0 ≤ vv ∧ vv ≤ 4294967295 := by rw [← hvv]; exact u32_bd h.memory hj
  have HVV := Lib.hid hvv
  rw [hvv]
  have e10 : W.cell? ⟨bx, 10, none⟩ = some (.int .i64 1) := by rw [← hph]; exact H.out.cell 10 _ (fun _ => rfl)
  have e9 : W.cell? ⟨bx, 9, none⟩ = some (.int .i64 (rN : Int)) := by rw [← hrd]; exact H.out.cell 9 _ (fun _ => rfl)
  have hown : IntKind.i64.wrap (1 + (rN : Int)) = ((1 + rN : Nat) : Int) := by rw [IntKind.wrap_i64]; omega
  have HJ := Lib.hid hj
  clear h hph hm hb hn hj hvv hvb hrd hrb
  go_enter Tryd.func71, Tryd.ntmps71
  go_wp2_with (first | (go_at_call 98; refine (Read_at bN 0 HM.out HB.out HJ.out HN.out H.out).mono ?_; rintro e w1 ⟨rfl, hx⟩; rw [HVV.out]; have e13 : w1.cell? ⟨bx, 13, none⟩ = some (.int .u32 x.a) := hx.1.cell 13 _ (fun _ => rfl); have f13 := hx.1.free 13; have H1 := Lib.hid hx; clear hx) | (go_at_call 90; refine (Go_any 2 (H1.out.1.put 13 (.int .u32 vv) ({ x with a := vv }) (fun _ => rfl))).mono ?_; rintro e w2 ⟨rfl, hx⟩; have H6 := Lib.hid hx; clear hx))
  all_goals (first | (go_end0; exact ⟨rfl, H6.out⟩) | (refine bodyPost_ret (results_none rfl _ _ _) rfl ?_; exact ⟨rfl, H6.out⟩))
set_option maxHeartbeats 4000000 in
theorem read_2 {T : TypeId} {bx mb : Nat} {sv r0 : Value} {W0 W : World} {x : Core} {rec ws : List Int} {n : Int} (bN : Nat) (hm : x.m = .pointer (some ⟨mb, 0, none⟩)) (hb : x.base = (bN : Int)) (hn : 0 ≤ n ∧ n ≤ 1000000) (rN : Nat) (hrd : x.reader = (rN : Int)) (hrb : rN ≤ 100) (hrl : x.rl ≤ 100) (ha : 0 ≤ x.a ∧ x.a ≤ 4294967295) (hj : bN + (1 + rN) < ws.length) (hph : x.phase = 2) (h : St T bx mb sv W0 r0 W x rec ws n) :
    Calls Tryd.prog 71 #[.pointer (some ⟨bx, 0, none⟩)] W fun e W' => e = .returned (.tuple #[]) ∧ St T bx mb sv W0 r0 W' { x with phase := 3, i := 0 } rec (swapL ws (bN + (1 + rN)) ((x.rl : Int) + 2) x.a) (n + 1) := by
  have H := Lib.hid h
  have HM := Lib.hid hm
  have HB := Lib.hid hb
  have HN := Lib.hid hn
  have e10 : W.cell? ⟨bx, 10, none⟩ = some (.int .i64 2) := by rw [← hph]; exact H.out.cell 10 _ (fun _ => rfl)
  have e9 : W.cell? ⟨bx, 9, none⟩ = some (.int .i64 (rN : Int)) := by rw [← hrd]; exact H.out.cell 9 _ (fun _ => rfl)
  have hown : IntKind.i64.wrap (1 + (rN : Int)) = ((1 + rN : Nat) : Int) := by rw [IntKind.wrap_i64]; omega
  have HBB := Lib.hid ha
  have HRLL := Lib.hid hrl
  have HJ := Lib.hid hj
  have eS0 : W.cell? ⟨bx, 13, none⟩ = some (.int .u32 x.a) := H.out.cell 13 _ (fun _ => rfl)
  have KEEP := Lib.hid (fun (V : World) (h : Chg [] W V) => (⟨h.keep eS0 (by simp), Lib.hid h⟩ : (fun V : World => V.cell? ⟨bx, 13, none⟩ = some (.int .u32 x.a) ∧ Hid (Chg [] W V)) V))
  clear eS0
  clear h hph hm hb hn hj hrl ha hrd hrb
  go_enter Tryd.func71, Tryd.ntmps71
  go_wp2_with fail
  have hHeld : (fun V : World => V.cell? ⟨bx, 13, none⟩ = some (.int .u32 x.a) ∧ Hid (Chg [] W V)) (World.drew W) := KEEP.out _ (Chg.refl _ _).drew
  refine wp_region_planT (fun V : World => V.cell? ⟨bx, 13, none⟩ = some (.int .u32 x.a) ∧ Hid (Chg [] W V)) 11 [(0, true, some 53), (1, true, some 54), (2, true, some 55), (3, true, some 56), (4, true, some 57), (6, true, some 59), (7, true, some 60), (8, true, some 61), (9, true, some 62), (10, true, some 63), (5, false, some 58)] (by kernel_rfl) (by kernel_rfl) (by kernel_rfl) (by kernel_rfl) (by kernel_rfl) (fun d c a v w h => by cases d <;> exact h) hHeld ?_
  repeat (first | (refine planT_load (v := .agg #[.int .i64 x.k, .int .i64 x.w, .int .i64 x.s, .int .i64 x.c, .int .u32 x.st, .slice x.ia x.il x.ic, .int .i64 x.wr, .slice x.ra x.rl x.rc]) rfl rfl rfl 26 _ rfl _ rfl (fun u hSw => hSw.1) ?_; (try simp only [Act.put, List.setIfInBounds_toArray, List.set_cons_zero, List.set_cons_succ])) | (refine planT_read (v := ?_) rfl rfl ?_ ?_ ?_; rotate_left; (focus rfl); (focus (intro u hSw; (try dsimp only at hSw); go_simp; (try with_reducible rfl); done)); (try simp only [Act.put, List.setIfInBounds_toArray, List.set_cons_zero, List.set_cons_succ])))
  refine planT_do rfl rfl ?_ (fun K hK => ?_)
  · rfl
  go_simp
  go_wp2_with (go_at_call 102; refine (none_any HRLL.out (H.out.keep (Chg.refl _ _).drew)).mono ?_; rintro e w1 ⟨rfl, hx⟩; have HC1 := Lib.hid ((Chg.refl [] W).drew.trans hx); have H1 := Lib.hid (H.out.keep HC1.out); clear hx)
  refine hK.out _ _ (KEEP.out _ HC1.out) (fun hHeld2 => ?_)
  clear hK K hHeld
  have hHeld := hHeld2
  clear hHeld2
  try simp only [Act.put, List.setIfInBounds_toArray, List.set_cons_zero, List.set_cons_succ]
  repeat (first | (refine planT_load (v := .agg #[.int .i64 x.k, .int .i64 x.w, .int .i64 x.s, .int .i64 x.c, .int .u32 x.st, .slice x.ia x.il x.ic, .int .i64 x.wr, .slice x.ra x.rl x.rc]) rfl rfl rfl 26 _ rfl _ rfl (fun u hSw => hSw.1) ?_; (try simp only [Act.put, List.setIfInBounds_toArray, List.set_cons_zero, List.set_cons_succ])) | (refine planT_read (v := ?_) rfl rfl ?_ ?_ ?_; rotate_left; (focus rfl); (focus (intro u hSw; (try dsimp only at hSw); go_simp; (try with_reducible rfl); done)); (try simp only [Act.put, List.setIfInBounds_toArray, List.set_cons_zero, List.set_cons_succ])))
  refine planT_last rfl ?_ (fun K hK => ?_)
  · rfl
  go_simp
  go_wp2_with (go_at_call 101; refine (Swap_at bN (1 + rN) ((x.rl : Int) + 2) x.a HBB.out HM.out HB.out HJ.out HN.out H1.out).mono ?_; rintro e w2 ⟨rfl, hx⟩; have H4 := Lib.hid hx; clear hx)
  refine hK.out _ _ ?_
  clear hK K hHeld KEEP
  go_wp2_with (go_at_call 90; refine (Go_any 3 H4.out).mono ?_; rintro e w6 ⟨rfl, hx⟩; have H6 := Lib.hid hx; clear hx)
  all_goals (first | (go_end0; exact ⟨rfl, H6.out⟩) | (refine bodyPost_ret (results_none rfl _ _ _) rfl ?_; exact ⟨rfl, H6.out⟩))
set_option maxHeartbeats 4000000 in
theorem read_3 {T : TypeId} {bx mb : Nat} {sv r0 : Value} {W0 W : World} {x : Core} {rec ws : List Int} {n : Int} (bN : Nat) (hm : x.m = .pointer (some ⟨mb, 0, none⟩)) (hb : x.base = (bN : Int)) (hn : 0 ≤ n ∧ n ≤ 1000000) (rN : Nat) (hrd : x.reader = (rN : Int)) (hrb : rN ≤ 100) (hrl : x.rl ≤ 100) (hj : bN + (1 + rN) < ws.length) (hph : x.phase = 3) (h : St T bx mb sv W0 r0 W x rec ws n) :
    Calls Tryd.prog 71 #[.pointer (some ⟨bx, 0, none⟩)] W fun e W' => e = .returned (.tuple #[]) ∧ St T bx mb sv W0 r0 W' { x with b := ws.getD (bN + (1 + rN)) 0 % ((x.rl : Int) + 2), phase := 4, i := 0 } rec ws (n + 1) := by
  have H := Lib.hid h
  have HM := Lib.hid hm
  have HB := Lib.hid hb
  have HN := Lib.hid hn
  obtain ⟨vv, hvv⟩ : ∃ vv, ws.getD (bN + (1 + rN)) 0 = vv := ⟨_, rfl⟩
  have hvb : 0 ≤ vv ∧ vv ≤ 4294967295 := by rw [← hvv]; exact u32_bd h.memory hj
  have HVV := Lib.hid hvv
  rw [hvv]
  have e10 : W.cell? ⟨bx, 10, none⟩ = some (.int .i64 3) := by rw [← hph]; exact H.out.cell 10 _ (fun _ => rfl)
  have e9 : W.cell? ⟨bx, 9, none⟩ = some (.int .i64 (rN : Int)) := by rw [← hrd]; exact H.out.cell 9 _ (fun _ => rfl)
  have hown : IntKind.i64.wrap (1 + (rN : Int)) = ((1 + rN : Nat) : Int) := by rw [IntKind.wrap_i64]; omega
  have hmn : ((x.rl : Int) + 2) ≠ 0 := by omega
  have hm0 : (((x.rl : Int) + 2) == 0) = false := by simp; omega
  have kt : Int.tmod vv ((x.rl : Int) + 2) = vv % ((x.rl : Int) + 2) := tmod_nn hvb.1
  have hlt := Int.emod_lt_of_pos vv (show 0 < ((x.rl : Int) + 2) by omega)
  have hge := Int.emod_nonneg vv hmn
  have kw : IntKind.u32.wrap (vv % ((x.rl : Int) + 2)) = vv % ((x.rl : Int) + 2) := by rw [IntKind.wrap_u32]; omega
  have HRLL := Lib.hid hrl
  have HJ := Lib.hid hj
  clear h hph hm hb hn hj hvv hvb hrl hrd hrb hlt hge
  go_enter Tryd.func71, Tryd.ntmps71
  go_wp2_with (first | (go_at_call 98; refine (Read_at bN (1 + rN) HM.out HB.out HJ.out HN.out H.out).mono ?_; rintro e w1 ⟨rfl, hx⟩; rw [HVV.out]; have H1 := Lib.hid hx; clear hx) | (go_at_call 102; refine (none_any HRLL.out H1.out.1).mono ?_; rintro e w2 ⟨rfl, hx⟩; have H2 := Lib.hid (H1.out.1.keep hx); have e14 : w2.cell? ⟨bx, 14, none⟩ = some (.int .u32 x.b) := H2.out.cell 14 _ (fun _ => rfl); have f14 := H2.out.free 14; clear hx) | (go_at_call 90; refine (Go_any 4 (H2.out.put 14 (.int .u32 (vv % ((x.rl : Int) + 2))) ({ x with b := vv % ((x.rl : Int) + 2) }) (fun _ => rfl))).mono ?_; rintro e w6 ⟨rfl, hx⟩; have H6 := Lib.hid hx; clear hx))
  all_goals (first | (go_end0; exact ⟨rfl, H6.out⟩) | (refine bodyPost_ret (results_none rfl _ _ _) rfl ?_; exact ⟨rfl, H6.out⟩))
set_option maxHeartbeats 4000000 in
theorem read_4 {T : TypeId} {bx mb : Nat} {sv r0 : Value} {W0 W : World} {x : Core} {rec ws : List Int} {n : Int} (bN : Nat) (hm : x.m = .pointer (some ⟨mb, 0, none⟩)) (hb : x.base = (bN : Int)) (hn : 0 ≤ n ∧ n ≤ 1000000) (rN : Nat) (hrd : x.reader = (rN : Int)) (hrb : rN ≤ 100) (wN iN fN : Nat) (hwb : 1 ≤ x.w ∧ x.w ≤ 8) (hrl : x.rl ≤ 100) (hsl : 0 ≤ x.b ∧ x.b ≤ 16) (hf : place x x.b = fN) (hw : x.w = (wN : Int)) (hi : x.i = (iN : Int)) (hil : iN < 8) (hop : x.op ≠ 2 ∧ x.op ≠ 3) (hir : rec.length < 1000) (hj : bN + (fN + iN) < ws.length) (hph : x.phase = 4) (h : St T bx mb sv W0 r0 W x rec ws n) :
    Calls Tryd.prog 71 #[.pointer (some ⟨bx, 0, none⟩)] W fun e W' => e = .returned (.tuple #[]) ∧ St T bx mb sv W0 r0 W' (if wN ≤ iN + 1 then { x with i := (iN : Int) + 1, over := true, code := 0 } else { x with i := (iN : Int) + 1 }) (if wN ≤ iN + 1 then endRec x.op 0 (rec ++ [ws.getD (bN + (fN + iN)) 0]) else (rec ++ [ws.getD (bN + (fN + iN)) 0])) ws (n + 1) := by
  have H := Lib.hid h
  have HM := Lib.hid hm
  have HB := Lib.hid hb
  have HN := Lib.hid hn
  have e10 : W.cell? ⟨bx, 10, none⟩ = some (.int .i64 4) := by rw [← hph]; exact H.out.cell 10 _ (fun _ => rfl)
  have e9 : W.cell? ⟨bx, 9, none⟩ = some (.int .i64 (rN : Int)) := by rw [← hrd]; exact H.out.cell 9 _ (fun _ => rfl)
  have hown : IntKind.i64.wrap (1 + (rN : Int)) = ((1 + rN : Nat) : Int) := by rw [IntKind.wrap_i64]; omega
  have HW := Lib.hid hw
  have HWB := Lib.hid hwb
  have HSL := Lib.hid hsl
  have HRLL := Lib.hid hrl
  have HF := Lib.hid hf
  have HI := Lib.hid hi
  have HOP := Lib.hid hop
  have HIR := Lib.hid hir
  have HJ := Lib.hid hj
  have KEEP : Hid (∀ V, Chg [] W V → (fun V : World => Hid (Chg [] W V)) V) := Lib.hid (fun V h => Lib.hid h)
  clear h hph hm hb hn hj hw hi hop hir hwb hsl hf hrl hrd hrb
  by_cases hle : wN ≤ iN + 1
  · have HDEC : Hid (decide ((wN : Int) ≤ (iN : Int) + 1) = true) := Lib.hid (by simpa using (by omega : (wN : Int) ≤ (iN : Int) + 1))
    rw [if_pos hle, if_pos hle]
    clear hle
    go_enter Tryd.func71, Tryd.ntmps71
    go_wp2_with fail
    have hHeld : (fun V : World => Hid (Chg [] W V)) (World.drew W) := KEEP.out _ (Chg.refl _ _).drew
    refine wp_region_planT (fun V : World => Hid (Chg [] W V)) 5 [(0, true, some 14), (1, true, some 15), (2, true, some 16), (3, true, some 17), (4, false, some 18)] (by kernel_rfl) (by kernel_rfl) (by kernel_rfl) (by kernel_rfl) (by kernel_rfl) (fun d c a v w h => by cases d <;> exact h) hHeld ?_
    repeat (first | (refine planT_load (v := .agg #[.int .i64 x.k, .int .i64 x.w, .int .i64 x.s, .int .i64 x.c, .int .u32 x.st, .slice x.ia x.il x.ic, .int .i64 x.wr, .slice x.ra x.rl x.rc]) rfl rfl rfl 26 _ rfl _ rfl (fun u hSw => hSw.1) ?_; (try simp only [Act.put, List.setIfInBounds_toArray, List.set_cons_zero, List.set_cons_succ])) | (refine planT_read (v := ?_) rfl rfl ?_ ?_ ?_; rotate_left; (focus rfl); (focus (intro u hSw; (try dsimp only at hSw); go_simp; (try with_reducible rfl); done)); (try simp only [Act.put, List.setIfInBounds_toArray, List.set_cons_zero, List.set_cons_succ])))
    refine planT_do rfl rfl ?_ (fun K hK => ?_)
    · rfl
    go_simp
    go_wp2_with (go_at_call 100; refine (from_any HSL.out HWB.out HRLL.out (H.out.keep (Chg.refl _ _).drew)).mono ?_; rintro e w1 ⟨rfl, hx⟩; rw [HF.out]; have HC1 := Lib.hid ((Chg.refl [] W).drew.trans hx); have H1 := Lib.hid (H.out.keep HC1.out); clear hx)
    refine hK.out _ _ (KEEP.out _ HC1.out) (fun hHeld2 => ?_)
    clear hK K hHeld
    have hHeld := hHeld2
    clear hHeld2
    try simp only [Act.put, List.setIfInBounds_toArray, List.set_cons_zero, List.set_cons_succ]
    repeat (first | (refine planT_load (v := .agg #[.int .i64 x.k, .int .i64 x.w, .int .i64 x.s, .int .i64 x.c, .int .u32 x.st, .slice x.ia x.il x.ic, .int .i64 x.wr, .slice x.ra x.rl x.rc]) rfl rfl rfl 26 _ rfl _ rfl (fun u hSw => hSw.1) ?_; (try simp only [Act.put, List.setIfInBounds_toArray, List.set_cons_zero, List.set_cons_succ])) | (refine planT_read (v := ?_) rfl rfl ?_ ?_ ?_; rotate_left; (focus rfl); (focus (intro u hSw; (try dsimp only at hSw); go_simp; (try with_reducible rfl); done)); (try simp only [Act.put, List.setIfInBounds_toArray, List.set_cons_zero, List.set_cons_succ])))
    refine planT_last rfl ?_ (fun K hK => ?_)
    · rfl
    go_simp
    go_wp2_with (go_at_call 92; refine (Word_read bN fN iN HOP.out HM.out HB.out HI.out HIR.out (by omega) HJ.out HN.out H1.out).mono ?_; rintro e w4 ⟨rfl, hx⟩; rw [HW.out, HDEC.out]; have H4 := Lib.hid hx; clear hx)
    refine hK.out _ _ ?_
    clear hK K hHeld KEEP
    go_wp2_with (go_at_call 95; refine (End_any 0 H4.out).mono ?_; rintro e w6 ⟨rfl, hx⟩; have H6 := Lib.hid hx; clear hx)
    all_goals (first | (go_end0; exact ⟨rfl, H6.out⟩) | (refine bodyPost_ret (results_none rfl _ _ _) rfl ?_; exact ⟨rfl, H6.out⟩))
  · have HDEC : Hid (decide ((wN : Int) ≤ (iN : Int) + 1) = false) := Lib.hid (by simpa using (by omega : ¬ (wN : Int) ≤ (iN : Int) + 1))
    rw [if_neg hle, if_neg hle]
    clear hle
    go_enter Tryd.func71, Tryd.ntmps71
    go_wp2_with fail
    have hHeld : (fun V : World => Hid (Chg [] W V)) (World.drew W) := KEEP.out _ (Chg.refl _ _).drew
    refine wp_region_planT (fun V : World => Hid (Chg [] W V)) 5 [(0, true, some 14), (1, true, some 15), (2, true, some 16), (3, true, some 17), (4, false, some 18)] (by kernel_rfl) (by kernel_rfl) (by kernel_rfl) (by kernel_rfl) (by kernel_rfl) (fun d c a v w h => by cases d <;> exact h) hHeld ?_
    repeat (first | (refine planT_load (v := .agg #[.int .i64 x.k, .int .i64 x.w, .int .i64 x.s, .int .i64 x.c, .int .u32 x.st, .slice x.ia x.il x.ic, .int .i64 x.wr, .slice x.ra x.rl x.rc]) rfl rfl rfl 26 _ rfl _ rfl (fun u hSw => hSw.1) ?_; (try simp only [Act.put, List.setIfInBounds_toArray, List.set_cons_zero, List.set_cons_succ])) | (refine planT_read (v := ?_) rfl rfl ?_ ?_ ?_; rotate_left; (focus rfl); (focus (intro u hSw; (try dsimp only at hSw); go_simp; (try with_reducible rfl); done)); (try simp only [Act.put, List.setIfInBounds_toArray, List.set_cons_zero, List.set_cons_succ])))
    refine planT_do rfl rfl ?_ (fun K hK => ?_)
    · rfl
    go_simp
    go_wp2_with (go_at_call 100; refine (from_any HSL.out HWB.out HRLL.out (H.out.keep (Chg.refl _ _).drew)).mono ?_; rintro e w1 ⟨rfl, hx⟩; rw [HF.out]; have HC1 := Lib.hid ((Chg.refl [] W).drew.trans hx); have H1 := Lib.hid (H.out.keep HC1.out); clear hx)
    refine hK.out _ _ (KEEP.out _ HC1.out) (fun hHeld2 => ?_)
    clear hK K hHeld
    have hHeld := hHeld2
    clear hHeld2
    try simp only [Act.put, List.setIfInBounds_toArray, List.set_cons_zero, List.set_cons_succ]
    repeat (first | (refine planT_load (v := .agg #[.int .i64 x.k, .int .i64 x.w, .int .i64 x.s, .int .i64 x.c, .int .u32 x.st, .slice x.ia x.il x.ic, .int .i64 x.wr, .slice x.ra x.rl x.rc]) rfl rfl rfl 26 _ rfl _ rfl (fun u hSw => hSw.1) ?_; (try simp only [Act.put, List.setIfInBounds_toArray, List.set_cons_zero, List.set_cons_succ])) | (refine planT_read (v := ?_) rfl rfl ?_ ?_ ?_; rotate_left; (focus rfl); (focus (intro u hSw; (try dsimp only at hSw); go_simp; (try with_reducible rfl); done)); (try simp only [Act.put, List.setIfInBounds_toArray, List.set_cons_zero, List.set_cons_succ])))
    refine planT_last rfl ?_ (fun K hK => ?_)
    · rfl
    go_simp
    go_wp2_with (go_at_call 92; refine (Word_read bN fN iN HOP.out HM.out HB.out HI.out HIR.out (by omega) HJ.out HN.out H1.out).mono ?_; rintro e w4 ⟨rfl, hx⟩; rw [HW.out, HDEC.out]; have H4 := Lib.hid hx; clear hx)
    refine hK.out _ _ ?_
    clear hK K hHeld KEEP
    go_wp2_with fail
    all_goals (first | (go_end0; exact ⟨rfl, H4.out⟩) | (refine bodyPost_ret (results_none rfl _ _ _) rfl ?_; exact ⟨rfl, H4.out⟩))
end Go.Proofs.YtapaolaemkhbdaaDoor.chen
