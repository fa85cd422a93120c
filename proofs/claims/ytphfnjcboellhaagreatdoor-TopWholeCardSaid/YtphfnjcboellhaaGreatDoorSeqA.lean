import Derived.Test.YtphfnjcboellhaaGreatDoorCore
import Derived.Test.YtphfnjcboellhaaGreatDoorRopA
namespace Go.Proofs.YtphfnjcboellhaaGreatDoor.seq
open Go Go.RowKit kit mem rop core
set_option maxRecDepth 20000
theorem word_bd {W : World} {b : Nat} {sv : Value} {ws : List Int} {n : Int} {i : Nat} (h : MemAt W b sv ws n) (hi : i < ws.length) : 0 <= ws.getD i 0 /\ ws.getD i 0 <= 4294967295 := by
 have hget : ws.getD i 0 = ws[i] := by simp [List.getD, hi]
 rw [hget]
 exact wf_u32 (h.wf _ (List.getElem_mem hi))
set_option maxHeartbeats 4000000 in
theorem write_0 {T : TypeId} {bx mb : Nat} {sv r0 : Value} {W0 W : World} {x : Core} {rec ws : List Int} {n : Int} (bN : Nat) (hm : x.m = .pointer (some ⟨mb, 0, none⟩)) (hb : x.base = (bN : Int)) (hn : 0 <= n /\ n <= 1000000) (hj : bN + 0 < ws.length) (hph : x.phase = 0) (h : St T bx mb sv W0 r0 W x rec ws n) :
 Calls Tryz.prog 109 #[.pointer (some ⟨bx, 0, none⟩)] W fun e W' => e = .returned (.tuple #[]) /\ St T bx mb sv W0 r0 W' { x with a := ws.getD (bN + 0) 0, phase := 1, i := 0 } rec ws (n + 1) := by
 have H := hid h
 have HM := hid hm
 have HB := hid hb
 have HN := hid hn
 obtain ⟨vv, hvv⟩ : ∃ vv, ws.getD (bN + 0) 0 = vv := ⟨_, rfl⟩
 have hvb : 0 <= vv /\ vv <= 4294967295 := by rw [<- hvv]; exact word_bd h.memory hj
 have HVV := hid hvv
 rw [hvv]
 have e10 : W.cell? ⟨bx, 10, none⟩ = some (.int .i64 0) := by rw [<- hph]; exact H.out.cell 10 _ (fun _ => rfl)
 have HJ := hid hj
 clear h hph hm hb hn hj hvv hvb
 go_enter Tryz.func109, Tryz.ntmps109
 go_wp2_with (first | (go_at_call 127; refine (Read_at bN 0 HM.out HB.out HJ.out HN.out H.out).mono ?_; rintro e w1 ⟨rfl, hx⟩; rw [HVV.out]; have e13 : w1.cell? ⟨bx, 13, none⟩ = some (.int .u32 x.a) := hx.1.cell 13 _ (fun _ => rfl); have f13 := hx.1.free 13; have H1 := hid hx; clear hx) | (go_at_call 128; refine (Go_any 1 (H1.out.1.put 13 (.int .u32 vv) ({ x with a := vv }) (fun _ => rfl))).mono ?_; rintro e w2 ⟨rfl, hx⟩; have H2 := hid hx; clear hx))
 go_end0
 exact ⟨rfl, H2.out⟩
set_option maxHeartbeats 4000000 in
theorem write_1 {T : TypeId} {bx mb : Nat} {sv r0 : Value} {W0 W : World} {x : Core} {rec ws : List Int} {n : Int} (bN : Nat) (hm : x.m = .pointer (some ⟨mb, 0, none⟩)) (hb : x.base = (bN : Int)) (hn : 0 <= n /\ n <= 1000000) (hab : 0 <= x.a /\ x.a <= 4294967295) (hj : bN + 0 < ws.length) (hph : x.phase = 1) (h : St T bx mb sv W0 r0 W x rec ws n) :
 Calls Tryz.prog 109 #[.pointer (some ⟨bx, 0, none⟩)] W fun e W' => e = .returned (.tuple #[]) /\ St T bx mb sv W0 r0 W' { x with phase := 2, i := 0 } rec (ws.set (bN + 0) ((x.a + 1) % 4294967296)) (n + 1) := by
 have H := hid h
 have HM := hid hm
 have HB := hid hb
 have HN := hid hn
 have e10 : W.cell? ⟨bx, 10, none⟩ = some (.int .i64 1) := by rw [<- hph]; exact H.out.cell 10 _ (fun _ => rfl)
 have hw : IntKind.u32.wrap (x.a + 1) = (x.a + 1) % 4294967296 := by rw [IntKind.wrap_u32]
 have HU : Hid (0 <= (x.a + 1) % 4294967296 /\ (x.a + 1) % 4294967296 <= 4294967295) := hid (by omega)
 have G0 : Hid (W.cell? ⟨bx, 13, none⟩ = some (.int .u32 x.a)) := hid (by skip; exact H.out.cell 13 _ (fun _ => rfl))
 have HJ := hid hj
 clear h hph hm hb hn hj hab
 go_enter Tryz.func109, Tryz.ntmps109
 go_wp2_with fail
 refine wp_region_tail 9 (by kernel_rfl) (by kernel_rfl) ?_
 intro W3 hW3
 have g0 : W3.cell? ⟨bx, 13, none⟩ = some (.int .u32 x.a) := by rw [hW3.out]; exact G0.out
 have H3 : Hid (St T bx mb sv W0 r0 W3 x rec ws n) := hid (by rw [hW3.out]; exact H.out.keep (Chg.refl _ _).drew)
 clear hW3
 simp only [List.take_succ_cons, List.take_zero, List.drop_succ_cons, List.drop_zero]
 repeat still_step
 refine wpStill_nil ?_
 go_wp2_with (first | (go_at_call 131; refine (Write_at bN 0 ((x.a + 1) % 4294967296) HU.out HM.out HB.out HJ.out HN.out H3.out).mono ?_; rintro e w4 ⟨rfl, hx⟩; have H4 := hid hx; clear hx) | (go_at_call 128; refine (Go_any 2 H4.out).mono ?_; rintro e w6 ⟨rfl, hx⟩; have H6 := hid hx; clear hx))
 go_end0
 exact ⟨rfl, H6.out⟩
set_option maxHeartbeats 4000000 in
theorem write_3 {T : TypeId} {bx mb : Nat} {sv r0 : Value} {W0 W : World} {x : Core} {rec ws : List Int} {n : Int} (bN : Nat) (hm : x.m = .pointer (some ⟨mb, 0, none⟩)) (hb : x.base = (bN : Int)) (hn : 0 <= n /\ n <= 1000000) (hab : 0 <= x.a /\ x.a <= 4294967295) (hj : bN + 0 < ws.length) (hph : x.phase = 3) (h : St T bx mb sv W0 r0 W x rec ws n) :
 Calls Tryz.prog 109 #[.pointer (some ⟨bx, 0, none⟩)] W fun e W' => e = .returned (.tuple #[]) /\ St T bx mb sv W0 r0 W' { x with over := true, code := 0 } (endRec x.op 0 rec) (ws.set (bN + 0) ((x.a + 2) % 4294967296)) (n + 1) := by
 have H := hid h
 have HM := hid hm
 have HB := hid hb
 have HN := hid hn
 have e10 : W.cell? ⟨bx, 10, none⟩ = some (.int .i64 3) := by rw [<- hph]; exact H.out.cell 10 _ (fun _ => rfl)
 have hw : IntKind.u32.wrap (x.a + 2) = (x.a + 2) % 4294967296 := by rw [IntKind.wrap_u32]
 have HU : Hid (0 <= (x.a + 2) % 4294967296 /\ (x.a + 2) % 4294967296 <= 4294967295) := hid (by omega)
 have G0 : Hid (W.cell? ⟨bx, 13, none⟩ = some (.int .u32 x.a)) := hid (by skip; exact H.out.cell 13 _ (fun _ => rfl))
 have HJ := hid hj
 clear h hph hm hb hn hj hab
 go_enter Tryz.func109, Tryz.ntmps109
 go_wp2_with fail
 refine wp_region_tail 9 (by kernel_rfl) (by kernel_rfl) ?_
 intro W3 hW3
 have g0 : W3.cell? ⟨bx, 13, none⟩ = some (.int .u32 x.a) := by rw [hW3.out]; exact G0.out
 have H3 : Hid (St T bx mb sv W0 r0 W3 x rec ws n) := hid (by rw [hW3.out]; exact H.out.keep (Chg.refl _ _).drew)
 clear hW3
 simp only [List.take_succ_cons, List.take_zero, List.drop_succ_cons, List.drop_zero]
 repeat still_step
 refine wpStill_nil ?_
 go_wp2_with (first | (go_at_call 131; refine (Write_at bN 0 ((x.a + 2) % 4294967296) HU.out HM.out HB.out HJ.out HN.out H3.out).mono ?_; rintro e w4 ⟨rfl, hx⟩; have H4 := hid hx; clear hx) | (go_at_call 132; refine (End_any 0 H4.out).mono ?_; rintro e w6 ⟨rfl, hx⟩; have H6 := hid hx; clear hx))
 go_end0
 exact ⟨rfl, H6.out⟩
set_option maxHeartbeats 4000000 in
theorem write_2 {T : TypeId} {bx mb : Nat} {sv r0 : Value} {W0 W : World} {x : Core} {rec ws : List Int} {n : Int} (bN : Nat) (hm : x.m = .pointer (some ⟨mb, 0, none⟩)) (hb : x.base = (bN : Int)) (hn : 0 <= n /\ n <= 1000000) (wN iN : Nat) (hw : x.w = (wN : Int)) (hi : x.i = (iN : Int)) (hil : iN < 8) (hop : x.op = 2 \/ x.op = 3) (hir : iN < rec.length) (hj : bN + (1 + iN) < ws.length) (hph : x.phase = 2) (h : St T bx mb sv W0 r0 W x rec ws n) :
 Calls Tryz.prog 109 #[.pointer (some ⟨bx, 0, none⟩)] W fun e W' => e = .returned (.tuple #[]) /\ St T bx mb sv W0 r0 W' (if wN <= iN + 1 then { x with phase := 3, i := 0 } else { x with i := (iN : Int) + 1 }) rec (ws.set (bN + (1 + iN)) (rec.getD iN 0)) (n + 1) := by
 have H := hid h
 have HM := hid hm
 have HB := hid hb
 have HN := hid hn
 have e10 : W.cell? ⟨bx, 10, none⟩ = some (.int .i64 2) := by rw [<- hph]; exact H.out.cell 10 _ (fun _ => rfl)
 have HW := hid hw
 have HI := hid hi
 have HOP := hid hop
 have HIR := hid hir
 have HJ := hid hj
 clear h hph hm hb hn hj hw hi hop hir
 by_cases hle : wN <= iN + 1
 · have HDEC : Hid (decide ((wN : Int) <= (iN : Int) + 1) = true) := hid (by simpa using (by omega : (wN : Int) <= (iN : Int) + 1))
   rw [if_pos hle]
   clear hle
   go_enter Tryz.func109, Tryz.ntmps109
   go_wp2_with (first | (go_at_call 129; refine (Word_write bN 1 iN HOP.out HM.out HB.out HI.out HIR.out HJ.out HN.out H.out).mono ?_; rintro e w4 ⟨rfl, hx⟩; rw [HW.out, HDEC.out]; have H4 := hid hx; clear hx) | (go_at_call 128; refine (Go_any 3 H4.out).mono ?_; rintro e w6 ⟨rfl, hx⟩; have H6 := hid hx; clear hx))
   go_end0
   exact ⟨rfl, H6.out⟩
 · have HDEC : Hid (decide ((wN : Int) <= (iN : Int) + 1) = false) := hid (by simpa using (by omega : ¬ (wN : Int) <= (iN : Int) + 1))
   rw [if_neg hle]
   clear hle
   go_enter Tryz.func109, Tryz.ntmps109
   go_wp2_with (go_at_call 129; refine (Word_write bN 1 iN HOP.out HM.out HB.out HI.out HIR.out HJ.out HN.out H.out).mono ?_; rintro e w4 ⟨rfl, hx⟩; rw [HW.out, HDEC.out]; have H4 := hid hx; clear hx)
   go_end0
   exact ⟨rfl, H4.out⟩
set_option maxHeartbeats 4000000 in
theorem read_1 {T : TypeId} {bx mb : Nat} {sv r0 : Value} {W0 W : World} {x : Core} {rec ws : List Int} {n : Int} (bN : Nat) (hm : x.m = .pointer (some ⟨mb, 0, none⟩)) (hb : x.base = (bN : Int)) (hn : 0 <= n /\ n <= 1000000) (wN iN : Nat) (hw : x.w = (wN : Int)) (hi : x.i = (iN : Int)) (hil : iN < 8) (hop : x.op ≠ 2 /\ x.op ≠ 3) (hir : rec.length < 1000) (hj : bN + (1 + iN) < ws.length) (hph : x.phase = 1) (h : St T bx mb sv W0 r0 W x rec ws n) :
 Calls Tryz.prog 110 #[.pointer (some ⟨bx, 0, none⟩)] W fun e W' => e = .returned (.tuple #[]) /\ St T bx mb sv W0 r0 W' (if wN <= iN + 1 then { x with phase := 2, i := 0 } else { x with i := (iN : Int) + 1 }) (rec ++ [ws.getD (bN + (1 + iN)) 0]) ws (n + 1) := by
 have H := hid h
 have HM := hid hm
 have HB := hid hb
 have HN := hid hn
 have e10 : W.cell? ⟨bx, 10, none⟩ = some (.int .i64 1) := by rw [<- hph]; exact H.out.cell 10 _ (fun _ => rfl)
 have HW := hid hw
 have HI := hid hi
 have HOP := hid hop
 have HIR := hid hir
 have HJ := hid hj
 clear h hph hm hb hn hj hw hi hop hir
 by_cases hle : wN <= iN + 1
 · have HDEC : Hid (decide ((wN : Int) <= (iN : Int) + 1) = true) := hid (by simpa using (by omega : (wN : Int) <= (iN : Int) + 1))
   rw [if_pos hle]
   clear hle
   go_enter Tryz.func110, Tryz.ntmps110
   go_wp2_with (first | (go_at_call 129; refine (Word_read bN 1 iN HOP.out HM.out HB.out HI.out HIR.out (by omega) HJ.out HN.out H.out).mono ?_; rintro e w4 ⟨rfl, hx⟩; rw [HW.out, HDEC.out]; have H4 := hid hx; clear hx) | (go_at_call 128; refine (Go_any 2 H4.out).mono ?_; rintro e w6 ⟨rfl, hx⟩; have H6 := hid hx; clear hx))
   go_end0
   exact ⟨rfl, H6.out⟩
 · have HDEC : Hid (decide ((wN : Int) <= (iN : Int) + 1) = false) := hid (by simpa using (by omega : ¬ (wN : Int) <= (iN : Int) + 1))
   rw [if_neg hle]
   clear hle
   go_enter Tryz.func110, Tryz.ntmps110
   go_wp2_with (go_at_call 129; refine (Word_read bN 1 iN HOP.out HM.out HB.out HI.out HIR.out (by omega) HJ.out HN.out H.out).mono ?_; rintro e w4 ⟨rfl, hx⟩; rw [HW.out, HDEC.out]; have H4 := hid hx; clear hx)
   go_end0
   exact ⟨rfl, H4.out⟩
def failC (x : Core) : Core := if x.c <= x.tries + 1 then { x with tries := x.tries + 1, phase := 0, i := 0, over := true, code := 1 } else { x with tries := x.tries + 1, phase := 0, i := 0 }
set_option maxHeartbeats 2000000 in
theorem fail_any {T : TypeId} {bx mb : Nat} {sv r0 : Value} {W0 W : World} {x : Core} {rec ws : List Int} {n : Int} (ht : 0 <= x.tries /\ x.tries <= 1000000) (h : St T bx mb sv W0 r0 W x rec ws n) :
 Calls Tryz.prog 138 #[.pointer (some ⟨bx, 0, none⟩)] W fun e W' => e = .returned (.tuple #[]) /\ St T bx mb sv W0 r0 W' (failC x) [] ws n := by
 have H := hid h
 have HT := hid ht
 clear h ht
 by_cases hc : x.c <= x.tries + 1
 · have HDEC : Hid (decide (x.c <= x.tries + 1) = true) := hid (by simpa using hc)
   have HF : Hid (failC x = { x with tries := x.tries + 1, phase := 0, i := 0, over := true, code := 1 }) := hid (if_pos hc)
   clear hc
   go_enter Tryz.func138, Tryz.ntmps138
   go_wp2_with (first | (go_at_call 142; refine (Fail_any HT.out H.out).mono ?_; rintro e w1 ⟨rfl, hx⟩; rw [HDEC.out]; have H1 := hid hx; clear hx) | (go_at_call 132; refine (End_any 1 H1.out).mono ?_; rintro e w2 ⟨rfl, hx⟩; have H2 := hid hx; clear hx))
   go_end0
   refine ⟨rfl, ?_⟩
   rw [HF.out]
   have := H2.out
   simpa [endRec] using this
 · have HDEC : Hid (decide (x.c <= x.tries + 1) = false) := hid (by simpa using hc)
   have HF : Hid (failC x = { x with tries := x.tries + 1, phase := 0, i := 0 }) := hid (if_neg hc)
   clear hc
   go_enter Tryz.func138, Tryz.ntmps138
   go_wp2_with (go_at_call 142; refine (Fail_any HT.out H.out).mono ?_; rintro e w1 ⟨rfl, hx⟩; rw [HDEC.out]; have H1 := hid hx; clear hx)
   go_end0
   refine ⟨rfl, ?_⟩
   rw [HF.out]
   exact H1.out
set_option maxHeartbeats 4000000 in
theorem read_0 {T : TypeId} {bx mb : Nat} {sv r0 : Value} {W0 W : World} {x : Core} {rec ws : List Int} {n : Int} (bN : Nat) (hm : x.m = .pointer (some ⟨mb, 0, none⟩)) (hb : x.base = (bN : Int)) (hn : 0 <= n /\ n <= 1000000) (ht : 0 <= x.tries /\ x.tries <= 1000000) (hj : bN + 0 < ws.length) (hph : x.phase = 0) (h : St T bx mb sv W0 r0 W x rec ws n) :
 Calls Tryz.prog 110 #[.pointer (some ⟨bx, 0, none⟩)] W fun e W' => e = .returned (.tuple #[]) /\ St T bx mb sv W0 r0 W' (if ws.getD (bN + 0) 0 % 2 = 1 then failC { x with a := ws.getD (bN + 0) 0 } else { x with a := ws.getD (bN + 0) 0, phase := 1, i := 0 }) (if ws.getD (bN + 0) 0 % 2 = 1 then [] else rec) ws (n + 1) := by
 have H := hid h
 have HM := hid hm
 have HB := hid hb
 have HN := hid hn
 obtain ⟨vv, hvv⟩ : ∃ vv, ws.getD (bN + 0) 0 = vv := ⟨_, rfl⟩
 have hvb : 0 <= vv /\ vv <= 4294967295 := by rw [<- hvv]; exact word_bd h.memory hj
 have HVV := hid hvv
 rw [hvv]
 have e10 : W.cell? ⟨bx, 10, none⟩ = some (.int .i64 0) := by rw [<- hph]; exact H.out.cell 10 _ (fun _ => rfl)
 have HJ := hid hj
 have HT : Hid (0 <= ({ x with a := vv } : Core).tries /\ ({ x with a := vv } : Core).tries <= 1000000) := hid ht
 have hrem : Int.tmod vv 2 = vv % 2 := by rw [Int.tmod_eq_emod_of_nonneg hvb.1]
 have hrw : IntKind.u32.wrap (vv % 2) = vv % 2 := by rw [IntKind.wrap_u32]; omega
 clear h hph hm hb hn hj hvv ht
 by_cases ho : vv % 2 = 1
 · have hb1 : (vv % 2 == 1) = true := by simpa using ho
   rw [if_pos ho, if_pos ho]
   clear ho hvb
   go_enter Tryz.func110, Tryz.ntmps110
   go_wp2_with (first | (go_at_call 127; refine (Read_at bN 0 HM.out HB.out HJ.out HN.out H.out).mono ?_; rintro e w1 ⟨rfl, hx⟩; rw [HVV.out]; have e13 : w1.cell? ⟨bx, 13, none⟩ = some (.int .u32 x.a) := hx.1.cell 13 _ (fun _ => rfl); have f13 := hx.1.free 13; have HA := hid (hx.1.put 13 (.int .u32 vv) ({ x with a := vv }) (fun _ => rfl)); have H1 := hid hx; clear hx) | (go_at_call 138; refine (fail_any (x := { x with a := vv }) HT.out HA.out).mono ?_; rintro e w3 ⟨rfl, hx⟩; have H3 := hid hx; clear hx))
   all_goals (first | (go_end0; exact ⟨rfl, H3.out⟩) | (refine bodyPost_ret (results_none rfl _ _ _) rfl ?_; exact ⟨rfl, H3.out⟩))
 · have hb1 : (vv % 2 == 1) = false := by simpa using ho
   rw [if_neg ho, if_neg ho]
   clear ho hvb
   go_enter Tryz.func110, Tryz.ntmps110
   go_wp2_with (first | (go_at_call 127; refine (Read_at bN 0 HM.out HB.out HJ.out HN.out H.out).mono ?_; rintro e w1 ⟨rfl, hx⟩; rw [HVV.out]; have e13 : w1.cell? ⟨bx, 13, none⟩ = some (.int .u32 x.a) := hx.1.cell 13 _ (fun _ => rfl); have f13 := hx.1.free 13; have HA := hid (hx.1.put 13 (.int .u32 vv) ({ x with a := vv }) (fun _ => rfl)); have H1 := hid hx; clear hx) | (go_at_call 128; refine (Go_any 1 HA.out).mono ?_; rintro e w3 ⟨rfl, hx⟩; have H3 := hid hx; clear hx))
   go_end0
   exact ⟨rfl, H3.out⟩
set_option maxHeartbeats 4000000 in
theorem read_2 {T : TypeId} {bx mb : Nat} {sv r0 : Value} {W0 W : World} {x : Core} {rec ws : List Int} {n : Int} (bN : Nat) (hm : x.m = .pointer (some ⟨mb, 0, none⟩)) (hb : x.base = (bN : Int)) (hn : 0 <= n /\ n <= 1000000) (ht : 0 <= x.tries /\ x.tries <= 1000000) (hj : bN + 0 < ws.length) (hph : x.phase = 2) (h : St T bx mb sv W0 r0 W x rec ws n) :
 Calls Tryz.prog 110 #[.pointer (some ⟨bx, 0, none⟩)] W fun e W' => e = .returned (.tuple #[]) /\ St T bx mb sv W0 r0 W' (if ws.getD (bN + 0) 0 = x.a then { x with over := true, code := 0 } else failC x) (if ws.getD (bN + 0) 0 = x.a then endRec x.op 0 rec else []) ws (n + 1) := by
 have H := hid h
 have HM := hid hm
 have HB := hid hb
 have HN := hid hn
 have NB : Hid (bx ∉ (mb :: sv.ownBlock.toList)) := hid (by obtain ⟨v, hp, he⟩ := h; simp; exact ⟨hp.ne, fun hh => hp.ns bx hh rfl⟩)
 obtain ⟨vv, hvv⟩ : ∃ vv, ws.getD (bN + 0) 0 = vv := ⟨_, rfl⟩
 have hvb : 0 <= vv /\ vv <= 4294967295 := by rw [<- hvv]; exact word_bd h.memory hj
 have HVV := hid hvv
 rw [hvv]
 have e10 : W.cell? ⟨bx, 10, none⟩ = some (.int .i64 2) := by rw [<- hph]; exact H.out.cell 10 _ (fun _ => rfl)
 have HJ := hid hj
 have HT := hid ht
 have eS0 : W.cell? ⟨bx, 13, none⟩ = some (.int .u32 x.a) := H.out.cell 13 _ (fun _ => rfl)
 have KEEP := hid (fun (V : World) (h : Chg (mb :: sv.ownBlock.toList) W V) => (⟨h.keep eS0 NB.out, hid h⟩ : (fun V : World => V.cell? ⟨bx, 13, none⟩ = some (.int .u32 x.a) /\ Hid (Chg (mb :: sv.ownBlock.toList) W V)) V))
 clear eS0
 clear h hph hm hb hn hj hvv hvb ht
 by_cases ho : vv = x.a
 · have hb1 : (vv == x.a) = true := by simpa using ho
   rw [if_pos ho, if_pos ho]
   clear ho
   go_enter Tryz.func110, Tryz.ntmps110
   go_wp2_with fail
   have hHeld : (fun V : World => V.cell? ⟨bx, 13, none⟩ = some (.int .u32 x.a) /\ Hid (Chg (mb :: sv.ownBlock.toList) W V)) (World.drew W) := KEEP.out _ (Chg.refl _ _).drew
   refine wp_region_plan (fun V : World => V.cell? ⟨bx, 13, none⟩ = some (.int .u32 x.a) /\ Hid (Chg (mb :: sv.ownBlock.toList) W V)) [(0, true, some 7), (1, true, some 8), (2, true, some 9), (4, true, some 11), (5, true, some 12), (6, true, some 13), (7, true, some 14), (8, true, some 15), (3, false, some 10), (9, true, some 16)] (by kernel_rfl) (by kernel_rfl) (by kernel_rfl) (by kernel_rfl) (fun d c a v w h => by cases d <;> exact h) hHeld ?_
   repeat (first
    | (refine planWp_read (v := ?_) rfl rfl ?_ ?_ ?_; rotate_left; (focus rfl); (focus (intro u hSw; (try dsimp only at hSw); go_simp; (try with_reducible rfl))); (try simp only [Act.put, sA, sB, sC]))
    | (refine planWp_skip rfl rfl ?_ ?_; (focus rfl); (try simp only [Act.put, sA, sB, sC]))
    | (refine planWp_leave rfl rfl ?_ hHeld ?_; (focus rfl); (try simp only [Act.put, sA, sB, sC]))
    | (refine planWp_do rfl rfl ?_ (fun K hK => ?_); (focus rfl); go_simp; (try go_wp2_with (go_at_call 127; refine (Read_at bN 0 HM.out HB.out HJ.out HN.out (H.out.keep (Chg.refl _ _).drew)).mono ?_; rintro e w1 ⟨rfl, hx⟩; rw [HVV.out]; have H1 := hid hx.1; have HCX := hid hx.2.2; clear hx)); refine hK.out _ _ ?_ (fun hHeld2 => ?_); (focus (exact KEEP.out _ (Chg.trans hHeld.2.out HCX.out))); clear hK K hHeld; have hHeld := hHeld2; clear hHeld2; (try simp only [Act.put, sA, sB, sC])))
   refine planWp_nil ?_
   clear hHeld KEEP
   go_wp2_with (go_at_call 132; refine (End_any 0 H1.out).mono ?_; rintro e w3 ⟨rfl, hx⟩; have H3 := hid hx; clear hx)
   all_goals (first | (go_end0; exact ⟨rfl, H3.out⟩) | (refine bodyPost_ret (results_none rfl _ _ _) rfl ?_; exact ⟨rfl, H3.out⟩))
 · have hb1 : (vv == x.a) = false := by simpa using ho
   rw [if_neg ho, if_neg ho]
   clear ho
   go_enter Tryz.func110, Tryz.ntmps110
   go_wp2_with fail
   have hHeld : (fun V : World => V.cell? ⟨bx, 13, none⟩ = some (.int .u32 x.a) /\ Hid (Chg (mb :: sv.ownBlock.toList) W V)) (World.drew W) := KEEP.out _ (Chg.refl _ _).drew
   refine wp_region_plan (fun V : World => V.cell? ⟨bx, 13, none⟩ = some (.int .u32 x.a) /\ Hid (Chg (mb :: sv.ownBlock.toList) W V)) [(0, true, some 7), (1, true, some 8), (2, true, some 9), (4, true, some 11), (5, true, some 12), (6, true, some 13), (7, true, some 14), (8, true, some 15), (3, false, some 10), (9, true, some 16)] (by kernel_rfl) (by kernel_rfl) (by kernel_rfl) (by kernel_rfl) (fun d c a v w h => by cases d <;> exact h) hHeld ?_
   repeat (first
    | (refine planWp_read (v := ?_) rfl rfl ?_ ?_ ?_; rotate_left; (focus rfl); (focus (intro u hSw; (try dsimp only at hSw); go_simp; (try with_reducible rfl))); (try simp only [Act.put, sA, sB, sC]))
    | (refine planWp_skip rfl rfl ?_ ?_; (focus rfl); (try simp only [Act.put, sA, sB, sC]))
    | (refine planWp_leave rfl rfl ?_ hHeld ?_; (focus rfl); (try simp only [Act.put, sA, sB, sC]))
    | (refine planWp_do rfl rfl ?_ (fun K hK => ?_); (focus rfl); go_simp; (try go_wp2_with (go_at_call 127; refine (Read_at bN 0 HM.out HB.out HJ.out HN.out (H.out.keep (Chg.refl _ _).drew)).mono ?_; rintro e w1 ⟨rfl, hx⟩; rw [HVV.out]; have H1 := hid hx.1; have HCX := hid hx.2.2; clear hx)); refine hK.out _ _ ?_ (fun hHeld2 => ?_); (focus (exact KEEP.out _ (Chg.trans hHeld.2.out HCX.out))); clear hK K hHeld; have hHeld := hHeld2; clear hHeld2; (try simp only [Act.put, sA, sB, sC])))
   refine planWp_nil ?_
   clear hHeld KEEP
   go_wp2_with (go_at_call 138; refine (fail_any HT.out H1.out).mono ?_; rintro e w3 ⟨rfl, hx⟩; have H3 := hid hx; clear hx)
   all_goals (first | (go_end0; exact ⟨rfl, H3.out⟩) | (refine bodyPost_ret (results_none rfl _ _ _) rfl ?_; exact ⟨rfl, H3.out⟩))
def stepW (x : Core) (rec ws : List Int) : Core × List Int × List Int :=
 if x.phase = 0 then ({ x with a := ws.getD (x.base.toNat + 0) 0, phase := 1, i := 0 }, rec, ws)
 else if x.phase = 1 then ({ x with phase := 2, i := 0 }, rec, ws.set (x.base.toNat + 0) ((x.a + 1) % 4294967296))
 else if x.phase = 2 then (if x.w.toNat <= x.i.toNat + 1 then { x with phase := 3, i := 0 } else { x with i := (x.i.toNat : Int) + 1 }, rec, ws.set (x.base.toNat + (1 + x.i.toNat)) (rec.getD x.i.toNat 0))
 else ({ x with over := true, code := 0 }, endRec x.op 0 rec, ws.set (x.base.toNat + 0) ((x.a + 2) % 4294967296))
def stepR (x : Core) (rec ws : List Int) : Core × List Int × List Int :=
 if x.phase = 0 then (if ws.getD (x.base.toNat + 0) 0 % 2 = 1 then failC { x with a := ws.getD (x.base.toNat + 0) 0 } else { x with a := ws.getD (x.base.toNat + 0) 0, phase := 1, i := 0 }, if ws.getD (x.base.toNat + 0) 0 % 2 = 1 then [] else rec, ws)
 else if x.phase = 1 then (if x.w.toNat <= x.i.toNat + 1 then { x with phase := 2, i := 0 } else { x with i := (x.i.toNat : Int) + 1 }, rec ++ [ws.getD (x.base.toNat + (1 + x.i.toNat)) 0], ws)
 else (if ws.getD (x.base.toNat + 0) 0 = x.a then { x with over := true, code := 0 } else failC x, if ws.getD (x.base.toNat + 0) 0 = x.a then endRec x.op 0 rec else [], ws)
def step (x : Core) (mv : Value) (rec ws : List Int) : Core × List Int × List Int :=
 if x.op = 2 then stepW { x with m := mv, steps := x.steps + 1 } rec ws else stepR { x with m := mv, steps := x.steps + 1 } rec ws
structure Shape (x : Core) (rec : List Int) : Prop where
 w : 1 <= x.w /\ x.w <= 8
 a : 0 <= x.a /\ x.a <= 4294967295
 c : 1 <= x.c /\ x.c <= 16
 tries : 0 <= x.tries /\ (x.over = false -> x.tries < x.c)
 base : 0 <= x.base
 size : x.size = 1 + x.w
 i : x.over = false -> 0 <= x.i /\ x.i < x.w
 op : (x.op = 2 /\ (0 <= x.phase /\ x.phase <= 3) /\ (x.over = false -> (rec.length : Int) = x.w)) \/ (x.op = 1 /\ (0 <= x.phase /\ x.phase <= 2) /\ (x.over = false -> (rec.length : Int) = if x.phase = 1 then x.i else if x.phase = 2 then x.w else 0))
set_option maxHeartbeats 2000000 in
theorem write_any {T : TypeId} {bx mb : Nat} {sv r0 : Value} {W0 W : World} {x : Core} {rec ws : List Int} {n : Int} (hI : Shape x rec) (hov : x.over = false) (hop : x.op = 2) (hm : x.m = .pointer (some ⟨mb, 0, none⟩)) (hfit : x.base + x.size <= ws.length) (hn : 0 <= n /\ n <= 1000000) (h : St T bx mb sv W0 r0 W x rec ws n) :
 Calls Tryz.prog 109 #[.pointer (some ⟨bx, 0, none⟩)] W fun e W' => e = .returned (.tuple #[]) /\ St T bx mb sv W0 r0 W' (stepW x rec ws).1 (stepW x rec ws).2.1 (stepW x rec ws).2.2 (n + 1) := by
 have hw := hI.w; have ha := hI.a; have hba := hI.base; have hsz := hI.size; have hi := hI.i hov
 have hph : (0 <= x.phase /\ x.phase <= 3) /\ (rec.length : Int) = x.w := by rcases hI.op with ⟨_, h1, h2⟩ | ⟨h1, _⟩; exact ⟨h1, h2 hov⟩; omega
 have eb : x.base = (x.base.toNat : Int) := by omega
 have ei : x.i = (x.i.toNat : Int) := by omega
 have ew : x.w = (x.w.toNat : Int) := by omega
 rcases (by omega : x.phase = 0 \/ x.phase = 1 \/ x.phase = 2 \/ x.phase = 3) with p | p | p | p
 · have hs : stepW x rec ws = ({ x with a := ws.getD (x.base.toNat + 0) 0, phase := 1, i := 0 }, rec, ws) := by simp [stepW, p]
   rw [hs]
   exact write_0 x.base.toNat hm eb hn (by omega) p h
 · have hs : stepW x rec ws = ({ x with phase := 2, i := 0 }, rec, ws.set (x.base.toNat + 0) ((x.a + 1) % 4294967296)) := by simp [stepW, p]
   rw [hs]
   exact write_1 x.base.toNat hm eb hn ha (by omega) p h
 · have hs : stepW x rec ws = (if x.w.toNat <= x.i.toNat + 1 then { x with phase := 3, i := 0 } else { x with i := (x.i.toNat : Int) + 1 }, rec, ws.set (x.base.toNat + (1 + x.i.toNat)) (rec.getD x.i.toNat 0)) := by simp [stepW, p]
   rw [hs]
   have h9 := hph.2
   have h10 : x.i.toNat < rec.length := by omega
   have h11 : x.base.toNat + (1 + x.i.toNat) < ws.length := by omega
   exact write_2 x.base.toNat hm eb hn x.w.toNat x.i.toNat ew ei (by omega) (.inl hop) h10 h11 p h
 · have hs : stepW x rec ws = ({ x with over := true, code := 0 }, endRec x.op 0 rec, ws.set (x.base.toNat + 0) ((x.a + 2) % 4294967296)) := by simp [stepW, p]
   rw [hs]
   exact write_3 x.base.toNat hm eb hn ha (by omega) p h
set_option maxHeartbeats 2000000 in
theorem read_any {T : TypeId} {bx mb : Nat} {sv r0 : Value} {W0 W : World} {x : Core} {rec ws : List Int} {n : Int} (hI : Shape x rec) (hov : x.over = false) (hop : x.op = 1) (hm : x.m = .pointer (some ⟨mb, 0, none⟩)) (hfit : x.base + x.size <= ws.length) (hn : 0 <= n /\ n <= 1000000) (h : St T bx mb sv W0 r0 W x rec ws n) :
 Calls Tryz.prog 110 #[.pointer (some ⟨bx, 0, none⟩)] W fun e W' => e = .returned (.tuple #[]) /\ St T bx mb sv W0 r0 W' (stepR x rec ws).1 (stepR x rec ws).2.1 (stepR x rec ws).2.2 (n + 1) := by
 have hw := hI.w; have ha := hI.a; have hba := hI.base; have hsz := hI.size; have hi := hI.i hov
 have hc := hI.c; have ht := hI.tries.1; have ht2 := hI.tries.2 hov
 have hph : (0 <= x.phase /\ x.phase <= 2) /\ (rec.length : Int) = if x.phase = 1 then x.i else if x.phase = 2 then x.w else 0 := by rcases hI.op with ⟨h1, _⟩ | ⟨_, h1, h2⟩; omega; exact ⟨h1, h2 hov⟩
 have hrl : rec.length < 1000 := by have := hph.2; (repeat' split at this) <;> omega
 have eb : x.base = (x.base.toNat : Int) := by omega
 have ei : x.i = (x.i.toNat : Int) := by omega
 have ew : x.w = (x.w.toNat : Int) := by omega
 rcases (by omega : x.phase = 0 \/ x.phase = 1 \/ x.phase = 2) with p | p | p
 · have hs : stepR x rec ws = (if ws.getD (x.base.toNat + 0) 0 % 2 = 1 then failC { x with a := ws.getD (x.base.toNat + 0) 0 } else { x with a := ws.getD (x.base.toNat + 0) 0, phase := 1, i := 0 }, if ws.getD (x.base.toNat + 0) 0 % 2 = 1 then [] else rec, ws) := by simp [stepR, p]
   rw [hs]
   exact read_0 x.base.toNat hm eb hn ⟨ht, by omega⟩ (by omega) p h
 · have hs : stepR x rec ws = (if x.w.toNat <= x.i.toNat + 1 then { x with phase := 2, i := 0 } else { x with i := (x.i.toNat : Int) + 1 }, rec ++ [ws.getD (x.base.toNat + (1 + x.i.toNat)) 0], ws) := by simp [stepR, p]
   rw [hs]
   exact read_1 x.base.toNat hm eb hn x.w.toNat x.i.toNat ew ei (by omega) (by omega) hrl (by omega) p h
 · have hs : stepR x rec ws = (if ws.getD (x.base.toNat + 0) 0 = x.a then { x with over := true, code := 0 } else failC x, if ws.getD (x.base.toNat + 0) 0 = x.a then endRec x.op 0 rec else [], ws) := by simp [stepR, p]
   rw [hs]
   exact read_2 x.base.toNat hm eb hn ⟨ht, by omega⟩ (by omega) p h
theorem e8of {T : TypeId} {bx mb : Nat} {sv r0 : Value} {W0 W : World} {x : Core} {rec ws : List Int} {n o : Int} {mv : Value} {k : Int} (ho : x.op = o) (h : St T bx mb sv W0 r0 W { x with m := mv, steps := k } rec ws n) : W.cell? ⟨bx, 8, none⟩ = some (.int .i64 o) := by
 rw [<- ho]; exact h.cell 8 _ (fun _ => rfl)
theorem Shape.up {x : Core} {rec : List Int} (h : Shape x rec) (mv : Value) (k : Int) : Shape { x with m := mv, steps := k } rec := ⟨h.w, h.a, h.c, h.tries, h.base, h.size, h.i, h.op⟩
theorem opens_spec {x : Core} {l : Nat} (h : opens x l = true) : x.over = false /\ 0 <= x.base /\ 0 <= x.size /\ x.base + x.size <= l := by
 simp only [opens, insB, Bool.and_eq_true, Bool.not_eq_true', decide_eq_true_eq] at h
 exact ⟨h.1, h.2.1, h.2.2.1, by omega⟩
set_option maxHeartbeats 2000000 in
theorem Step_yes {T : TypeId} {bx mb : Nat} {sv r0 : Value} {W0 W : World} {x : Core} {rec ws : List Int} {n : Int} (hI : Shape x rec) (hs : 0 <= x.steps /\ x.steps <= 1000000) (ho : opens x ws.length = true) (hn : 0 <= n /\ n <= 1000000) (h : St T bx mb sv W0 r0 W x rec ws n) :
 Calls Tryz.prog 64 #[.pointer (some ⟨bx, 0, none⟩), .pointer (some ⟨mb, 0, none⟩)] W fun e W' => e = .returned (.bool true) ∧
  St T bx mb sv W0 r0 W' (step x (.pointer (some ⟨mb, 0, none⟩)) rec ws).1 (step x (.pointer (some ⟨mb, 0, none⟩)) rec ws).2.1 (step x (.pointer (some ⟨mb, 0, none⟩)) rec ws).2.2 (n + 1) := by
 have H := hid h
 obtain ⟨hov, _, _, hfit⟩ := opens_spec ho
 have HS := hid hs
 have HO := hid ho
 have hop : (x.op = 2 \/ x.op = 1) := by rcases hI.op with h1 | h1 <;> simp [h1.1]
 rcases hop with hop | hop
 · have hst : step x (.pointer (some ⟨mb, 0, none⟩)) rec ws = stepW { x with m := .pointer (some ⟨mb, 0, none⟩), steps := x.steps + 1 } rec ws := by simp [step, hop]
   rw [hst]
   have K := hid (fun W1 (hx : St T bx mb sv W0 r0 W1 { x with m := .pointer (some ⟨mb, 0, none⟩), steps := x.steps + 1 } rec ws n) => write_any (hI.up (.pointer (some ⟨mb, 0, none⟩)) (x.steps + 1)) hov hop rfl hfit hn hx)
   have HOP := hid hop
   clear h hst hI hov hfit hop hs ho hn
   go_enter Tryz.func64, Tryz.ntmps64
   go_wp2_with (first | (go_at_call 104; refine (Open_yes HS.out HO.out H.out).mono ?_; rintro e w1 ⟨rfl, hx⟩; have e8 : w1.cell? ⟨bx, 8, none⟩ = some (.int .i64 2) := e8of HOP.out hx; have H1 := hid hx; clear hx) | (go_at_call 109; refine (K.out _ H1.out).mono ?_; rintro e w2 ⟨rfl, hx⟩; have H2 := hid hx; clear hx))
   go_ret
   exact ⟨rfl, H2.out⟩
 · have hst : step x (.pointer (some ⟨mb, 0, none⟩)) rec ws = stepR { x with m := .pointer (some ⟨mb, 0, none⟩), steps := x.steps + 1 } rec ws := by simp [step, hop]
   rw [hst]
   have K := hid (fun W1 (hx : St T bx mb sv W0 r0 W1 { x with m := .pointer (some ⟨mb, 0, none⟩), steps := x.steps + 1 } rec ws n) => read_any (hI.up (.pointer (some ⟨mb, 0, none⟩)) (x.steps + 1)) hov hop rfl hfit hn hx)
   have HOP := hid hop
   clear h hst hI hov hfit hop hs ho hn
   go_enter Tryz.func64, Tryz.ntmps64
   go_wp2_with (first | (go_at_call 104; refine (Open_yes HS.out HO.out H.out).mono ?_; rintro e w1 ⟨rfl, hx⟩; have e8 : w1.cell? ⟨bx, 8, none⟩ = some (.int .i64 1) := e8of HOP.out hx; have H1 := hid hx; clear hx) | (go_at_call 110; refine (K.out _ H1.out).mono ?_; rintro e w2 ⟨rfl, hx⟩; have H2 := hid hx; clear hx))
   go_ret
   exact ⟨rfl, H2.out⟩
def left (x : Core) : Int :=
 if x.over then 0 else if x.op = 2 then (if x.phase = 0 then x.w + 3 else if x.phase = 1 then x.w + 2 else if x.phase = 2 then x.w + 1 - x.i else 1)
 else (x.c - x.tries - 1) * (x.w + 2) + (if x.phase = 0 then x.w + 2 else if x.phase = 1 then x.w + 1 - x.i else 1)
theorem left_over {x : Core} (ho : x.over = true) : left x = 0 := by simp [left, ho]
theorem mul_nn {d m : Int} (h : 0 <= d) (hm : 0 <= m) : 0 <= d * m := Int.mul_nonneg h hm
theorem left_pos {x : Core} {rec : List Int} (h : Shape x rec) (ho : x.over = false) : 1 <= left x := by
 have hw := h.w; have hi := h.i ho; have ht := h.tries.2 ho
 have hp := mul_nn (d := x.c - x.tries - 1) (m := x.w + 2) (by omega) (by omega)
 rcases h.op with ⟨o, p, _⟩ | ⟨o, p, _⟩
 · simp only [left, ho, o]; simp; (repeat' split) <;> omega
 · simp only [left, ho, o]
   generalize (x.c - x.tries - 1) * (x.w + 2) = z at *
   simp; (repeat' split) <;> omega
theorem getD_bd {ws : List Int} (hw : ∀ z ∈ ws, 0 <= z /\ z <= 4294967295) (i : Nat) : 0 <= ws.getD i 0 /\ ws.getD i 0 <= 4294967295 := by
 by_cases h : i < ws.length
 · simp [List.getD, h]; exact hw _ (List.getElem_mem h)
 · simp [List.getD, h]
theorem step_len (x : Core) (mv : Value) (rec ws : List Int) : (step x mv rec ws).2.2.length = ws.length := by
 simp only [step, stepW, stepR]
 (repeat' split) <;> simp
theorem fail_ok {x : Core} (hc : 1 <= x.c) (ht : 0 <= x.tries /\ x.tries < x.c) (hw : 1 <= x.w /\ x.w <= 8) (ha : 0 <= x.a /\ x.a <= 4294967295) (hc2 : x.c <= 16) (hb : 0 <= x.base) (hs : x.size = 1 + x.w) (ho : x.op = 1) (hv : x.over = false) :
 Shape (failC x) [] /\ left (failC x) = (x.c - x.tries - 1) * (x.w + 2) /\ (failC x).steps = x.steps /\ (failC x).m = x.m /\ (failC x).base = x.base /\ (failC x).size = x.size := by
 unfold failC
 split
 · refine ⟨⟨hw, ha, by simp only []; omega, by simp; omega, hb, hs, by simp, .inr ⟨ho, by simp, by simp⟩⟩, ?_, rfl, rfl, rfl, rfl⟩
   have e : x.c - x.tries - 1 = 0 := by omega
   rw [e]; simp [left]
 · refine ⟨⟨hw, ha, by simp only []; omega, by simp only []; exact ⟨by omega, fun _ => by omega⟩, hb, hs, fun _ => by simp only []; omega, .inr ⟨ho, by simp, fun _ => by simp⟩⟩, ?_, rfl, rfl, rfl, rfl⟩
   have e : x.c - (x.tries + 1) - 1 = (x.c - x.tries - 1) - 1 := by omega
   simp [left, hv, ho, e, Int.sub_mul] <;> omega
theorem step_ok {x : Core} {rec ws : List Int} (mv : Value) (h : Shape x rec) (ho : x.over = false) (hws : ∀ z ∈ ws, 0 <= z /\ z <= 4294967295) :
 Shape (step x mv rec ws).1 (step x mv rec ws).2.1 /\ left (step x mv rec ws).1 + 1 <= left x /\ (step x mv rec ws).1.steps = x.steps + 1 /\ (step x mv rec ws).1.m = mv /\ (step x mv rec ws).1.base = x.base /\ (step x mv rec ws).1.size = x.size := by
 obtain ⟨hw, ha, hc, ht, hba, hs, hi, hop⟩ := h
 have hi := hi ho
 have ht2 := ht.2 ho
 have g2 := getD_bd hws (x.base.toNat + 0)
 have hp := mul_nn (d := x.c - x.tries - 1) (m := x.w + 2) (by omega) (by omega)
 rcases hop with ⟨o, p, r⟩ | ⟨o, p, r⟩
 · have r := r ho
   rcases (by omega : x.phase = 0 \/ x.phase = 1 \/ x.phase = 2 \/ x.phase = 3) with q | q | q | q
   · simp only [step, stepW, o, q, if_true]
     refine ⟨⟨hw, g2, hc, ht, hba, hs, fun _ => by simp only []; omega, .inl ⟨rfl, by simp, fun _ => r⟩⟩, by simp [left, ho, o, q] <;> omega, by simp [o]⟩
   · have e1 : ¬ ((1 : Int) = 0) := by omega
     simp only [step, stepW, o, q, if_true, if_neg e1]
     refine ⟨⟨hw, ha, hc, ht, hba, hs, fun _ => by simp only []; omega, .inl ⟨rfl, by simp, fun _ => r⟩⟩, by simp [left, ho, o, q] <;> omega, by simp [o]⟩
   · have e1 : ¬ ((2 : Int) = 0) := by omega
     have e2 : ¬ ((2 : Int) = 1) := by omega
     simp only [step, stepW, o, q, if_true, if_neg e1, if_neg e2]
     split
     · refine ⟨⟨hw, ha, hc, ht, hba, hs, fun _ => by simp only []; omega, .inl ⟨rfl, by simp, fun _ => r⟩⟩, by simp [left, ho, o, q] <;> omega, by simp [o]⟩
     · refine ⟨⟨hw, ha, hc, ht, hba, hs, fun _ => by simp only []; omega, .inl ⟨rfl, by simp [q], fun _ => r⟩⟩, by simp [left, ho, o, q] <;> omega, by simp [o]⟩
   · have e1 : ¬ ((3 : Int) = 0) := by omega
     have e2 : ¬ ((3 : Int) = 1) := by omega
     have e3 : ¬ ((3 : Int) = 2) := by omega
     simp only [step, stepW, o, q, if_true, if_neg e1, if_neg e2, if_neg e3]
     refine ⟨⟨hw, ha, hc, by simp; omega, hba, hs, by simp, .inl ⟨rfl, by simp [q], by simp⟩⟩, by simp [left, ho, o, q] <;> omega, by simp [o]⟩
 · have r := r ho
   have e0 : ¬ ((1 : Int) = 2) := by omega
   have hst : step x mv rec ws = stepR { x with m := mv, steps := x.steps + 1 } rec ws := by unfold step; rw [if_neg (by omega)]
   rw [hst]
   have hl : left x = (x.c - x.tries - 1) * (x.w + 2) + (if x.phase = 0 then x.w + 2 else if x.phase = 1 then x.w + 1 - x.i else 1) := by unfold left; rw [if_neg (by simp [ho]), if_neg (by omega)]
   rcases (by omega : x.phase = 0 \/ x.phase = 1 \/ x.phase = 2) with q | q | q
   · unfold stepR
     rw [if_pos (show ({ x with m := mv, steps := x.steps + 1 } : Core).phase = 0 from q)]
     dsimp only
     split
     · have hf := fail_ok (x := { x with m := mv, steps := x.steps + 1, a := ws.getD (x.base.toNat + 0) 0 }) hc.1 ⟨ht.1, ht2⟩ hw g2 hc.2 hba hs o ho
       refine ⟨hf.1, ?_, hf.2.2.1, hf.2.2.2.1, hf.2.2.2.2.1, hf.2.2.2.2.2⟩
       rw [hf.2.1, hl, if_pos q]
       dsimp only
       omega
     · refine ⟨⟨hw, g2, hc, ht, hba, hs, fun _ => by simp only []; omega, .inr ⟨o, by simp, fun _ => by simp [q] at r ⊢; exact r⟩⟩, ?_, rfl, rfl, rfl, rfl⟩
       rw [hl, if_pos q]
       simp [left, ho, o]
       omega
   · unfold stepR
     rw [if_neg (show ¬ ({ x with m := mv, steps := x.steps + 1 } : Core).phase = 0 by show ¬ x.phase = 0; omega), if_pos (show ({ x with m := mv, steps := x.steps + 1 } : Core).phase = 1 from q)]
     dsimp only
     split
     · refine ⟨⟨hw, ha, hc, ht, hba, hs, fun _ => by simp only []; omega, .inr ⟨o, by simp, fun _ => by simp [q] at r ⊢; omega⟩⟩, ?_, rfl, rfl, rfl, rfl⟩
       rw [hl, if_neg (by omega), if_pos q]
       simp [left, ho, o]
       omega
     · refine ⟨⟨hw, ha, hc, ht, hba, hs, fun _ => by simp only []; omega, .inr ⟨o, by simp [q], fun _ => by simp [q] at r ⊢; omega⟩⟩, ?_, rfl, rfl, rfl, rfl⟩
       rw [hl, if_neg (by omega), if_pos q]
       simp [left, ho, o, q]
       omega
   · unfold stepR
     rw [if_neg (show ¬ ({ x with m := mv, steps := x.steps + 1 } : Core).phase = 0 by show ¬ x.phase = 0; omega), if_neg (show ¬ ({ x with m := mv, steps := x.steps + 1 } : Core).phase = 1 by show ¬ x.phase = 1; omega)]
     dsimp only
     split
     · refine ⟨⟨hw, ha, hc, by simp; omega, hba, hs, by simp, .inr ⟨o, by simp [q], by simp⟩⟩, ?_, rfl, rfl, rfl, rfl⟩
       rw [hl, if_neg (by omega), if_neg (by omega)]
       simp [left]
       omega
     · have hf := fail_ok (x := { x with m := mv, steps := x.steps + 1 }) hc.1 ⟨ht.1, ht2⟩ hw ha hc.2 hba hs o ho
       refine ⟨hf.1, ?_, hf.2.2.1, hf.2.2.2.1, hf.2.2.2.2.1, hf.2.2.2.2.2⟩
       rw [hf.2.1, hl, if_neg (by omega), if_neg (by omega)]
       dsimp only
       omega
def K : Kind where
 step := step
 Shape := Shape
 left := left
 ok mv h ho hws := step_ok mv h ho hws
 len := step_len
 pos := left_pos
 zero := left_over
end Go.Proofs.YtphfnjcboellhaaGreatDoor.seq
