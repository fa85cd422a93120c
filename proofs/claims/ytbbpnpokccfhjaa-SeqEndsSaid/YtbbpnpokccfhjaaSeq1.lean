/- Package seq: the steps of a write and of a read. -/
import Derived.Test.YtbbpnpokccfhjaaCore5
import Derived.Test.YtbbpnpokccfhjaaRop3
namespace Go.Proofs.Ytbbpnpokccfhjaa.seq
open Go Go.RowKit Go.Proofs.Ytbbpnpokccfhjaa.kit Go.Proofs.Ytbbpnpokccfhjaa.mem Go.Proofs.Ytbbpnpokccfhjaa.rop Go.Proofs.Ytbbpnpokccfhjaa.core
set_option linter.unusedVariables false
set_option maxRecDepth 20000

theorem word_bd {W : World} {b : Nat} {sv : Value} {ws : List Int} {n : Int} {i : Nat} (h : MemAt W b sv ws n) (hi : i < ws.length) : 0 ≤ ws.getD i 0 ∧ ws.getD i 0 ≤ 4294967295 := by
  have hget : ws.getD i 0 = ws[i] := by simp [List.getD, hi]
  rw [hget]
  exact wf_u32 (h.wf _ (List.getElem_mem hi))
set_option maxHeartbeats 4000000 in
theorem write_0 {T : TypeId} {bx mb : Nat} {sv r0 : Value} {W0 W : World} {x : Core} {rec ws : List Int} {n : Int} (bN : Nat) (hm : x.m = .pointer (some ⟨mb, 0, none⟩)) (hb : x.base = (bN : Int)) (hn : 0 ≤ n ∧ n ≤ 1000000) (hj : bN + 0 < ws.length) (hph : x.phase = 0) (h : St T bx mb sv W0 r0 W x rec ws n) :
    Calls Try.prog 68 #[.pointer (some ⟨bx, 0, none⟩)] W fun e W' => e = .returned (.tuple #[]) ∧ St T bx mb sv W0 r0 W' { x with a := ws.getD (bN + 0) 0, phase := 1, i := 0 } rec ws (n + 1) := by
  have H := Lib.hid h
  have HM := Lib.hid hm
  have HB := Lib.hid hb
  have HN := Lib.hid hn
  obtain ⟨vv, hvv⟩ : ∃ vv, ws.getD (bN + 0) 0 = vv := ⟨_, rfl⟩
  have hvb : 0 ≤ vv ∧ vv ≤ 4294967295 := by rw [← hvv]; exact word_bd h.memory hj
  have HVV := Lib.hid hvv
  rw [hvv]
  have e10 : W.cell? ⟨bx, 10, none⟩ = some (.int .i64 0) := by rw [← hph]; exact H.out.cell 10 _ (fun _ => rfl)
  have HJ := Lib.hid hj
  clear h hph hm hb hn hj hvv hvb
  go_enter Try.func68, Try.ntmps68
  go_wp2_with (first | (go_at_call 86; refine (Read_at bN 0 HM.out HB.out HJ.out HN.out H.out).mono ?_; rintro e w1 ⟨rfl, hx⟩; rw [HVV.out]; have e13 : w1.cell? ⟨bx, 13, none⟩ = some (.int .u32 x.a) := hx.1.cell 13 _ (fun _ => rfl); have f13 := hx.1.free 13; have H1 := Lib.hid hx; clear hx) | (go_at_call 87; refine (Go_any 1 (H1.out.1.put 13 (.int .u32 vv) ({ x with a := vv }) (fun _ => rfl))).mono ?_; rintro e w2 ⟨rfl, hx⟩; have H2 := Lib.hid hx; clear hx))
  go_end0
  exact ⟨rfl, H2.out⟩
set_option maxHeartbeats 4000000 in
theorem write_1 {T : TypeId} {bx mb : Nat} {sv r0 : Value} {W0 W : World} {x : Core} {rec ws : List Int} {n : Int} (bN : Nat) (hm : x.m = .pointer (some ⟨mb, 0, none⟩)) (hb : x.base = (bN : Int)) (hn : 0 ≤ n ∧ n ≤ 1000000) (hab : 0 ≤ x.a ∧ x.a ≤ 4294967295) (hj : bN + 0 < ws.length) (hph : x.phase = 1) (h : St T bx mb sv W0 r0 W x rec ws n) :
    Calls Try.prog 68 #[.pointer (some ⟨bx, 0, none⟩)] W fun e W' => e = .returned (.tuple #[]) ∧ St T bx mb sv W0 r0 W' { x with phase := 2, i := 0 } rec (ws.set (bN + 0) ((x.a + 1) % 4294967296)) (n + 1) := by
  have H := Lib.hid h
  have HM := Lib.hid hm
  have HB := Lib.hid hb
  have HN := Lib.hid hn
  have e10 : W.cell? ⟨bx, 10, none⟩ = some (.int .i64 1) := by rw [← hph]; exact H.out.cell 10 _ (fun _ => rfl)
  have hw : IntKind.u32.wrap (x.a + 1) = (x.a + 1) % 4294967296 := by rw [IntKind.wrap_u32]
  have HU : Hid (0 ≤ (x.a + 1) % 4294967296 ∧ (x.a + 1) % 4294967296 ≤ 4294967295) := Lib.hid (by omega)
  have G0 : Hid (W.cell? ⟨bx, 13, none⟩ = some (.int .u32 x.a)) := Lib.hid (by skip; exact H.out.cell 13 _ (fun _ => rfl))
  have HJ := Lib.hid hj
  clear h hph hm hb hn hj hab
  go_enter Try.func68, Try.ntmps68
  go_wp2_with fail
  refine wp_region_tail 9 (by kernel_rfl) (by kernel_rfl) ?_
  intro W3 hW3
  have g0 : W3.cell? ⟨bx, 13, none⟩ = some (.int .u32 x.a) := by rw [hW3.out]; exact G0.out
  have H3 : Hid (St T bx mb sv W0 r0 W3 x rec ws n) := Lib.hid (by rw [hW3.out]; exact H.out.keep (Chg.refl _ _).drew)
  clear hW3
  simp only [List.take_succ_cons, List.take_zero, List.drop_succ_cons, List.drop_zero]
  repeat still_step
  refine wpStill_nil ?_
  go_wp2_with (first | (go_at_call 90; refine (Write_at bN 0 ((x.a + 1) % 4294967296) HU.out HM.out HB.out HJ.out HN.out H3.out).mono ?_; rintro e w4 ⟨rfl, hx⟩; have H4 := Lib.hid hx; clear hx) | (go_at_call 87; refine (Go_any 2 H4.out).mono ?_; rintro e w6 ⟨rfl, hx⟩; have H6 := Lib.hid hx; clear hx))
  go_end0
  exact ⟨rfl, H6.out⟩
set_option maxHeartbeats 4000000 in
theorem write_3 {T : TypeId} {bx mb : Nat} {sv r0 : Value} {W0 W : World} {x : Core} {rec ws : List Int} {n : Int} (bN : Nat) (hm : x.m = .pointer (some ⟨mb, 0, none⟩)) (hb : x.base = (bN : Int)) (hn : 0 ≤ n ∧ n ≤ 1000000) (hab : 0 ≤ x.a ∧ x.a ≤ 4294967295) (hj : bN + 0 < ws.length) (hph : x.phase = 3) (h : St T bx mb sv W0 r0 W x rec ws n) :
    Calls Try.prog 68 #[.pointer (some ⟨bx, 0, none⟩)] W fun e W' => e = .returned (.tuple #[]) ∧ St T bx mb sv W0 r0 W' { x with over := true, code := 0 } (endRec x.op 0 rec) (ws.set (bN + 0) ((x.a + 2) % 4294967296)) (n + 1) := by
  have H := Lib.hid h
  have HM := Lib.hid hm
  have HB := Lib.hid hb
  have HN := Lib.hid hn
  have e10 : W.cell? ⟨bx, 10, none⟩ = some (.int .i64 3) := by rw [← hph]; exact H.out.cell 10 _ (fun _ => rfl)
  have hw : IntKind.u32.wrap (x.a + 2) = (x.a + 2) % 4294967296 := by rw [IntKind.wrap_u32]
  have HU : Hid (0 ≤ (x.a + 2) % 4294967296 ∧ (x.a + 2) % 4294967296 ≤ 4294967295) := Lib.hid (by omega)
  have G0 : Hid (W.cell? ⟨bx, 13, none⟩ = some (.int .u32 x.a)) := Lib.hid (by skip; exact H.out.cell 13 _ (fun _ => rfl))
  have HJ := Lib.hid hj
  clear h hph hm hb hn hj hab
  go_enter Try.func68, Try.ntmps68
  go_wp2_with fail
  refine wp_region_tail 9 (by kernel_rfl) (by kernel_rfl) ?_
  intro W3 hW3
  have g0 : W3.cell? ⟨bx, 13, none⟩ = some (.int .u32 x.a) := by rw [hW3.out]; exact G0.out
  have H3 : Hid (St T bx mb sv W0 r0 W3 x rec ws n) := Lib.hid (by rw [hW3.out]; exact H.out.keep (Chg.refl _ _).drew)
  clear hW3
  simp only [List.take_succ_cons, List.take_zero, List.drop_succ_cons, List.drop_zero]
  repeat still_step
  refine wpStill_nil ?_
  go_wp2_with (first | (go_at_call 90; refine (Write_at bN 0 ((x.a + 2) % 4294967296) HU.out HM.out HB.out HJ.out HN.out H3.out).mono ?_; rintro e w4 ⟨rfl, hx⟩; have H4 := Lib.hid hx; clear hx) | (go_at_call 91; refine (End_any 0 H4.out).mono ?_; rintro e w6 ⟨rfl, hx⟩; have H6 := Lib.hid hx; clear hx))
  go_end0
  exact ⟨rfl, H6.out⟩
set_option maxHeartbeats 4000000 in
theorem write_2 {T : TypeId} {bx mb : Nat} {sv r0 : Value} {W0 W : World} {x : Core} {rec ws : List Int} {n : Int} (bN : Nat) (hm : x.m = .pointer (some ⟨mb, 0, none⟩)) (hb : x.base = (bN : Int)) (hn : 0 ≤ n ∧ n ≤ 1000000) (wN iN : Nat) (hw : x.w = (wN : Int)) (hi : x.i = (iN : Int)) (hil : iN < 8) (hop : x.op = 2 ∨ x.op = 3) (hir : iN < rec.length) (hj : bN + (1 + iN) < ws.length) (hph : x.phase = 2) (h : St T bx mb sv W0 r0 W x rec ws n) :
    Calls Try.prog 68 #[.pointer (some ⟨bx, 0, none⟩)] W fun e W' => e = .returned (.tuple #[]) ∧ St T bx mb sv W0 r0 W' (if wN ≤ iN + 1 then { x with phase := 3, i := 0 } else { x with i := (iN : Int) + 1 }) rec (ws.set (bN + (1 + iN)) (rec.getD iN 0)) (n + 1) := by
  have H := Lib.hid h
  have HM := Lib.hid hm
  have HB := Lib.hid hb
  have HN := Lib.hid hn
  have e10 : W.cell? ⟨bx, 10, none⟩ = some (.int .i64 2) := by rw [← hph]; exact H.out.cell 10 _ (fun _ => rfl)
  have HW := Lib.hid hw
  have HI := Lib.hid hi
  have HOP := Lib.hid hop
  have HIR := Lib.hid hir
  have HJ := Lib.hid hj
  clear h hph hm hb hn hj hw hi hop hir
  by_cases hle : wN ≤ iN + 1
  · have HDEC : Hid (decide ((wN : Int) ≤ (iN : Int) + 1) = true) := Lib.hid (by simpa using (by omega : (wN : Int) ≤ (iN : Int) + 1))
    rw [if_pos hle]
    clear hle
    go_enter Try.func68, Try.ntmps68
    go_wp2_with (first | (go_at_call 88; refine (Word_write bN 1 iN HOP.out HM.out HB.out HI.out HIR.out HJ.out HN.out H.out).mono ?_; rintro e w4 ⟨rfl, hx⟩; rw [HW.out, HDEC.out]; have H4 := Lib.hid hx; clear hx) | (go_at_call 87; refine (Go_any 3 H4.out).mono ?_; rintro e w6 ⟨rfl, hx⟩; have H6 := Lib.hid hx; clear hx))
    go_end0
    exact ⟨rfl, H6.out⟩
  · have HDEC : Hid (decide ((wN : Int) ≤ (iN : Int) + 1) = false) := Lib.hid (by simpa using (by omega : ¬ (wN : Int) ≤ (iN : Int) + 1))
    rw [if_neg hle]
    clear hle
    go_enter Try.func68, Try.ntmps68
    go_wp2_with (go_at_call 88; refine (Word_write bN 1 iN HOP.out HM.out HB.out HI.out HIR.out HJ.out HN.out H.out).mono ?_; rintro e w4 ⟨rfl, hx⟩; rw [HW.out, HDEC.out]; have H4 := Lib.hid hx; clear hx)
    go_end0
    exact ⟨rfl, H4.out⟩
set_option maxHeartbeats 4000000 in
theorem read_1 {T : TypeId} {bx mb : Nat} {sv r0 : Value} {W0 W : World} {x : Core} {rec ws : List Int} {n : Int} (bN : Nat) (hm : x.m = .pointer (some ⟨mb, 0, none⟩)) (hb : x.base = (bN : Int)) (hn : 0 ≤ n ∧ n ≤ 1000000) (wN iN : Nat) (hw : x.w = (wN : Int)) (hi : x.i = (iN : Int)) (hil : iN < 8) (hop : x.op ≠ 2 ∧ x.op ≠ 3) (hir : rec.length < 1000) (hj : bN + (1 + iN) < ws.length) (hph : x.phase = 1) (h : St T bx mb sv W0 r0 W x rec ws n) :
    Calls Try.prog 69 #[.pointer (some ⟨bx, 0, none⟩)] W fun e W' => e = .returned (.tuple #[]) ∧ St T bx mb sv W0 r0 W' (if wN ≤ iN + 1 then { x with phase := 2, i := 0 } else { x with i := (iN : Int) + 1 }) (rec ++ [ws.getD (bN + (1 + iN)) 0]) ws (n + 1) := by
  have H := Lib.hid h
  have HM := Lib.hid hm
  have HB := Lib.hid hb
  have HN := Lib.hid hn
  have e10 : W.cell? ⟨bx, 10, none⟩ = some (.int .i64 1) := by rw [← hph]; exact H.out.cell 10 _ (fun _ => rfl)
  have HW := Lib.hid hw
  have HI := Lib.hid hi
  have HOP := Lib.hid hop
  have HIR := Lib.hid hir
  have HJ := Lib.hid hj
  clear h hph hm hb hn hj hw hi hop hir
  by_cases hle : wN ≤ iN + 1
  · have HDEC : Hid (decide ((wN : Int) ≤ (iN : Int) + 1) = true) := Lib.hid (by simpa using (by omega : (wN : Int) ≤ (iN : Int) + 1))
    rw [if_pos hle]
    clear hle
    go_enter Try.func69, Try.ntmps69
    go_wp2_with (first | (go_at_call 88; refine (Word_read bN 1 iN HOP.out HM.out HB.out HI.out HIR.out (by omega) HJ.out HN.out H.out).mono ?_; rintro e w4 ⟨rfl, hx⟩; rw [HW.out, HDEC.out]; have H4 := Lib.hid hx; clear hx) | (go_at_call 87; refine (Go_any 2 H4.out).mono ?_; rintro e w6 ⟨rfl, hx⟩; have H6 := Lib.hid hx; clear hx))
    go_end0
    exact ⟨rfl, H6.out⟩
  · have HDEC : Hid (decide ((wN : Int) ≤ (iN : Int) + 1) = false) := Lib.hid (by simpa using (by omega : ¬ (wN : Int) ≤ (iN : Int) + 1))
    rw [if_neg hle]
    clear hle
    go_enter Try.func69, Try.ntmps69
    go_wp2_with (go_at_call 88; refine (Word_read bN 1 iN HOP.out HM.out HB.out HI.out HIR.out (by omega) HJ.out HN.out H.out).mono ?_; rintro e w4 ⟨rfl, hx⟩; rw [HW.out, HDEC.out]; have H4 := Lib.hid hx; clear hx)
    go_end0
    exact ⟨rfl, H4.out⟩
/-- an attempt has failed -/
def failC (x : Core) : Core := if x.c ≤ x.tries + 1 then { x with tries := x.tries + 1, phase := 0, i := 0, over := true, code := 1 } else { x with tries := x.tries + 1, phase := 0, i := 0 }
set_option maxHeartbeats 2000000 in
theorem fail_any {T : TypeId} {bx mb : Nat} {sv r0 : Value} {W0 W : World} {x : Core} {rec ws : List Int} {n : Int} (ht : 0 ≤ x.tries ∧ x.tries ≤ 1000000) (h : St T bx mb sv W0 r0 W x rec ws n) :
    Calls Try.prog 93 #[.pointer (some ⟨bx, 0, none⟩)] W fun e W' => e = .returned (.tuple #[]) ∧ St T bx mb sv W0 r0 W' (failC x) [] ws n := by
  have H := Lib.hid h
  have HT := Lib.hid ht
  clear h ht
  by_cases hc : x.c ≤ x.tries + 1
  · have HDEC : Hid (decide (x.c ≤ x.tries + 1) = true) := Lib.hid (by simpa using hc)
    have HF : Hid (failC x = { x with tries := x.tries + 1, phase := 0, i := 0, over := true, code := 1 }) := Lib.hid (if_pos hc)
    clear hc
    go_enter Try.func93, Try.ntmps93
    go_wp2_with (first | (go_at_call 105; refine (Fail_any HT.out H.out).mono ?_; rintro e w1 ⟨rfl, hx⟩; rw [HDEC.out]; have H1 := Lib.hid hx; clear hx) | (go_at_call 91; refine (End_any 1 H1.out).mono ?_; rintro e w2 ⟨rfl, hx⟩; have H2 := Lib.hid hx; clear hx))
    go_end0
    refine ⟨rfl, ?_⟩
    rw [HF.out]
    have := H2.out
    simpa [endRec] using this
  · have HDEC : Hid (decide (x.c ≤ x.tries + 1) = false) := Lib.hid (by simpa using hc)
    have HF : Hid (failC x = { x with tries := x.tries + 1, phase := 0, i := 0 }) := Lib.hid (if_neg hc)
    clear hc
    go_enter Try.func93, Try.ntmps93
    go_wp2_with (go_at_call 105; refine (Fail_any HT.out H.out).mono ?_; rintro e w1 ⟨rfl, hx⟩; rw [HDEC.out]; have H1 := Lib.hid hx; clear hx)
    go_end0
    refine ⟨rfl, ?_⟩
    rw [HF.out]
    exact H1.out
set_option maxHeartbeats 4000000 in
theorem read_0 {T : TypeId} {bx mb : Nat} {sv r0 : Value} {W0 W : World} {x : Core} {rec ws : List Int} {n : Int} (bN : Nat) (hm : x.m = .pointer (some ⟨mb, 0, none⟩)) (hb : x.base = (bN : Int)) (hn : 0 ≤ n ∧ n ≤ 1000000) (ht : 0 ≤ x.tries ∧ x.tries ≤ 1000000) (hj : bN + 0 < ws.length) (hph : x.phase = 0) (h : St T bx mb sv W0 r0 W x rec ws n) :
    Calls Try.prog 69 #[.pointer (some ⟨bx, 0, none⟩)] W fun e W' => e = .returned (.tuple #[]) ∧ St T bx mb sv W0 r0 W' (if ws.getD (bN + 0) 0 % 2 = 1 then failC { x with a := ws.getD (bN + 0) 0 } else { x with a := ws.getD (bN + 0) 0, phase := 1, i := 0 }) (if ws.getD (bN + 0) 0 % 2 = 1 then [] else rec) ws (n + 1) := by
  have H := Lib.hid h
  have HM := Lib.hid hm
  have HB := Lib.hid hb
  have HN := Lib.hid hn
  obtain ⟨vv, hvv⟩ : ∃ vv, ws.getD (bN + 0) 0 = vv := ⟨_, rfl⟩
  have hvb : 0 ≤ vv ∧ vv ≤ 4294967295 := by rw [← hvv]; exact word_bd h.memory hj
  have HVV := Lib.hid hvv
  rw [hvv]
  have e10 : W.cell? ⟨bx, 10, none⟩ = some (.int .i64 0) := by rw [← hph]; exact H.out.cell 10 _ (fun _ => rfl)
  have HJ := Lib.hid hj
  have HT : Hid (0 ≤ ({ x with a := vv } : Core).tries ∧ ({ x with a := vv } : Core).tries ≤ 1000000) := Lib.hid ht
  have hrem : Int.tmod vv 2 = vv % 2 := by rw [Int.tmod_eq_emod_of_nonneg hvb.1]
  have hrw : IntKind.u32.wrap (vv % 2) = vv % 2 := by rw [IntKind.wrap_u32]; omega
  clear h hph hm hb hn hj hvv ht
  by_cases ho : vv % 2 = 1
  · have hb1 : (vv % 2 == 1) = true := by simpa using ho
    rw [if_pos ho, if_pos ho]
    clear ho hvb
    go_enter Try.func69, Try.ntmps69
    go_wp2_with (first | (go_at_call 86; refine (Read_at bN 0 HM.out HB.out HJ.out HN.out H.out).mono ?_; rintro e w1 ⟨rfl, hx⟩; rw [HVV.out]; have e13 : w1.cell? ⟨bx, 13, none⟩ = some (.int .u32 x.a) := hx.1.cell 13 _ (fun _ => rfl); have f13 := hx.1.free 13; have HA := Lib.hid (hx.1.put 13 (.int .u32 vv) ({ x with a := vv }) (fun _ => rfl)); have H1 := Lib.hid hx; clear hx) | (go_at_call 93; refine (fail_any (x := { x with a := vv }) HT.out HA.out).mono ?_; rintro e w3 ⟨rfl, hx⟩; have H3 := Lib.hid hx; clear hx))
    all_goals (first | (go_end0; exact ⟨rfl, H3.out⟩) | (refine bodyPost_ret (results_none rfl _ _ _) rfl ?_; exact ⟨rfl, H3.out⟩))
  · have hb1 : (vv % 2 == 1) = false := by simpa using ho
    rw [if_neg ho, if_neg ho]
    clear ho hvb
    go_enter Try.func69, Try.ntmps69
    go_wp2_with (first | (go_at_call 86; refine (Read_at bN 0 HM.out HB.out HJ.out HN.out H.out).mono ?_; rintro e w1 ⟨rfl, hx⟩; rw [HVV.out]; have e13 : w1.cell? ⟨bx, 13, none⟩ = some (.int .u32 x.a) := hx.1.cell 13 _ (fun _ => rfl); have f13 := hx.1.free 13; have HA := Lib.hid (hx.1.put 13 (.int .u32 vv) ({ x with a := vv }) (fun _ => rfl)); have H1 := Lib.hid hx; clear hx) | (go_at_call 87; refine (Go_any 1 HA.out).mono ?_; rintro e w3 ⟨rfl, hx⟩; have H3 := Lib.hid hx; clear hx))
    go_end0
    exact ⟨rfl, H3.out⟩
set_option maxHeartbeats 4000000 in
theorem read_2 {T : TypeId} {bx mb : Nat} {sv r0 : Value} {W0 W : World} {x : Core} {rec ws : List Int} {n : Int} (bN : Nat) (hm : x.m = .pointer (some ⟨mb, 0, none⟩)) (hb : x.base = (bN : Int)) (hn : 0 ≤ n ∧ n ≤ 1000000) (ht : 0 ≤ x.tries ∧ x.tries ≤ 1000000) (hj : bN + 0 < ws.length) (hph : x.phase = 2) (h : St T bx mb sv W0 r0 W x rec ws n) :
    Calls Try.prog 69 #[.pointer (some ⟨bx, 0, none⟩)] W fun e W' => e = .returned (.tuple #[]) ∧ St T bx mb sv W0 r0 W' (if ws.getD (bN + 0) 0 = x.a then { x with over := true, code := 0 } else failC x) (if ws.getD (bN + 0) 0 = x.a then endRec x.op 0 rec else []) ws (n + 1) := by
  have H := Lib.hid h
  have HM := Lib.hid hm
  have HB := Lib.hid hb
  have HN := Lib.hid hn
  have NB : Hid (bx ∉ (mb :: sv.ownBlock.toList)) := Lib.hid (by obtain ⟨v, hp, he⟩ := h; simp; exact ⟨hp.ne, fun hh => hp.ns bx hh rfl⟩)
  obtain ⟨vv, hvv⟩ : ∃ vv, ws.getD (bN + 0) 0 = vv := ⟨_, rfl⟩
  have hvb : 0 ≤ vv ∧ vv ≤ 4294967295 := by rw [← hvv]; exact word_bd h.memory hj
  have HVV := Lib.hid hvv
  rw [hvv]
  have e10 : W.cell? ⟨bx, 10, none⟩ = some (.int .i64 2) := by rw [← hph]; exact H.out.cell 10 _ (fun _ => rfl)
  have HJ := Lib.hid hj
  have HT := Lib.hid ht
  have eS0 : W.cell? ⟨bx, 13, none⟩ = some (.int .u32 x.a) := H.out.cell 13 _ (fun _ => rfl)
  have KEEP := Lib.hid (fun (V : World) (h : Chg (mb :: sv.ownBlock.toList) W V) => (⟨h.keep eS0 NB.out, Lib.hid h⟩ : (fun V : World => V.cell? ⟨bx, 13, none⟩ = some (.int .u32 x.a) ∧ Hid (Chg (mb :: sv.ownBlock.toList) W V)) V))
  clear eS0
  clear h hph hm hb hn hj hvv hvb ht
  by_cases ho : vv = x.a
  · have hb1 : (vv == x.a) = true := by simpa using ho
    rw [if_pos ho, if_pos ho]
    clear ho
    go_enter Try.func69, Try.ntmps69
    go_wp2_with fail
    have hHeld : (fun V : World => V.cell? ⟨bx, 13, none⟩ = some (.int .u32 x.a) ∧ Hid (Chg (mb :: sv.ownBlock.toList) W V)) (World.drew W) := KEEP.out _ (Chg.refl _ _).drew
    refine wp_region_plan (fun V : World => V.cell? ⟨bx, 13, none⟩ = some (.int .u32 x.a) ∧ Hid (Chg (mb :: sv.ownBlock.toList) W V)) [(0, true, some 7), (1, true, some 8), (2, true, some 9), (4, true, some 11), (5, true, some 12), (6, true, some 13), (7, true, some 14), (8, true, some 15), (3, false, some 10), (9, true, some 16)] (by kernel_rfl) (by kernel_rfl) (by kernel_rfl) (by kernel_rfl) (fun d c a v w h => by cases d <;> exact h) hHeld ?_
    repeat (first
      | (refine planWp_read (v := ?_) rfl rfl ?_ ?_ ?_; rotate_left; (focus rfl); (focus (intro u hSw; (try dsimp only at hSw); go_simp; (try with_reducible rfl))); (try simp only [Act.put, List.setIfInBounds_toArray, List.set_cons_zero, List.set_cons_succ]))
      | (refine planWp_skip rfl rfl ?_ ?_; (focus rfl); (try simp only [Act.put, List.setIfInBounds_toArray, List.set_cons_zero, List.set_cons_succ]))
      | (refine planWp_leave rfl rfl ?_ hHeld ?_; (focus rfl); (try simp only [Act.put, List.setIfInBounds_toArray, List.set_cons_zero, List.set_cons_succ]))
      | (refine planWp_do rfl rfl ?_ (fun K hK => ?_); (focus rfl); go_simp; (try go_wp2_with (go_at_call 86; refine (Read_at bN 0 HM.out HB.out HJ.out HN.out (H.out.keep (Chg.refl _ _).drew)).mono ?_; rintro e w1 ⟨rfl, hx⟩; rw [HVV.out]; have H1 := Lib.hid hx.1; have HCX := Lib.hid hx.2.2; clear hx)); refine hK.out _ _ ?_ (fun hHeld2 => ?_); (focus (exact KEEP.out _ (Chg.trans hHeld.2.out HCX.out))); clear hK K hHeld; have hHeld := hHeld2; clear hHeld2; (try simp only [Act.put, List.setIfInBounds_toArray, List.set_cons_zero, List.set_cons_succ])))
    refine planWp_nil ?_
    clear hHeld KEEP
    go_wp2_with (go_at_call 91; refine (End_any 0 H1.out).mono ?_; rintro e w3 ⟨rfl, hx⟩; have H3 := Lib.hid hx; clear hx)
    all_goals (first | (go_end0; exact ⟨rfl, H3.out⟩) | (refine bodyPost_ret (results_none rfl _ _ _) rfl ?_; exact ⟨rfl, H3.out⟩))
  · have hb1 : (vv == x.a) = false := by simpa using ho
    rw [if_neg ho, if_neg ho]
    clear ho
    go_enter Try.func69, Try.ntmps69
    go_wp2_with fail
    have hHeld : (fun V : World => V.cell? ⟨bx, 13, none⟩ = some (.int .u32 x.a) ∧ Hid (Chg (mb :: sv.ownBlock.toList) W V)) (World.drew W) := KEEP.out _ (Chg.refl _ _).drew
    refine wp_region_plan (fun V : World => V.cell? ⟨bx, 13, none⟩ = some (.int .u32 x.a) ∧ Hid (Chg (mb :: sv.ownBlock.toList) W V)) [(0, true, some 7), (1, true, some 8), (2, true, some 9), (4, true, some 11), (5, true, some 12), (6, true, some 13), (7, true, some 14), (8, true, some 15), (3, false, some 10), (9, true, some 16)] (by kernel_rfl) (by kernel_rfl) (by kernel_rfl) (by kernel_rfl) (fun d c a v w h => by cases d <;> exact h) hHeld ?_
    repeat (first
      | (refine planWp_read (v := ?_) rfl rfl ?_ ?_ ?_; rotate_left; (focus rfl); (focus (intro u hSw; (try dsimp only at hSw); go_simp; (try with_reducible rfl))); (try simp only [Act.put, List.setIfInBounds_toArray, List.set_cons_zero, List.set_cons_succ]))
      | (refine planWp_skip rfl rfl ?_ ?_; (focus rfl); (try simp only [Act.put, List.setIfInBounds_toArray, List.set_cons_zero, List.set_cons_succ]))
      | (refine planWp_leave rfl rfl ?_ hHeld ?_; (focus rfl); (try simp only [Act.put, List.setIfInBounds_toArray, List.set_cons_zero, List.set_cons_succ]))
      | (refine planWp_do rfl rfl ?_ (fun K hK => ?_); (focus rfl); go_simp; (try go_wp2_with (go_at_call 86; refine (Read_at bN 0 HM.out HB.out HJ.out HN.out (H.out.keep (Chg.refl _ _).drew)).mono ?_; rintro e w1 ⟨rfl, hx⟩; rw [HVV.out]; have H1 := Lib.hid hx.1; have HCX := Lib.hid hx.2.2; clear hx)); refine hK.out _ _ ?_ (fun hHeld2 => ?_); (focus (exact KEEP.out _ (Chg.trans hHeld.2.out HCX.out))); clear hK K hHeld; have hHeld := hHeld2; clear hHeld2; (try simp only [Act.put, List.setIfInBounds_toArray, List.set_cons_zero, List.set_cons_succ])))
    refine planWp_nil ?_
    clear hHeld KEEP
    go_wp2_with (go_at_call 93; refine (fail_any HT.out H1.out).mono ?_; rintro e w3 ⟨rfl, hx⟩; have H3 := Lib.hid hx; clear hx)
    all_goals (first | (go_end0; exact ⟨rfl, H3.out⟩) | (refine bodyPost_ret (results_none rfl _ _ _) rfl ?_; exact ⟨rfl, H3.out⟩))
end Go.Proofs.Ytbbpnpokccfhjaa.seq
