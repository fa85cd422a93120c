/- Package four: the word of a record; a step. -/
import Derived.Test.YtbbpnpokccfhjaaFour1
namespace Go.Proofs.Ytbbpnpokccfhjaa.four
open Go Go.RowKit Go.Proofs.Ytbbpnpokccfhjaa.kit Go.Proofs.Ytbbpnpokccfhjaa.mem Go.Proofs.Ytbbpnpokccfhjaa.rop Go.Proofs.Ytbbpnpokccfhjaa.core
set_option linter.unusedVariables false
set_option maxRecDepth 20000

set_option maxHeartbeats 4000000 in
theorem write_2 {T : TypeId} {bx mb : Nat} {sv r0 : Value} {W0 W : World} {x : Core} {rec ws : List Int} {n : Int} (bN : Nat) (hm : x.m = .pointer (some ⟨mb, 0, none⟩)) (hb : x.base = (bN : Int)) (hn : 0 ≤ n ∧ n ≤ 1000000) (aN cN wN iN : Nat) (ha : x.a = (aN : Int)) (haN : aN ≤ 1) (hc : x.b = (cN : Int)) (hcN : cN ≤ 1) (hw : x.w = (wN : Int)) (hwN : wN ≤ 8) (hi : x.i = (iN : Int)) (hil : iN < 8) (hop : x.op = 2 ∨ x.op = 3) (hir : iN < rec.length) (hj : bN + ((4 + (2 * aN + cN) * wN) + iN) < ws.length) (hph : x.phase = 2) (h : St T bx mb sv W0 r0 W x rec ws n) :
    Calls Try.prog 58 #[.pointer (some ⟨bx, 0, none⟩)] W fun e W' => e = .returned (.tuple #[]) ∧ St T bx mb sv W0 r0 W' (if wN ≤ iN + 1 then { x with phase := 3, i := 0 } else { x with i := (iN : Int) + 1 }) (if wN ≤ iN + 1 then rec else rec) (ws.set (bN + ((4 + (2 * aN + cN) * wN) + iN)) (rec.getD iN 0)) (n + 1) := by
  have H := Lib.hid h
  have HM := Lib.hid hm
  have HB := Lib.hid hb
  have HN := Lib.hid hn
  have e10 : W.cell? ⟨bx, 10, none⟩ = some (.int .i64 2) := by rw [← hph]; exact H.out.cell 10 _ (fun _ => rfl)
  have HA := Lib.hid ha
  have HAN := Lib.hid haN
  have HCC := Lib.hid hc
  have HCN := Lib.hid hcN
  have HW := Lib.hid hw
  have HWN := Lib.hid hwN
  have HI := Lib.hid hi
  have HOP := Lib.hid hop
  have HIR := Lib.hid hir
  have HJ := Lib.hid hj
  clear h hph hm hb hn hj ha haN hc hcN hw hwN hi hop hir
  by_cases hle : wN ≤ iN + 1
  · have HDEC : Hid (decide ((wN : Int) ≤ (iN : Int) + 1) = true) := Lib.hid (by simpa using (by omega : (wN : Int) ≤ (iN : Int) + 1))
    rw [if_pos hle, if_pos hle]
    clear hle
    go_enter Try.func58, Try.ntmps58
    go_wp2_with fail
    have hHeld : (fun V : World => Hid (Chg [] W V)) W.drew := Lib.hid (Chg.refl _ _).drew
    refine wp_region_planT (fun V : World => Hid (Chg [] W V)) 5 [(0, true, some 61), (1, true, some 62), (2, true, some 63), (3, true, some 64), (4, false, some 65)] (by kernel_rfl) (by kernel_rfl) (by kernel_rfl) (by kernel_rfl) (by kernel_rfl) (fun d c a v w h => by cases d <;> exact h) hHeld ?_
    repeat (refine planT_read (v := ?_) rfl rfl ?_ ?_ ?_; rotate_left; (focus rfl); (focus (intro u hSw; (try dsimp only at hSw); go_simp; (try with_reducible rfl))); (try simp only [Act.put, List.setIfInBounds_toArray, List.set_cons_zero, List.set_cons_succ]))
    refine planT_do rfl rfl ?_ (fun K hK => ?_)
    · rfl
    go_simp
    go_wp2_with (go_at_call 89; refine (from_any aN cN wN HA.out HAN.out HCC.out HCN.out HW.out HWN.out (H.out.keep hHeld.out)).mono ?_; rintro e w3 ⟨rfl, hx⟩; have HC3 := Lib.hid (hHeld.out.trans hx); clear hx)
    refine hK.out _ _ HC3 (fun hHeld2 => ?_)
    clear hK K hHeld hHeld2
    try simp only [Act.put, List.setIfInBounds_toArray, List.set_cons_zero, List.set_cons_succ]
    refine planT_last rfl ?_ (fun K hK => ?_)
    · rfl
    go_simp
    go_wp2_with (go_at_call 88; refine (Word_write bN (4 + (2 * aN + cN) * wN) iN HOP.out HM.out HB.out HI.out HIR.out HJ.out HN.out (H.out.keep HC3.out)).mono ?_; rintro e w4 ⟨rfl, hx⟩; rw [HW.out, HDEC.out]; have H4 := Lib.hid hx; clear hx)
    refine hK.out _ _ ?_
    clear hK K
    go_wp2_with (go_at_call 87; refine (Go_any 3 H4.out).mono ?_; rintro e w6 ⟨rfl, hx⟩; have H6 := Lib.hid hx; clear hx)
    go_end0
    exact ⟨rfl, H6.out⟩
  · have HDEC : Hid (decide ((wN : Int) ≤ (iN : Int) + 1) = false) := Lib.hid (by simpa using (by omega : ¬ (wN : Int) ≤ (iN : Int) + 1))
    rw [if_neg hle, if_neg hle]
    clear hle
    go_enter Try.func58, Try.ntmps58
    go_wp2_with fail
    have hHeld : (fun V : World => Hid (Chg [] W V)) W.drew := Lib.hid (Chg.refl _ _).drew
    refine wp_region_planT (fun V : World => Hid (Chg [] W V)) 5 [(0, true, some 61), (1, true, some 62), (2, true, some 63), (3, true, some 64), (4, false, some 65)] (by kernel_rfl) (by kernel_rfl) (by kernel_rfl) (by kernel_rfl) (by kernel_rfl) (fun d c a v w h => by cases d <;> exact h) hHeld ?_
    repeat (refine planT_read (v := ?_) rfl rfl ?_ ?_ ?_; rotate_left; (focus rfl); (focus (intro u hSw; (try dsimp only at hSw); go_simp; (try with_reducible rfl))); (try simp only [Act.put, List.setIfInBounds_toArray, List.set_cons_zero, List.set_cons_succ]))
    refine planT_do rfl rfl ?_ (fun K hK => ?_)
    · rfl
    go_simp
    go_wp2_with (go_at_call 89; refine (from_any aN cN wN HA.out HAN.out HCC.out HCN.out HW.out HWN.out (H.out.keep hHeld.out)).mono ?_; rintro e w3 ⟨rfl, hx⟩; have HC3 := Lib.hid (hHeld.out.trans hx); clear hx)
    refine hK.out _ _ HC3 (fun hHeld2 => ?_)
    clear hK K hHeld hHeld2
    try simp only [Act.put, List.setIfInBounds_toArray, List.set_cons_zero, List.set_cons_succ]
    refine planT_last rfl ?_ (fun K hK => ?_)
    · rfl
    go_simp
    go_wp2_with (go_at_call 88; refine (Word_write bN (4 + (2 * aN + cN) * wN) iN HOP.out HM.out HB.out HI.out HIR.out HJ.out HN.out (H.out.keep HC3.out)).mono ?_; rintro e w4 ⟨rfl, hx⟩; rw [HW.out, HDEC.out]; have H4 := Lib.hid hx; clear hx)
    refine hK.out _ _ ?_
    clear hK K
    go_wp2_with fail
    go_end0
    exact ⟨rfl, H4.out⟩
set_option maxHeartbeats 4000000 in
theorem read_3 {T : TypeId} {bx mb : Nat} {sv r0 : Value} {W0 W : World} {x : Core} {rec ws : List Int} {n : Int} (bN : Nat) (hm : x.m = .pointer (some ⟨mb, 0, none⟩)) (hb : x.base = (bN : Int)) (hn : 0 ≤ n ∧ n ≤ 1000000) (aN cN wN iN : Nat) (ha : x.a = (aN : Int)) (haN : aN ≤ 1) (hc : x.b = (cN : Int)) (hcN : cN ≤ 1) (hw : x.w = (wN : Int)) (hwN : wN ≤ 8) (hi : x.i = (iN : Int)) (hil : iN < 8) (hop : x.op ≠ 2 ∧ x.op ≠ 3) (hir : rec.length < 1000) (hj : bN + ((4 + (2 * aN + cN) * wN) + iN) < ws.length) (hph : x.phase = 3) (h : St T bx mb sv W0 r0 W x rec ws n) :
    Calls Try.prog 59 #[.pointer (some ⟨bx, 0, none⟩)] W fun e W' => e = .returned (.tuple #[]) ∧ St T bx mb sv W0 r0 W' (if wN ≤ iN + 1 then { x with i := (iN : Int) + 1, over := true, code := 0 } else { x with i := (iN : Int) + 1 }) (if wN ≤ iN + 1 then (endRec x.op 0 (rec ++ [ws.getD (bN + ((4 + (2 * aN + cN) * wN) + iN)) 0])) else (rec ++ [ws.getD (bN + ((4 + (2 * aN + cN) * wN) + iN)) 0])) ws (n + 1) := by
  have H := Lib.hid h
  have HM := Lib.hid hm
  have HB := Lib.hid hb
  have HN := Lib.hid hn
  have e10 : W.cell? ⟨bx, 10, none⟩ = some (.int .i64 3) := by rw [← hph]; exact H.out.cell 10 _ (fun _ => rfl)
  have HA := Lib.hid ha
  have HAN := Lib.hid haN
  have HCC := Lib.hid hc
  have HCN := Lib.hid hcN
  have HW := Lib.hid hw
  have HWN := Lib.hid hwN
  have HI := Lib.hid hi
  have HOP := Lib.hid hop
  have HIR := Lib.hid hir
  have HJ := Lib.hid hj
  clear h hph hm hb hn hj ha haN hc hcN hw hwN hi hop hir
  by_cases hle : wN ≤ iN + 1
  · have HDEC : Hid (decide ((wN : Int) ≤ (iN : Int) + 1) = true) := Lib.hid (by simpa using (by omega : (wN : Int) ≤ (iN : Int) + 1))
    rw [if_pos hle, if_pos hle]
    clear hle
    go_enter Try.func59, Try.ntmps59
    go_wp2_with fail
    have hHeld : (fun V : World => Hid (Chg [] W V)) W.drew := Lib.hid (Chg.refl _ _).drew
    refine wp_region_planT (fun V : World => Hid (Chg [] W V)) 5 [(0, true, some 7), (1, true, some 8), (2, true, some 9), (3, true, some 10), (4, false, some 11)] (by kernel_rfl) (by kernel_rfl) (by kernel_rfl) (by kernel_rfl) (by kernel_rfl) (fun d c a v w h => by cases d <;> exact h) hHeld ?_
    repeat (refine planT_read (v := ?_) rfl rfl ?_ ?_ ?_; rotate_left; (focus rfl); (focus (intro u hSw; (try dsimp only at hSw); go_simp; (try with_reducible rfl))); (try simp only [Act.put, List.setIfInBounds_toArray, List.set_cons_zero, List.set_cons_succ]))
    refine planT_do rfl rfl ?_ (fun K hK => ?_)
    · rfl
    go_simp
    go_wp2_with (go_at_call 89; refine (from_any aN cN wN HA.out HAN.out HCC.out HCN.out HW.out HWN.out (H.out.keep hHeld.out)).mono ?_; rintro e w3 ⟨rfl, hx⟩; have HC3 := Lib.hid (hHeld.out.trans hx); clear hx)
    refine hK.out _ _ HC3 (fun hHeld2 => ?_)
    clear hK K hHeld hHeld2
    try simp only [Act.put, List.setIfInBounds_toArray, List.set_cons_zero, List.set_cons_succ]
    refine planT_last rfl ?_ (fun K hK => ?_)
    · rfl
    go_simp
    go_wp2_with (go_at_call 88; refine (Word_read bN (4 + (2 * aN + cN) * wN) iN HOP.out HM.out HB.out HI.out HIR.out (by omega) HJ.out HN.out (H.out.keep HC3.out)).mono ?_; rintro e w4 ⟨rfl, hx⟩; rw [HW.out, HDEC.out]; have H4 := Lib.hid hx; clear hx)
    refine hK.out _ _ ?_
    clear hK K
    go_wp2_with (go_at_call 91; refine (End_any 0 H4.out).mono ?_; rintro e w6 ⟨rfl, hx⟩; have H6 := Lib.hid hx; clear hx)
    go_end0
    exact ⟨rfl, H6.out⟩
  · have HDEC : Hid (decide ((wN : Int) ≤ (iN : Int) + 1) = false) := Lib.hid (by simpa using (by omega : ¬ (wN : Int) ≤ (iN : Int) + 1))
    rw [if_neg hle, if_neg hle]
    clear hle
    go_enter Try.func59, Try.ntmps59
    go_wp2_with fail
    have hHeld : (fun V : World => Hid (Chg [] W V)) W.drew := Lib.hid (Chg.refl _ _).drew
    refine wp_region_planT (fun V : World => Hid (Chg [] W V)) 5 [(0, true, some 7), (1, true, some 8), (2, true, some 9), (3, true, some 10), (4, false, some 11)] (by kernel_rfl) (by kernel_rfl) (by kernel_rfl) (by kernel_rfl) (by kernel_rfl) (fun d c a v w h => by cases d <;> exact h) hHeld ?_
    repeat (refine planT_read (v := ?_) rfl rfl ?_ ?_ ?_; rotate_left; (focus rfl); (focus (intro u hSw; (try dsimp only at hSw); go_simp; (try with_reducible rfl))); (try simp only [Act.put, List.setIfInBounds_toArray, List.set_cons_zero, List.set_cons_succ]))
    refine planT_do rfl rfl ?_ (fun K hK => ?_)
    · rfl
    go_simp
    go_wp2_with (go_at_call 89; refine (from_any aN cN wN HA.out HAN.out HCC.out HCN.out HW.out HWN.out (H.out.keep hHeld.out)).mono ?_; rintro e w3 ⟨rfl, hx⟩; have HC3 := Lib.hid (hHeld.out.trans hx); clear hx)
    refine hK.out _ _ HC3 (fun hHeld2 => ?_)
    clear hK K hHeld hHeld2
    try simp only [Act.put, List.setIfInBounds_toArray, List.set_cons_zero, List.set_cons_succ]
    refine planT_last rfl ?_ (fun K hK => ?_)
    · rfl
    go_simp
    go_wp2_with (go_at_call 88; refine (Word_read bN (4 + (2 * aN + cN) * wN) iN HOP.out HM.out HB.out HI.out HIR.out (by omega) HJ.out HN.out (H.out.keep HC3.out)).mono ?_; rintro e w4 ⟨rfl, hx⟩; rw [HW.out, HDEC.out]; have H4 := Lib.hid hx; clear hx)
    refine hK.out _ _ ?_
    clear hK K
    go_wp2_with fail
    go_end0
    exact ⟨rfl, H4.out⟩
end Go.Proofs.Ytbbpnpokccfhjaa.four
