/- Images: an object laid. -/
import Derived.Test.YtkmalnojkjmjiaaImgD
namespace Go.Proofs.Ytkmalnojkjmjiaa.img
open Go Go.RowKit Go.Proofs.Ytkmalnojkjmjiaa.kit Go.Proofs.Ytkmalnojkjmjiaa.obj Go.Proofs.Ytkmalnojkjmjiaa.mem Go.Proofs.Ytkmalnojkjmjiaa.lay Go.Proofs.Ytkmalnojkjmjiaa.codec
set_option linter.unusedVariables false
set_option linter.unusedSimpArgs false
set_option maxRecDepth 20000
set_option maxHeartbeats 8000000 in
theorem object_any (k w s c st wri : Int) (ia : Option Addr) (ic : Nat) (ra : Option Addr) (rc : Nat) (ini rds : List Int) (W : World) (hi : ReadsW W (.slice ia ini.length ic) ini) (hr : ReadsN W (.slice ra rds.length rc) rds) (hf : (POb.mk k w s c st wri ini rds).fit) (hw : (POb.mk k w s c st wri ini rds).W) (hl : ini.length ≤ 1000 ∧ rds.length ≤ 1000) :
    Calls Try.prog 33 #[.slice none 0 0, .agg #[.int .i64 k, .int .i64 w, .int .i64 s, .int .i64 c, .int .u32 st, .slice ia ini.length ic, .int .i64 wri, .slice ra rds.length rc]] W fun e W' => ∃ v, e = .returned v ∧ OwnB W' W.heap.size v (encO ⟨k, w, s, c, st, wri, ini, rds⟩) ∧ Chg [] W W' := by
  have HF := Lib.hid hf
  have HFW := Lib.hid hw
  have HL := Lib.hid hl
  have HRI := Lib.hid hi
  have HRR := Lib.hid hr
  have HCA : Hid (Chg [] W (W.alloc (.cells #[.int .i64 k, .int .i64 w, .int .i64 s, .int .i64 c, .int .u32 st, .slice ia ini.length ic, .int .i64 wri, .slice ra rds.length rc] 53))) := Lib.hid ((Chg.refl _ _).alloc _)
  have HBX : Hid (Blk (W.alloc (.cells #[.int .i64 k, .int .i64 w, .int .i64 s, .int .i64 c, .int .u32 st, .slice ia ini.length ic, .int .i64 wri, .slice ra rds.length rc] 53)) W.heap.size #[.int .i64 k, .int .i64 w, .int .i64 s, .int .i64 c, .int .u32 st, .slice ia ini.length ic, .int .i64 wri, .slice ra rds.length rc] 53) := Lib.hid (Blk.new W _ _)
  have hl1 : (ini.length : Int) ≤ 1000 := by omega
  have hl2 : (rds.length : Int) ≤ 1000 := by omega
  clear hf hw hl hi hr
  go_enter Try.func33, Try.ntmps33
  go_upto_region 1 with fail
  go_cut [0] from 5 to 19 (fun b wc => Hid (OwnB wc W.heap.size b (leB k 1 ++ (leB w 1 ++ (leB s 1 ++ (leB c 1 ++ leB st 4))))) ∧ Hid (Chg [] (W.alloc (.cells #[.int .i64 k, .int .i64 w, .int .i64 s, .int .i64 c, .int .u32 st, .slice ia ini.length ic, .int .i64 wri, .slice ra rds.length rc] 53)) wc))
  case first =>
    have HFX : Hid (∀ x ∈ [k, w, s, c], fit1 x) := Lib.hid (by intro x hx; simp at hx; have h9 := HF.out.1; rcases hx with rfl | rfl | rfl | rfl; exact h9.1; exact h9.2.1; exact h9.2.2.1; exact h9.2.2.2.1)
    have HWW : Hid (∀ x ∈ [st], fit4 x) := Lib.hid (by intro x hx; simp at hx; subst hx; exact HFW.out.1)
    have HW0 : Hid (BytesB []) := Lib.hid BytesB.nil
    have HLZ : Hid (([] : List Int).length + 1 * ([k, w, s, c] : List Int).length ≤ 1000000) := Lib.hid (by simp)
    have HLY : Hid ((([] : List Int) ++ enc1 [k, w, s, c]).length + 4 * ([st] : List Int).length ≤ 1000000) := Lib.hid (by simp [enc1, leB_length])
    refine code_gen (R := fun V => Hid (Blk V W.heap.size #[.int .i64 k, .int .i64 w, .int .i64 s, .int .i64 c, .int .u32 st, .slice ia ini.length ic, .int .i64 wri, .slice ra rds.length rc] 53) ∧ Hid (OwnB V W.heap.size (.slice none 0 0) []) ∧ Hid (Chg [] (W.alloc (.cells #[.int .i64 k, .int .i64 w, .int .i64 s, .int .i64 c, .int .u32 st, .slice ia ini.length ic, .int .i64 wri, .slice ra rds.length rc] 53)) V)) ⟨HBX, Lib.hid (OwnB.nil _ _), Lib.hid (Chg.refl _ _)⟩ ?_
    rintro V0 ⟨HBI, HO0, HC0⟩
    have HB0 : Hid (W.heap.size ≤ V0.heap.size) := Lib.hid (by have := HCA.out.size; have := HC0.out.size; simp at *; omega)
    have HBI2 := HBI
    have eI0 := HBI2.out.cell (o := 0) rfl
    have eI1 := HBI2.out.cell (o := 1) rfl
    have eI2 := HBI2.out.cell (o := 2) rfl
    have eI3 := HBI2.out.cell (o := 3) rfl
    have eI4 := HBI2.out.cell (o := 4) rfl
    have eI5 := HBI2.out.cell (o := 5) rfl
    have eI6 := HBI2.out.cell (o := 6) rfl
    have eI7 := HBI2.out.cell (o := 7) rfl
    have KEEP := Lib.hid (fun (V : World) (h : Chg [] V0 V) => (⟨h.keep eI0 (by simp), h.keep eI1 (by simp), h.keep eI2 (by simp), h.keep eI3 (by simp), h.keep eI4 (by simp), h.keep eI5 (by simp), h.keep eI6 (by simp), h.keep eI7 (by simp), Lib.hid h⟩ : (fun V : World => V.cell? ⟨W.heap.size, 0, none⟩ = some (.int .i64 k) ∧ V.cell? ⟨W.heap.size, 1, none⟩ = some (.int .i64 w) ∧ V.cell? ⟨W.heap.size, 2, none⟩ = some (.int .i64 s) ∧ V.cell? ⟨W.heap.size, 3, none⟩ = some (.int .i64 c) ∧ V.cell? ⟨W.heap.size, 4, none⟩ = some (.int .u32 st) ∧ V.cell? ⟨W.heap.size, 5, none⟩ = some (.slice ia ini.length ic) ∧ V.cell? ⟨W.heap.size, 6, none⟩ = some (.int .i64 wri) ∧ V.cell? ⟨W.heap.size, 7, none⟩ = some (.slice ra rds.length rc) ∧ Hid (Chg [] V0 V)) V))
    clear eI0 eI1 eI2 eI3 eI4 eI5 eI6 eI7
    have HD : Hid (Chg [] V0 V0.drew) := Lib.hid (Chg.refl _ _).drew
    have hHeld : (fun V : World => V.cell? ⟨W.heap.size, 0, none⟩ = some (.int .i64 k) ∧ V.cell? ⟨W.heap.size, 1, none⟩ = some (.int .i64 w) ∧ V.cell? ⟨W.heap.size, 2, none⟩ = some (.int .i64 s) ∧ V.cell? ⟨W.heap.size, 3, none⟩ = some (.int .i64 c) ∧ V.cell? ⟨W.heap.size, 4, none⟩ = some (.int .u32 st) ∧ V.cell? ⟨W.heap.size, 5, none⟩ = some (.slice ia ini.length ic) ∧ V.cell? ⟨W.heap.size, 6, none⟩ = some (.int .i64 wri) ∧ V.cell? ⟨W.heap.size, 7, none⟩ = some (.slice ra rds.length rc) ∧ Hid (Chg [] V0 V)) V0.drew := KEEP.out _ HD.out
    refine wp_region_pt (fun V : World => V.cell? ⟨W.heap.size, 0, none⟩ = some (.int .i64 k) ∧ V.cell? ⟨W.heap.size, 1, none⟩ = some (.int .i64 w) ∧ V.cell? ⟨W.heap.size, 2, none⟩ = some (.int .i64 s) ∧ V.cell? ⟨W.heap.size, 3, none⟩ = some (.int .i64 c) ∧ V.cell? ⟨W.heap.size, 4, none⟩ = some (.int .u32 st) ∧ V.cell? ⟨W.heap.size, 5, none⟩ = some (.slice ia ini.length ic) ∧ V.cell? ⟨W.heap.size, 6, none⟩ = some (.int .i64 wri) ∧ V.cell? ⟨W.heap.size, 7, none⟩ = some (.slice ra rds.length rc) ∧ Hid (Chg [] V0 V)) (PT.read 0 (some 5) (PT.read 1 (some 6) (PT.read 2 (some 7) (PT.read 3 (some 8) (PT.read 4 (some 9) (PT.read 5 (some 10) (PT.read 6 (some 11) (PT.read 7 (some 12) (PT.read 8 (some 13) (PT.read 11 (some 16) (PT.read 12 (some 17) (PT.fork 9 (some 14) (PT.fork 10 (some 15) (PT.act 13 (some 18) (PT.act 14 (some 19) (PT.read 15 (some 0) PT.nil))) 13 (some 18) (PT.act 10 (some 15) (PT.act 14 (some 19) (PT.read 15 (some 0) PT.nil)))) 13 (some 18) (PT.act 9 (some 14) (PT.act 10 (some 15) (PT.act 14 (some 19) (PT.read 15 (some 0) PT.nil)))))))))))))))) (by kernel_rfl) (by kernel_rfl) (by kernel_rfl) (by kernel_rfl) (fun d c a v w h => by cases d <;> exact h) hHeld ?_
    clear hHeld
    (repeat (refine pt_read (v := ?_) rfl rfl ?_ ?_ ?_; rotate_left; (focus rfl); (focus (intro u hSw; (try dsimp only at hSw); go_simp; (try with_reducible rfl); done)); ((try dsimp only); (try simp only [Act.put, List.setIfInBounds_toArray, List.set_cons_zero, List.set_cons_succ]))))
    refine pt_fork ?_ ?_
    · refine act_do rfl rfl ?_ (fun K hK => ?_)
      · rfl
      go_simp
      have HCA1 : Hid (Chg [] V0 (V0.drew.alloc (.cells #[.int .i64 k, .int .i64 w, .int .i64 s, .int .i64 c] 3))) := Lib.hid (HD.out.alloc _)
      refine hK.out _ _ (KEEP.out _ HCA1.out) (fun _ => ?_)
      clear hK K
      ((try dsimp only); (try simp only [Act.put, List.setIfInBounds_toArray, List.set_cons_zero, List.set_cons_succ]))
      refine pt_fork ?_ ?_
      · refine act_do rfl rfl ?_ (fun K hK => ?_)
        · rfl
        go_simp
        go_wp2_with (go_at_call 31; refine (bytes_any W.heap.size _ _ _ [k, w, s, c] _ (mem.own_chg HO0.out HCA1.out (by simp)) HW0.out (readsN_lit [k, w, s, c] #[.int .i64 k, .int .i64 w, .int .i64 s, .int .i64 c] 3 rfl V0.drew _ (by simp) 4 rfl (by simp)) HFX.out HLZ.out (Nat.le_trans HB0.out HCA1.out.size)).mono ?_; rintro e w1 ⟨v1, rfl, ho, hcc⟩; have HO1 := Lib.hid ho; have HO1s := Lib.hid hcc; have HCB1 := Lib.hid (HCA1.out.trans hcc); clear ho hcc)
        refine hK.out _ _ (KEEP.out _ HCB1.out) (fun _ => ?_)
        clear hK K
        ((try dsimp only); (try simp only [Act.put, List.setIfInBounds_toArray, List.set_cons_zero, List.set_cons_succ]))
        refine pt_act ?_
        refine act_do rfl rfl ?_ (fun K hK => ?_)
        · rfl
        go_simp
        have HCB2 : Hid (Chg [] V0 (w1.alloc (.cells #[.int .u32 st] 49))) := Lib.hid (HCB1.out.alloc _)
        refine hK.out _ _ (KEEP.out _ HCB2.out) (fun _ => ?_)
        clear hK K
        ((try dsimp only); (try simp only [Act.put, List.setIfInBounds_toArray, List.set_cons_zero, List.set_cons_succ]))
        refine pt_act ?_
        refine act_do rfl rfl ?_ (fun K hK => ?_)
        · rfl
        go_simp
        go_wp2_with (go_at_call 48; refine (words_any W.heap.size _ _ _ [st] _ (mem.own_chg HO1.out ((Chg.refl [] _).alloc _) (by simp)) (HW0.out.app (enc1_wf _)) (readsW_lit [st] #[.int .u32 st] 49 rfl w1 _ (by simp) 1 rfl (by simp) HWW.out) HWW.out HLY.out (Nat.le_trans HB0.out HCB2.out.size)).mono ?_; rintro e w2 ⟨v2, rfl, ho, hcc⟩; have HO2 := Lib.hid ho; have HO2s := Lib.hid hcc; have HCE := Lib.hid (HCB2.out.trans hcc); clear ho hcc)
        refine hK.out _ _ (KEEP.out _ HCE.out) (fun _ => ?_)
        clear hK K
        ((try dsimp only); (try simp only [Act.put, List.setIfInBounds_toArray, List.set_cons_zero, List.set_cons_succ]))
        (repeat (refine pt_read (v := ?_) rfl rfl ?_ ?_ ?_; rotate_left; (focus rfl); (focus (intro u hSw; (try dsimp only at hSw); go_simp; (try with_reducible rfl); done)); ((try dsimp only); (try simp only [Act.put, List.setIfInBounds_toArray, List.set_cons_zero, List.set_cons_succ]))))
        refine pt_nil ?_
        go_wp2_with fail
        go_meet
        case rel => exact ⟨Lib.hid (by have h9 := HO2.out; simp only [enc1, enc4, List.flatMap_cons, List.flatMap_nil, List.append_nil, List.append_assoc, List.nil_append] at h9 ⊢; exact h9), Lib.hid (HC0.out.trans HCE.out)⟩
      · refine act_do rfl rfl ?_ (fun K hK => ?_)
        · rfl
        go_simp
        have HCA2 : Hid (Chg [] V0 ((V0.drew.alloc (.cells #[.int .i64 k, .int .i64 w, .int .i64 s, .int .i64 c] 3)).alloc (.cells #[.int .u32 st] 49))) := Lib.hid (HCA1.out.alloc _)
        refine hK.out _ _ (KEEP.out _ HCA2.out) (fun _ => ?_)
        clear hK K
        ((try dsimp only); (try simp only [Act.put, List.setIfInBounds_toArray, List.set_cons_zero, List.set_cons_succ]))
        refine pt_act ?_
        refine act_do rfl rfl ?_ (fun K hK => ?_)
        · rfl
        go_simp
        go_wp2_with (go_at_call 31; refine (bytes_any W.heap.size _ _ _ [k, w, s, c] _ (mem.own_chg HO0.out HCA2.out (by simp)) HW0.out ((readsN_lit [k, w, s, c] #[.int .i64 k, .int .i64 w, .int .i64 s, .int .i64 c] 3 rfl V0.drew _ (by simp) 4 rfl (by simp)).chg ((Chg.refl [] _).alloc _)) HFX.out HLZ.out (Nat.le_trans HB0.out HCA2.out.size)).mono ?_; rintro e w1 ⟨v1, rfl, ho, hcc⟩; have HO1 := Lib.hid ho; have HO1s := Lib.hid hcc; have HCB1 := Lib.hid (HCA2.out.trans hcc); clear ho hcc)
        refine hK.out _ _ (KEEP.out _ HCB1.out) (fun _ => ?_)
        clear hK K
        ((try dsimp only); (try simp only [Act.put, List.setIfInBounds_toArray, List.set_cons_zero, List.set_cons_succ]))
        refine pt_act ?_
        refine act_do rfl rfl ?_ (fun K hK => ?_)
        · rfl
        go_simp
        go_wp2_with (go_at_call 48; refine (words_any W.heap.size _ _ _ [st] _ HO1.out (HW0.out.app (enc1_wf _)) ((readsW_lit [st] #[.int .u32 st] 49 rfl (V0.drew.alloc (.cells #[.int .i64 k, .int .i64 w, .int .i64 s, .int .i64 c] 3)) _ (by simp) 1 rfl (by simp) HWW.out).chg HO1s.out) HWW.out HLY.out (Nat.le_trans HB0.out HCB1.out.size)).mono ?_; rintro e w2 ⟨v2, rfl, ho, hcc⟩; have HO2 := Lib.hid ho; have HO2s := Lib.hid hcc; have HCE := Lib.hid (HCB1.out.trans hcc); clear ho hcc)
        refine hK.out _ _ (KEEP.out _ HCE.out) (fun _ => ?_)
        clear hK K
        ((try dsimp only); (try simp only [Act.put, List.setIfInBounds_toArray, List.set_cons_zero, List.set_cons_succ]))
        (repeat (refine pt_read (v := ?_) rfl rfl ?_ ?_ ?_; rotate_left; (focus rfl); (focus (intro u hSw; (try dsimp only at hSw); go_simp; (try with_reducible rfl); done)); ((try dsimp only); (try simp only [Act.put, List.setIfInBounds_toArray, List.set_cons_zero, List.set_cons_succ]))))
        refine pt_nil ?_
        go_wp2_with fail
        go_meet
        case rel => exact ⟨Lib.hid (by have h9 := HO2.out; simp only [enc1, enc4, List.flatMap_cons, List.flatMap_nil, List.append_nil, List.append_assoc, List.nil_append] at h9 ⊢; exact h9), Lib.hid (HC0.out.trans HCE.out)⟩
    · refine act_do rfl rfl ?_ (fun K hK => ?_)
      · rfl
      go_simp
      have HCA1 : Hid (Chg [] V0 (V0.drew.alloc (.cells #[.int .u32 st] 49))) := Lib.hid (HD.out.alloc _)
      refine hK.out _ _ (KEEP.out _ HCA1.out) (fun _ => ?_)
      clear hK K
      ((try dsimp only); (try simp only [Act.put, List.setIfInBounds_toArray, List.set_cons_zero, List.set_cons_succ]))
      refine pt_act ?_
      refine act_do rfl rfl ?_ (fun K hK => ?_)
      · rfl
      go_simp
      have HCA2 : Hid (Chg [] V0 ((V0.drew.alloc (.cells #[.int .u32 st] 49)).alloc (.cells #[.int .i64 k, .int .i64 w, .int .i64 s, .int .i64 c] 3))) := Lib.hid (HCA1.out.alloc _)
      refine hK.out _ _ (KEEP.out _ HCA2.out) (fun _ => ?_)
      clear hK K
      ((try dsimp only); (try simp only [Act.put, List.setIfInBounds_toArray, List.set_cons_zero, List.set_cons_succ]))
      refine pt_act ?_
      refine act_do rfl rfl ?_ (fun K hK => ?_)
      · rfl
      go_simp
      go_wp2_with (go_at_call 31; refine (bytes_any W.heap.size _ _ _ [k, w, s, c] _ (mem.own_chg HO0.out HCA2.out (by simp)) HW0.out (readsN_lit [k, w, s, c] #[.int .i64 k, .int .i64 w, .int .i64 s, .int .i64 c] 3 rfl (V0.drew.alloc (.cells #[.int .u32 st] 49)) _ (by simp) 4 rfl (by simp)) HFX.out HLZ.out (Nat.le_trans HB0.out HCA2.out.size)).mono ?_; rintro e w1 ⟨v1, rfl, ho, hcc⟩; have HO1 := Lib.hid ho; have HO1s := Lib.hid hcc; have HCB1 := Lib.hid (HCA2.out.trans hcc); clear ho hcc)
      refine hK.out _ _ (KEEP.out _ HCB1.out) (fun _ => ?_)
      clear hK K
      ((try dsimp only); (try simp only [Act.put, List.setIfInBounds_toArray, List.set_cons_zero, List.set_cons_succ]))
      refine pt_act ?_
      refine act_do rfl rfl ?_ (fun K hK => ?_)
      · rfl
      go_simp
      go_wp2_with (go_at_call 48; refine (words_any W.heap.size _ _ _ [st] _ HO1.out (HW0.out.app (enc1_wf _)) (((readsW_lit [st] #[.int .u32 st] 49 rfl V0.drew _ (by simp) 1 rfl (by simp) HWW.out).chg ((Chg.refl [] _).alloc _)).chg HO1s.out) HWW.out HLY.out (Nat.le_trans HB0.out HCB1.out.size)).mono ?_; rintro e w2 ⟨v2, rfl, ho, hcc⟩; have HO2 := Lib.hid ho; have HO2s := Lib.hid hcc; have HCE := Lib.hid (HCB1.out.trans hcc); clear ho hcc)
      refine hK.out _ _ (KEEP.out _ HCE.out) (fun _ => ?_)
      clear hK K
      ((try dsimp only); (try simp only [Act.put, List.setIfInBounds_toArray, List.set_cons_zero, List.set_cons_succ]))
      (repeat (refine pt_read (v := ?_) rfl rfl ?_ ?_ ?_; rotate_left; (focus rfl); (focus (intro u hSw; (try dsimp only at hSw); go_simp; (try with_reducible rfl); done)); ((try dsimp only); (try simp only [Act.put, List.setIfInBounds_toArray, List.set_cons_zero, List.set_cons_succ]))))
      refine pt_nil ?_
      go_wp2_with fail
      go_meet
      case rel => exact ⟨Lib.hid (by have h9 := HO2.out; simp only [enc1, enc4, List.flatMap_cons, List.flatMap_nil, List.append_nil, List.append_assoc, List.nil_append] at h9 ⊢; exact h9), Lib.hid (HC0.out.trans HCE.out)⟩
  case rest =>
  obtain ⟨HO1, HC1⟩ := hcut
  have HBX1 := Lib.hid (HBX.out.keep HC1.out (by simp))
  go_upto_region 2 with fail
  go_cut [0] from 20 to 30 (fun b wc => Hid (OwnB wc W.heap.size b (leB k 1 ++ (leB w 1 ++ (leB s 1 ++ (leB c 1 ++ (leB st 4 ++ (leB wri 1 ++ (leB rds.length 1 ++ enc1 rds)))))))) ∧ Hid (Chg [] (W.alloc (.cells #[.int .i64 k, .int .i64 w, .int .i64 s, .int .i64 c, .int .u32 st, .slice ia ini.length ic, .int .i64 wri, .slice ra rds.length rc] 53)) wc))
  case first =>
    have HFX : Hid (∀ x ∈ [wri, (rds.length : Int)], fit1 x) := Lib.hid (by intro x hx; simp at hx; have h9 := HF.out.1; rcases hx with rfl | rfl; exact h9.2.2.2.2.1; exact h9.2.2.2.2.2.1)
    have HW0 : Hid (BytesB (leB k 1 ++ (leB w 1 ++ (leB s 1 ++ (leB c 1 ++ leB st 4))))) := Lib.hid ((BytesB.le _ _).app ((BytesB.le _ _).app ((BytesB.le _ _).app ((BytesB.le _ _).app (BytesB.le _ _)))))
    have HLZ : Hid (((leB k 1 ++ (leB w 1 ++ (leB s 1 ++ (leB c 1 ++ leB st 4))))).length + 1 * ([wri, (rds.length : Int)] : List Int).length ≤ 1000000) := Lib.hid (by simp [leB_length])
    refine code_gen (R := fun V => Hid (Blk V W.heap.size #[.int .i64 k, .int .i64 w, .int .i64 s, .int .i64 c, .int .u32 st, .slice ia ini.length ic, .int .i64 wri, .slice ra rds.length rc] 53) ∧ Hid (OwnB V W.heap.size u0 (leB k 1 ++ (leB w 1 ++ (leB s 1 ++ (leB c 1 ++ leB st 4))))) ∧ Hid (Chg [] (W.alloc (.cells #[.int .i64 k, .int .i64 w, .int .i64 s, .int .i64 c, .int .u32 st, .slice ia ini.length ic, .int .i64 wri, .slice ra rds.length rc] 53)) V)) ⟨HBX1, HO1, HC1⟩ ?_
    rintro V0 ⟨HBI, HO0, HC0⟩
    have HB0 : Hid (W.heap.size ≤ V0.heap.size) := Lib.hid (by have := HCA.out.size; have := HC0.out.size; simp at *; omega)
    have HBI2 := HBI
    have eI0 := HBI2.out.cell (o := 0) rfl
    have eI1 := HBI2.out.cell (o := 1) rfl
    have eI2 := HBI2.out.cell (o := 2) rfl
    have eI3 := HBI2.out.cell (o := 3) rfl
    have eI4 := HBI2.out.cell (o := 4) rfl
    have eI5 := HBI2.out.cell (o := 5) rfl
    have eI6 := HBI2.out.cell (o := 6) rfl
    have eI7 := HBI2.out.cell (o := 7) rfl
    have KEEP := Lib.hid (fun (V : World) (h : Chg [] V0 V) => (⟨h.keep eI0 (by simp), h.keep eI1 (by simp), h.keep eI2 (by simp), h.keep eI3 (by simp), h.keep eI4 (by simp), h.keep eI5 (by simp), h.keep eI6 (by simp), h.keep eI7 (by simp), Lib.hid h⟩ : (fun V : World => V.cell? ⟨W.heap.size, 0, none⟩ = some (.int .i64 k) ∧ V.cell? ⟨W.heap.size, 1, none⟩ = some (.int .i64 w) ∧ V.cell? ⟨W.heap.size, 2, none⟩ = some (.int .i64 s) ∧ V.cell? ⟨W.heap.size, 3, none⟩ = some (.int .i64 c) ∧ V.cell? ⟨W.heap.size, 4, none⟩ = some (.int .u32 st) ∧ V.cell? ⟨W.heap.size, 5, none⟩ = some (.slice ia ini.length ic) ∧ V.cell? ⟨W.heap.size, 6, none⟩ = some (.int .i64 wri) ∧ V.cell? ⟨W.heap.size, 7, none⟩ = some (.slice ra rds.length rc) ∧ Hid (Chg [] V0 V)) V))
    clear eI0 eI1 eI2 eI3 eI4 eI5 eI6 eI7
    have HD : Hid (Chg [] V0 V0.drew) := Lib.hid (Chg.refl _ _).drew
    have hHeld : (fun V : World => V.cell? ⟨W.heap.size, 0, none⟩ = some (.int .i64 k) ∧ V.cell? ⟨W.heap.size, 1, none⟩ = some (.int .i64 w) ∧ V.cell? ⟨W.heap.size, 2, none⟩ = some (.int .i64 s) ∧ V.cell? ⟨W.heap.size, 3, none⟩ = some (.int .i64 c) ∧ V.cell? ⟨W.heap.size, 4, none⟩ = some (.int .u32 st) ∧ V.cell? ⟨W.heap.size, 5, none⟩ = some (.slice ia ini.length ic) ∧ V.cell? ⟨W.heap.size, 6, none⟩ = some (.int .i64 wri) ∧ V.cell? ⟨W.heap.size, 7, none⟩ = some (.slice ra rds.length rc) ∧ Hid (Chg [] V0 V)) V0.drew := KEEP.out _ HD.out
    refine wp_region_pt (fun V : World => V.cell? ⟨W.heap.size, 0, none⟩ = some (.int .i64 k) ∧ V.cell? ⟨W.heap.size, 1, none⟩ = some (.int .i64 w) ∧ V.cell? ⟨W.heap.size, 2, none⟩ = some (.int .i64 s) ∧ V.cell? ⟨W.heap.size, 3, none⟩ = some (.int .i64 c) ∧ V.cell? ⟨W.heap.size, 4, none⟩ = some (.int .u32 st) ∧ V.cell? ⟨W.heap.size, 5, none⟩ = some (.slice ia ini.length ic) ∧ V.cell? ⟨W.heap.size, 6, none⟩ = some (.int .i64 wri) ∧ V.cell? ⟨W.heap.size, 7, none⟩ = some (.slice ra rds.length rc) ∧ Hid (Chg [] V0 V)) (PT.read 0 (some 20) (PT.read 1 (some 21) (PT.read 2 (some 22) (PT.read 3 (some 23) (PT.read 4 (some 24) (PT.read 5 (some 25) (PT.read 8 (some 28) (PT.read 9 (some 29) (PT.act 6 (some 26) (PT.act 7 (some 27) (PT.act 10 (some 30) (PT.read 11 (some 0) PT.nil)))))))))))) (by kernel_rfl) (by kernel_rfl) (by kernel_rfl) (by kernel_rfl) (fun d c a v w h => by cases d <;> exact h) hHeld ?_
    clear hHeld
    (repeat (refine pt_read (v := ?_) rfl rfl ?_ ?_ ?_; rotate_left; (focus rfl); (focus (intro u hSw; (try dsimp only at hSw); go_simp; (try with_reducible rfl); done)); ((try dsimp only); (try simp only [Act.put, List.setIfInBounds_toArray, List.set_cons_zero, List.set_cons_succ]))))
    refine pt_act ?_
    refine act_do rfl rfl ?_ (fun K hK => ?_)
    · rfl
    go_simp
    have HCA1 : Hid (Chg [] V0 (V0.drew.alloc (.cells #[.int .i64 wri, .int .i64 (rds.length : Int)] 3))) := Lib.hid (HD.out.alloc _)
    refine hK.out _ _ (KEEP.out _ HCA1.out) (fun _ => ?_)
    clear hK K
    ((try dsimp only); (try simp only [Act.put, List.setIfInBounds_toArray, List.set_cons_zero, List.set_cons_succ]))
    refine pt_act ?_
    refine act_do rfl rfl ?_ (fun K hK => ?_)
    · rfl
    go_simp
    go_wp2_with (go_at_call 31; refine (bytes_any W.heap.size _ _ _ [wri, (rds.length : Int)] _ (mem.own_chg HO0.out HCA1.out (by simp)) HW0.out (readsN_lit [wri, (rds.length : Int)] #[.int .i64 wri, .int .i64 (rds.length : Int)] 3 rfl V0.drew _ (by simp) 2 rfl (by simp)) HFX.out HLZ.out (Nat.le_trans HB0.out HCA1.out.size)).mono ?_; rintro e w1 ⟨v1, rfl, ho, hcc⟩; have HO1 := Lib.hid ho; have HO1s := Lib.hid hcc; have HCB1 := Lib.hid (HCA1.out.trans hcc); clear ho hcc)
    refine hK.out _ _ (KEEP.out _ HCB1.out) (fun _ => ?_)
    clear hK K
    ((try dsimp only); (try simp only [Act.put, List.setIfInBounds_toArray, List.set_cons_zero, List.set_cons_succ]))
    refine pt_act ?_
    refine act_do rfl rfl ?_ (fun K hK => ?_)
    · rfl
    go_simp
    go_wp2_with (go_at_call 31; refine (bytes_any W.heap.size _ _ _ rds _ HO1.out (HW0.out.app (enc1_wf _)) (HRR.out.chg (HCA.out.trans (HC0.out.trans HCB1.out))) HF.out.2 (by have := HL.out; simp [enc1, leB_length]; omega) (Nat.le_trans HB0.out HCB1.out.size)).mono ?_; rintro e w2 ⟨v2, rfl, ho, hcc⟩; have HO2 := Lib.hid ho; have HO2s := Lib.hid hcc; have HCE := Lib.hid (HCB1.out.trans hcc); clear ho hcc)
    refine hK.out _ _ (KEEP.out _ HCE.out) (fun _ => ?_)
    clear hK K
    ((try dsimp only); (try simp only [Act.put, List.setIfInBounds_toArray, List.set_cons_zero, List.set_cons_succ]))
    (repeat (refine pt_read (v := ?_) rfl rfl ?_ ?_ ?_; rotate_left; (focus rfl); (focus (intro u hSw; (try dsimp only at hSw); go_simp; (try with_reducible rfl); done)); ((try dsimp only); (try simp only [Act.put, List.setIfInBounds_toArray, List.set_cons_zero, List.set_cons_succ]))))
    refine pt_nil ?_
    go_wp2_with fail
    go_meet
    case rel => exact ⟨Lib.hid (by have h9 := HO2.out; simp only [enc1, enc4, List.flatMap_cons, List.flatMap_nil, List.append_nil, List.append_assoc, List.nil_append] at h9 ⊢; exact h9), Lib.hid (HC0.out.trans HCE.out)⟩
  case rest =>
  obtain ⟨HO2, HC2⟩ := hcut
  have HBX2 := Lib.hid (HBX.out.keep HC2.out (by simp))
  go_upto_region 3 with fail
  have HFX : Hid (∀ x ∈ [(ini.length : Int)], fit1 x) := Lib.hid (by intro x hx; simp at hx; subst hx; exact HF.out.1.2.2.2.2.2.2)
  have HW0 : Hid (BytesB (leB k 1 ++ (leB w 1 ++ (leB s 1 ++ (leB c 1 ++ (leB st 4 ++ (leB wri 1 ++ (leB rds.length 1 ++ enc1 rds)))))))) := Lib.hid ((BytesB.le _ _).app ((BytesB.le _ _).app ((BytesB.le _ _).app ((BytesB.le _ _).app ((BytesB.le _ _).app ((BytesB.le _ _).app ((BytesB.le _ _).app (enc1_wf _))))))))
  have HLZ : Hid (((leB k 1 ++ (leB w 1 ++ (leB s 1 ++ (leB c 1 ++ (leB st 4 ++ (leB wri 1 ++ (leB rds.length 1 ++ enc1 rds)))))))).length + 1 * ([(ini.length : Int)] : List Int).length ≤ 1000000) := Lib.hid (by have := HL.out; simp [leB_length, enc1_len]; omega)
  refine code_gen (R := fun V => Hid (Blk V W.heap.size #[.int .i64 k, .int .i64 w, .int .i64 s, .int .i64 c, .int .u32 st, .slice ia ini.length ic, .int .i64 wri, .slice ra rds.length rc] 53) ∧ Hid (OwnB V W.heap.size u0 (leB k 1 ++ (leB w 1 ++ (leB s 1 ++ (leB c 1 ++ (leB st 4 ++ (leB wri 1 ++ (leB rds.length 1 ++ enc1 rds)))))))) ∧ Hid (Chg [] (W.alloc (.cells #[.int .i64 k, .int .i64 w, .int .i64 s, .int .i64 c, .int .u32 st, .slice ia ini.length ic, .int .i64 wri, .slice ra rds.length rc] 53)) V)) ⟨HBX2, HO2, HC2⟩ ?_
  rintro V0 ⟨HBI, HO0, HC0⟩
  have HB0 : Hid (W.heap.size ≤ V0.heap.size) := Lib.hid (by have := HCA.out.size; have := HC0.out.size; simp at *; omega)
  have HBI2 := HBI
  have eI0 := HBI2.out.cell (o := 0) rfl
  have eI1 := HBI2.out.cell (o := 1) rfl
  have eI2 := HBI2.out.cell (o := 2) rfl
  have eI3 := HBI2.out.cell (o := 3) rfl
  have eI4 := HBI2.out.cell (o := 4) rfl
  have eI5 := HBI2.out.cell (o := 5) rfl
  have eI6 := HBI2.out.cell (o := 6) rfl
  have eI7 := HBI2.out.cell (o := 7) rfl
  have KEEP := Lib.hid (fun (V : World) (h : Chg [] V0 V) => (⟨h.keep eI0 (by simp), h.keep eI1 (by simp), h.keep eI2 (by simp), h.keep eI3 (by simp), h.keep eI4 (by simp), h.keep eI5 (by simp), h.keep eI6 (by simp), h.keep eI7 (by simp), Lib.hid h⟩ : (fun V : World => V.cell? ⟨W.heap.size, 0, none⟩ = some (.int .i64 k) ∧ V.cell? ⟨W.heap.size, 1, none⟩ = some (.int .i64 w) ∧ V.cell? ⟨W.heap.size, 2, none⟩ = some (.int .i64 s) ∧ V.cell? ⟨W.heap.size, 3, none⟩ = some (.int .i64 c) ∧ V.cell? ⟨W.heap.size, 4, none⟩ = some (.int .u32 st) ∧ V.cell? ⟨W.heap.size, 5, none⟩ = some (.slice ia ini.length ic) ∧ V.cell? ⟨W.heap.size, 6, none⟩ = some (.int .i64 wri) ∧ V.cell? ⟨W.heap.size, 7, none⟩ = some (.slice ra rds.length rc) ∧ Hid (Chg [] V0 V)) V))
  clear eI0 eI1 eI2 eI3 eI4 eI5 eI6 eI7
  have HD : Hid (Chg [] V0 V0.drew) := Lib.hid (Chg.refl _ _).drew
  have hHeld : (fun V : World => V.cell? ⟨W.heap.size, 0, none⟩ = some (.int .i64 k) ∧ V.cell? ⟨W.heap.size, 1, none⟩ = some (.int .i64 w) ∧ V.cell? ⟨W.heap.size, 2, none⟩ = some (.int .i64 s) ∧ V.cell? ⟨W.heap.size, 3, none⟩ = some (.int .i64 c) ∧ V.cell? ⟨W.heap.size, 4, none⟩ = some (.int .u32 st) ∧ V.cell? ⟨W.heap.size, 5, none⟩ = some (.slice ia ini.length ic) ∧ V.cell? ⟨W.heap.size, 6, none⟩ = some (.int .i64 wri) ∧ V.cell? ⟨W.heap.size, 7, none⟩ = some (.slice ra rds.length rc) ∧ Hid (Chg [] V0 V)) V0.drew := KEEP.out _ HD.out
  refine wp_region_pt (fun V : World => V.cell? ⟨W.heap.size, 0, none⟩ = some (.int .i64 k) ∧ V.cell? ⟨W.heap.size, 1, none⟩ = some (.int .i64 w) ∧ V.cell? ⟨W.heap.size, 2, none⟩ = some (.int .i64 s) ∧ V.cell? ⟨W.heap.size, 3, none⟩ = some (.int .i64 c) ∧ V.cell? ⟨W.heap.size, 4, none⟩ = some (.int .u32 st) ∧ V.cell? ⟨W.heap.size, 5, none⟩ = some (.slice ia ini.length ic) ∧ V.cell? ⟨W.heap.size, 6, none⟩ = some (.int .i64 wri) ∧ V.cell? ⟨W.heap.size, 7, none⟩ = some (.slice ra rds.length rc) ∧ Hid (Chg [] V0 V)) (PT.read 0 (some 31) (PT.read 1 (some 32) (PT.read 2 (some 33) (PT.read 3 (some 34) (PT.read 6 (some 37) (PT.read 7 (some 38) (PT.act 4 (some 35) (PT.act 5 (some 36) (PT.act 8 (some 39) (PT.read 9 (some 4) PT.nil)))))))))) (by kernel_rfl) (by kernel_rfl) (by kernel_rfl) (by kernel_rfl) (fun d c a v w h => by cases d <;> exact h) hHeld ?_
  clear hHeld
  (repeat (refine pt_read (v := ?_) rfl rfl ?_ ?_ ?_; rotate_left; (focus rfl); (focus (intro u hSw; (try dsimp only at hSw); go_simp; (try with_reducible rfl); done)); ((try dsimp only); (try simp only [Act.put, List.setIfInBounds_toArray, List.set_cons_zero, List.set_cons_succ]))))
  refine pt_act ?_
  refine act_do rfl rfl ?_ (fun K hK => ?_)
  · rfl
  go_simp
  have HCA1 : Hid (Chg [] V0 (V0.drew.alloc (.cells #[.int .i64 (ini.length : Int)] 3))) := Lib.hid (HD.out.alloc _)
  refine hK.out _ _ (KEEP.out _ HCA1.out) (fun _ => ?_)
  clear hK K
  ((try dsimp only); (try simp only [Act.put, List.setIfInBounds_toArray, List.set_cons_zero, List.set_cons_succ]))
  refine pt_act ?_
  refine act_do rfl rfl ?_ (fun K hK => ?_)
  · rfl
  go_simp
  go_wp2_with (go_at_call 31; refine (bytes_any W.heap.size _ _ _ [(ini.length : Int)] _ (mem.own_chg HO0.out HCA1.out (by simp)) HW0.out (readsN_lit [(ini.length : Int)] #[.int .i64 (ini.length : Int)] 3 rfl V0.drew _ (by simp) 1 rfl (by simp)) HFX.out HLZ.out (Nat.le_trans HB0.out HCA1.out.size)).mono ?_; rintro e w1 ⟨v1, rfl, ho, hcc⟩; have HO1 := Lib.hid ho; have HO1s := Lib.hid hcc; have HCB1 := Lib.hid (HCA1.out.trans hcc); clear ho hcc)
  refine hK.out _ _ (KEEP.out _ HCB1.out) (fun _ => ?_)
  clear hK K
  ((try dsimp only); (try simp only [Act.put, List.setIfInBounds_toArray, List.set_cons_zero, List.set_cons_succ]))
  refine pt_act ?_
  refine act_do rfl rfl ?_ (fun K hK => ?_)
  · rfl
  go_simp
  go_wp2_with (go_at_call 48; refine (words_any W.heap.size _ _ _ ini _ HO1.out (HW0.out.app (enc1_wf _)) (HRI.out.chg (HCA.out.trans (HC0.out.trans HCB1.out))) HFW.out.2 (by have := HL.out; simp [enc1_len, leB_length]; omega) (Nat.le_trans HB0.out HCB1.out.size)).mono ?_; rintro e w2 ⟨v2, rfl, ho, hcc⟩; have HO2 := Lib.hid ho; have HO2s := Lib.hid hcc; have HCE := Lib.hid (HCB1.out.trans hcc); clear ho hcc)
  refine hK.out _ _ (KEEP.out _ HCE.out) (fun _ => ?_)
  clear hK K
  ((try dsimp only); (try simp only [Act.put, List.setIfInBounds_toArray, List.set_cons_zero, List.set_cons_succ]))
  (repeat (refine pt_read (v := ?_) rfl rfl ?_ ?_ ?_; rotate_left; (focus rfl); (focus (intro u hSw; (try dsimp only at hSw); go_simp; (try with_reducible rfl); done)); ((try dsimp only); (try simp only [Act.put, List.setIfInBounds_toArray, List.set_cons_zero, List.set_cons_succ]))))
  refine pt_nil ?_
  go_wp2_with fail
  go_ret
  exact ⟨_, rfl, by have h9 := HO2.out; unfold encO; simp only [enc1, enc4, List.flatMap_cons, List.flatMap_nil, List.append_nil, List.append_assoc, List.nil_append] at h9 ⊢; exact h9, HCA.out.trans (HC0.out.trans HCE.out)⟩
end Go.Proofs.Ytkmalnojkjmjiaa.img
