/- Systems: layout.Of where all goes well. -/
import Derived.Test.YtjplamoofkcojaaLay6
import Derived.Test.YtjplamoofkcojaaCoreB
namespace Go.Proofs.Ytjplamoofkcojaa.lay
open Go Go.RowKit Go.Proofs.Ytjplamoofkcojaa.kit Go.Proofs.Ytjplamoofkcojaa.obj Go.Proofs.Ytjplamoofkcojaa.mem Go.Proofs.Ytjplamoofkcojaa.core
set_option linter.unusedVariables false
set_option linter.unusedSimpArgs false
set_option maxRecDepth 20000
theorem ownR_one {w : World} {B : Nat} {v : Value} {rs : List (Int × Int)} (h : OwnR w B v rs) : v.oneCell' = true := by
  rcases h.2 with ⟨rfl, _⟩ | ⟨g, _, _, rfl, hg, _⟩ <;> rfl
theorem clone_regs' (v : Value) (rs : List (Int × Int)) (w : World) (hr : Reads w 2 v rs.length (rs.flatMap rcells)) (hz : rs.length ≤ 10000) :
    Calls Try.prog 52 #[v] w fun e w' => ∃ a n c, e = .returned (.slice a n c) ∧ OwnR w' w.heap.size (.slice a n c) rs ∧ Chg [] w w' := by
  refine (clone_regs v rs w hr hz).mono ?_
  rintro e w' ⟨v', rfl, ho, hc⟩
  obtain ⟨a, c, rfl, -⟩ := reads_slice (Reads.of_own ho (by decide))
  exact ⟨_, _, _, rfl, ho, hc⟩
set_option maxHeartbeats 8000000 in
theorem Of_ok (ta : Option Addr) (tl tc : Nat) (oa : Option Addr) (ol oc : Nat) (ts : List Tk) (os : List Ob) (W : World) (hT : ReadsT W (.slice ta tl tc) ts) (hO : ReadsO W (.slice oa ol oc) os) (hw : ∀ o ∈ os, o.W) (hl : ts.length ≤ 1000 ∧ os.length ≤ 1000) (hR : lensOk ts os = true) (hS : sumI (lensL ts os) ≤ 4096) :
    Calls Try.prog 22 #[.agg #[.slice ta tl tc, .slice oa ol oc]] W fun e W' => ∃ v1 v2, e = .returned (.tuple #[.agg #[v1, v2, .int .i64 (sumI (lensL ts os))], .int .i64 0]) ∧ OwnR W' W.heap.size v1 ((cutL 0 (lensL ts os)).take ts.length) ∧ OwnR W' W.heap.size v2 ((cutL 0 (lensL ts os)).drop ts.length) ∧ Chg [] W W' := by
  have HCA : Hid (Chg [] W ((W.alloc (.cells #[.slice ta tl tc, .slice oa ol oc] 49)).alloc (.cells #[.slice none 0 0, .slice none 0 0, .int .i64 0] 53))) := Lib.hid (((Chg.refl _ _).alloc _).alloc _)
  have HLE := Lib.hid (lens_any ta tl tc oa ol oc ts os ((W.alloc (.cells #[.slice ta tl tc, .slice oa ol oc] 49)).alloc (.cells #[.slice none 0 0, .slice none 0 0, .int .i64 0] 53)) (hT.chg HCA.out) (hO.chg HCA.out) hw hl)
  have HR := Lib.hid hR
  have hnn := lens_nonneg hR
  have hln := lensL_length ts os
  have htl : tl = ts.length := by obtain ⟨_, _, he, _⟩ := reads_slice hT.1; simp at he; exact he.2.1
  subst htl
  obtain ⟨zs, hzs⟩ : ∃ zs, lensL ts os = zs := ⟨_, rfl⟩
  rw [hzs] at hnn hln HLE hS ⊢
  have HLN : Hid (zs.length = ts.length + os.length ∧ ts.length ≤ 1000 ∧ os.length ≤ 1000) := Lib.hid ⟨hln, hl⟩
  have HZN := Lib.hid hnn
  have HS := Lib.hid hS
  have HZS := Lib.hid hzs
  have HCU : Hid (∀ V lv, OwnI V ((W.alloc (.cells #[.slice ta ts.length tc, .slice oa ol oc] 49)).alloc (.cells #[.slice none 0 0, .slice none 0 0, .int .i64 0] 53)).heap.size lv zs → Calls Try.prog 51 #[.int .i64 4096, lv] V fun e W' => ∃ v', e = .returned (.tuple #[v', .int .i64 (if sumI zs ≤ 4096 then 0 else 6)]) ∧ OwnR W' V.heap.size v' (if sumI zs ≤ 4096 then cutL 0 zs else []) ∧ Chg [] V W') := Lib.hid (fun V lv h => Cut_any lv zs V h.reads (by omega) hnn)
  have HBX : Hid (Blk ((W.alloc (.cells #[.slice ta ts.length tc, .slice oa ol oc] 49)).alloc (.cells #[.slice none 0 0, .slice none 0 0, .int .i64 0] 53)) W.heap.size #[.slice ta ts.length tc, .slice oa ol oc] 49) := Lib.hid ((Blk.new W _ _).alloc _)
  have HBR : Hid (Blk ((W.alloc (.cells #[.slice ta ts.length tc, .slice oa ol oc] 49)).alloc (.cells #[.slice none 0 0, .slice none 0 0, .int .i64 0] 53)) (W.heap.size + 1) #[.slice none 0 0, .slice none 0 0, .int .i64 0] 53) := Lib.hid (by have := Blk.new (W.alloc (.cells #[.slice ta ts.length tc, .slice oa ol oc] 49)) #[.slice none 0 0, .slice none 0 0, .int .i64 0] 53; rwa [show (W.alloc (.cells #[.slice ta ts.length tc, .slice oa ol oc] 49)).heap.size = W.heap.size + 1 by simp] at this)
  obtain ⟨sz, hsz⟩ : ∃ sz, sumI zs = sz := ⟨_, rfl⟩
  have HSZ := Lib.hid hsz
  rw [hsz]
  clear hsz
  clear hT hO hw hl hR hS hzs hnn hln
  go_enter Try.func22, Try.ntmps22
  go_upto_region 7 with (first | (go_at_call 50; refine HLE.out.mono ?_; rintro e w2 ⟨lv, rfl, hol, hcl⟩; rw [HR.out] at hol ⊢; simp only [if_true] at hol; have HOL := Lib.hid hol; have HC2 := Lib.hid hcl; have HBR := Lib.hid (HBR.out.keep hcl (by simp)); have HBX := Lib.hid (HBX.out.keep hcl (by simp)); have r0 := HBR.out.free 0; have r1 := HBR.out.free 1; have r2 := HBR.out.free 2; have q0 := HBR.out.cell (o := 0) rfl; have q1 := HBR.out.cell (o := 1) rfl; have q2 := HBR.out.cell (o := 2) rfl; clear hol hcl) | (go_at_call 51; refine (HCU.out _ _ HOL.out).mono ?_; rintro e w3 ⟨rv, rfl, hor, hcr⟩; rw [if_pos HS.out] at hor; rw [if_pos HS.out]; have HOR := Lib.hid hor; have HC3 := Lib.hid hcr; have HBR := Lib.hid (HBR.out.keep hcr (by simp)); have HBX := Lib.hid (HBX.out.keep hcr (by simp)); clear hor hcr q0 q1 q2; have q0 := HBR.out.cell (o := 0) rfl; have q1 := HBR.out.cell (o := 1) rfl; have q2 := HBR.out.cell (o := 2) rfl; have r0 := HBR.out.free 0; have r1 := HBR.out.free 1; have r2 := HBR.out.free 2))
  have HBRL : Hid (W.heap.size + 1 < w3.heap.size) := Lib.hid HBR.out.lt
  have hrd : Reads w3 2 rv (cutL 0 zs).length ((cutL 0 zs).flatMap rcells) := Reads.of_own HOR.out (by decide)
  have hcl := cutL_length 0 zs
  obtain ⟨va1, e1, s1, -⟩ := slice_high (P := Try.prog) Try.underlying51 szReg hrd ts.length (by have := HLN.out; rw [hcl]; omega)
  obtain ⟨va2, e2, s2, -⟩ := slice_low (P := Try.prog) Try.underlying51 szReg hrd ts.length (by have := HLN.out; rw [hcl]; omega)
  rw [flatMap_take] at s1
  rw [flatMap_drop] at s2
  have hl1 : ((cutL 0 zs).take ts.length).length = ts.length := by have := HLN.out; rw [List.length_take, hcl]; omega
  have hl2 : ((cutL 0 zs).drop ts.length).length = (cutL 0 zs).length - ts.length := List.length_drop
  have s1' : Reads w3 2 va1 ((cutL 0 zs).take ts.length).length (((cutL 0 zs).take ts.length).flatMap rcells) := by rw [hl1]; exact s1
  have s2' : Reads w3 2 va2 ((cutL 0 zs).drop ts.length).length (((cutL 0 zs).drop ts.length).flatMap rcells) := by rw [hl2]; exact s2
  have HCL1 := Lib.hid (fun V (h : Chg [] w3 V) => clone_regs' va1 _ V (Reads.fresh s1' h) (by have := HLN.out; rw [hl1]; omega))
  have HCL2 := Lib.hid (fun V (h : Chg [] w3 V) => clone_regs' va2 _ V (Reads.fresh s2' h) (by have := HLN.out; rw [hl2, hcl]; omega))
  have eS0 : w3.cell? ⟨W.heap.size, 0, none⟩ = some (.slice ta ts.length tc) := HBX.out.cell rfl
  have KEEP := Lib.hid (fun (V : World) (h : Chg [] w3 V) => (⟨h.keep eS0 (by simp), Lib.hid h⟩ : (fun V : World => V.cell? ⟨W.heap.size, 0, none⟩ = some (.slice ta ts.length tc) ∧ Hid (Chg [] w3 V)) V))
  have HD : Hid (Chg [] w3 w3.drew) := Lib.hid (Chg.refl _ _).drew
  obtain ⟨bb, off, hxI, hxC, -⟩ := reads_index (P := Try.prog) Try.underlying24 szInt (OwnI.reads HOL.out)
  have HCE := Lib.hid hxC
  obtain ⟨la, lcc, rfl, -⟩ := reads_slice (OwnI.reads HOL.out)
  have HXI := Lib.hid hxI
  clear s1 s2 s1' s2' hrd hcl hl1 hl2 eS0 hxC hxI q0 q1 q2 r0 r1 r2
  go_cut [8] from 28 to 40 (fun p wc => ∃ nb v1 v2, p = .pointer (some ⟨nb, 0, none⟩) ∧ Hid (Blk wc nb #[v1, v2, .int .i64 0] 53) ∧ Hid (OwnR wc w3.heap.size v1 ((cutL 0 zs).take ts.length)) ∧ Hid (OwnR wc w3.heap.size v2 ((cutL 0 zs).drop ts.length)) ∧ Hid (Chg [] w3 wc) ∧ Hid (w3.heap.size ≤ nb) ∧ Hid (∀ b, v1.ownBlock = some b → b ∉ [nb]) ∧ Hid (∀ b, v2.ownBlock = some b → b ∉ [nb]))
  case first =>
    have hHeld : (fun V : World => V.cell? ⟨W.heap.size, 0, none⟩ = some (.slice ta ts.length tc) ∧ Hid (Chg [] w3 V)) w3.drew := KEEP.out _ HD.out
    refine wp_region_pt (fun V : World => V.cell? ⟨W.heap.size, 0, none⟩ = some (.slice ta ts.length tc) ∧ Hid (Chg [] w3 V)) (PT.read 0 (some 28) (PT.read 1 (some 29) (PT.read 2 (some 30) (PT.read 3 (some 31) (PT.read 4 (some 32) (PT.read 6 (some 34) (PT.read 7 (some 35) (PT.read 8 (some 36) (PT.read 9 (some 37) (PT.read 10 (some 38) (PT.fork 5 (some 33) (PT.fork 11 (some 39) (PT.read 12 (some 40) (PT.act 13 (some 8) (PT.act 14 none PT.nil))) 13 (some 8) (PT.act 11 (some 39) (PT.read 12 (some 40) (PT.act 14 none PT.nil)))) 13 (some 8) (PT.act 5 (some 33) (PT.act 11 (some 39) (PT.read 12 (some 40) (PT.act 14 none PT.nil))))))))))))))) (by kernel_rfl) (by kernel_rfl) (by kernel_rfl) (by kernel_rfl) (fun d c a v w h => by cases d <;> exact h) hHeld ?_
    clear hHeld
    (repeat (refine pt_read (v := ?_) rfl rfl ?_ ?_ ?_; rotate_left; (focus rfl); (focus (intro u hSw; (try dsimp only at hSw); go_simp; (try with_reducible rfl); done)); (try simp only [Act.put, List.setIfInBounds_toArray, List.set_cons_zero, List.set_cons_succ])))
    refine pt_fork ?_ ?_
    · refine act_do rfl rfl ?_ (fun K hK => ?_)
      · rfl
      go_simp
      go_wp2_with (go_at_call 52; refine (HCL1.out _ HD.out).mono ?_; rintro e w4 ⟨xa1, xn1, xc1, rfl, hov, hcv⟩; have HO1 : Hid (OwnR w4 w3.heap.size (.slice xa1 xn1 xc1) ((cutL 0 zs).take ts.length)) := Lib.hid (mem.own_base hov HD.out.size); have HOB1 := Lib.hid hov; have HS1 := Lib.hid hcv; have HC4 := Lib.hid (HD.out.trans hcv); clear hov hcv)
      refine hK.out _ _ (KEEP.out _ HC4.out) (fun _ => ?_)
      clear hK K
      try simp only [Act.put, List.setIfInBounds_toArray, List.set_cons_zero, List.set_cons_succ]
      refine pt_fork ?_ ?_
      · refine act_do rfl rfl ?_ (fun K hK => ?_)
        · rfl
        go_simp
        go_wp2_with (go_at_call 52; refine (HCL2.out _ HC4.out).mono ?_; rintro e w5 ⟨xa2, xn2, xc2, rfl, hov, hcv⟩; have HO2 : Hid (OwnR w5 w3.heap.size (.slice xa2 xn2 xc2) ((cutL 0 zs).drop ts.length)) := Lib.hid (mem.own_base hov HC4.out.size); have HOB2 := Lib.hid hov; have HS2 := Lib.hid hcv; have HC5 := Lib.hid (HC4.out.trans hcv); clear hov hcv)
        refine hK.out _ _ (KEEP.out _ HC5.out) (fun _ => ?_)
        clear hK K
        try simp only [Act.put, List.setIfInBounds_toArray, List.set_cons_zero, List.set_cons_succ]
        (repeat (refine pt_read (v := ?_) rfl rfl ?_ ?_ ?_; rotate_left; (focus rfl); (focus (intro u hSw; (try dsimp only at hSw); go_simp; (try with_reducible rfl); done)); (try simp only [Act.put, List.setIfInBounds_toArray, List.set_cons_zero, List.set_cons_succ])))
        refine pt_act ?_
        refine act_do rfl rfl ?_ (fun K hK => ?_)
        · rfl
        go_simp
        have HC6 : Hid (Chg [] w3 (w5.alloc (.cells #[.slice none 0 0, .slice none 0 0, .int .i64 0] 53))) := Lib.hid (HC5.out.alloc _)
        refine hK.out _ _ (KEEP.out _ HC6.out) (fun _ => ?_)
        clear hK K
        try simp only [Act.put, List.setIfInBounds_toArray, List.set_cons_zero, List.set_cons_succ]
        (repeat (refine pt_read (v := ?_) rfl rfl ?_ ?_ ?_; rotate_left; (focus rfl); (focus (intro u hSw; (try dsimp only at hSw); go_simp; (try with_reducible rfl); done)); (try simp only [Act.put, List.setIfInBounds_toArray, List.set_cons_zero, List.set_cons_succ])))
        have HB := Lib.hid (Blk.new w5 #[.slice none 0 0, .slice none 0 0, .int .i64 0] 53)
        have HN1 : Hid (∀ b, (Value.slice xa1 xn1 xc1).ownBlock = some b → b ∉ [w5.heap.size]) := Lib.hid (fun b hb => by have h9 := (World.ownsRow.lt (mem.own_chg HO1.out HS2.out (by simp)) b hb).2; simp; omega)
        have HN2 : Hid (∀ b, (Value.slice xa2 xn2 xc2).ownBlock = some b → b ∉ [w5.heap.size]) := Lib.hid (fun b hb => by have h9 := (World.ownsRow.lt HO2.out b hb).2; simp; omega)
        have HNB : Hid (w3.heap.size ≤ w5.heap.size) := Lib.hid (by have := HC5.out.size; omega)
        have HP1 := Lib.hid (mem.own_chg (mem.own_chg HO1.out HS2.out (by simp)) ((Chg.refl [] w5).alloc (.cells #[.slice none 0 0, .slice none 0 0, .int .i64 0] 53)) (by simp))
        have HP2 := Lib.hid (mem.own_chg HO2.out ((Chg.refl [] w5).alloc (.cells #[.slice none 0 0, .slice none 0 0, .int .i64 0] 53)) (by simp))
        refine pt_act (act_do rfl rfl ?_ (fun K hK => ?_))
        · rfl
        refine wp_store_blk 53 (.tmp 8) (.tmp 40) rfl w5.heap.size #[.slice xa1 xn1 xc1, .slice xa2 xn2 xc2, .int .i64 0] rfl rfl HB.out szLayout rfl (by simp [Value.oneCell']) ?_
        intro w9 hb9 hc9
        have HB9 := Lib.hid hb9
        have HC9 : Hid (Chg [] w3 w9) := Lib.hid (HC6.out.into hc9 (fun y hy => .inr (by simp at hy; rw [hy]; exact HNB.out)))
        have HQ1 := Lib.hid (mem.own_chg HP1.out hc9 HN1.out)
        have HQ2 := Lib.hid (mem.own_chg HP2.out hc9 HN2.out)
        clear hb9 hc9
        refine hK.out _ _ (KEEP.out _ HC9.out) (fun _ => ?_)
        clear hK K
        try simp only [Act.put, List.setIfInBounds_toArray, List.set_cons_zero, List.set_cons_succ]
        refine pt_nil ?_
        go_wp2_with fail
        go_meet
        case rel => exact ⟨w5.heap.size, _, _, rfl, HB9, HQ1, HQ2, HC9, HNB, HN1, HN2⟩
      · refine act_do rfl rfl ?_ (fun K hK => ?_)
        · rfl
        go_simp
        have HC6 : Hid (Chg [] w3 (w4.alloc (.cells #[.slice none 0 0, .slice none 0 0, .int .i64 0] 53))) := Lib.hid (HC4.out.alloc _)
        refine hK.out _ _ (KEEP.out _ HC6.out) (fun _ => ?_)
        clear hK K
        try simp only [Act.put, List.setIfInBounds_toArray, List.set_cons_zero, List.set_cons_succ]
        refine pt_act ?_
        refine act_do rfl rfl ?_ (fun K hK => ?_)
        · rfl
        go_simp
        go_wp2_with (go_at_call 52; refine (HCL2.out _ HC6.out).mono ?_; rintro e w5 ⟨xa2, xn2, xc2, rfl, hov, hcv⟩; have HO2 : Hid (OwnR w5 w3.heap.size (.slice xa2 xn2 xc2) ((cutL 0 zs).drop ts.length)) := Lib.hid (mem.own_base hov HC6.out.size); have HOB2 := Lib.hid hov; have HS2 := Lib.hid hcv; have HC5 := Lib.hid (HC6.out.trans hcv); clear hov hcv)
        refine hK.out _ _ (KEEP.out _ HC5.out) (fun _ => ?_)
        clear hK K
        try simp only [Act.put, List.setIfInBounds_toArray, List.set_cons_zero, List.set_cons_succ]
        (repeat (refine pt_read (v := ?_) rfl rfl ?_ ?_ ?_; rotate_left; (focus rfl); (focus (intro u hSw; (try dsimp only at hSw); go_simp; (try with_reducible rfl); done)); (try simp only [Act.put, List.setIfInBounds_toArray, List.set_cons_zero, List.set_cons_succ])))
        have HB := Lib.hid ((Blk.new w4 #[.slice none 0 0, .slice none 0 0, .int .i64 0] 53).keep HS2.out (by simp))
        have HN1 : Hid (∀ b, (Value.slice xa1 xn1 xc1).ownBlock = some b → b ∉ [w4.heap.size]) := Lib.hid (fun b hb => by have h9 := (World.ownsRow.lt HO1.out b hb).2; simp; omega)
        have HN2 : Hid (∀ b, (Value.slice xa2 xn2 xc2).ownBlock = some b → b ∉ [w4.heap.size]) := Lib.hid (own_ne HOB2.out (Blk.new w4 #[.slice none 0 0, .slice none 0 0, .int .i64 0] 53))
        have HNB : Hid (w3.heap.size ≤ w4.heap.size) := Lib.hid (by have := HC4.out.size; omega)
        have HP1 := Lib.hid (mem.own_chg (mem.own_chg HO1.out ((Chg.refl [] w4).alloc (.cells #[.slice none 0 0, .slice none 0 0, .int .i64 0] 53)) (by simp)) HS2.out (by simp))
        have HP2 := Lib.hid HO2.out
        refine pt_act (act_do rfl rfl ?_ (fun K hK => ?_))
        · rfl
        refine wp_store_blk 53 (.tmp 8) (.tmp 40) rfl w4.heap.size #[.slice xa1 xn1 xc1, .slice xa2 xn2 xc2, .int .i64 0] rfl rfl HB.out szLayout rfl (by simp [Value.oneCell']) ?_
        intro w9 hb9 hc9
        have HB9 := Lib.hid hb9
        have HC9 : Hid (Chg [] w3 w9) := Lib.hid (HC5.out.into hc9 (fun y hy => .inr (by simp at hy; rw [hy]; exact HNB.out)))
        have HQ1 := Lib.hid (mem.own_chg HP1.out hc9 HN1.out)
        have HQ2 := Lib.hid (mem.own_chg HP2.out hc9 HN2.out)
        clear hb9 hc9
        refine hK.out _ _ (KEEP.out _ HC9.out) (fun _ => ?_)
        clear hK K
        try simp only [Act.put, List.setIfInBounds_toArray, List.set_cons_zero, List.set_cons_succ]
        refine pt_nil ?_
        go_wp2_with fail
        go_meet
        case rel => exact ⟨w4.heap.size, _, _, rfl, HB9, HQ1, HQ2, HC9, HNB, HN1, HN2⟩
    · refine act_do rfl rfl ?_ (fun K hK => ?_)
      · rfl
      go_simp
      have HC6 : Hid (Chg [] w3 (w3.drew.alloc (.cells #[.slice none 0 0, .slice none 0 0, .int .i64 0] 53))) := Lib.hid (HD.out.alloc _)
      refine hK.out _ _ (KEEP.out _ HC6.out) (fun _ => ?_)
      clear hK K
      try simp only [Act.put, List.setIfInBounds_toArray, List.set_cons_zero, List.set_cons_succ]
      refine pt_act ?_
      refine act_do rfl rfl ?_ (fun K hK => ?_)
      · rfl
      go_simp
      go_wp2_with (go_at_call 52; refine (HCL1.out _ HC6.out).mono ?_; rintro e w4 ⟨xa1, xn1, xc1, rfl, hov, hcv⟩; have HO1 : Hid (OwnR w4 w3.heap.size (.slice xa1 xn1 xc1) ((cutL 0 zs).take ts.length)) := Lib.hid (mem.own_base hov HC6.out.size); have HOB1 := Lib.hid hov; have HS1 := Lib.hid hcv; have HC4 := Lib.hid (HC6.out.trans hcv); clear hov hcv)
      refine hK.out _ _ (KEEP.out _ HC4.out) (fun _ => ?_)
      clear hK K
      try simp only [Act.put, List.setIfInBounds_toArray, List.set_cons_zero, List.set_cons_succ]
      refine pt_act ?_
      refine act_do rfl rfl ?_ (fun K hK => ?_)
      · rfl
      go_simp
      go_wp2_with (go_at_call 52; refine (HCL2.out _ HC4.out).mono ?_; rintro e w5 ⟨xa2, xn2, xc2, rfl, hov, hcv⟩; have HO2 : Hid (OwnR w5 w3.heap.size (.slice xa2 xn2 xc2) ((cutL 0 zs).drop ts.length)) := Lib.hid (mem.own_base hov HC4.out.size); have HOB2 := Lib.hid hov; have HS2 := Lib.hid hcv; have HC5 := Lib.hid (HC4.out.trans hcv); clear hov hcv)
      refine hK.out _ _ (KEEP.out _ HC5.out) (fun _ => ?_)
      clear hK K
      try simp only [Act.put, List.setIfInBounds_toArray, List.set_cons_zero, List.set_cons_succ]
      (repeat (refine pt_read (v := ?_) rfl rfl ?_ ?_ ?_; rotate_left; (focus rfl); (focus (intro u hSw; (try dsimp only at hSw); go_simp; (try with_reducible rfl); done)); (try simp only [Act.put, List.setIfInBounds_toArray, List.set_cons_zero, List.set_cons_succ])))
      have HB := Lib.hid (((Blk.new w3.drew #[.slice none 0 0, .slice none 0 0, .int .i64 0] 53).keep HS1.out (by simp)).keep HS2.out (by simp))
      have HN1 : Hid (∀ b, (Value.slice xa1 xn1 xc1).ownBlock = some b → b ∉ [w3.drew.heap.size]) := Lib.hid (own_ne HOB1.out (Blk.new w3.drew #[.slice none 0 0, .slice none 0 0, .int .i64 0] 53))
      have HN2 : Hid (∀ b, (Value.slice xa2 xn2 xc2).ownBlock = some b → b ∉ [w3.drew.heap.size]) := Lib.hid (fun b hb => by have h9 := (World.ownsRow.lt HOB2.out b hb).1; have h8 := HC4.out.size; have h7 := HS1.out.size; simp at h7 ⊢; omega)
      have HNB : Hid (w3.heap.size ≤ w3.drew.heap.size) := Lib.hid (by have := HD.out.size; omega)
      have HP1 := Lib.hid (mem.own_chg HO1.out HS2.out (by simp))
      have HP2 := Lib.hid HO2.out
      refine pt_act (act_do rfl rfl ?_ (fun K hK => ?_))
      · rfl
      refine wp_store_blk 53 (.tmp 8) (.tmp 40) rfl w3.drew.heap.size #[.slice xa1 xn1 xc1, .slice xa2 xn2 xc2, .int .i64 0] rfl rfl HB.out szLayout rfl (by simp [Value.oneCell']) ?_
      intro w9 hb9 hc9
      have HB9 := Lib.hid hb9
      have HC9 : Hid (Chg [] w3 w9) := Lib.hid (HC5.out.into hc9 (fun y hy => .inr (by simp at hy; rw [hy]; exact HNB.out)))
      have HQ1 := Lib.hid (mem.own_chg HP1.out hc9 HN1.out)
      have HQ2 := Lib.hid (mem.own_chg HP2.out hc9 HN2.out)
      clear hb9 hc9
      refine hK.out _ _ (KEEP.out _ HC9.out) (fun _ => ?_)
      clear hK K
      try simp only [Act.put, List.setIfInBounds_toArray, List.set_cons_zero, List.set_cons_succ]
      refine pt_nil ?_
      go_wp2_with fail
      go_meet
      case rel => exact ⟨w3.drew.heap.size, _, _, rfl, HB9, HQ1, HQ2, HC9, HNB, HN1, HN2⟩
  case rest =>
    obtain ⟨nb, v1, v2, rfl, HB9, HQ1, HQ2, HC9, HNB, HM1, HM2⟩ := hcut
    obtain ⟨xa1, xn1, xc1, rfl⟩ : ∃ a n c, v1 = .slice a n c := by obtain ⟨a, c, h, -⟩ := reads_slice (Reads.of_own HQ1.out (by decide)); exact ⟨a, _, c, h⟩
    obtain ⟨xa2, xn2, xc2, rfl⟩ : ∃ a n c, v2 = .slice a n c := by obtain ⟨a, c, h, -⟩ := reads_slice (Reads.of_own HQ2.out (by decide)); exact ⟨a, _, c, h⟩
    have HX := HXI
    clear HXI
    obtain ⟨wo, rfl⟩ : ∃ wo : World, wo = wc := ⟨_, rfl⟩
    go_wp2_with fail
    go_loopw [10, 43] (fun _ i wr => ∃ j : Nat, j ≤ zs.length ∧ i = .int .i64 j ∧ Hid (Blk wr nb #[.slice xa1 xn1 xc1, .slice xa2 xn2 xc2, .int .i64 (sumI (zs.take j))] 53) ∧ Hid (Chg [nb] wo wr)) (fun _ i _ => zs.length - (intOf i).toNat)
    case atStart => exact ⟨0, Nat.zero_le _, rfl, HB9, Lib.hid (Chg.refl _ _)⟩
    case round =>
      obtain ⟨j, hj, rfl, HBJ, HJ⟩ := hrel
      have HJ3 : Hid (Chg [] w3 wr) := Lib.hid (HC9.out.into HJ.out (fun y hy => .inr (by simp at hy; rw [hy]; exact HNB.out)))
      by_cases hlt : j < zs.length
      · have HLT := Lib.hid hlt
        have g1 := HX.out j hlt
        obtain ⟨x, hxk⟩ : ∃ x, zs[j]? = some x := ⟨_, List.getElem?_eq_getElem hlt⟩
        have q0 := (HC3.out.trans HJ3.out).keep (HCE.out j (.int .i64 x) (by rw [List.getElem?_map, hxk]; rfl)) (by simp)
        have HTK := Lib.hid (sumI_take hxk)
        rw [Nat.mul_one] at g1
        have h1 := sumI_le HZN.out j
        have h2 := sumI_le HZN.out (j + 1)
        have h3 := sumI_nn (fun z hz => HZN.out z (List.mem_of_mem_take hz) : nonneg (zs.take j))
        have h4 := HZN.out _ (List.mem_of_getElem? hxk)
        have h5 := HS.out
        have h6 := HLN.out
        have k8 : IntKind.i64.wrap ((j : Int) + 1) = (j : Int) + 1 := by rw [IntKind.wrap_i64]; omega
        have k7 : IntKind.i64.wrap (sumI (zs.take j) + x) = sumI (zs.take (j + 1)) := by rw [HTK.out, IntKind.wrap_i64]; omega
        have K7 := Lib.hid k7
        obtain ⟨sj, hsj⟩ : ∃ sj, sumI (zs.take j) = sj := ⟨_, rfl⟩
        obtain ⟨sj1, hsj1⟩ : ∃ sj, sumI (zs.take (j + 1)) = sj := ⟨_, rfl⟩
        rw [hsj] at k7 HBJ
        rw [hsj1] at k7
        have k6 : sj + x = sj1 := by rw [← hsj, ← hsj1, HTK.out]
        have HK6 := Lib.hid k6
        have HSJ1 := Lib.hid hsj1
        have hb2 : -1 ≤ sj + x ∧ sj + x ≤ 5000 := by rw [k6, ← hsj1]; have := sumI_nn (fun z hz => HZN.out z (List.mem_of_mem_take hz) : nonneg (zs.take (j + 1))); omega
        have c2 := HBJ.out.cell (o := 2) rfl
        have f2 := HBJ.out.free 2
        clear h1 h2 h3 h4 h5 h6 hxk hj hlt hsj hsj1 k7 k6 
        go_wp2_with fail
        have hltj := HLT.out
        go_roundw
        case rel =>
          refine ⟨j + 1, by omega, by go_num, Lib.hid ?_, Lib.hid (HJ.out.setCell (p := ⟨nb, 2, none⟩) (.inl (by simp)) _)⟩
          have h9 := HBJ.out.set 2 (.int .i64 (sj + x))
          simp only [List.setIfInBounds_toArray, List.set_cons_zero, List.set_cons_succ] at h9
          rw [HSJ1.out, ← HK6.out]
          exact h9
        case measure => simp [intOf]; omega
      · obtain rfl : zs.length = j := by omega
        clear hlt hj
        have HBE : Hid (Blk wr nb #[.slice xa1 xn1 xc1, .slice xa2 xn2 xc2, .int .i64 (sumI zs)] 53) := Lib.hid (by have := HBJ.out; rwa [List.take_length] at this)
        have HBR := Lib.hid (HBR.out.keep HJ3.out (by simp))
        clear HBJ
        have HBE : Hid (Blk wr nb #[.slice xa1 xn1 xc1, .slice xa2 xn2 xc2, .int .i64 sz] 53) := Lib.hid (by rw [← HSZ.out]; exact HBE.out)
        have c0 := HBE.out.cell (o := 0) rfl
        have c1 := HBE.out.cell (o := 1) rfl
        have c2 := HBE.out.cell (o := 2) rfl
        have q0 := HBR.out.cell (o := 0) rfl
        have q1 := HBR.out.cell (o := 1) rfl
        have q2 := HBR.out.cell (o := 2) rfl
        have r0 := HBR.out.free 0
        have r1 := HBR.out.free 1
        have r2 := HBR.out.free 2
        have hne : ¬ nb = W.heap.size + 1 := by have h1 := HNB.out; have h2 := HBRL.out; omega
        have HNE := Lib.hid hne
        clear hne
        go_wp2_with fail
        have HJ4 : Chg [W.heap.size + 1] wr _ := (((Chg.refl [W.heap.size + 1] wr).setCell (p := ⟨W.heap.size + 1, 0, none⟩) (.inl (by simp)) (.slice xa1 xn1 xc1)).setCell (p := ⟨W.heap.size + 1, 1, none⟩) (.inl (by simp)) (.slice xa2 xn2 xc2)).setCell (p := ⟨W.heap.size + 1, 2, none⟩) (.inl (by simp)) (.int .i64 sz)
        have hall : Chg [] W wr := (HCA.out.trans (HC2.out.trans HC3.out)).trans HJ3.out
        refine bodyPost_ret (results_row_tmp rfl _ _ (W.heap.size + 1) 53 #[.slice xa1 xn1 xc1, .slice xa2 xn2 xc2, .int .i64 sz] (0, 0) _ rfl (((HBR.out.set 0 (.slice xa1 xn1 xc1)).set 1 (.slice xa2 xn2 xc2)).set 2 (.int .i64 sz)) Try.underlying53 rfl szLayout) rfl ?_
        refine ⟨_, _, rfl, ?_, ?_, ?_⟩
        · exact mem.own_base (mem.own_chg (mem.own_chg HQ1.out HJ.out HM1.out) HJ4 (fun y hy => by have h9 := (World.ownsRow.lt HQ1.out y hy).1; have h2 := HBRL.out; simp; omega)) (by have := (HCA.out.trans (HC2.out.trans HC3.out)).size; omega)
        · exact mem.own_base (mem.own_chg (mem.own_chg HQ2.out HJ.out HM2.out) HJ4 (fun y hy => by have h9 := (World.ownsRow.lt HQ2.out y hy).1; have h2 := HBRL.out; simp; omega)) (by have := (HCA.out.trans (HC2.out.trans HC3.out)).size; omega)
        · exact hall.into HJ4 (fun y hy => .inr (by simp at hy; omega))
end Go.Proofs.Ytjplamoofkcojaa.lay
