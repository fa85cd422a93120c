/- The reference's words at the beginning (ring, fifo). -/
import Derived.Test.YtjplamoofkcojaaRopL
import Derived.Test.YtjplamoofkcojaaRopB
import Derived.Test.YtjplamoofkcojaaMemo
import Derived.Deep.Cut
namespace Go.Proofs.Ytjplamoofkcojaa.rop
open Go Go.RowKit Go.Proofs.Ytjplamoofkcojaa.kit Go.Proofs.Ytjplamoofkcojaa.obj Go.Proofs.Ytjplamoofkcojaa.mem
set_option linter.unusedVariables false
set_option linter.unusedSimpArgs false
set_option maxRecDepth 20000

set_option maxHeartbeats 1000000 in
theorem RLay4_yes (k w s c st : Int) (ia : Option Addr) (il ic : Nat) (wri : Int) (ra : Option Addr) (rl rc : Nat) (hd0 hd sl sw sz : Nat) (ini : List Int) (h : ObjW k w s c st il rl) (hr : rightB k w s c st il rl = true) (hk4 : k = 4) (hsl : st % s = (sl : Int)) (hsw : (sl : Int) * w = (sw : Int)) (hhp : hd0 + sw = hd) (hhd : headI k rl = (hd0 : Int)) (hsz : sizeI k w s c st il rl = (sz : Int)) (W : World) (hi : ReadsW W (.slice ia il ic) ini) :
    Calls Try.prog 59 #[.agg #[.int .i64 k, .int .i64 w, .int .i64 s, .int .i64 c, .int .u32 st, .slice ia il ic, .int .i64 wri, .slice ra rl rc]] W fun e W' => ∃ v, e = .returned v ∧ OwnW W' W.heap.size v (rlayL w st hd sz ini) ∧ Chg [] W W' := by
  obtain ⟨i0, hi0, hz0, hz1, hz2⟩ := info_parts mem.info32
  have hil : il = ini.length := by obtain ⟨_, _, he, _⟩ := reads_slice hi.1; simp at he; exact he.2.1
  have hbd := rightB_bd hr
  have hszb := sizeI_bd k w s c st il rl
  have hs16 : 2 ≤ s ∧ s ≤ 16 := by subst hk4; simp only [rightB, decide_eq_true_eq] at hr; omega
  have hslb : (sl : Int) < s ∧ sl ≤ 15 := by have h1 := Int.emod_lt_of_pos st (show 0 < s by omega); omega
  have hfit : hd + ini.length ≤ sz ∧ 1 ≤ hd ∧ sz ≤ 200 ∧ hd ≤ 200 := by
    have h1 : sizeI k w s c st il rl = headI k rl + recordsI k s rl * w := by unfold sizeI; rw [if_pos hr]
    have h2 := records_bd hr
    have h3 : (il : Int) = w ∧ recordsI k s rl = s ∧ headI k rl = 1 := by
      subst hk4
      refine ⟨by simp only [rightB, decide_eq_true_eq] at hr; omega, by simp [recordsI], by simp [headI]⟩
    have h4 : (sl : Int) * w ≤ (s - 1) * w := Int.mul_le_mul_of_nonneg_right (by omega) (by omega)
    have h5 : (s - 1) * w = s * w - w := by rw [Int.sub_mul, Int.one_mul]
    have h6 := h3.2.1
    rw [h6] at h1
    omega
  obtain ⟨b, off, hia, hini⟩ : ∃ b off, ia = some ⟨b, off, none⟩ ∧ ∀ j, j < il → W.cell? ⟨b, off + j, none⟩ = some (.int .u32 (ini.getD j 0)) := by
    have hw : (il : Int) = w := by
      simp only [rightB, decide_eq_true_eq] at hr
      omega
    rcases hi.1 with ⟨_, _, ⟨h0, _⟩ | ⟨_, b, off, cc, he, _, _, hcell⟩⟩
    · omega
    · simp at he
      exact ⟨b, off, he.1, fun j hj => hcell j _ (by rw [List.getElem?_map, List.getElem?_eq_getElem (by omega)]; simp [List.getD, (by omega : j < ini.length)])⟩
  subst hia
  have HINI := Lib.hid hini
  clear hbd hszb hini
  have HFIT := Lib.hid hfit
  have hmk := run_make_zeros (P := Try.prog) 23 22 i0 (.int .u32 0) 4 Try.underlying23 hi0 hz0 hz1 hz2 rfl sz (by omega) (by omega)
  have HSZ := Lib.hid (fun u => Size_any k w s c st (some ⟨b, off, none⟩) il ic wri ra rl rc h u)
  rw [hsz] at HSZ
  have HRT := Lib.hid (fun u => rRight_any k w s c st (some ⟨b, off, none⟩) il ic wri ra rl rc h u)
  rw [hr] at HRT
  have HHD := Lib.hid (fun u => Head_any k w s c st (some ⟨b, off, none⟩) il ic wri ra rl rc h.rlen u)
  rw [hhd] at HHD
  have b4 : (k == 4) = true := by simpa using hk4
  have b6 : (k == 6) = false := by simp; omega
  have hst := h.st32
  have kst : IntKind.i64.wrap st = st := by rw [IntKind.wrap_i64]; omega
  have krm : Int.tmod st s = (sl : Int) := by rw [Int.tmod_eq_emod_of_nonneg hst.1]; exact hsl
  have ksl : IntKind.i64.wrap (sl : Int) = (sl : Int) := by rw [IntKind.wrap_i64]; omega
  have ks0 : (s == 0) = false := by simp; omega
  have ks1 : s ≠ 0 := by omega
  have HSW := Lib.hid hsw
  have HHP := Lib.hid hhp
  have HSL := Lib.hid hslb
  have hp : (0 : Int) < (sz : Int) := by omega
  have HI := Lib.hid hi
  have HIL := Lib.hid hil
  have hstw : (Lit.int .u32 st).wf = true := st_wf h.st32
  have HSTW := Lib.hid hstw
  have HIW := Lib.hid hi.2
  clear hst hsl hsw hhp hs16 hslb h hr hk4 hhd hsz hi hi0 hz0 hz1 hz2 hstw hfit hil
  go_enter Try.func59, Try.ntmps59
  go_upto_region 4 with (first
    | (go_at_call 38; refine (HSZ.out _).mono ?_; rintro e w1 ⟨rfl, hx⟩; have HC1 := Lib.hid (((Chg.refl [] W).alloc _).trans hx); have HB1 := Lib.hid ((Blk.new W #[.int .i64 k, .int .i64 w, .int .i64 s, .int .i64 c, .int .u32 st, .slice (some ⟨b, off, none⟩) il ic, .int .i64 wri, .slice ra rl rc] 26).keep hx (by simp)); clear hx; have e0 : w1.cell? ⟨W.heap.size, 0, none⟩ = some (.int .i64 k) := HB1.out.cell rfl; have e1 : w1.cell? ⟨W.heap.size, 1, none⟩ = some (.int .i64 w) := HB1.out.cell rfl; have e2 : w1.cell? ⟨W.heap.size, 2, none⟩ = some (.int .i64 s) := HB1.out.cell rfl; have e3 : w1.cell? ⟨W.heap.size, 3, none⟩ = some (.int .i64 c) := HB1.out.cell rfl; have e4 : w1.cell? ⟨W.heap.size, 4, none⟩ = some (.int .u32 st) := HB1.out.cell rfl; have e5 : w1.cell? ⟨W.heap.size, 5, none⟩ = some (.slice (some ⟨b, off, none⟩) il ic) := HB1.out.cell rfl; have e6 : w1.cell? ⟨W.heap.size, 6, none⟩ = some (.int .i64 wri) := HB1.out.cell rfl; have e7 : w1.cell? ⟨W.heap.size, 7, none⟩ = some (.slice ra rl rc) := HB1.out.cell rfl; have hl1 : W.heap.size < w1.heap.size := HB1.out.lt)
    | (go_at_call 35; refine (HRT.out _).mono ?_; rintro e w2 ⟨rfl, hx⟩; have HC2 := Lib.hid ((HC1.out.alloc _).trans hx); have HB2 := Lib.hid ((HB1.out.alloc _).keep hx (by simp)); have HZ2 := Lib.hid ((Blk.new w1 (zeros (.int .u32 0) sz) 22).keep hx (by simp)); clear hx e0 e1 e2 e3 e4 e5 e6 e7))
  refine code_gen (R := fun V => Hid (Blk V W.heap.size #[.int .i64 k, .int .i64 w, .int .i64 s, .int .i64 c, .int .u32 st, .slice (some ⟨b, off, none⟩) il ic, .int .i64 wri, .slice ra rl rc] 26) ∧ Hid (LB V w1.heap.size (List.replicate sz 0)) ∧ Hid (Chg [] W V)) ⟨HB2, Lib.hid (by have := HZ2.out; simpa [LB, zeros] using this), HC2⟩ ?_
  have HG := Lib.hid HC1.out.size
  generalize hgg : w1.heap.size = g at *
  have HL1 := Lib.hid hl1
  clear HB2 HZ2 HC2 HC1 HB1 hgg hmk
  rintro W2 ⟨HO1, HL2, HC2⟩
  have e0 : W2.cell? ⟨W.heap.size, 0, none⟩ = some (.int .i64 k) := HO1.out.cell rfl
  have e2 : W2.cell? ⟨W.heap.size, 2, none⟩ = some (.int .i64 s) := HO1.out.cell rfl
  have e4 : W2.cell? ⟨W.heap.size, 4, none⟩ = some (.int .u32 st) := HO1.out.cell rfl
  have g0 : W2.cell? ⟨g, 0, none⟩ = some (.int .u32 ((List.replicate sz 0).getD 0 0)) := HL2.out.word 0 (by rw [List.length_replicate]; have := HFIT.out; omega)
  have f0 := HL2.out.free 0
  go_upto_region 10 with fail
  have hne : W.heap.size ≠ g := by omega
  have HNE := Lib.hid hne
  refine code_gen (R := fun V => Hid (Blk V W.heap.size #[.int .i64 k, .int .i64 w, .int .i64 s, .int .i64 c, .int .u32 st, .slice (some ⟨b, off, none⟩) il ic, .int .i64 wri, .slice ra rl rc] 26) ∧ Hid (LB V g ((List.replicate sz 0).set 0 st)) ∧ Hid (Chg [] W V)) ⟨Lib.hid (Blk.set_ne HO1.out hne _ _ _), Lib.hid (HL2.out.put 0 st), Lib.hid (HC2.out.setCell (.inr (by have := HG.out; simpa using this)) _)⟩ ?_
  clear e0 e2 e4 g0 f0 HO1 HL2 HC2 hl1 hne kst krm ks0 ks1
  rintro W3 ⟨HO1, HL3, HC3⟩
  obtain ⟨B0, hB0⟩ : ∃ B0, (List.replicate sz 0).set 0 st = B0 := ⟨_, rfl⟩
  have HBL : Hid (B0.length = sz) := Lib.hid (by rw [← hB0]; simp)
  have HB0 := Lib.hid hB0
  rw [hB0] at HL3
  clear hB0
  have e5 : W3.cell? ⟨W.heap.size, 5, none⟩ = some (.slice (some ⟨b, off, none⟩) il ic) := HO1.out.cell rfl
  go_wp2_with fail
  go_loopw [5, 6, 37] (fun _ _ i wr => ∃ j : Nat, j ≤ il ∧ i = .int .i64 j ∧ Hid (Blk wr W.heap.size #[.int .i64 k, .int .i64 w, .int .i64 s, .int .i64 c, .int .u32 st, .slice (some ⟨b, off, none⟩) il ic, .int .i64 wri, .slice ra rl rc] 26) ∧ Hid (LB wr g (fillL B0 hd (ini.take j))) ∧ Hid (Chg [] W wr)) (fun _ _ i _ => il - (intOf i).toNat)
  case atStart => exact ⟨0, Nat.zero_le _, rfl, HO1, Lib.hid (by have := HL3.out; rwa [← fill_zero B0 hd (by have := HBL.out; have := HFIT.out; omega)] at this), HC3⟩
  case round =>
    obtain ⟨j, hj, rfl, HOW, HLW, HCW⟩ := hrel
    clear e5 HO1 HL3 HC3
    by_cases hlt : j < il
    · have HLT := Lib.hid hlt
      have hltI : (j : Int) < (il : Int) := by omega
      have k0 : IntKind.i64.wrap ((sl : Int) * w) = (sw : Int) := by have := HFIT.out; have := HHP.out; rw [HSW.out, IntKind.wrap_i64]; omega
      have k1 : IntKind.i64.wrap ((hd0 : Int) + (sw : Int)) = (hd : Int) := by have := HFIT.out; have := HHP.out; rw [IntKind.wrap_i64]; omega
      have k1' : IntKind.i64.wrap (hd : Int) = (hd : Int) := by have := HFIT.out; rw [IntKind.wrap_i64]; omega
      have k2 : IntKind.i64.wrap ((hd : Int) + (j : Int)) = (hd : Int) + (j : Int) := by have := HFIT.out; have := HIL.out; rw [IntKind.wrap_i64]; omega
      have htn : ((hd : Int) + (j : Int)).toNat = hd + j := by omega
      have hlt3 : 0 ≤ (hd : Int) + (j : Int) := by omega
      have hlt2 : (hd : Int) + (j : Int) < (sz : Int) := by have := HFIT.out; have := HIL.out; omega
      have ei : wr.cell? ⟨b, off + j, none⟩ = some (.int .u32 (ini.getD j 0)) := HCW.out.keep (HINI.out j hlt) (by simp)
      clear hlt hj
      go_wp2_with fail
      clear ei
      have eS0 : wr.cell? ⟨W.heap.size, 0, none⟩ = some (.int .i64 k) := HOW.out.cell rfl
      have eS1 : wr.cell? ⟨W.heap.size, 1, none⟩ = some (.int .i64 w) := HOW.out.cell rfl
      have eS2 : wr.cell? ⟨W.heap.size, 2, none⟩ = some (.int .i64 s) := HOW.out.cell rfl
      have eS3 : wr.cell? ⟨W.heap.size, 3, none⟩ = some (.int .i64 c) := HOW.out.cell rfl
      have eS4 : wr.cell? ⟨W.heap.size, 4, none⟩ = some (.int .u32 st) := HOW.out.cell rfl
      have eS5 : wr.cell? ⟨W.heap.size, 5, none⟩ = some (.slice (some ⟨b, off, none⟩) il ic) := HOW.out.cell rfl
      have eS6 : wr.cell? ⟨W.heap.size, 6, none⟩ = some (.int .i64 wri) := HOW.out.cell rfl
      have eS7 : wr.cell? ⟨W.heap.size, 7, none⟩ = some (.slice ra rl rc) := HOW.out.cell rfl
      have KEEP := Lib.hid (fun (V : World) (h : Chg [] wr V) => (⟨h.keep eS0 (by simp), h.keep eS1 (by simp), h.keep eS2 (by simp), h.keep eS3 (by simp), h.keep eS4 (by simp), h.keep eS5 (by simp), h.keep eS6 (by simp), h.keep eS7 (by simp), Lib.hid h⟩ : (fun V : World => V.cell? ⟨W.heap.size, 0, none⟩ = some (.int .i64 k) ∧ V.cell? ⟨W.heap.size, 1, none⟩ = some (.int .i64 w) ∧ V.cell? ⟨W.heap.size, 2, none⟩ = some (.int .i64 s) ∧ V.cell? ⟨W.heap.size, 3, none⟩ = some (.int .i64 c) ∧ V.cell? ⟨W.heap.size, 4, none⟩ = some (.int .u32 st) ∧ V.cell? ⟨W.heap.size, 5, none⟩ = some (.slice (some ⟨b, off, none⟩) il ic) ∧ V.cell? ⟨W.heap.size, 6, none⟩ = some (.int .i64 wri) ∧ V.cell? ⟨W.heap.size, 7, none⟩ = some (.slice ra rl rc) ∧ Hid (Chg [] wr V)) V))
      clear eS0 eS1 eS2 eS3 eS4 eS5 eS6 eS7
      have hHeld : (fun V : World => V.cell? ⟨W.heap.size, 0, none⟩ = some (.int .i64 k) ∧ V.cell? ⟨W.heap.size, 1, none⟩ = some (.int .i64 w) ∧ V.cell? ⟨W.heap.size, 2, none⟩ = some (.int .i64 s) ∧ V.cell? ⟨W.heap.size, 3, none⟩ = some (.int .i64 c) ∧ V.cell? ⟨W.heap.size, 4, none⟩ = some (.int .u32 st) ∧ V.cell? ⟨W.heap.size, 5, none⟩ = some (.slice (some ⟨b, off, none⟩) il ic) ∧ V.cell? ⟨W.heap.size, 6, none⟩ = some (.int .i64 wri) ∧ V.cell? ⟨W.heap.size, 7, none⟩ = some (.slice ra rl rc) ∧ Hid (Chg [] wr V)) wr.drew := KEEP.out _ (Chg.refl _ _).drew
      refine wp_region_planT (fun V : World => V.cell? ⟨W.heap.size, 0, none⟩ = some (.int .i64 k) ∧ V.cell? ⟨W.heap.size, 1, none⟩ = some (.int .i64 w) ∧ V.cell? ⟨W.heap.size, 2, none⟩ = some (.int .i64 s) ∧ V.cell? ⟨W.heap.size, 3, none⟩ = some (.int .i64 c) ∧ V.cell? ⟨W.heap.size, 4, none⟩ = some (.int .u32 st) ∧ V.cell? ⟨W.heap.size, 5, none⟩ = some (.slice (some ⟨b, off, none⟩) il ic) ∧ V.cell? ⟨W.heap.size, 6, none⟩ = some (.int .i64 wri) ∧ V.cell? ⟨W.heap.size, 7, none⟩ = some (.slice ra rl rc) ∧ Hid (Chg [] wr V)) 12 [(0, true, some 42), (1, true, some 43), (3, true, some 45), (4, true, some 46), (5, true, some 47), (6, true, some 48), (8, true, some 50), (10, true, some 52), (2, false, some 44), (7, true, some 49), (9, true, some 51), (11, true, some 53)] (by kernel_rfl) (by kernel_rfl) (by kernel_rfl) (by kernel_rfl) (by kernel_rfl) (fun d c a v w h => by cases d <;> exact h) hHeld ?_
      repeat (refine planT_read (v := ?_) rfl rfl ?_ ?_ ?_; rotate_left; (focus rfl); (focus (intro u hSw; (try dsimp only at hSw); go_simp; (try with_reducible rfl))); (try simp only [Act.put, List.setIfInBounds_toArray, List.set_cons_zero, List.set_cons_succ]))
      refine planT_do rfl rfl ?_ (fun K hK => ?_)
      · rfl
      go_simp
      go_wp2_with (go_at_call 66; refine (HHD.out _).mono ?_; rintro e w4 ⟨rfl, hx⟩; have HC4 := Lib.hid ((Chg.refl [] wr).drew.trans hx); clear hx)
      refine hK.out _ _ (KEEP.out _ HC4.out) (fun hHeld2 => ?_)
      clear hK K hHeld
      have hHeld := hHeld2
      clear hHeld2
      try simp only [Act.put, List.setIfInBounds_toArray, List.set_cons_zero, List.set_cons_succ]
      repeat (refine planT_read (v := ?_) rfl rfl ?_ ?_ ?_; rotate_left; (focus rfl); (focus (intro u hSw; (try dsimp only at hSw); go_simp; (try with_reducible rfl))); (try simp only [Act.put, List.setIfInBounds_toArray, List.set_cons_zero, List.set_cons_succ]))
      have HL4 : Hid (LB w4 g (fillL B0 hd (ini.take j))) := Lib.hid (Blk.keep HLW.out HC4.out (by simp))
      have HB4 := Lib.hid (Blk.keep HOW.out HC4.out (by simp))
      have hlen : (fillL B0 hd (ini.take j)).length = sz := by
        have h1 := HFIT.out; have h2 := HIL.out; have h3 := HBL.out
        rw [fillL_length _ _ _ (by rw [List.length_take]; omega)]; exact h3
      have g0 : w4.cell? ⟨g, hd + j, none⟩ = some (.int .u32 ((fillL B0 hd (ini.take j)).getD (hd + j) 0)) := HL4.out.word (hd + j) (by rw [hlen]; omega)
      have f0 := HL4.out.free (hd + j)
      clear hlen
      refine planT_last rfl ?_ (fun K hK => ?_)
      · rfl
      go_simp
      refine hK.out _ _ ?_
      clear hK K g0 f0 hHeld KEEP k0 k1 k1' k2 hlt2 htn hlt3
      refine blk_gen (R := fun V => Hid (Blk V W.heap.size #[.int .i64 k, .int .i64 w, .int .i64 s, .int .i64 c, .int .u32 st, .slice (some ⟨b, off, none⟩) il ic, .int .i64 wri, .slice ra rl rc] 26) ∧ Hid (LB V g (fillL B0 hd (ini.take (j + 1)))) ∧ Hid (Chg [] W V)) ⟨Lib.hid (Blk.set_ne HB4.out HNE.out _ _ _), Lib.hid (by
          have h1 := HL4.out.put (hd + j) (ini.getD j 0)
          rwa [fill_set B0 ini hd j (by have := HLT.out; have := HIL.out; omega) (by have := HBL.out; have := HFIT.out; omega)] at h1), Lib.hid ((HCW.out.trans HC4.out).setCell (.inr (by have := HG.out; simpa using this)) _)⟩ ?_
      rintro W5 ⟨HO5, HL5, HC5⟩
      have k9 : IntKind.i64.wrap ((j : Int) + 1) = (j : Int) + 1 := by have := HFIT.out; have := HIL.out; have := HLT.out; rw [IntKind.wrap_i64]; omega
      go_wp2_with fail
      have hlt := HLT.out
      go_roundw
      case rel => exact ⟨j + 1, by omega, by go_num, HO5, HL5, HC5⟩
      case measure => simp [intOf]; omega
    · obtain rfl : j = il := by omega
      clear hlt hj
      go_wp2_with fail
      go_ret
      refine ⟨_, rfl, ?_, HCW.out⟩
      have h1 := HFIT.out; have h2 := HIL.out; have h3 := HBL.out; have h4 := HB0.out
      have hL := HLW.out
      rw [h2, List.take_length] at hL
      have hlen : (fillL B0 hd ini).length = sz := by rw [fillL_length _ _ _ (by omega)]; exact h3
      unfold rlayL
      rw [h4]
      unfold OwnW
      rw [hlen]
      refine ⟨by simp [hlen], .inr ⟨g, sz, _, rfl, HG.out, hL, Nat.le_refl _, by unfold maxLen; omega, by simp [hlen], ?_⟩⟩
      rw [Nat.mul_one, List.toList_toArray, List.take_of_length_le (by simp [hlen])]
set_option maxHeartbeats 1000000 in
theorem RLay6_yes (k w s c st : Int) (ia : Option Addr) (il ic : Nat) (wri : Int) (ra : Option Addr) (rl rc : Nat) (sz : Nat) (h : ObjW k w s c st il rl) (hr : rightB k w s c st il rl = true) (hk6 : k = 6) (hsz : sizeI k w s c st il rl = (sz : Int)) (W : World) :
    Calls Try.prog 59 #[.agg #[.int .i64 k, .int .i64 w, .int .i64 s, .int .i64 c, .int .u32 st, .slice ia il ic, .int .i64 wri, .slice ra rl rc]] W fun e W' => ∃ v, e = .returned v ∧ OwnW W' W.heap.size v (((List.replicate sz 0).set 0 st).set 1 st) ∧ Chg [] W W' := by
  obtain ⟨i0, hi0, hz0, hz1, hz2⟩ := info_parts mem.info32
  have hil : il = 0 := by subst hk6; simp only [rightB, decide_eq_true_eq] at hr; omega
  subst hil
  have hbd := rightB_bd hr
  have hszb := sizeI_bd k w s c st 0 rl
  have hfit : 2 ≤ sz ∧ sz ≤ 200 := by
    have h1 : sizeI k w s c st (0 : Nat) rl = headI k rl + recordsI k s rl * w := by unfold sizeI; rw [if_pos hr]
    have h2 := records_bd hr
    have h3 : headI k rl = 2 := by subst hk6; simp [headI]
    have h4 : 0 ≤ recordsI k s rl * w := Int.mul_nonneg h2.1 (by omega)
    omega
  clear hbd hszb
  have HFIT := Lib.hid hfit
  have hmk := run_make_zeros (P := Try.prog) 23 22 i0 (.int .u32 0) 4 Try.underlying23 hi0 hz0 hz1 hz2 rfl sz (by omega) (by omega)
  have HSZ := Lib.hid (fun u => Size_any k w s c st ia 0 ic wri ra rl rc h u)
  rw [hsz] at HSZ
  have HRT := Lib.hid (fun u => rRight_any k w s c st ia 0 ic wri ra rl rc h u)
  rw [hr] at HRT
  have b4 : (k == 4) = false := by simp; omega
  have b6 : (k == 6) = true := by simpa using hk6
  have hsz1 : (1 : Int) < (sz : Int) := by omega
  have hp : (0 : Int) < (sz : Int) := by omega
  have hstw : (Lit.int .u32 st).wf = true := st_wf h.st32
  have HSTW := Lib.hid hstw
  clear h hr hk6 hsz hi0 hz0 hz1 hz2 hstw hfit
  go_enter Try.func59, Try.ntmps59
  go_upto_region 4 with (first
    | (go_at_call 38; refine (HSZ.out _).mono ?_; rintro e w1 ⟨rfl, hx⟩; have HC1 := Lib.hid (((Chg.refl [] W).alloc _).trans hx); have HB1 := Lib.hid ((Blk.new W #[.int .i64 k, .int .i64 w, .int .i64 s, .int .i64 c, .int .u32 st, .slice ia 0 ic, .int .i64 wri, .slice ra rl rc] 26).keep hx (by simp)); clear hx; have e0 : w1.cell? ⟨W.heap.size, 0, none⟩ = some (.int .i64 k) := HB1.out.cell rfl; have e1 : w1.cell? ⟨W.heap.size, 1, none⟩ = some (.int .i64 w) := HB1.out.cell rfl; have e2 : w1.cell? ⟨W.heap.size, 2, none⟩ = some (.int .i64 s) := HB1.out.cell rfl; have e3 : w1.cell? ⟨W.heap.size, 3, none⟩ = some (.int .i64 c) := HB1.out.cell rfl; have e4 : w1.cell? ⟨W.heap.size, 4, none⟩ = some (.int .u32 st) := HB1.out.cell rfl; have e5 : w1.cell? ⟨W.heap.size, 5, none⟩ = some (.slice ia 0 ic) := HB1.out.cell rfl; have e6 : w1.cell? ⟨W.heap.size, 6, none⟩ = some (.int .i64 wri) := HB1.out.cell rfl; have e7 : w1.cell? ⟨W.heap.size, 7, none⟩ = some (.slice ra rl rc) := HB1.out.cell rfl; have hl1 : W.heap.size < w1.heap.size := HB1.out.lt)
    | (go_at_call 35; refine (HRT.out _).mono ?_; rintro e w2 ⟨rfl, hx⟩; have HC2 := Lib.hid ((HC1.out.alloc _).trans hx); have HB2 := Lib.hid ((HB1.out.alloc _).keep hx (by simp)); have HZ2 := Lib.hid ((Blk.new w1 (zeros (.int .u32 0) sz) 22).keep hx (by simp)); clear hx e0 e1 e2 e3 e4 e5 e6 e7))
  refine code_gen (R := fun V => Hid (Blk V W.heap.size #[.int .i64 k, .int .i64 w, .int .i64 s, .int .i64 c, .int .u32 st, .slice ia 0 ic, .int .i64 wri, .slice ra rl rc] 26) ∧ Hid (LB V w1.heap.size (List.replicate sz 0)) ∧ Hid (Chg [] W V)) ⟨HB2, Lib.hid (by have := HZ2.out; simpa [LB, zeros] using this), HC2⟩ ?_
  have HG := Lib.hid HC1.out.size
  generalize hgg : w1.heap.size = g at *
  have HL1 := Lib.hid hl1
  clear HB2 HZ2 HC2 HC1 HB1 hgg hmk
  rintro W2 ⟨HO1, HL2, HC2⟩
  have e0 : W2.cell? ⟨W.heap.size, 0, none⟩ = some (.int .i64 k) := HO1.out.cell rfl
  have e4 : W2.cell? ⟨W.heap.size, 4, none⟩ = some (.int .u32 st) := HO1.out.cell rfl
  have g0 : W2.cell? ⟨g, 0, none⟩ = some (.int .u32 ((List.replicate sz 0).getD 0 0)) := HL2.out.word 0 (by rw [List.length_replicate]; have := HFIT.out; omega)
  have f0 := HL2.out.free 0
  go_upto_region 6 with fail
  have hne : W.heap.size ≠ g := by omega
  have HNE := Lib.hid hne
  refine code_gen (R := fun V => Hid (Blk V W.heap.size #[.int .i64 k, .int .i64 w, .int .i64 s, .int .i64 c, .int .u32 st, .slice ia 0 ic, .int .i64 wri, .slice ra rl rc] 26) ∧ Hid (LB V g ((List.replicate sz 0).set 0 st)) ∧ Hid (Chg [] W V)) ⟨Lib.hid (Blk.set_ne HO1.out hne _ _ _), Lib.hid (HL2.out.put 0 st), Lib.hid (HC2.out.setCell (.inr (by have := HG.out; simpa using this)) _)⟩ ?_
  clear e0 e4 g0 f0 HO1 HL2 HC2 hl1 hne
  rintro W3 ⟨HO1, HL3, HC3⟩
  have e0 : W3.cell? ⟨W.heap.size, 0, none⟩ = some (.int .i64 k) := HO1.out.cell rfl
  have e4 : W3.cell? ⟨W.heap.size, 4, none⟩ = some (.int .u32 st) := HO1.out.cell rfl
  have g1 : W3.cell? ⟨g, 1, none⟩ = some (.int .u32 (((List.replicate sz 0).set 0 st).getD 1 0)) := HL3.out.word 1 (by rw [List.length_set, List.length_replicate]; have := HFIT.out; omega)
  have f1 := HL3.out.free 1
  go_upto_region 10 with fail
  refine code_gen (R := fun V => Hid (Blk V W.heap.size #[.int .i64 k, .int .i64 w, .int .i64 s, .int .i64 c, .int .u32 st, .slice ia 0 ic, .int .i64 wri, .slice ra rl rc] 26) ∧ Hid (LB V g (((List.replicate sz 0).set 0 st).set 1 st)) ∧ Hid (Chg [] W V)) ⟨Lib.hid (Blk.set_ne HO1.out HNE.out _ _ _), Lib.hid (HL3.out.put 1 st), Lib.hid (HC3.out.setCell (.inr (by have := HG.out; simpa using this)) _)⟩ ?_
  clear e0 e4 g1 f1 HO1 HL3 HC3
  rintro W4 ⟨HO1, HL4, HC4⟩
  have e5 : W4.cell? ⟨W.heap.size, 5, none⟩ = some (.slice ia 0 ic) := HO1.out.cell rfl
  go_wp2_with fail
  go_loopw [5, 6, 37] (fun _ _ i wr => i = .int .i64 0 ∧ wr = W4) (fun _ _ i _ => 0)
  case atStart => exact ⟨rfl, rfl⟩
  case round =>
    obtain ⟨rfl, rfl⟩ := hrel
    go_wp2_with fail
    go_ret
    refine ⟨_, rfl, ?_, HC4.out⟩
    unfold OwnW
    have h1 := HFIT.out
    rw [show (((List.replicate sz 0).set 0 st).set 1 st).length = sz by simp]
    refine ⟨by simp, .inr ⟨g, sz, _, rfl, HG.out, HL4.out, Nat.le_refl _, by unfold maxLen; omega, by simp, ?_⟩⟩
    rw [Nat.mul_one, List.toList_toArray, List.take_of_length_le (by simp)]
end Go.Proofs.Ytjplamoofkcojaa.rop
