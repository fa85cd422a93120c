import Derived.Test.YtkedegbpkkgeaaaGreatTop21
import Derived.Deep.CutBlock
import Derived.Test.YtkedegbpkkgeaaaGreatTop20
import Derived.Test.YtkedegbpkkgeaaaGreatTop4
import Derived.Test.YtkedegbpkkgeaaaGreatTop5
/- TopFits: system.Copy. -/
namespace Go.Proofs.YtkedegbpkkgeaaaGreat.tf
open Go Go.RowKit Go.Proofs.YtkedegbpkkgeaaaGreat.kit Go.Proofs.YtkedegbpkkgeaaaGreat.obj Go.Proofs.YtkedegbpkkgeaaaGreat.mem Go.Proofs.YtkedegbpkkgeaaaGreat.lay Go.Proofs.YtkedegbpkkgeaaaGreat.isa
set_option linter.unusedVariables false
set_option linter.unusedSimpArgs false
set_option maxRecDepth 20000


set_option maxHeartbeats 16000000 in
theorem scopy_any (ta : Option Addr) (tc : Nat) (oa : Option Addr) (oc : Nat) (ts : List DT) (os : List DO) (W : World) (hT : ReadsDT W (.slice ta ts.length tc) ts) (hO : ReadsDO W (.slice oa os.length oc) os) (hl : ts.length ≤ 8 ∧ os.length ≤ 8) (hcl : ∀ d ∈ ts, d.code.length ≤ 64) (hil : ∀ d ∈ os, d.ini.length ≤ 1000 ∧ d.rds.length ≤ 1000) :
    Calls Tryz.prog 20 #[.agg #[.slice ta ts.length tc, .slice oa os.length oc]] W fun e W' => CopE W.heap.size ts os e W' ∧ Chg [] W W' := by
  obtain ⟨-, b1, o1, hx1, hc1⟩ := tasks_at hT
  obtain ⟨-, b2, o2, hx2, hc2⟩ := objs_at hO
  have HX1 := Lib.hid hx1
  have HQ1 := Lib.hid hc1
  have HX2 := Lib.hid hx2
  have HQ2 := Lib.hid hc2
  have HL := Lib.hid hl
  have HTR : Hid (∀ d ∈ ts, d.R W ∧ d.code.length ≤ 64) := Lib.hid (fun d hd => ⟨hT.2 d hd, hcl d hd⟩)
  have HOR : Hid (∀ d ∈ os, d.R W ∧ d.ini.length ≤ 1000 ∧ d.rds.length ≤ 1000) := Lib.hid (fun d hd => ⟨hO.2 d hd, hil d hd⟩)
  obtain ⟨i0, hi0, hz0, hz1, hz2⟩ := info_parts infoTsk
  obtain ⟨i1, hi1, hy0, hy1, hy2⟩ := info_parts infoOb
  have HC3 : Hid (Chg [] W (((W.alloc (.cells #[.slice ta ts.length tc, .slice oa os.length oc] 25)).alloc (.cells #[.slice none 0 0, .slice none 0 0] 25)).alloc (.cells #[.slice none 0 0, .slice none 0 0] 25))) := Lib.hid ((((Chg.refl [] W).alloc _).alloc _).alloc _)
  have HB0 : Hid (Blk (((W.alloc (.cells #[.slice ta ts.length tc, .slice oa os.length oc] 25)).alloc (.cells #[.slice none 0 0, .slice none 0 0] 25)).alloc (.cells #[.slice none 0 0, .slice none 0 0] 25)) W.heap.size #[.slice ta ts.length tc, .slice oa os.length oc] 25) := Lib.hid (((Blk.new W _ _).alloc _).alloc _)
  have HB1 : Hid (Blk (((W.alloc (.cells #[.slice ta ts.length tc, .slice oa os.length oc] 25)).alloc (.cells #[.slice none 0 0, .slice none 0 0] 25)).alloc (.cells #[.slice none 0 0, .slice none 0 0] 25)) (W.heap.size + 1) #[.slice none 0 0, .slice none 0 0] 25) := Lib.hid (by
    have := (Blk.new (W.alloc (.cells #[.slice ta ts.length tc, .slice oa os.length oc] 25)) #[.slice none 0 0, .slice none 0 0] 25).alloc (.cells #[.slice none 0 0, .slice none 0 0] 25)
    rwa [show (W.alloc (.cells #[.slice ta ts.length tc, .slice oa os.length oc] 25)).heap.size = W.heap.size + 1 by simp] at this)
  have HB2 : Hid (Blk (((W.alloc (.cells #[.slice ta ts.length tc, .slice oa os.length oc] 25)).alloc (.cells #[.slice none 0 0, .slice none 0 0] 25)).alloc (.cells #[.slice none 0 0, .slice none 0 0] 25)) (W.heap.size + 1 + 1) #[.slice none 0 0, .slice none 0 0] 25) := Lib.hid (by
    have := Blk.new ((W.alloc (.cells #[.slice ta ts.length tc, .slice oa os.length oc] 25)).alloc (.cells #[.slice none 0 0, .slice none 0 0] 25)) #[.slice none 0 0, .slice none 0 0] 25
    rwa [show ((W.alloc (.cells #[.slice ta ts.length tc, .slice oa os.length oc] 25)).alloc (.cells #[.slice none 0 0, .slice none 0 0] 25)).heap.size = W.heap.size + 1 + 1 by simp] at this)
  clear hT hO hl hcl hil hx1 hc1 hx2 hc2
  go_enter Tryz.func20, Tryz.ntmps20
  go_upto_region 2 with fail
  obtain ⟨w3, hw3⟩ : ∃ x, x = (((W.alloc (.cells #[.slice ta ts.length tc, .slice oa os.length oc] 25)).alloc (.cells #[.slice none 0 0, .slice none 0 0] 25)).alloc (.cells #[.slice none 0 0, .slice none 0 0] 25)) := ⟨_, rfl⟩
  rw [← hw3] at HC3 HB0 HB1 HB2
  try rw [← hw3]
  have HSZ : Hid (w3.heap.size = W.heap.size + 3) := Lib.hid (by rw [hw3]; simp)
  clear hw3
  have s0 := HB0.out.cell (o := 0) (v := .slice ta ts.length tc) rfl
  go_wp2_with fail
  clear s0
  go_loopw [11] (fun q wr => ∃ (m : Nat) (ts' : List DT) (a : Option Addr) (c : Nat), m ≤ ts.length ∧ q = .int .i64 (m : Int) ∧ Hid (ts'.length = m ∧ ts'.map DT.p = (ts.take m).map DT.p) ∧ Hid (Blk wr (W.heap.size + 1 + 1) #[.slice a m c, .slice none 0 0] 25) ∧ Hid (CopT wr W.heap.size a c ts') ∧ Hid (Blk wr W.heap.size #[.slice ta ts.length tc, .slice oa os.length oc] 25 ∧ Blk wr (W.heap.size + 1) #[.slice none 0 0, .slice none 0 0] 25) ∧ Hid (Chg [] W wr)) (fun q _ => ts.length - (intOf q).toNat)
  case atStart => exact ⟨0, [], none, 0, Nat.zero_le _, rfl, Lib.hid ⟨rfl, rfl⟩, HB2, Lib.hid ⟨World.ownsRow_nil _ _ _ _, fun d hd => by cases hd⟩, Lib.hid ⟨HB0.out, HB1.out⟩, HC3⟩
  case round =>
    obtain ⟨m, ts', a, c, hm, rfl, HTS, HBO, HCT, HBS, HJ⟩ := hrel
    by_cases hlm : m < ts.length
    · have HLM := Lib.hid hlm
      have mm : (m : Int) < (ts.length : Int) := by omega
      have g3 := HX1.out m hlm
      obtain ⟨d, hd⟩ : ∃ d, ts[m]? = some d := ⟨_, List.getElem?_eq_getElem hlm⟩
      obtain ⟨⟨q0, q1, q2, q3⟩, q4, q5, q6⟩ := HQ1.out wr HJ.out m d hd
      obtain ⟨hdR, hdl⟩ := HTR.out d (List.mem_of_getElem? hd)
      have hdcl := hdR.len
      have hsn := take_snoc hd
      obtain ⟨⟨tk, tp, tpe, tof, td, tow, tca, tcl, tcc⟩, code⟩ := d
      simp only at q0 q1 q2 q3 q4 q5 q6 hdl hdcl
      have HCD : Hid (code.length = tcl ∧ code.length ≤ 64) := Lib.hid ⟨hdcl.symm, hdl⟩
      have HSN := Lib.hid hsn
      have k9 : IntKind.i64.wrap ((m : Int) + 1) = (m : Int) + 1 := by rw [IntKind.wrap_i64]; have := HL.out; omega
      have HAL : Hid (Chg [] wr (wr.alloc (.cells #[.int .i64 tk, .int .i64 tp, .int .i64 tpe, .int .i64 tof, .int .i64 td, .int .i64 tow, .slice tca tcl tcc] 31))) := Lib.hid ((Chg.refl _ _).alloc _)
      have HBT := Lib.hid (Blk.new wr #[.int .i64 tk, .int .i64 tp, .int .i64 tpe, .int .i64 tof, .int .i64 td, .int .i64 tow, .slice tca tcl tcc] 31)
      have HTC := Lib.hid (fun V (hV : Chg [] W V) => tcopy_any tk tp tpe tof td tow tca tcl tcc code V (hdR.chg hV) HCD.out.1 (by have := HCD.out; omega))
      clear hd hdR hdl hdcl hsn hlm hm
      go_upto_region 5 with fail
      obtain ⟨w4, hw4⟩ : ∃ x, x = wr.alloc (.cells #[.int .i64 tk, .int .i64 tp, .int .i64 tpe, .int .i64 tof, .int .i64 td, .int .i64 tow, .slice tca tcl tcc] 31) := ⟨_, rfl⟩
      rw [← hw4] at HAL HBT
      try rw [← hw4]
      clear hw4
      have KEEP : Hid (∀ V, Chg [] w4 V → (fun V : World => V.cell? ⟨W.heap.size + 1 + 1, 0, none⟩ = some (.slice a m c) ∧ (V.cell? ⟨wr.heap.size, 0, none⟩ = some (.int .i64 tk) ∧ V.cell? ⟨wr.heap.size, 1, none⟩ = some (.int .i64 tp) ∧ V.cell? ⟨wr.heap.size, 2, none⟩ = some (.int .i64 tpe) ∧ V.cell? ⟨wr.heap.size, 3, none⟩ = some (.int .i64 tof) ∧ V.cell? ⟨wr.heap.size, 4, none⟩ = some (.int .i64 td) ∧ V.cell? ⟨wr.heap.size, 5, none⟩ = some (.int .i64 tow) ∧ V.cell? ⟨wr.heap.size, 6, none⟩ = some (.slice tca tcl tcc)) ∧ Hid (Chg [] w4 V)) V) := Lib.hid (fun V hV => by
        have B := HBT.out.keep hV (by simp)
        exact ⟨((HBO.out.keep HAL.out (by simp)).keep hV (by simp)).cell rfl, ⟨B.cell rfl, B.cell rfl, B.cell rfl, B.cell rfl, B.cell rfl, B.cell rfl, B.cell rfl⟩, Lib.hid hV⟩)
      have hHeld : (fun V : World => V.cell? ⟨W.heap.size + 1 + 1, 0, none⟩ = some (.slice a m c) ∧ (V.cell? ⟨wr.heap.size, 0, none⟩ = some (.int .i64 tk) ∧ V.cell? ⟨wr.heap.size, 1, none⟩ = some (.int .i64 tp) ∧ V.cell? ⟨wr.heap.size, 2, none⟩ = some (.int .i64 tpe) ∧ V.cell? ⟨wr.heap.size, 3, none⟩ = some (.int .i64 tof) ∧ V.cell? ⟨wr.heap.size, 4, none⟩ = some (.int .i64 td) ∧ V.cell? ⟨wr.heap.size, 5, none⟩ = some (.int .i64 tow) ∧ V.cell? ⟨wr.heap.size, 6, none⟩ = some (.slice tca tcl tcc)) ∧ Hid (Chg [] w4 V)) (World.drew w4) := KEEP.out _ (Chg.refl _ _).drew
      refine wp_region_planV (fun V : World => V.cell? ⟨W.heap.size + 1 + 1, 0, none⟩ = some (.slice a m c) ∧ (V.cell? ⟨wr.heap.size, 0, none⟩ = some (.int .i64 tk) ∧ V.cell? ⟨wr.heap.size, 1, none⟩ = some (.int .i64 tp) ∧ V.cell? ⟨wr.heap.size, 2, none⟩ = some (.int .i64 tpe) ∧ V.cell? ⟨wr.heap.size, 3, none⟩ = some (.int .i64 tof) ∧ V.cell? ⟨wr.heap.size, 4, none⟩ = some (.int .i64 td) ∧ V.cell? ⟨wr.heap.size, 5, none⟩ = some (.int .i64 tow) ∧ V.cell? ⟨wr.heap.size, 6, none⟩ = some (.slice tca tcl tcc)) ∧ Hid (Chg [] w4 V)) 5 [(0, true, some 15), (1, true, some 16), (2, true, some 17), (3, false, some 18), (4, false, some 19)] (by kernel_rfl) (by kernel_rfl) (by kernel_rfl) (by kernel_rfl) (by kernel_rfl) (fun d c a v w h => by cases d <;> exact h) hHeld ?_
      repeat (first
        | (refine planV_read (v := ?_) rfl rfl ?_ ?_ ?_; rotate_left; (focus rfl); (focus (intro u hSw; (try dsimp only at hSw); obtain ⟨u0, ⟨v0, v1, v2, v3, v4, v5, v6⟩, -⟩ := hSw; go_simp; (try with_reducible rfl))); (try simp only [Act.put, List.setIfInBounds_toArray, List.set_cons_zero, List.set_cons_succ]))
        | (refine planV_do rfl rfl ?_ (fun K hK => ?_); (focus rfl); go_simp; (try go_wp2_with (go_at_call 47; refine (HTC.out _ ((HJ.out.trans HAL.out).trans hHeld.2.2.out)).mono ?_; rintro e w5 ⟨a2, c2, rfl, ho5, hc5⟩; have HO5 := Lib.hid (own_mono ho5 (show W.heap.size ≤ _ from ((HJ.out.trans HAL.out).trans hHeld.2.2.out).size)); have HCX := Lib.hid hc5; clear ho5 hc5)); refine hK.out _ _ ?_ (fun hHeld2 => ?_); (focus first | exact KEEP.out _ (hHeld.2.2.out.trans HCX.out) | exact KEEP.out _ (hHeld.2.2.out.alloc _)); clear hK K hHeld; have hHeld := hHeld2; clear hHeld2; (try simp only [Act.put, List.setIfInBounds_toArray, List.set_cons_zero, List.set_cons_succ])))
      refine planV_tail ?_
      simp only [List.drop_succ_cons, List.drop_zero]
      obtain ⟨-, -, hcz⟩ := hHeld
      have HK5 : Hid (Chg [] wr (w5.alloc (.cells #[.int .i64 tk, .int .i64 tp, .int .i64 tpe, .int .i64 tof, .int .i64 td, .int .i64 tow, .slice a2 tcl c2] 31))) := Lib.hid ((HAL.out.trans hcz.out))
      have HOX : Hid ((w5.alloc (.cells #[.int .i64 tk, .int .i64 tp, .int .i64 tpe, .int .i64 tof, .int .i64 td, .int .i64 tow, .slice a2 tcl c2] 31)).ownsRow W.heap.size 31 7 (.slice a m c) m (ts'.flatMap (fun d => d.t.cells))) := Lib.hid (own_keep (by have h := HCT.out.row; rwa [HTS.out.1] at h) HK5.out (by simp))
      have HBN := Lib.hid (Blk.new w5 #[.int .i64 tk, .int .i64 tp, .int .i64 tpe, .int .i64 tof, .int .i64 td, .int .i64 tow, .slice a2 tcl c2] 31)
      have HBO5 := Lib.hid (HBO.out.keep HK5.out (by simp))
      have HO6 : Hid ((w5.alloc (.cells #[.int .i64 tk, .int .i64 tp, .int .i64 tpe, .int .i64 tof, .int .i64 td, .int .i64 tow, .slice a2 tcl c2] 31)).ownsRow W.heap.size 53 5 (.slice a2 tcl c2) tcl (code.flatMap Ins.cells)) := Lib.hid (own_keep HO5.out ((Chg.refl [] _).alloc _) (by simp))
      have HCT5 := Lib.hid (HCT.out.keep HK5.out (far_nil _ _) (far_nil _ _))
      have HBS5 := Lib.hid (And.intro (HBS.out.1.keep HK5.out (by simp)) (HBS.out.2.keep HK5.out (by simp)))
      have HSW : Hid (W.heap.size ≤ w5.heap.size) := Lib.hid (by have h := (HJ.out.trans HK5.out).size; simp at h; have h2 := HSZ.out; have h3 := HBO5.out.lt; simp at h3; omega)
      clear KEEP
      go_upto_region 6 with (at_builtin; refine wpList_append_row (o := ⟨some 20, _, _, _, _, _⟩) rfl (.tmp 16) (.tmp 19) 22 rfl W.heap.size 31 i0 (.agg #[.int .i64 0, .int .i64 0, .int .i64 0, .int .i64 0, .int .i64 0, .int .i64 0, .slice none 0 0]) 7 72 Tryz.underlying22 hi0 hz0 hz1 hz2 rfl (by decide) (.slice a m c) m (ts'.flatMap (fun d => d.t.cells)) rfl HOX.out w5.heap.size [.int .i64 tk, .int .i64 tp, .int .i64 tpe, .int .i64 tof, .int .i64 td, .int .i64 tow, .slice a2 tcl c2] rfl rfl (fun j u hu => HBN.out.cell (by rw [← Array.getElem?_toList]; exact hu)) (by simp [Value.oneCell']) (by have := HL.out; have := HLM.out; unfold maxLen; omega) (by have := HL.out; have := HLM.out; omega) (by have := HSW.out; simp; omega) ?_; intro v' w6 hown' hgrow _; obtain ⟨a6, c6, rfl⟩ := own_open hown'; have HOW6 := Lib.hid hown'; have HK6 : Hid (Chg (Value.slice a m c).ownBlock.toList (w5.alloc (.cells #[.int .i64 tk, .int .i64 tp, .int .i64 tpe, .int .i64 tof, .int .i64 td, .int .i64 tow, .slice a2 tcl c2] 31)) w6) := Lib.hid ((Chg.refl _ _).grown hgrow (fun q hq => .inl (by simpa using hq))); have HBO6 := Lib.hid (blk_far HBO5.out HK6.out (far_own HOX.out (by decide))); have e0 := HBO6.out.cell (o := 0) (v := .slice a m c) rfl; have f0 := HBO6.out.free 0; clear hown' hgrow)
      have HFT : Hid (Far (w5.alloc (.cells #[.int .i64 tk, .int .i64 tp, .int .i64 tpe, .int .i64 tof, .int .i64 td, .int .i64 tow, .slice a2 tcl c2] 31)) (Value.slice a m c).ownBlock.toList 53 ∧ Far (w5.alloc (.cells #[.int .i64 tk, .int .i64 tp, .int .i64 tpe, .int .i64 tof, .int .i64 td, .int .i64 tow, .slice a2 tcl c2] 31)) (Value.slice a m c).ownBlock.toList 25) := Lib.hid ⟨far_own HOX.out (by decide), far_own HOX.out (by decide)⟩
      have HK7 : Hid (Chg [(W.heap.size + 1 + 1)] w6 (w6.setCell ⟨W.heap.size + 1 + 1, 0, none⟩ (.slice a6 (m + 1) c6))) := Lib.hid ((Chg.refl _ _).setCell (.inl (by simp)) _)
      have HBO7 := Lib.hid (HBO6.out.set 0 (.slice a6 (m + 1) c6))
      have HCT7 : Hid (CopT (w6.setCell ⟨W.heap.size + 1 + 1, 0, none⟩ (.slice a6 (m + 1) c6)) W.heap.size a6 c6 (ts' ++ [⟨⟨tk, tp, tpe, tof, td, tow, a2, tcl, c2⟩, code⟩])) := Lib.hid (CopT.snoc (by
          have h := own_far HOW6.out HK7.out (far_blk HBO6.out (by decide))
          rw [HTS.out.1]
          exact h) (fun d hd => ⟨(HCT5.out.code d hd).1, own_far (own_far (HCT5.out.code d hd).2 HK6.out HFT.out.1) HK7.out (far_blk HBO6.out (by decide))⟩) HCD.out.1.symm (own_far (own_far HO6.out HK6.out HFT.out.1) HK7.out (far_blk HBO6.out (by decide))))
      have HBS7 : Hid (Blk (w6.setCell ⟨W.heap.size + 1 + 1, 0, none⟩ (.slice a6 (m + 1) c6)) W.heap.size #[.slice ta ts.length tc, .slice oa os.length oc] 25 ∧ Blk (w6.setCell ⟨W.heap.size + 1 + 1, 0, none⟩ (.slice a6 (m + 1) c6)) (W.heap.size + 1) #[.slice none 0 0, .slice none 0 0] 25) := Lib.hid ⟨(blk_far HBS5.out.1 HK6.out HFT.out.2).keep HK7.out (by simp; omega), (blk_far HBS5.out.2 HK6.out HFT.out.2).keep HK7.out (by simp)⟩
      have HJ7 : Hid (Chg [] W (w6.setCell ⟨W.heap.size + 1 + 1, 0, none⟩ (.slice a6 (m + 1) c6))) := Lib.hid (((HJ.out.trans HK5.out).into HK6.out (fun y hy => .inr (World.ownsRow.lt HOX.out y (Option.mem_toList.1 hy)).1)).into HK7.out (fun y hy => .inr (by simp at hy; omega)))
      go_wp2
      have hltj := HLM.out
      go_roundw
      case rel => exact ⟨m + 1, ts' ++ [⟨⟨tk, tp, tpe, tof, td, tow, a2, tcl, c2⟩, code⟩], a6, c6, by omega, by go_num, Lib.hid ⟨by rw [List.length_append, HTS.out.1]; rfl, by rw [List.map_append, HTS.out.2, HSN.out, List.map_append]; rfl⟩, HBO7, HCT7, HBS7, HJ7⟩
      case measure => (simp [intOf]) <;> omega
    · obtain rfl : ts.length = m := by omega
      clear hlm hm HB0 HB1 HB2
      rw [List.take_length] at HTS
      have s1 := HBS.out.1.cell (o := 1) (v := .slice oa os.length oc) rfl
      go_wp2_with fail
      clear s1
      go_loopw [26] (fun q wr => ∃ (m : Nat) (os' : List DO) (x : Option Addr) (y : Nat), m ≤ os.length ∧ q = .int .i64 (m : Int) ∧ Hid (os'.length = m ∧ os'.map DO.p = (os.take m).map DO.p) ∧ Hid (Blk wr (W.heap.size + 1 + 1) #[.slice a ts.length c, .slice x m y] 25) ∧ Hid (CopT wr W.heap.size a c ts' ∧ CopO wr W.heap.size x y os') ∧ Hid (Blk wr (W.heap.size + 1) #[.slice none 0 0, .slice none 0 0] 25) ∧ Hid (Chg [] W wr)) (fun q _ => os.length - (intOf q).toNat)
      case atStart => exact ⟨0, [], none, 0, Nat.zero_le _, rfl, Lib.hid ⟨rfl, rfl⟩, HBO, Lib.hid ⟨HCT.out, ⟨World.ownsRow_nil _ _ _ _, fun d hd => (by cases hd), fun d hd => (by cases hd)⟩⟩, Lib.hid HBS.out.2, HJ⟩
      case round =>
        clear HBO HCT HBS HJ
        obtain ⟨m, os', x, y, hm, rfl, HOS, HBO, HCO, HBS, HJ⟩ := hrel
        by_cases hlm : m < os.length
        · have HLM := Lib.hid hlm
          have mm : (m : Int) < (os.length : Int) := by omega
          have g3 := HX2.out m hlm
          obtain ⟨d, hd⟩ : ∃ d, os[m]? = some d := ⟨_, List.getElem?_eq_getElem hlm⟩
          obtain ⟨⟨q0, q1, q2, q3⟩, q4, q5, q6, q7⟩ := HQ2.out wr HJ.out m d hd
          obtain ⟨hdR, hd1, hd2⟩ := HOR.out d (List.mem_of_getElem? hd)
          have hli := hdR.leni
          have hlr := hdR.lenr
          have hsn := take_snoc hd
          obtain ⟨⟨k, w, s, c0, st, ia, il, ic, wri, ra, rl, rc⟩, ini, rds⟩ := d
          simp only at q0 q1 q2 q3 q4 q5 q6 q7 hd1 hd2 hli hlr
          have HCD : Hid ((il = ini.length ∧ rl = rds.length) ∧ ini.length ≤ 1000 ∧ rds.length ≤ 1000) := Lib.hid ⟨⟨hli, hlr⟩, hd1, hd2⟩
          have HSN := Lib.hid hsn
          have k9 : IntKind.i64.wrap ((m : Int) + 1) = (m : Int) + 1 := by rw [IntKind.wrap_i64]; have := HL.out; omega
          have HAL : Hid (Chg [] wr (wr.alloc (.cells #[.int .i64 k, .int .i64 w, .int .i64 s, .int .i64 c0, .int .u32 st, .slice ia il ic, .int .i64 wri, .slice ra rl rc] 46))) := Lib.hid ((Chg.refl _ _).alloc _)
          have HBT := Lib.hid (Blk.new wr #[.int .i64 k, .int .i64 w, .int .i64 s, .int .i64 c0, .int .u32 st, .slice ia il ic, .int .i64 wri, .slice ra rl rc] 46)
          have HCU := Lib.hid (fun V (hV : Chg [] W V) => cloneU_any ia il ic (ini.map (Value.int .u32)) V (by have h := hdR.1.chg hV; unfold ReadsU at h; rwa [← hli] at h) (by omega) (by intro u hu; obtain ⟨z, -, rfl⟩ := List.mem_map.1 hu; rfl))
          have HCN := Lib.hid (fun V (hV : Chg [] W V) => cloneN_any ra rl rc (rds.map (Value.int .i64)) V (by have h := hdR.2.chg hV; unfold ReadsN at h; rwa [← hlr] at h) (by omega) (by intro u hu; obtain ⟨z, -, rfl⟩ := List.mem_map.1 hu; rfl))
          clear hd hdR hd1 hd2 hli hlr hsn hlm hm
          go_upto_region 10 with fail
          obtain ⟨w4, hw4⟩ : ∃ x, x = wr.alloc (.cells #[.int .i64 k, .int .i64 w, .int .i64 s, .int .i64 c0, .int .u32 st, .slice ia il ic, .int .i64 wri, .slice ra rl rc] 46) := ⟨_, rfl⟩
          rw [← hw4] at HAL HBT
          try rw [← hw4]
          clear hw4
          have KEEP : Hid (∀ V, Chg [] w4 V → (fun V : World => (V.cell? ⟨wr.heap.size, 5, none⟩ = some (.slice ia il ic) ∧ V.cell? ⟨wr.heap.size, 7, none⟩ = some (.slice ra rl rc)) ∧ Hid (Chg [] w4 V)) V) := Lib.hid (fun V hV => by
            have B := HBT.out.keep hV (by simp)
            exact ⟨⟨B.cell rfl, B.cell rfl⟩, Lib.hid hV⟩)
          have hHeld : (fun V : World => (V.cell? ⟨wr.heap.size, 5, none⟩ = some (.slice ia il ic) ∧ V.cell? ⟨wr.heap.size, 7, none⟩ = some (.slice ra rl rc)) ∧ Hid (Chg [] w4 V)) (World.drew w4) := KEEP.out _ (Chg.refl _ _).drew
          refine wp_region_planV (fun V : World => (V.cell? ⟨wr.heap.size, 5, none⟩ = some (.slice ia il ic) ∧ V.cell? ⟨wr.heap.size, 7, none⟩ = some (.slice ra rl rc)) ∧ Hid (Chg [] w4 V)) 7 [(0, true, some 30), (1, true, some 31), (3, true, some 33), (4, true, some 34), (2, false, some 32), (6, true, some 36), (5, false, some 35)] (by kernel_rfl) (by kernel_rfl) (by kernel_rfl) (by kernel_rfl) (by kernel_rfl) (fun d c a v w h => by cases d <;> exact h) hHeld ?_
          repeat (first
            | (refine planV_read (v := ?_) rfl rfl ?_ ?_ ?_; rotate_left; (focus rfl); (focus (intro u hSw; (try dsimp only at hSw); obtain ⟨⟨u0, u1⟩, -⟩ := hSw; go_simp; (try with_reducible rfl))); (try simp only [Act.put, List.setIfInBounds_toArray, List.set_cons_zero, List.set_cons_succ]))
            | (refine planV_do rfl rfl ?_ (fun K hK => ?_); (focus rfl); go_simp; (try go_wp2_with (first | (go_at_call 48; refine (HCU.out _ ((HJ.out.trans HAL.out).trans hHeld.2.out)).mono ?_; rintro e w5 ⟨a2, c2, rfl, ho5, hc5⟩; have HO5 := Lib.hid (own_mono ho5 (show W.heap.size ≤ _ from ((HJ.out.trans HAL.out).trans hHeld.2.out).size)); have HCX := Lib.hid hc5; clear ho5 hc5) | (go_at_call 49; refine (HCN.out _ ((HJ.out.trans HAL.out).trans hHeld.2.out)).mono ?_; rintro e w6 ⟨a3, c3, rfl, ho6, hc6⟩; have HO6 := Lib.hid (own_mono ho6 (show W.heap.size ≤ _ from ((HJ.out.trans HAL.out).trans hHeld.2.out).size)); have HO5 := Lib.hid (own_keep HO5.out hc6 (by simp)); have HCX := Lib.hid hc6; clear ho6 hc6))); refine hK.out _ _ ?_ (fun hHeld2 => ?_); (focus exact KEEP.out _ (hHeld.2.out.trans HCX.out)); clear hK K hHeld; have hHeld := hHeld2; clear hHeld2; (try simp only [Act.put, List.setIfInBounds_toArray, List.set_cons_zero, List.set_cons_succ])))
          refine planV_tail ?_
          simp only [List.drop_succ_cons, List.drop_zero]
          obtain ⟨-, hcz⟩ := hHeld
          have HB6 := Lib.hid (HBT.out.keep hcz.out (by simp))
          have e5 := HB6.out.cell (o := 5) (v := .slice ia il ic) rfl
          have e7 := HB6.out.cell (o := 7) (v := .slice ra rl rc) rfl
          have f5 := HB6.out.free 5
          have f7 := HB6.out.free 7
          have HB8 : Hid (Blk ((w6.setCell ⟨wr.heap.size, 5, none⟩ (.slice a2 il c2)).setCell ⟨wr.heap.size, 7, none⟩ (.slice a3 rl c3)) wr.heap.size #[.int .i64 k, .int .i64 w, .int .i64 s, .int .i64 c0, .int .u32 st, .slice a2 il c2, .int .i64 wri, .slice a3 rl c3] 46) := Lib.hid ((HB6.out.set 5 _).set 7 _)
          have HK8 : Hid (Chg [wr.heap.size] w6 ((w6.setCell ⟨wr.heap.size, 5, none⟩ (.slice a2 il c2)).setCell ⟨wr.heap.size, 7, none⟩ (.slice a3 rl c3))) := Lib.hid (((Chg.refl _ _).setCell (.inl (by simp)) _).setCell (.inl (by simp)) _)
          clear KEEP
          go_upto_region 11 with fail
          obtain ⟨w8, hw8⟩ : ∃ x, x = ((w6.setCell ⟨wr.heap.size, 5, none⟩ (.slice a2 il c2)).setCell ⟨wr.heap.size, 7, none⟩ (.slice a3 rl c3)) := ⟨_, rfl⟩
          rw [← hw8] at HB8 HK8
          try rw [← hw8]
          clear hw8 e5 e7 f5 f7
          have HK6 : Hid (Chg [] wr w6) := Lib.hid (HAL.out.trans hcz.out)
          have hne : ∀ yy, (Value.slice x m y).ownBlock = some yy → W.heap.size ≤ yy ∧ yy < wr.heap.size := fun yy hy => World.ownsRow.lt (by have h := HCO.out.2.row; rwa [HOS.out.1] at h) yy hy
          have HNE := Lib.hid hne
          have HFB : Hid (∀ T, T ≠ 46 → Far w6 [wr.heap.size] T) := Lib.hid (fun T hT => far_blk HB6.out (Ne.symm hT))
          have HBO8 := Lib.hid (blk_far (HBO.out.keep HK6.out (by simp)) HK8.out (HFB.out _ (by decide)))
          have HBS8 := Lib.hid (blk_far (HBS.out.keep HK6.out (by simp)) HK8.out (HFB.out _ (by decide)))
          have HCT8 := Lib.hid ((HCO.out.1.keep HK6.out (far_nil _ _) (far_nil _ _)).keep HK8.out (HFB.out _ (by decide)) (HFB.out _ (by decide)))
          have HCO8 := Lib.hid ((HCO.out.2.keep HK6.out (far_nil _ _) (far_nil _ _) (far_nil _ _)).keepR HK8.out (fun yy hy hm => by rw [HOS.out.1] at hy; have := HNE.out yy hy; simp at hm; omega) (HFB.out _ (by decide)) (HFB.out _ (by decide)))
          have HO58 := Lib.hid (own_far HO5.out HK8.out (HFB.out _ (by decide)))
          have HO68 := Lib.hid (own_far HO6.out HK8.out (HFB.out _ (by decide)))
          have HJ8 : Hid (Chg [] W w8) := Lib.hid ((HJ.out.trans HK6.out).into HK8.out (fun yy hy => .inr (by simp at hy; subst hy; exact HJ.out.size)))
          have HA9 : Hid (Chg [] w8 (w8.alloc (.cells #[.int .i64 k, .int .i64 w, .int .i64 s, .int .i64 c0, .int .u32 st, .slice a2 il c2, .int .i64 wri, .slice a3 rl c3] 46))) := Lib.hid ((Chg.refl _ _).alloc _)
          have HOX : Hid ((w8.alloc (.cells #[.int .i64 k, .int .i64 w, .int .i64 s, .int .i64 c0, .int .u32 st, .slice a2 il c2, .int .i64 wri, .slice a3 rl c3] 46)).ownsRow W.heap.size 46 8 (.slice x m y) m (os'.flatMap (fun d => d.o.cells))) := Lib.hid (own_keep (by have h := HCO8.out.row; rwa [HOS.out.1] at h) HA9.out (by simp))
          have HBN := Lib.hid (Blk.new w8 #[.int .i64 k, .int .i64 w, .int .i64 s, .int .i64 c0, .int .u32 st, .slice a2 il c2, .int .i64 wri, .slice a3 rl c3] 46)
          have HBO9 := Lib.hid (HBO8.out.keep HA9.out (by simp))
          have HBS9 := Lib.hid (HBS8.out.keep HA9.out (by simp))
          have HCT9 := Lib.hid (HCT8.out.keep HA9.out (far_nil _ _) (far_nil _ _))
          have HCO9 := Lib.hid (HCO8.out.keep HA9.out (far_nil _ _) (far_nil _ _) (far_nil _ _))
          have HO59 := Lib.hid (own_keep HO58.out HA9.out (by simp))
          have HO69 := Lib.hid (own_keep HO68.out HA9.out (by simp))
          have HSW : Hid (W.heap.size ≤ w8.heap.size) := Lib.hid HJ8.out.size
          have d0 := HB8.out.cell (o := 0) rfl
          have d1 := HB8.out.cell (o := 1) rfl
          have d2 := HB8.out.cell (o := 2) rfl
          have d3 := HB8.out.cell (o := 3) rfl
          have d4 := HB8.out.cell (o := 4) rfl
          have d5 := HB8.out.cell (o := 5) rfl
          have d6 := HB8.out.cell (o := 6) rfl
          have d7 := HB8.out.cell (o := 7) rfl
          have b1 := HBO8.out.cell (o := 1) (v := .slice x m y) rfl
          clear hne q0 q1 q2 q3 q4 q5 q6 q7 g3
          go_upto_region 12 with (at_builtin; refine wpList_append_row (o := ⟨some 42, _, _, _, _, _⟩) rfl (.tmp 39) (.tmp 41) 23 rfl W.heap.size 46 i1 (.agg #[.int .i64 0, .int .i64 0, .int .i64 0, .int .i64 0, .int .u32 0, .slice none 0 0, .int .i64 0, .slice none 0 0]) 8 96 Tryz.underlying23 hi1 hy0 hy1 hy2 rfl (by decide) (.slice x m y) m (os'.flatMap (fun d => d.o.cells)) rfl HOX.out w8.heap.size [.int .i64 k, .int .i64 w, .int .i64 s, .int .i64 c0, .int .u32 st, .slice a2 il c2, .int .i64 wri, .slice a3 rl c3] rfl rfl (fun j u hu => HBN.out.cell (by rw [← Array.getElem?_toList]; exact hu)) (by simp [Value.oneCell']) (by have := HL.out; have := HLM.out; unfold maxLen; omega) (by have := HL.out; have := HLM.out; omega) (by have := HSW.out; simp; omega) ?_; intro v' wa hown' hgrow _; obtain ⟨a6, c6, rfl⟩ := own_open hown'; have HOWA := Lib.hid hown'; have HKA : Hid (Chg (Value.slice x m y).ownBlock.toList (w8.alloc (.cells #[.int .i64 k, .int .i64 w, .int .i64 s, .int .i64 c0, .int .u32 st, .slice a2 il c2, .int .i64 wri, .slice a3 rl c3] 46)) wa) := Lib.hid ((Chg.refl _ _).grown hgrow (fun q hq => .inl (by simpa using hq))); have HBOA := Lib.hid (blk_far HBO9.out HKA.out (far_own HOX.out (by decide))); have e1 := HBOA.out.cell (o := 1) (v := .slice x m y) rfl; have f1 := HBOA.out.free 1; clear hown' hgrow)
          have HFT : Hid (∀ T, T ≠ 46 → Far (w8.alloc (.cells #[.int .i64 k, .int .i64 w, .int .i64 s, .int .i64 c0, .int .u32 st, .slice a2 il c2, .int .i64 wri, .slice a3 rl c3] 46)) (Value.slice x m y).ownBlock.toList T) := Lib.hid (fun T hT => far_own HOX.out (Ne.symm hT))
          have HKB : Hid (Chg [(W.heap.size + 1 + 1)] wa (wa.setCell ⟨W.heap.size + 1 + 1, 1, none⟩ (.slice a6 (m + 1) c6))) := Lib.hid ((Chg.refl _ _).setCell (.inl (by simp)) _)
          have HFO : Hid (∀ T, T ≠ 25 → Far wa [(W.heap.size + 1 + 1)] T) := Lib.hid (fun T hT => far_blk HBOA.out (Ne.symm hT))
          have HBOB := Lib.hid (HBOA.out.set 1 (.slice a6 (m + 1) c6))
          have HCTB : Hid (CopT (wa.setCell ⟨W.heap.size + 1 + 1, 1, none⟩ (.slice a6 (m + 1) c6)) W.heap.size a c ts') := Lib.hid ((HCT9.out.keep HKA.out (HFT.out _ (by decide)) (HFT.out _ (by decide))).keep HKB.out (HFO.out _ (by decide)) (HFO.out _ (by decide)))
          have HCOB : Hid (CopO (wa.setCell ⟨W.heap.size + 1 + 1, 1, none⟩ (.slice a6 (m + 1) c6)) W.heap.size a6 c6 (os' ++ [⟨⟨k, w, s, c0, st, a2, il, c2, wri, a3, rl, c3⟩, ini, rds⟩])) := Lib.hid (CopO.snoc (by
              have h := own_far HOWA.out HKB.out (HFO.out _ (by decide))
              rw [HOS.out.1]
              exact h) (fun d hd => ⟨(HCO9.out.ini d hd).1, own_far (own_far (HCO9.out.ini d hd).2 HKA.out (HFT.out _ (by decide))) HKB.out (HFO.out _ (by decide))⟩) (fun d hd => ⟨(HCO9.out.rds d hd).1, own_far (own_far (HCO9.out.rds d hd).2 HKA.out (HFT.out _ (by decide))) HKB.out (HFO.out _ (by decide))⟩)
              ⟨HCD.out.1.1, own_far (own_far HO59.out HKA.out (HFT.out _ (by decide))) HKB.out (HFO.out _ (by decide))⟩ ⟨HCD.out.1.2, own_far (own_far HO69.out HKA.out (HFT.out _ (by decide))) HKB.out (HFO.out _ (by decide))⟩)
          have HBSB : Hid (Blk (wa.setCell ⟨W.heap.size + 1 + 1, 1, none⟩ (.slice a6 (m + 1) c6)) (W.heap.size + 1) #[.slice none 0 0, .slice none 0 0] 25) := Lib.hid ((blk_far HBS9.out HKA.out (HFT.out _ (by decide))).keep HKB.out (by simp))
          have HJB : Hid (Chg [] W (wa.setCell ⟨W.heap.size + 1 + 1, 1, none⟩ (.slice a6 (m + 1) c6))) := Lib.hid (((HJ8.out.trans HA9.out).into HKA.out (fun yy hy => .inr (World.ownsRow.lt HOX.out yy (Option.mem_toList.1 hy)).1)).into HKB.out (fun yy hy => .inr (by simp at hy; omega)))
          clear d0 d1 d2 d3 d4 d5 d6 d7 b1
          go_wp2
          have hltj := HLM.out
          go_roundw
          case rel => exact ⟨m + 1, os' ++ [⟨⟨k, w, s, c0, st, a2, il, c2, wri, a3, rl, c3⟩, ini, rds⟩], a6, c6, by omega, by go_num, Lib.hid ⟨by rw [List.length_append, HOS.out.1]; rfl, by rw [List.map_append, HOS.out.2, HSN.out, List.map_append]; rfl⟩, HBOB, Lib.hid ⟨HCTB.out, HCOB.out⟩, HBSB, HJB⟩
          case measure => (simp [intOf]) <;> omega
        · obtain rfl : os.length = m := by omega
          clear hlm hm
          rw [List.take_length] at HOS
          have d0 := HBO.out.cell (o := 0) (v := .slice a ts.length c) rfl
          have d1 := HBO.out.cell (o := 1) (v := .slice x os.length y) rfl
          go_upto_region 13 with fail
          go_wp2_with (refine Go.Proofs.YtkedegbpkkgeaaaGreat.blk.wpList_store_blk rfl 25 (.tmp 2) (.tmp 45) rfl (W.heap.size + 1) #[.slice a ts.length c, .slice x os.length y] rfl rfl HBS.out szSy rfl (by simp [Value.oneCell']) ?_; intro w9 hb9 hc9; have HB9 := Lib.hid hb9; have HC9 := Lib.hid hc9; clear hb9 hc9)
          refine bodyPost_ret (results_row_one rfl _ _ (W.heap.size + 1) 25 _ (0, 0) _ rfl HB9.out Tryz.underlying25 rfl szSy) rfl ?_
          have HF : ∀ T, T ≠ 25 → Far wr [W.heap.size + 1] T := fun T hT => far_blk HBS.out (Ne.symm hT)
          refine ⟨⟨a, c, ts', x, y, os', ?_, ⟨HCO.out.1.keep HC9.out (HF _ (by decide)) (HF _ (by decide)), HCO.out.2.keep HC9.out (HF _ (by decide)) (HF _ (by decide)) (HF _ (by decide)), HTS.out.2, HOS.out.2⟩⟩, HJ.out.into HC9.out (by simp)⟩
          rw [HTS.out.1, HOS.out.1]
end Go.Proofs.YtkedegbpkkgeaaaGreat.tf
/- TopFits: size: tries, ticks, most; object.Shaped. -/
namespace Go.Proofs.YtkedegbpkkgeaaaGreat.tf
open Go Go.RowKit Go.Proofs.YtkedegbpkkgeaaaGreat.kit Go.Proofs.YtkedegbpkkgeaaaGreat.obj Go.Proofs.YtkedegbpkkgeaaaGreat.mem Go.Proofs.YtkedegbpkkgeaaaGreat.lay Go.Proofs.YtkedegbpkkgeaaaGreat.isa
set_option linter.unusedVariables false
set_option linter.unusedSimpArgs false
set_option maxRecDepth 20000

open Go.Proofs.YtkedegbpkkgeaaaGreat.word
theorem fails_le (s : S) (i k r : Int) : failsM s i k r ≤ 1099511627776 := by
  have h0 := wrM_nn s i k r
  have h1 := wrM_le s i k r
  unfold failsM
  split
  · omega
  · split
    · exact h1
    · split
      · split
        · exact Int.le_trans (Int.ediv_le_self _ h0) h1
        · exact h1
      · omega
theorem most_fold_le (f : Int → Int) (hf : ∀ i, f i ≤ 1099511627776) : ∀ (l : List Int) (n : Int), n ≤ 1099511627776 → l.foldl (fun n i => max n (f i)) n ≤ 1099511627776
  | [], _, h => h
  | a :: l, n, h => most_fold_le f hf l _ (by show max n (f a) ≤ _; have := hf a; omega)
theorem tries_any (k : Int) (W : World) : Calls Tryz.prog 22 #[.int .i64 k] W fun e W' => e = .returned (.bool (triesB k)) ∧ W = W' := by
  have ent : ∀ b, triesB k = b → Calls Tryz.prog 22 #[.int .i64 k] W fun e W' => e = .returned (.bool b) ∧ W = W' := fun b hb => by
    have HB := Lib.hid hb
    clear hb
    by_cases h3 : k = 3
    · subst h3
      obtain rfl : true = b := by rw [← HB.out]; rfl
      go_enter Tryz.func22, Tryz.ntmps22
      go_wp2
      go_ret
      exact ⟨rfl, rfl⟩
    by_cases h4 : k = 4
    · subst h4
      obtain rfl : true = b := by rw [← HB.out]; rfl
      clear h3
      go_enter Tryz.func22, Tryz.ntmps22
      go_wp2
      go_ret
      exact ⟨rfl, rfl⟩
    by_cases h5 : k = 5
    · subst h5
      obtain rfl : true = b := by rw [← HB.out]; rfl
      clear h3 h4
      go_enter Tryz.func22, Tryz.ntmps22
      go_wp2
      go_ret
      exact ⟨rfl, rfl⟩
    obtain rfl : false = b := by rw [← HB.out]; unfold triesB; rw [decide_eq_false]; omega
    have d3 : (k == 3) = false := by simpa using h3
    have d4 : (k == 4) = false := by simpa using h4
    have d5 : (k == 5) = false := by simpa using h5
    go_enter Tryz.func22, Tryz.ntmps22
    go_wp2
    go_ret
    exact ⟨by first | rfl | simp [d3, d4, d5] | simp [h3, h4, h5], rfl⟩
  exact ent _ rfl
theorem ticks_any (ra : Option Addr) (rc : Nat) (rs : List Int) (i : Nat) (W : World) (hr : ReadsN W (.slice ra rs.length rc) rs) (hi : i < rs.length) :
    Calls Tryz.prog 53 #[.slice ra rs.length rc, .int .i64 (i : Int)] W fun e W' => e = .returned (.int .i64 (tickM rs i)) ∧ W = W' := by
  obtain ⟨-, b1, o1, hx1, hc1⟩ := ints_at hr
  obtain ⟨x, hx⟩ : ∃ x, rs[i]? = some x := ⟨_, List.getElem?_eq_getElem hi⟩
  have q0 := hc1 W (Chg.refl _ _) i x hx
  have g1 := hx1 i hi
  have m1 : ¬ (i : Int) < 0 := by omega
  have m2 : ¬ (rs.length : Int) ≤ (i : Int) := by omega
  rw [show tickM rs (i : Int) = x by unfold tickM; rw [if_neg (by omega), Int.toNat_natCast, List.getD_eq_getElem?_getD, hx]; rfl]
  clear hx1 hc1 hr hi hx
  go_enter Tryz.func53, Tryz.ntmps53
  go_wp2
  go_ret
  exact ⟨rfl, rfl⟩
set_option maxHeartbeats 8000000 in
theorem shaped_any (k w s c st : Int) (ia : Option Addr) (il ic : Nat) (wri : Int) (ra : Option Addr) (rl rc : Nat) (hk : 1 ≤ k ∧ k ≤ 6) (h : ObjW k w s c st il rl) (W : World) :
    Calls Tryz.prog 24 #[.agg #[.int .i64 k, .int .i64 w, .int .i64 s, .int .i64 c, .int .u32 st, .slice ia il ic, .int .i64 wri, .slice ra rl rc]] W fun e W' => e = .returned (.bool (rightB k w s c st il rl)) ∧ Chg [] W W' := by
  have HO := Lib.hid h
  have HCC : Hid (Chg [] W (W.alloc (.cells #[.int .i64 k, .int .i64 w, .int .i64 s, .int .i64 c, .int .u32 st, .slice ia il ic, .int .i64 wri, .slice ra rl rc] 46))) := Lib.hid ((Chg.refl _ _).alloc _)
  have hcase : k = 1 ∨ k = 2 ∨ k = 3 ∨ k = 4 ∨ k = 5 ∨ k = 6 := by omega
  clear h hk
  obtain ⟨R, hR⟩ : ∃ R, rightB k w s c st il rl = R := ⟨_, rfl⟩
  have HR := Lib.hid hR
  rw [hR]
  clear hR
  rcases hcase with rfl | hcase
  · have HS : Hid (∀ V, Calls Tryz.prog 55 #[.agg #[.int .i64 1, .int .i64 w, .int .i64 s, .int .i64 c, .int .u32 st, .slice ia il ic, .int .i64 wri, .slice ra rl rc]] V fun e W' => e = .returned (.bool R) ∧ Chg [] V W') := Lib.hid (fun V => by have := fourRight_any 1 w s c st ia il ic wri ra rl rc HO.out V; rwa [show (decide ((1 : Int) = 1) && rightB 1 w s c st il rl) = R by rw [HR.out]; rfl] at this)
    go_enter Tryz.func24, Tryz.ntmps24
    go_wp2_with (go_at_call 55; refine (HS.out _).mono ?_; rintro e w1 ⟨rfl, hc⟩; have HC := Lib.hid (HCC.out.trans hc); clear hc)
    go_ret
    exact ⟨rfl, HC.out⟩
  rcases hcase with rfl | hcase
  · have HS : Hid (∀ V, Calls Tryz.prog 56 #[.agg #[.int .i64 2, .int .i64 w, .int .i64 s, .int .i64 c, .int .u32 st, .slice ia il ic, .int .i64 wri, .slice ra rl rc]] V fun e W' => e = .returned (.bool R) ∧ Chg [] V W') := Lib.hid (fun V => by have := chenRight_any 2 w s c st ia il ic wri ra rl rc HO.out V; rwa [show (decide ((2 : Int) = 2) && rightB 2 w s c st il rl) = R by rw [HR.out]; rfl] at this)
    go_enter Tryz.func24, Tryz.ntmps24
    go_wp2_with (go_at_call 56; refine (HS.out _).mono ?_; rintro e w1 ⟨rfl, hc⟩; have HC := Lib.hid (HCC.out.trans hc); clear hc)
    go_ret
    exact ⟨rfl, HC.out⟩
  rcases hcase with rfl | hcase
  · have HS : Hid (∀ V, Calls Tryz.prog 57 #[.agg #[.int .i64 3, .int .i64 w, .int .i64 s, .int .i64 c, .int .u32 st, .slice ia il ic, .int .i64 wri, .slice ra rl rc]] V fun e W' => e = .returned (.bool R) ∧ Chg [] V W') := Lib.hid (fun V => by have := seqRight_any 3 w s c st ia il ic wri ra rl rc HO.out V; rwa [show (decide ((3 : Int) = 3) && rightB 3 w s c st il rl) = R by rw [HR.out]; rfl] at this)
    go_enter Tryz.func24, Tryz.ntmps24
    go_wp2_with (go_at_call 57; refine (HS.out _).mono ?_; rintro e w1 ⟨rfl, hc⟩; have HC := Lib.hid (HCC.out.trans hc); clear hc)
    go_ret
    exact ⟨rfl, HC.out⟩
  rcases hcase with rfl | hcase
  · have HS : Hid (∀ V, Calls Tryz.prog 58 #[.agg #[.int .i64 4, .int .i64 w, .int .i64 s, .int .i64 c, .int .u32 st, .slice ia il ic, .int .i64 wri, .slice ra rl rc]] V fun e W' => e = .returned (.bool R) ∧ Chg [] V W') := Lib.hid (fun V => by have := ringRight_any 4 w s c st ia il ic wri ra rl rc HO.out V; rwa [show (decide ((4 : Int) = 4) && rightB 4 w s c st il rl) = R by rw [HR.out]; rfl] at this)
    go_enter Tryz.func24, Tryz.ntmps24
    go_wp2_with (go_at_call 58; refine (HS.out _).mono ?_; rintro e w1 ⟨rfl, hc⟩; have HC := Lib.hid (HCC.out.trans hc); clear hc)
    go_ret
    exact ⟨rfl, HC.out⟩
  rcases hcase with rfl | hcase
  · have HS : Hid (∀ V, Calls Tryz.prog 59 #[.agg #[.int .i64 5, .int .i64 w, .int .i64 s, .int .i64 c, .int .u32 st, .slice ia il ic, .int .i64 wri, .slice ra rl rc]] V fun e W' => e = .returned (.bool R) ∧ Chg [] V W') := Lib.hid (fun V => by have := cabRight_any 5 w s c st ia il ic wri ra rl rc HO.out V; rwa [show (decide ((5 : Int) = 5) && rightB 5 w s c st il rl) = R by rw [HR.out]; rfl] at this)
    go_enter Tryz.func24, Tryz.ntmps24
    go_wp2_with (go_at_call 59; refine (HS.out _).mono ?_; rintro e w1 ⟨rfl, hc⟩; have HC := Lib.hid (HCC.out.trans hc); clear hc)
    go_ret
    exact ⟨rfl, HC.out⟩
  subst hcase
  have HS : Hid (∀ V, Calls Tryz.prog 60 #[.agg #[.int .i64 6, .int .i64 w, .int .i64 s, .int .i64 c, .int .u32 st, .slice ia il ic, .int .i64 wri, .slice ra rl rc]] V fun e W' => e = .returned (.bool R) ∧ Chg [] V W') := Lib.hid (fun V => by have := fifoRight_any 6 w s c st ia il ic wri ra rl rc HO.out V; rwa [show (decide ((6 : Int) = 6) && rightB 6 w s c st il rl) = R by rw [HR.out]; rfl] at this)
  go_enter Tryz.func24, Tryz.ntmps24
  go_wp2_with (go_at_call 60; refine (HS.out _).mono ?_; rintro e w1 ⟨rfl, hc⟩; have HC := Lib.hid (HCC.out.trans hc); clear hc)
  go_ret
  exact ⟨rfl, HC.out⟩
set_option maxHeartbeats 4000000 in
theorem mostS_any (k w s c st : Int) (ia : Option Addr) (il ic : Nat) (wri : Int) (ra : Option Addr) (rc : Nat) (rds : List Int) (p0 p1 p2 : Value) (f : Int → Int) (W : World) (hr : ReadsN W (.slice ra rds.length rc) rds) (hl : rds.length ≤ 1000)
    (hf : ∀ x ∈ rds, ∀ V, Chg [] W V → Calls Tryz.prog 51 #[.int .i64 x, p0, p1, p2] V fun e V' => e = .returned (.int .i64 (f x)) ∧ Chg [] V V') :
    Calls Tryz.prog 50 #[.agg #[.int .i64 k, .int .i64 w, .int .i64 s, .int .i64 c, .int .u32 st, .slice ia il ic, .int .i64 wri, .slice ra rds.length rc], (.func (.func 51) #[] #[p0, p1, p2])] W fun e W' => e = .returned (.int .i64 (rds.foldl (fun n i => max n (f i)) 0)) ∧ Chg [] W W' := by
  obtain ⟨-, b1, o1, hx1, hc1⟩ := ints_at hr
  have HX := Lib.hid hx1
  have HQ := Lib.hid hc1
  have HF := Lib.hid hf
  have HL := Lib.hid hl
  have HC1 : Hid (Chg [] W (W.alloc (.cells #[.int .i64 k, .int .i64 w, .int .i64 s, .int .i64 c, .int .u32 st, .slice ia il ic, .int .i64 wri, .slice ra rds.length rc] 46))) := Lib.hid ((Chg.refl _ _).alloc _)
  obtain ⟨R, hR⟩ : ∃ R, rds.foldl (fun n i => max n (f i)) 0 = R := ⟨_, rfl⟩
  have HR := Lib.hid hR
  rw [hR]
  obtain ⟨G, hG⟩ : ∃ G : Nat → Int, (fun m => (rds.take m).foldl (fun n i => max n (f i)) 0) = G := ⟨_, rfl⟩
  have HG0 : Hid (G 0 = 0) := Lib.hid (by rw [← hG]; rfl)
  have HGE : Hid (G rds.length = R) := Lib.hid (by rw [← hG, ← hR]; simp only [List.take_length])
  have HGS : Hid (∀ m x, rds[m]? = some x → G (m + 1) = max (G m) (f x)) := Lib.hid (fun m x hx => by rw [← hG]; simp only; rw [take_snoc hx, List.foldl_append]; rfl)
  clear hx1 hc1 hf hl hr hR hG HR
  go_enter Tryz.func50, Tryz.ntmps50
  go_wp2_with fail
  go_loopw [5, 11] (fun o q wr => ∃ (m : Nat), m ≤ rds.length ∧ q = .int .i64 (m : Int) ∧ o = .int .i64 (G m) ∧ Hid (Chg [] W wr)) (fun _ q _ => rds.length - (intOf q).toNat)
  case atStart => exact ⟨0, Nat.zero_le _, rfl, by rw [HG0.out], HC1⟩
  case round =>
    obtain ⟨m, hm, rfl, rfl, HJ⟩ := hrel
    by_cases hlm : m < rds.length
    · have HLM := Lib.hid hlm
      have mm : (m : Int) < (rds.length : Int) := by omega
      have g3 := HX.out m hlm
      obtain ⟨x, hx⟩ : ∃ x, rds[m]? = some x := ⟨_, List.getElem?_eq_getElem hlm⟩
      have q0 := HQ.out wr HJ.out m x hx
      have hS := HGS.out m x hx
      have HFX := Lib.hid (HF.out x (List.mem_of_getElem? hx))
      have k9 : IntKind.i64.wrap ((m : Int) + 1) = (m : Int) + 1 := by rw [IntKind.wrap_i64]; have := HL.out; omega
      obtain ⟨y, hy⟩ : ∃ y, f x = y := ⟨_, rfl⟩
      rw [hy] at hS HFX
      have HS := Lib.hid hS
      clear hx hS hy hlm hm
      go_wp2_with (go_at_call 51; refine (HFX.out _ HJ.out).mono ?_; rintro e w4 ⟨rfl, hc4⟩; have HC4 := Lib.hid (HJ.out.trans hc4); clear hc4)
      have hlt := HLM.out
      go_roundw
      case rel => exact ⟨m + 1, by omega, by go_num, by rw [HS.out]; refine congrArg _ ?_; split <;> omega, HC4⟩
      case measure => (simp [intOf]) <;> omega
    · obtain rfl : rds.length = m := by omega
      clear hlm hm
      rw [HGE.out]
      go_wp2
      go_ret
      exact ⟨rfl, HJ.out⟩
set_option maxHeartbeats 4000000 in
theorem mostC_any (k w s c st : Int) (ia : Option Addr) (il ic : Nat) (wri : Int) (ra : Option Addr) (rc : Nat) (rds : List Int) (p0 p1 p2 : Value) (f : Int → Int) (W : World) (hr : ReadsN W (.slice ra rds.length rc) rds) (hl : rds.length ≤ 1000)
    (hf : ∀ x ∈ rds, ∀ V, Chg [] W V → Calls Tryz.prog 54 #[.int .i64 x, p0, p1, p2] V fun e V' => e = .returned (.int .i64 (f x)) ∧ Chg [] V V') :
    Calls Tryz.prog 50 #[.agg #[.int .i64 k, .int .i64 w, .int .i64 s, .int .i64 c, .int .u32 st, .slice ia il ic, .int .i64 wri, .slice ra rds.length rc], (.func (.func 54) #[] #[p0, p1, p2])] W fun e W' => e = .returned (.int .i64 (rds.foldl (fun n i => max n (f i)) 0)) ∧ Chg [] W W' := by
  obtain ⟨-, b1, o1, hx1, hc1⟩ := ints_at hr
  have HX := Lib.hid hx1
  have HQ := Lib.hid hc1
  have HF := Lib.hid hf
  have HL := Lib.hid hl
  have HC1 : Hid (Chg [] W (W.alloc (.cells #[.int .i64 k, .int .i64 w, .int .i64 s, .int .i64 c, .int .u32 st, .slice ia il ic, .int .i64 wri, .slice ra rds.length rc] 46))) := Lib.hid ((Chg.refl _ _).alloc _)
  obtain ⟨R, hR⟩ : ∃ R, rds.foldl (fun n i => max n (f i)) 0 = R := ⟨_, rfl⟩
  have HR := Lib.hid hR
  rw [hR]
  obtain ⟨G, hG⟩ : ∃ G : Nat → Int, (fun m => (rds.take m).foldl (fun n i => max n (f i)) 0) = G := ⟨_, rfl⟩
  have HG0 : Hid (G 0 = 0) := Lib.hid (by rw [← hG]; rfl)
  have HGE : Hid (G rds.length = R) := Lib.hid (by rw [← hG, ← hR]; simp only [List.take_length])
  have HGS : Hid (∀ m x, rds[m]? = some x → G (m + 1) = max (G m) (f x)) := Lib.hid (fun m x hx => by rw [← hG]; simp only; rw [take_snoc hx, List.foldl_append]; rfl)
  clear hx1 hc1 hf hl hr hR hG HR
  go_enter Tryz.func50, Tryz.ntmps50
  go_wp2_with fail
  go_loopw [5, 11] (fun o q wr => ∃ (m : Nat), m ≤ rds.length ∧ q = .int .i64 (m : Int) ∧ o = .int .i64 (G m) ∧ Hid (Chg [] W wr)) (fun _ q _ => rds.length - (intOf q).toNat)
  case atStart => exact ⟨0, Nat.zero_le _, rfl, by rw [HG0.out], HC1⟩
  case round =>
    obtain ⟨m, hm, rfl, rfl, HJ⟩ := hrel
    by_cases hlm : m < rds.length
    · have HLM := Lib.hid hlm
      have mm : (m : Int) < (rds.length : Int) := by omega
      have g3 := HX.out m hlm
      obtain ⟨x, hx⟩ : ∃ x, rds[m]? = some x := ⟨_, List.getElem?_eq_getElem hlm⟩
      have q0 := HQ.out wr HJ.out m x hx
      have hS := HGS.out m x hx
      have HFX := Lib.hid (HF.out x (List.mem_of_getElem? hx))
      have k9 : IntKind.i64.wrap ((m : Int) + 1) = (m : Int) + 1 := by rw [IntKind.wrap_i64]; have := HL.out; omega
      obtain ⟨y, hy⟩ : ∃ y, f x = y := ⟨_, rfl⟩
      rw [hy] at hS HFX
      have HS := Lib.hid hS
      clear hx hS hy hlm hm
      go_wp2_with (go_at_call 54; refine (HFX.out _ HJ.out).mono ?_; rintro e w4 ⟨rfl, hc4⟩; have HC4 := Lib.hid (HJ.out.trans hc4); clear hc4)
      have hlt := HLM.out
      go_roundw
      case rel => exact ⟨m + 1, by omega, by go_num, by rw [HS.out]; refine congrArg _ ?_; split <;> omega, HC4⟩
      case measure => (simp [intOf]) <;> omega
    · obtain rfl : rds.length = m := by omega
      clear hlm hm
      rw [HGE.out]
      go_wp2
      go_ret
      exact ⟨rfl, HJ.out⟩
set_option maxHeartbeats 4000000 in
theorem slots1_any (ta : Option Addr) (tc : Nat) (oa : Option Addr) (oc : Nat) (ts : List DT) (os : List DO) (i kk : Nat) (ra : Option Addr) (rc : Nat) (rs : List Int) (b0 b1 b2 : Nat) (W : World) (h : SysOK W ta tc oa oc ts os) (hi : i < ts.length) (hk : kk < os.length) (hr : ReadsN W (.slice ra rs.length rc) rs) (hrl : rs.length = ts.length) (hrb : ∀ x ∈ rs, x ≤ 9223372036854775807)
    (h0 : W.cell? ⟨b0, 0, none⟩ = some (.slice ta ts.length tc) ∧ W.cell? ⟨b0, 1, none⟩ = some (.slice oa os.length oc)) (h1 : W.cell? ⟨b1, 0, none⟩ = some (.int .i64 (kk : Int))) (h2 : W.cell? ⟨b2, 0, none⟩ = some (.slice ra rs.length rc)) :
    Calls Tryz.prog 51 #[.int .i64 (i : Int), .pointer (some ⟨b0, 0, none⟩), .pointer (some ⟨b1, 0, none⟩), .pointer (some ⟨b2, 0, none⟩)] W fun e W' => e = .returned (.int .i64 (wrM (sys ts os) i kk (tickM rs i))) ∧ Chg [] W W' := by
  have HTK := Lib.hid (fun V (hV : Chg [] W V) => ticks_any ra rc rs i V (hr.chg hV) (by omega))
  have htb : tickM rs (i : Int) ≤ 9223372036854775807 := by
    unfold tickM
    rw [if_neg (by omega), Int.toNat_natCast, List.getD_eq_getElem?_getD, List.getElem?_eq_getElem (by omega)]
    exact hrb _ (List.getElem_mem _)
  obtain ⟨r, hrr⟩ : ∃ r, tickM rs (i : Int) = r := ⟨_, rfl⟩
  rw [hrr] at HTK htb ⊢
  have HWR := Lib.hid (fun V (hV : Chg [] W V) => iwrites_any ta tc oa oc ts os i kk r V (h.chg hV) hi hk htb)
  obtain ⟨R, hR⟩ : ∃ R, wrM (sys ts os) i kk r = R := ⟨_, rfl⟩
  rw [hR] at HWR ⊢
  have KEEP : Hid (∀ V, Chg [] W V → (fun V : World => (V.cell? ⟨b0, 0, none⟩ = some (.slice ta ts.length tc) ∧ V.cell? ⟨b0, 1, none⟩ = some (.slice oa os.length oc)) ∧ V.cell? ⟨b1, 0, none⟩ = some (.int .i64 (kk : Int)) ∧ V.cell? ⟨b2, 0, none⟩ = some (.slice ra rs.length rc) ∧ Hid (Chg [] W V)) V) := Lib.hid (fun V hV => ⟨⟨hV.keep h0.1 (by simp), hV.keep h0.2 (by simp)⟩, hV.keep h1 (by simp), hV.keep h2 (by simp), Lib.hid hV⟩)
  clear h hi hk hr hrl hrb h0 h1 h2 hrr htb hR
  go_enter Tryz.func51, Tryz.ntmps51
  go_upto_region 1 with fail
  have hHeld : (fun V : World => (V.cell? ⟨b0, 0, none⟩ = some (.slice ta ts.length tc) ∧ V.cell? ⟨b0, 1, none⟩ = some (.slice oa os.length oc)) ∧ V.cell? ⟨b1, 0, none⟩ = some (.int .i64 (kk : Int)) ∧ V.cell? ⟨b2, 0, none⟩ = some (.slice ra rs.length rc) ∧ Hid (Chg [] W V)) (World.drew W) := KEEP.out _ (Chg.refl _ _).drew
  refine wp_region_plan (fun V : World => (V.cell? ⟨b0, 0, none⟩ = some (.slice ta ts.length tc) ∧ V.cell? ⟨b0, 1, none⟩ = some (.slice oa os.length oc)) ∧ V.cell? ⟨b1, 0, none⟩ = some (.int .i64 (kk : Int)) ∧ V.cell? ⟨b2, 0, none⟩ = some (.slice ra rs.length rc) ∧ Hid (Chg [] W V)) [(0, true, some 6), (1, true, some 7), (2, true, some 8), (3, true, some 9), (4, true, some 10), (5, false, some 11), (6, false, some 12), (7, true, some 5)] (by kernel_rfl) (by kernel_rfl) (by kernel_rfl) (by kernel_rfl) (fun d c a v w h => by cases d <;> exact h) hHeld ?_
  repeat (first
    | (refine planWp_read (v := ?_) rfl rfl ?_ ?_ ?_; rotate_left; (focus rfl); (focus (intro u hSw; (try dsimp only at hSw); obtain ⟨⟨u0, u1⟩, u2, u3, -⟩ := hSw; go_simp; (try with_reducible rfl))); (try simp only [Act.put, List.setIfInBounds_toArray, List.set_cons_zero, List.set_cons_succ]))
    | (refine planWp_skip rfl rfl ?_ ?_; (focus rfl); (try simp only [Act.put, List.setIfInBounds_toArray, List.set_cons_zero, List.set_cons_succ]))
    | (refine planWp_leave rfl rfl ?_ hHeld ?_; (focus rfl); (try simp only [Act.put, List.setIfInBounds_toArray, List.set_cons_zero, List.set_cons_succ]))
    | (refine planWp_do rfl rfl ?_ (fun K hK => ?_); (focus rfl); go_simp; (try go_wp2_with (first | (go_at_call 53; refine (HTK.out _ hHeld.2.2.2.out).mono ?_; rintro e w5 ⟨rfl, rfl⟩) | (go_at_call 52; refine (HWR.out _ hHeld.2.2.2.out).mono ?_; rintro e w6 ⟨rfl, hc6⟩; have HCX := Lib.hid hc6; clear hc6))); refine hK.out _ _ ?_ (fun hHeld2 => ?_); (focus first | exact KEEP.out _ (hHeld.2.2.2.out.trans HCX.out) | exact hHeld); clear hK K hHeld; have hHeld := hHeld2; clear hHeld2; (try simp only [Act.put, List.setIfInBounds_toArray, List.set_cons_zero, List.set_cons_succ])))
  refine planWp_nil ?_
  obtain ⟨-, -, -, hcz⟩ := hHeld
  clear KEEP
  go_wp2
  go_ret
  exact ⟨rfl, hcz.out⟩
set_option maxHeartbeats 4000000 in
theorem caps1_any (ta : Option Addr) (tc : Nat) (oa : Option Addr) (oc : Nat) (ts : List DT) (os : List DO) (i kk : Nat) (ra : Option Addr) (rc : Nat) (rs : List Int) (b0 b1 b2 : Nat) (W : World) (h : SysOK W ta tc oa oc ts os) (hi : i < ts.length) (hk : kk < os.length) (hr : ReadsN W (.slice ra rs.length rc) rs) (hrl : rs.length = ts.length) (hrb : ∀ x ∈ rs, x ≤ 9223372036854775807)
    (h0 : W.cell? ⟨b0, 0, none⟩ = some (.slice ta ts.length tc) ∧ W.cell? ⟨b0, 1, none⟩ = some (.slice oa os.length oc)) (h1 : W.cell? ⟨b1, 0, none⟩ = some (.int .i64 (kk : Int))) (h2 : W.cell? ⟨b2, 0, none⟩ = some (.slice ra rs.length rc)) :
    Calls Tryz.prog 54 #[.int .i64 (i : Int), .pointer (some ⟨b0, 0, none⟩), .pointer (some ⟨b1, 0, none⟩), .pointer (some ⟨b2, 0, none⟩)] W fun e W' => e = .returned (.int .i64 (failsM (sys ts os) i kk (tickM rs i))) ∧ Chg [] W W' := by
  have HTK := Lib.hid (fun V (hV : Chg [] W V) => ticks_any ra rc rs i V (hr.chg hV) (by omega))
  have htb : tickM rs (i : Int) ≤ 9223372036854775807 := by
    unfold tickM
    rw [if_neg (by omega), Int.toNat_natCast, List.getD_eq_getElem?_getD, List.getElem?_eq_getElem (by omega)]
    exact hrb _ (List.getElem_mem _)
  obtain ⟨r, hrr⟩ : ∃ r, tickM rs (i : Int) = r := ⟨_, rfl⟩
  rw [hrr] at HTK htb ⊢
  have HWR := Lib.hid (fun V (hV : Chg [] W V) => ifails_any ta tc oa oc ts os i kk r V (h.chg hV) hi hk htb)
  obtain ⟨R, hR⟩ : ∃ R, failsM (sys ts os) i kk r = R := ⟨_, rfl⟩
  rw [hR] at HWR ⊢
  have KEEP : Hid (∀ V, Chg [] W V → (fun V : World => (V.cell? ⟨b0, 0, none⟩ = some (.slice ta ts.length tc) ∧ V.cell? ⟨b0, 1, none⟩ = some (.slice oa os.length oc)) ∧ V.cell? ⟨b1, 0, none⟩ = some (.int .i64 (kk : Int)) ∧ V.cell? ⟨b2, 0, none⟩ = some (.slice ra rs.length rc) ∧ Hid (Chg [] W V)) V) := Lib.hid (fun V hV => ⟨⟨hV.keep h0.1 (by simp), hV.keep h0.2 (by simp)⟩, hV.keep h1 (by simp), hV.keep h2 (by simp), Lib.hid hV⟩)
  clear h hi hk hr hrl hrb h0 h1 h2 hrr htb hR
  go_enter Tryz.func54, Tryz.ntmps54
  go_upto_region 1 with fail
  have hHeld : (fun V : World => (V.cell? ⟨b0, 0, none⟩ = some (.slice ta ts.length tc) ∧ V.cell? ⟨b0, 1, none⟩ = some (.slice oa os.length oc)) ∧ V.cell? ⟨b1, 0, none⟩ = some (.int .i64 (kk : Int)) ∧ V.cell? ⟨b2, 0, none⟩ = some (.slice ra rs.length rc) ∧ Hid (Chg [] W V)) (World.drew W) := KEEP.out _ (Chg.refl _ _).drew
  refine wp_region_plan (fun V : World => (V.cell? ⟨b0, 0, none⟩ = some (.slice ta ts.length tc) ∧ V.cell? ⟨b0, 1, none⟩ = some (.slice oa os.length oc)) ∧ V.cell? ⟨b1, 0, none⟩ = some (.int .i64 (kk : Int)) ∧ V.cell? ⟨b2, 0, none⟩ = some (.slice ra rs.length rc) ∧ Hid (Chg [] W V)) [(0, true, some 6), (1, true, some 7), (2, true, some 8), (3, true, some 9), (4, true, some 10), (5, false, some 11), (6, false, some 12), (7, true, some 5)] (by kernel_rfl) (by kernel_rfl) (by kernel_rfl) (by kernel_rfl) (fun d c a v w h => by cases d <;> exact h) hHeld ?_
  repeat (first
    | (refine planWp_read (v := ?_) rfl rfl ?_ ?_ ?_; rotate_left; (focus rfl); (focus (intro u hSw; (try dsimp only at hSw); obtain ⟨⟨u0, u1⟩, u2, u3, -⟩ := hSw; go_simp; (try with_reducible rfl))); (try simp only [Act.put, List.setIfInBounds_toArray, List.set_cons_zero, List.set_cons_succ]))
    | (refine planWp_skip rfl rfl ?_ ?_; (focus rfl); (try simp only [Act.put, List.setIfInBounds_toArray, List.set_cons_zero, List.set_cons_succ]))
    | (refine planWp_leave rfl rfl ?_ hHeld ?_; (focus rfl); (try simp only [Act.put, List.setIfInBounds_toArray, List.set_cons_zero, List.set_cons_succ]))
    | (refine planWp_do rfl rfl ?_ (fun K hK => ?_); (focus rfl); go_simp; (try go_wp2_with (first | (go_at_call 53; refine (HTK.out _ hHeld.2.2.2.out).mono ?_; rintro e w5 ⟨rfl, rfl⟩) | (go_at_call 45; refine (HWR.out _ hHeld.2.2.2.out).mono ?_; rintro e w6 ⟨rfl, hc6⟩; have HCX := Lib.hid hc6; clear hc6))); refine hK.out _ _ ?_ (fun hHeld2 => ?_); (focus first | exact KEEP.out _ (hHeld.2.2.2.out.trans HCX.out) | exact hHeld); clear hK K hHeld; have hHeld := hHeld2; clear hHeld2; (try simp only [Act.put, List.setIfInBounds_toArray, List.set_cons_zero, List.set_cons_succ])))
  refine planWp_nil ?_
  obtain ⟨-, -, -, hcz⟩ := hHeld
  clear KEEP
  go_wp2
  go_ret
  exact ⟨rfl, hcz.out⟩
end Go.Proofs.YtkedegbpkkgeaaaGreat.tf
/- TopFits: size: Slots, Caps. -/
namespace Go.Proofs.YtkedegbpkkgeaaaGreat.tf
open Go Go.RowKit Go.Proofs.YtkedegbpkkgeaaaGreat.kit Go.Proofs.YtkedegbpkkgeaaaGreat.obj Go.Proofs.YtkedegbpkkgeaaaGreat.mem Go.Proofs.YtkedegbpkkgeaaaGreat.lay Go.Proofs.YtkedegbpkkgeaaaGreat.isa
set_option linter.unusedVariables false
set_option linter.unusedSimpArgs false
set_option maxRecDepth 20000

open Go.Proofs.YtkedegbpkkgeaaaGreat.word
theorem resp_le {s : S} (hd : ∀ t ∈ s.ts, 0 ≤ t.deadline ∧ t.deadline ≤ 1048576) (i : Int) (cs : List Int) : (respM s i cs).1 ≤ 1048576 := by
  unfold respM
  split
  · rename_i hb
    have h := hd _ (t_mem hb)
    exact Int.le_trans (goR_bd _ _ h.1 _ _) h.2
  · exact (by decide : (0 : Int) ≤ 1048576)
theorem all_bd {s : S} (hd : ∀ t ∈ s.ts, 0 ≤ t.deadline ∧ t.deadline ≤ 1048576) (ranks : List Int) : ∀ m, ∀ x ∈ (allM s ranks m).rs, x ≤ 1048576
  | 0, x, hx => by
    unfold allM rt0 at hx
    rw [(List.mem_replicate.1 hx).2]
    decide
  | m + 1, x, hx => by
    have ih := all_bd hd ranks m
    unfold allM rtStep at hx
    split at hx
    · exact ih x hx
    · simp only at hx
      split at hx
      · cases hx
      · rcases List.mem_or_eq_of_mem_set hx with h | h
        · exact ih x h
        · rw [h]; exact resp_le hd _ _
theorem fine_dl {s : S} (h : FineS s) : ∀ t ∈ s.ts, 0 ≤ t.deadline ∧ t.deadline ≤ 1048576 := fun t ht => by
  have := h.nums t ht
  omega
set_option maxHeartbeats 8000000 in
theorem slots_any (ta : Option Addr) (tc : Nat) (oa : Option Addr) (oc : Nat) (ts : List DT) (os : List DO) (kk : Nat) (ra : Option Addr) (rc : Nat) (rs : List Int) (W : World) (h : SysOK W ta tc oa oc ts os) (hr : ReadsN W (.slice ra rs.length rc) rs) (hrl : rs.length = ts.length) (hrb : ∀ x ∈ rs, x ≤ 9223372036854775807) (d : DO) (hd : os[kk]? = some d) (hkd : d.o.k = 4) :
    Calls Tryz.prog 21 #[.agg #[.slice ta ts.length tc, .slice oa os.length oc], .int .i64 (kk : Int), .slice ra rs.length rc] W fun e W' => e = .returned (.int .i64 (slotsM (sys ts os) kk rs)) ∧ Chg [] W W' := by
  have hk : kk < os.length := (List.getElem?_eq_some_iff.1 hd).1
  obtain ⟨-, b4, o4, hx4, hc4⟩ := objs_at h.O
  have g1 := hx4 kk hk
  have hdR := h.O.2 d (List.mem_of_getElem? hd)
  have hlr := hdR.lenr
  have hr1 := h.rds d (List.mem_of_getElem? hd)
  have hwho := (h.fine.who d.p (List.mem_map.2 ⟨d, List.mem_of_getElem? hd, rfl⟩)).2
  have HQ : Hid (∀ V, Chg [] W V → OC V b4 (o4 + kk * 8) d.o) := Lib.hid (fun V hV => hc4 V hV kk d hd)
  have HC3 : Hid (Chg [] W (((W.alloc (.cells #[.slice ta ts.length tc, .slice oa os.length oc] 25)).alloc (.cells #[.int .i64 (kk : Int)] 3)).alloc (.cells #[.slice ra rs.length rc] 33))) := Lib.hid ((((Chg.refl [] W).alloc _).alloc _).alloc _)
  have HB0 : Hid (Blk (((W.alloc (.cells #[.slice ta ts.length tc, .slice oa os.length oc] 25)).alloc (.cells #[.int .i64 (kk : Int)] 3)).alloc (.cells #[.slice ra rs.length rc] 33)) W.heap.size #[.slice ta ts.length tc, .slice oa os.length oc] 25) := Lib.hid (((Blk.new W _ _).alloc _).alloc _)
  have HB1 : Hid (Blk (((W.alloc (.cells #[.slice ta ts.length tc, .slice oa os.length oc] 25)).alloc (.cells #[.int .i64 (kk : Int)] 3)).alloc (.cells #[.slice ra rs.length rc] 33)) (W.heap.size + 1) #[.int .i64 (kk : Int)] 3) := Lib.hid (by
    have := (Blk.new (W.alloc (.cells #[.slice ta ts.length tc, .slice oa os.length oc] 25)) #[.int .i64 (kk : Int)] 3).alloc (.cells #[.slice ra rs.length rc] 33)
    rwa [show (W.alloc (.cells #[.slice ta ts.length tc, .slice oa os.length oc] 25)).heap.size = W.heap.size + 1 by simp] at this)
  have HB2 : Hid (Blk (((W.alloc (.cells #[.slice ta ts.length tc, .slice oa os.length oc] 25)).alloc (.cells #[.int .i64 (kk : Int)] 3)).alloc (.cells #[.slice ra rs.length rc] 33)) (W.heap.size + 1 + 1) #[.slice ra rs.length rc] 33) := Lib.hid (by
    have := Blk.new ((W.alloc (.cells #[.slice ta ts.length tc, .slice oa os.length oc] 25)).alloc (.cells #[.int .i64 (kk : Int)] 3)) #[.slice ra rs.length rc] 33
    rwa [show ((W.alloc (.cells #[.slice ta ts.length tc, .slice oa os.length oc] 25)).alloc (.cells #[.int .i64 (kk : Int)] 3)).heap.size = W.heap.size + 1 + 1 by simp] at this)
  obtain ⟨R, hR⟩ : ∃ R, slotsM (sys ts os) kk rs = R := ⟨_, rfl⟩
  rw [hR]
  unfold slotsM mostR at hR
  rw [sys_o ts hd] at hR
  have hMO := fun V (hV : Chg [] (((W.alloc (.cells #[.slice ta ts.length tc, .slice oa os.length oc] 25)).alloc (.cells #[.int .i64 (kk : Int)] 3)).alloc (.cells #[.slice ra rs.length rc] 33)) V) => mostS_any d.o.k d.o.w d.o.s d.o.c d.o.st d.o.ia d.o.il d.o.ic d.o.wr d.o.ra d.o.rc d.rds (.pointer (some ⟨W.heap.size, 0, none⟩)) (.pointer (some ⟨W.heap.size + 1, 0, none⟩)) (.pointer (some ⟨W.heap.size + 1 + 1, 0, none⟩)) (fun i => wrM (sys ts os) i kk (tickM rs i)) V (by have hh := hdR.2.chg (HC3.out.trans hV); rwa [hlr] at hh) hr1 (fun x hx V2 hV2 => by
    have hxb := hwho x (List.mem_cons_of_mem _ hx)
    simp only [sys, List.length_map] at hxb
    obtain ⟨i, rfl⟩ := Int.eq_ofNat_of_zero_le hxb.1
    have hV3 := hV.trans hV2
    exact slots1_any ta tc oa oc ts os i kk ra rc rs W.heap.size (W.heap.size + 1) (W.heap.size + 1 + 1) V2 (h.chg (HC3.out.trans hV3)) (by omega) hk (hr.chg (HC3.out.trans hV3)) hrl hrb ⟨(HB0.out.keep hV3 (by simp)).cell rfl, (HB0.out.keep hV3 (by simp)).cell rfl⟩ ((HB1.out.keep hV3 (by simp)).cell rfl) ((HB2.out.keep hV3 (by simp)).cell rfl))
  obtain ⟨y, hy⟩ : ∃ y, d.rds.foldl (fun n i => max n (wrM (sys ts os) i kk (tickM rs i))) 0 = y := ⟨_, rfl⟩
  have hy1 : y ≤ 1099511627776 := by rw [← hy]; exact most_fold_le (fun i => wrM (sys ts os) i kk (tickM rs i)) (fun i => wrM_le _ _ _ _) _ _ (by decide)
  have hy0 : 0 ≤ y := by rw [← hy]; exact (most_ge (fun i => wrM (sys ts os) i kk (tickM rs i)) d.rds 0).1
  rw [hy] at hMO
  replace hR : 2 + y = R := by rw [← hR, ← hy]; rfl
  rw [← hlr] at hMO
  have HMO := Lib.hid hMO
  have kR : IntKind.i64.wrap (2 + y) = R := by rw [IntKind.wrap_i64]; omega
  have n1 : ¬ (kk : Int) < 0 := by omega
  have n2 : ¬ (os.length : Int) ≤ (kk : Int) := by omega
  obtain ⟨⟨k, w, s, c, st, ia, il, ic, wri, xa, xl, xc⟩, ini, rds⟩ := d
  simp only at hkd HMO
  obtain ⟨⟨q0, q1, q2, q3⟩, q4, q5, q6, q7⟩ := HQ.out _ HC3.out
  simp only at q0 q1 q2 q3 q4 q5 q6 q7
  have hmf : ∀ (fn : Fn) (first cap : Array Value) (w : World), (Instr.makeFunc fn first cap).run Tryz.prog w = .ok (.func fn first cap) w := fun _ _ _ _ => rfl
  subst hkd
  clear h hr hrl hrb hd hk hx4 hc4 hdR hlr hr1 hwho hR hy hy0 hy1 hMO
  go_enter Tryz.func21, Tryz.ntmps21
  go_wp2_with (first
    | (go_at_call 50; refine (HMO.out _ (Chg.refl _ _)).mono ?_; rintro e w5 ⟨rfl, hc5⟩; have HC5 := Lib.hid (HC3.out.trans hc5); clear hc5))
  go_ret
  exact ⟨by first | rfl | (exact ret_int kR), HC5.out⟩
set_option maxHeartbeats 8000000 in
theorem caps_any (ta : Option Addr) (tc : Nat) (oa : Option Addr) (oc : Nat) (ts : List DT) (os : List DO) (kk : Nat) (ra : Option Addr) (rc : Nat) (rs : List Int) (W : World) (h : SysOK W ta tc oa oc ts os) (hr : ReadsN W (.slice ra rs.length rc) rs) (hrl : rs.length = ts.length) (hrb : ∀ x ∈ rs, x ≤ 9223372036854775807) (d : DO) (hd : os[kk]? = some d) (hkd : triesB d.o.k = true) :
    Calls Tryz.prog 23 #[.agg #[.slice ta ts.length tc, .slice oa os.length oc], .int .i64 (kk : Int), .slice ra rs.length rc] W fun e W' => e = .returned (.int .i64 (capsM (sys ts os) kk rs)) ∧ Chg [] W W' := by
  have hk : kk < os.length := (List.getElem?_eq_some_iff.1 hd).1
  obtain ⟨-, b4, o4, hx4, hc4⟩ := objs_at h.O
  have g1 := hx4 kk hk
  have hdR := h.O.2 d (List.mem_of_getElem? hd)
  have hlr := hdR.lenr
  have hr1 := h.rds d (List.mem_of_getElem? hd)
  have hwho := (h.fine.who d.p (List.mem_map.2 ⟨d, List.mem_of_getElem? hd, rfl⟩)).2
  have HQ : Hid (∀ V, Chg [] W V → OC V b4 (o4 + kk * 8) d.o) := Lib.hid (fun V hV => hc4 V hV kk d hd)
  have HC3 : Hid (Chg [] W (((W.alloc (.cells #[.slice ta ts.length tc, .slice oa os.length oc] 25)).alloc (.cells #[.int .i64 (kk : Int)] 3)).alloc (.cells #[.slice ra rs.length rc] 33))) := Lib.hid ((((Chg.refl [] W).alloc _).alloc _).alloc _)
  have HB0 : Hid (Blk (((W.alloc (.cells #[.slice ta ts.length tc, .slice oa os.length oc] 25)).alloc (.cells #[.int .i64 (kk : Int)] 3)).alloc (.cells #[.slice ra rs.length rc] 33)) W.heap.size #[.slice ta ts.length tc, .slice oa os.length oc] 25) := Lib.hid (((Blk.new W _ _).alloc _).alloc _)
  have HB1 : Hid (Blk (((W.alloc (.cells #[.slice ta ts.length tc, .slice oa os.length oc] 25)).alloc (.cells #[.int .i64 (kk : Int)] 3)).alloc (.cells #[.slice ra rs.length rc] 33)) (W.heap.size + 1) #[.int .i64 (kk : Int)] 3) := Lib.hid (by
    have := (Blk.new (W.alloc (.cells #[.slice ta ts.length tc, .slice oa os.length oc] 25)) #[.int .i64 (kk : Int)] 3).alloc (.cells #[.slice ra rs.length rc] 33)
    rwa [show (W.alloc (.cells #[.slice ta ts.length tc, .slice oa os.length oc] 25)).heap.size = W.heap.size + 1 by simp] at this)
  have HB2 : Hid (Blk (((W.alloc (.cells #[.slice ta ts.length tc, .slice oa os.length oc] 25)).alloc (.cells #[.int .i64 (kk : Int)] 3)).alloc (.cells #[.slice ra rs.length rc] 33)) (W.heap.size + 1 + 1) #[.slice ra rs.length rc] 33) := Lib.hid (by
    have := Blk.new ((W.alloc (.cells #[.slice ta ts.length tc, .slice oa os.length oc] 25)).alloc (.cells #[.int .i64 (kk : Int)] 3)) #[.slice ra rs.length rc] 33
    rwa [show ((W.alloc (.cells #[.slice ta ts.length tc, .slice oa os.length oc] 25)).alloc (.cells #[.int .i64 (kk : Int)] 3)).heap.size = W.heap.size + 1 + 1 by simp] at this)
  obtain ⟨R, hR⟩ : ∃ R, capsM (sys ts os) kk rs = R := ⟨_, rfl⟩
  rw [hR]
  unfold capsM mostR at hR
  rw [sys_o ts hd] at hR
  have hMO := fun V (hV : Chg [] (((W.alloc (.cells #[.slice ta ts.length tc, .slice oa os.length oc] 25)).alloc (.cells #[.int .i64 (kk : Int)] 3)).alloc (.cells #[.slice ra rs.length rc] 33)) V) => mostC_any d.o.k d.o.w d.o.s d.o.c d.o.st d.o.ia d.o.il d.o.ic d.o.wr d.o.ra d.o.rc d.rds (.pointer (some ⟨W.heap.size, 0, none⟩)) (.pointer (some ⟨W.heap.size + 1, 0, none⟩)) (.pointer (some ⟨W.heap.size + 1 + 1, 0, none⟩)) (fun i => failsM (sys ts os) i kk (tickM rs i)) V (by have hh := hdR.2.chg (HC3.out.trans hV); rwa [hlr] at hh) hr1 (fun x hx V2 hV2 => by
    have hxb := hwho x (List.mem_cons_of_mem _ hx)
    simp only [sys, List.length_map] at hxb
    obtain ⟨i, rfl⟩ := Int.eq_ofNat_of_zero_le hxb.1
    have hV3 := hV.trans hV2
    exact caps1_any ta tc oa oc ts os i kk ra rc rs W.heap.size (W.heap.size + 1) (W.heap.size + 1 + 1) V2 (h.chg (HC3.out.trans hV3)) (by omega) hk (hr.chg (HC3.out.trans hV3)) hrl hrb ⟨(HB0.out.keep hV3 (by simp)).cell rfl, (HB0.out.keep hV3 (by simp)).cell rfl⟩ ((HB1.out.keep hV3 (by simp)).cell rfl) ((HB2.out.keep hV3 (by simp)).cell rfl))
  obtain ⟨y, hy⟩ : ∃ y, d.rds.foldl (fun n i => max n (failsM (sys ts os) i kk (tickM rs i))) 0 = y := ⟨_, rfl⟩
  have hy1 : y ≤ 1099511627776 := by rw [← hy]; exact most_fold_le (fun i => failsM (sys ts os) i kk (tickM rs i)) (fun i => fails_le _ _ _ _) _ _ (by decide)
  have hy0 : 0 ≤ y := by rw [← hy]; exact (most_ge (fun i => failsM (sys ts os) i kk (tickM rs i)) d.rds 0).1
  rw [hy] at hMO
  replace hR : 1 + y = R := by rw [← hR, ← hy]; rfl
  rw [← hlr] at hMO
  have HMO := Lib.hid hMO
  have kR : IntKind.i64.wrap (1 + y) = R := by rw [IntKind.wrap_i64]; omega
  have n1 : ¬ (kk : Int) < 0 := by omega
  have n2 : ¬ (os.length : Int) ≤ (kk : Int) := by omega
  obtain ⟨⟨k, w, s, c, st, ia, il, ic, wri, xa, xl, xc⟩, ini, rds⟩ := d
  simp only at hkd HMO
  obtain ⟨⟨q0, q1, q2, q3⟩, q4, q5, q6, q7⟩ := HQ.out _ HC3.out
  simp only at q0 q1 q2 q3 q4 q5 q6 q7
  have hmf : ∀ (fn : Fn) (first cap : Array Value) (w : World), (Instr.makeFunc fn first cap).run Tryz.prog w = .ok (.func fn first cap) w := fun _ _ _ _ => rfl
  have HTR := Lib.hid (fun V => by have h := tries_any k V; rwa [hkd] at h)
  clear h hr hrl hrb hd hk hx4 hc4 hdR hlr hr1 hwho hR hy hy0 hy1 hMO
  go_enter Tryz.func23, Tryz.ntmps23
  go_wp2_with (first
    | (go_at_call 22; refine (HTR.out _).mono ?_; rintro e w2 ⟨rfl, rfl⟩)
    | (go_at_call 50; refine (HMO.out _ (Chg.refl _ _)).mono ?_; rintro e w5 ⟨rfl, hc5⟩; have HC5 := Lib.hid (HC3.out.trans hc5); clear hc5))
  go_ret
  exact ⟨by first | rfl | (exact ret_int kR), HC5.out⟩
end Go.Proofs.YtkedegbpkkgeaaaGreat.tf
/- TopFits: size: rows that are written to; the objects that were fitted. -/
namespace Go.Proofs.YtkedegbpkkgeaaaGreat.tf
open Go Go.RowKit Go.Proofs.YtkedegbpkkgeaaaGreat.kit Go.Proofs.YtkedegbpkkgeaaaGreat.obj Go.Proofs.YtkedegbpkkgeaaaGreat.mem Go.Proofs.YtkedegbpkkgeaaaGreat.lay Go.Proofs.YtkedegbpkkgeaaaGreat.isa
set_option linter.unusedVariables false
set_option linter.unusedSimpArgs false
set_option maxRecDepth 20000

theorem own_row {W : World} {B s n : Nat} {T : TypeId} {g c : Nat} {xs : List Value} (h : W.ownsRow B T s (.slice (some ⟨g, 0, none⟩) n c) n xs) : ∃ cur, Blk W g cur T ∧ n ≤ c ∧ c ≤ maxLen ∧ cur.size = c * s ∧ cur.toList.take (n * s) = xs ∧ B ≤ g := by
  rcases h.2 with ⟨h0, -⟩ | ⟨g', cap, cur, he, hB, hg, h1, h2, h3, h4⟩
  · simp at h0
  · simp only [Value.slice.injEq, Option.some.injEq, Addr.mk.injEq] at he
    obtain ⟨⟨rfl, -⟩, -, rfl⟩ := he
    exact ⟨cur, hg, h1, h2, h3, h4, hB⟩
theorem own_at {W : World} {B s n : Nat} {T : TypeId} {g c : Nat} {xs : List Value} (h : W.ownsRow B T s (.slice (some ⟨g, 0, none⟩) n c) n xs) {k : Nat} {u : Value} (hk : xs[k]? = some u) : W.cell? ⟨g, k, none⟩ = some u := by
  have h1 := h.cells (g := g) rfl k u hk
  rwa [Go.Proofs.YtkedegbpkkgeaaaGreat.kit.add_plain, Nat.zero_add] at h1
theorem own_free {W : World} {B s n : Nat} {T : TypeId} {g c : Nat} {xs : List Value} (h : W.ownsRow B T s (.slice (some ⟨g, 0, none⟩) n c) n xs) (k : Nat) : W.frozen? ⟨g, k, none⟩ = false := by
  obtain ⟨cur, hb, -⟩ := own_row h
  exact hb.free k
theorem own_put {W : World} {B s n : Nat} {T : TypeId} {g c : Nat} {xs : List Value} (h : W.ownsRow B T s (.slice (some ⟨g, 0, none⟩) n c) n xs) (k : Nat) (v : Value) : (W.setCell ⟨g, k, none⟩ v).ownsRow B T s (.slice (some ⟨g, 0, none⟩) n c) n (xs.set k v) := by
  obtain ⟨cur, hb, h1, h2, h3, h4, hB⟩ := own_row h
  refine ⟨by rw [List.length_set]; exact h.1, .inr ⟨g, c, cur.setIfInBounds k v, rfl, hB, hb.set k v, h1, h2, by rw [Array.size_setIfInBounds]; exact h3, ?_⟩⟩
  rw [Array.toList_setIfInBounds, ← h4, List.take_set]
theorem flat_set {α : Type} (f : α → List Value) (n : Nat) (hf : ∀ a, (f a).length = n) : ∀ (l : List α) (j k : Nat) (d d' : α) (v : Value), l[j]? = some d → k < n → (f d).set k v = f d' → (l.flatMap f).set (j * n + k) v = (l.set j d').flatMap f
  | [], j, k, d, d', v, h, _, _ => by simp at h
  | a :: l, 0, k, d, d', v, h, hk, he => by
    obtain rfl : a = d := by simpa using h
    rw [List.flatMap_cons, Nat.zero_mul, Nat.zero_add, List.set_append_left _ _ (by rw [hf]; exact hk), he]
    rfl
  | a :: l, j + 1, k, d, d', v, h, hk, he => by
    have h2 : l[j]? = some d := by simpa using h
    rw [List.flatMap_cons, List.set_append_right _ _ (by rw [hf, Nat.add_mul, Nat.one_mul]; omega), hf, show (j + 1) * n + k - n = j * n + k by rw [Nat.add_mul, Nat.one_mul]; omega, flat_set f n hf l j k d d' v h2 hk he]
    rfl
theorem CopO.put {W : World} {B g c : Nat} {xs : List DO} (h : CopO W B (some ⟨g, 0, none⟩) c xs) {m t : Nat} {d d' : DO} {v : Value} (hm : xs[m]? = some d) (ht : t < 8) (hc : d.o.cells.set t v = d'.o.cells)
    (h1 : (d'.o.ia = d.o.ia ∧ d'.o.il = d.o.il ∧ d'.o.ic = d.o.ic ∧ d'.ini = d.ini) ∧ d'.o.ra = d.o.ra ∧ d'.o.rl = d.o.rl ∧ d'.o.rc = d.o.rc ∧ d'.rds = d.rds) : CopO (W.setCell ⟨g, m * 8 + t, none⟩ v) B (some ⟨g, 0, none⟩) c (xs.set m d') := by
  have hd := List.mem_of_getElem? hm
  have hk : Chg [g] W (W.setCell ⟨g, m * 8 + t, none⟩ v) := (Chg.refl _ _).setCell (.inl (by simp)) _
  have hF : ∀ T, T ≠ 46 → Far W [g] T := fun T hT => by
    obtain ⟨cur, hb, -⟩ := own_row h.row
    exact far_blk hb (Ne.symm hT)
  refine ⟨?_, fun e he => ?_, fun e he => ?_⟩
  · have := own_put h.row (m * 8 + t) v
    rw [flat_set (fun d : DO => d.o.cells) 8 (fun _ => rfl) xs m t d d' v hm ht hc] at this
    rw [List.length_set]
    exact this
  · rcases List.mem_or_eq_of_mem_set he with h2 | h2
    · exact ⟨(h.ini e h2).1, own_far (h.ini e h2).2 hk (hF _ (by decide))⟩
    · rw [h2, h1.1.1, h1.1.2.1, h1.1.2.2.1, h1.1.2.2.2]
      exact ⟨(h.ini d hd).1, own_far (h.ini d hd).2 hk (hF _ (by decide))⟩
  · rcases List.mem_or_eq_of_mem_set he with h2 | h2
    · exact ⟨(h.rds e h2).1, own_far (h.rds e h2).2 hk (hF _ (by decide))⟩
    · rw [h2, h1.2.1, h1.2.2.1, h1.2.2.2.1, h1.2.2.2.2]
      exact ⟨(h.rds d hd).1, own_far (h.rds d hd).2 hk (hF _ (by decide))⟩
theorem CopO.cell {W : World} {B g c : Nat} {xs : List DO} (h : CopO W B (some ⟨g, 0, none⟩) c xs) {m : Nat} {d : DO} (hm : xs[m]? = some d) : OC W g (m * 8) d.o := by
  have g8 : ∀ t, t < 8 → ∀ v, d.o.cells[t]? = some v → W.cell? ⟨g, m * 8 + t, none⟩ = some v := fun t ht v hv => own_at h.row (by rw [flatMap_get (fun d : DO => d.o.cells) 8 (fun _ => rfl) xs m t ht _ hm]; exact hv)
  have g0 := g8 0 (by decide) _ rfl
  rw [Nat.add_zero] at g0
  exact ⟨⟨g0, g8 1 (by decide) _ rfl, g8 2 (by decide) _ rfl, g8 3 (by decide) _ rfl⟩, g8 4 (by decide) _ rfl, g8 5 (by decide) _ rfl, g8 6 (by decide) _ rfl, g8 7 (by decide) _ rfl⟩
/-- the objects of a system, fitted up to here -/
structure Fts (S : S) (rs : List Int) (M m : Nat) (xs : List DO) : Prop where
  len : xs.length = M
  at_ : ∀ (j : Nat) (d : DO), xs[j]? = some d → d.p = if j < m then fitO S rs j (S.o j) else S.o j
theorem Fts.all {S : S} {rs : List Int} {M : Nat} {xs : List DO} (h : Fts S rs M M xs) (hM : S.os.length = M) : xs.map DO.p = (fitM S rs).os := by
  unfold fitM
  refine List.ext_getElem? fun j => ?_
  rw [List.getElem?_map, List.getElem?_map]
  by_cases hj : j < M
  · obtain ⟨d, hd⟩ : ∃ d, xs[j]? = some d := ⟨_, List.getElem?_eq_getElem (by rw [h.len]; exact hj)⟩
    rw [hd, List.getElem?_range (by rw [hM]; exact hj)]
    have := h.at_ j d hd
    rw [if_pos hj] at this
    simp [this]
  · rw [List.getElem?_eq_none (by rw [h.len]; omega), List.getElem?_eq_none (by simp; omega)]
    rfl
theorem Fts.step {S : S} {rs : List Int} {M m : Nat} {xs : List DO} {d' : DO} (h : Fts S rs M m xs) (hm : m < M) (hd : d'.p = fitO S rs m (S.o m)) : Fts S rs M (m + 1) (xs.set m d') := by
  refine ⟨by rw [List.length_set]; exact h.len, fun j d hj => ?_⟩
  rw [List.getElem?_set] at hj
  by_cases h1 : m = j
  · subst h1
    rw [if_pos rfl, if_pos (by rw [h.len]; exact hm)] at hj
    obtain rfl := Option.some.inj hj
    rw [if_pos (by omega)]
    exact hd
  · rw [if_neg h1] at hj
    have := h.at_ j d hj
    by_cases h2 : j < m
    · rw [if_pos h2] at this
      rw [if_pos (by omega)]
      exact this
    · rw [if_neg h2] at this
      rw [if_neg (by omega)]
      exact this
/-- what Fit tells -/
def FitE (S : S) (ranks : List Int) (n : Nat) (e : Ending) (w : World) : Prop := ∃ a x c a2 y c2 ok, e = .returned (.tuple #[.agg #[.slice a x c, .slice a2 y c2], .bool ok]) ∧
  ((allM S ranks n).e = 0 → ∃ ts' os', (x = ts'.length ∧ y = os'.length) ∧ ReadsDT w (.slice a ts'.length c) ts' ∧ ReadsDO w (.slice a2 os'.length c2) os' ∧ (∀ d ∈ os', d.o.W) ∧ sys ts' os' = fitM S (allM S ranks n).rs)
theorem ObjW.sc {k w s c st : Int} {il rl : Nat} (h : ObjW k w s c st il rl) {s' c' : Int} (hs : -9223372036854775808 ≤ s' ∧ s' ≤ 9223372036854775807) (hc : -9223372036854775808 ≤ c' ∧ c' ≤ 9223372036854775807) : ObjW k w s' c' st il rl := ⟨h.k64, h.w64, hs, hc, h.st32, h.ilen, h.rlen⟩
theorem slots_bd (s : S) (k : Int) (rs : List Int) : 0 ≤ slotsM s k rs ∧ slotsM s k rs ≤ 1099511627778 := by
  show 0 ≤ 2 + (s.o k).rds.foldl (fun n i => max n (wrM s i k (tickM rs i))) 0 ∧ 2 + (s.o k).rds.foldl (fun n i => max n (wrM s i k (tickM rs i))) 0 ≤ 1099511627778
  have h1 : 0 ≤ (s.o k).rds.foldl (fun n i => max n (wrM s i k (tickM rs i))) 0 := (most_ge (fun i => wrM s i k (tickM rs i)) (s.o k).rds 0).1
  have h2 : (s.o k).rds.foldl (fun n i => max n (wrM s i k (tickM rs i))) 0 ≤ _ := most_fold_le (fun i => wrM s i k (tickM rs i)) (fun i => wrM_le _ _ _ _) (s.o k).rds 0 (by decide)
  omega
theorem caps_bd (s : S) (k : Int) (rs : List Int) : 0 ≤ capsM s k rs ∧ capsM s k rs ≤ 1099511627778 := by
  show 0 ≤ 1 + (s.o k).rds.foldl (fun n i => max n (failsM s i k (tickM rs i))) 0 ∧ 1 + (s.o k).rds.foldl (fun n i => max n (failsM s i k (tickM rs i))) 0 ≤ 1099511627778
  have h1 : 0 ≤ (s.o k).rds.foldl (fun n i => max n (failsM s i k (tickM rs i))) 0 := (most_ge (fun i => failsM s i k (tickM rs i)) (s.o k).rds 0).1
  have h2 : (s.o k).rds.foldl (fun n i => max n (failsM s i k (tickM rs i))) 0 ≤ _ := most_fold_le (fun i => failsM s i k (tickM rs i)) (fun i => fails_le _ _ _ _) (s.o k).rds 0 (by decide)
  omega
end Go.Proofs.YtkedegbpkkgeaaaGreat.tf
