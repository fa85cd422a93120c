/- Images: a system laid; has it an image. -/
import Derived.Test.YtkmalnojkjmjiaaImgE
namespace Go.Proofs.Ytkmalnojkjmjiaa.img
open Go Go.RowKit Go.Proofs.Ytkmalnojkjmjiaa.kit Go.Proofs.Ytkmalnojkjmjiaa.obj Go.Proofs.Ytkmalnojkjmjiaa.mem Go.Proofs.Ytkmalnojkjmjiaa.lay Go.Proofs.Ytkmalnojkjmjiaa.codec
set_option linter.unusedVariables false
set_option linter.unusedSimpArgs false
set_option maxRecDepth 20000
theorem encT_len (t : PTk) : (encT t).length = 16 + 8 * t.code.length := by
  unfold encT
  simp only [List.length_append, leB_length, encC_len]
  omega
theorem encO_len (o : POb) : (encO o).length = 11 + o.rds.length + 4 * o.ini.length := by
  unfold encO
  simp only [List.length_append, leB_length, enc1_len, enc4_len]
  omega
theorem lenT {l : List PTk} (h : ∀ t ∈ l, t.fit) : (l.flatMap encT).length ≤ 2056 * l.length := by
  induction l with
  | nil => simp
  | cons t r ih =>
    have h1 := ih (fun q hq => h q (by simp [hq]))
    have h2 := (h t (by simp)).1.2.2.2
    unfold fit1 at h2
    rw [List.flatMap_cons, List.length_append, encT_len, List.length_cons]
    omega
theorem lenO {l : List POb} (h : ∀ t ∈ l, t.fit) : (l.flatMap encO).length ≤ 1290 * l.length := by
  induction l with
  | nil => simp
  | cons t r ih =>
    have h1 := ih (fun q hq => h q (by simp [hq]))
    have h2 := (h t (by simp)).1.2.2.2.2.2
    unfold fit1 at h2
    rw [List.flatMap_cons, List.length_append, encO_len, List.length_cons]
    omega
def hdr (a b : Int) : List Int := leB 67 1 ++ (leB 88 1 ++ (leB 1 1 ++ (leB a 1 ++ leB b 1)))
theorem hdr_len (a b : Int) : (hdr a b).length = 5 := by simp [hdr, leB_length]
theorem hdr_wf (a b : Int) : BytesB (hdr a b) := (BytesB.le _ _).app ((BytesB.le _ _).app ((BytesB.le _ _).app ((BytesB.le _ _).app (BytesB.le _ _))))
theorem body_hdr (ts : List PTk) (os : List POb) : bodyB ts os = (hdr ts.length os.length ++ ts.flatMap encT) ++ os.flatMap encO := by
  unfold bodyB hdr
  simp only [List.append_assoc]
theorem body_wf (ts : List PTk) (os : List POb) : BytesB (bodyB ts os) := by
  rw [body_hdr]
  exact ((hdr_wf _ _).app (flat_wf encT_wf _)).app (flat_wf encO_wf _)
theorem image_wf (ts : List PTk) (os : List POb) : BytesB (image ts os) := (body_wf ts os).app (BytesB.le _ _)
theorem body_len {ts : List PTk} {os : List POb} (h : fitS ts os) : (bodyB ts os).length ≤ 900000 := by
  have h1 := lenT h.2.1
  have h2 := lenO h.2.2
  have h3 := h.1
  unfold fit1 at h3
  rw [body_hdr, List.length_append, List.length_append, hdr_len]
  omega
set_option maxHeartbeats 8000000 in
theorem Encode_any (ta : Option Addr) (tc : Nat) (oa : Option Addr) (oc : Nat) (ts : List DT) (os : List DO) (W : World) (hT : ReadsDT W (.slice ta ts.length tc) ts) (hO : ReadsDO W (.slice oa os.length oc) os) (hl : ts.length ≤ 1000 ∧ os.length ≤ 1000) (hcl : (∀ d ∈ ts, d.code.length ≤ 1000) ∧ ∀ d ∈ os, d.ini.length ≤ 1000 ∧ d.rds.length ≤ 1000) :
    Calls Try.prog 12 #[.agg #[.slice ta ts.length tc, .slice oa os.length oc]] W fun e W' => ∃ v, e = .returned (.tuple #[v, .bool (hasI (ts.map DT.p) (os.map DO.p))]) ∧ OwnB W' W.heap.size v (imageOf (ts.map DT.p) (os.map DO.p)) ∧ Chg [] W W' := by
  have hcl0 := hcl
  obtain ⟨R, hR⟩ : ∃ R, hasI (ts.map DT.p) (os.map DO.p) = R := ⟨_, rfl⟩
  have HR := Lib.hid hR
  rw [hR]
  have hT1 := hT.1.1
  have hO1 := hO.1
  unfold ReadsO at hO1
  rw [rowsT_map, List.length_map] at hT1
  rw [rowsO_map, List.length_map] at hO1
  obtain ⟨b1, o1, hx1, hc1, -⟩ := reads_index (P := Try.prog) Try.underlying24 szTask hT1
  obtain ⟨b2, o2, hx2, hc2, -⟩ := reads_index (P := Try.prog) Try.underlying25 szObj hO1
  have HX1 := Lib.hid hx1
  have HC1 := Lib.hid hc1
  have HX2 := Lib.hid hx2
  have HC2 := Lib.hid hc2
  have HTD := Lib.hid hT.2
  have HOD := Lib.hid hO.2
  have HL : Hid ((ts.length : Int) ≤ 1000 ∧ (os.length : Int) ≤ 1000) := Lib.hid (by omega)
  have HCL := Lib.hid hcl
  have HCA : Hid (Chg [] W (W.alloc (.cells #[.slice ta ts.length tc, .slice oa os.length oc] 27))) := Lib.hid ((Chg.refl _ _).alloc _)
  have HBX : Hid (Blk (W.alloc (.cells #[.slice ta ts.length tc, .slice oa os.length oc] 27)) W.heap.size #[.slice ta ts.length tc, .slice oa os.length oc] 27) := Lib.hid (Blk.new W _ _)
  have HFT := Lib.hid (fits_any ta tc oa oc ts os (W.alloc (.cells #[.slice ta ts.length tc, .slice oa os.length oc] 27)) (hT.chg HCA.out) (hO.chg HCA.out) hl hcl)
  obtain ⟨i0, hi, hz0, hz1, hz2⟩ := info_parts info5
  have HI0 : Hid (Try.prog.info? 5 = some i0 ∧ i0.zero = some (.int .u8 0) ∧ i0.size = 1 ∧ i0.bytes = 1) := Lib.hid ⟨hi, hz0, hz1, hz2⟩
  obtain ⟨FB, hFB⟩ : ∃ FB, decide (fitS (ts.map DT.p) (os.map DO.p)) = FB := ⟨_, rfl⟩
  rw [hFB] at HFT
  have HFB := Lib.hid hFB
  obtain ⟨X, hX⟩ : ∃ X, imageOf (ts.map DT.p) (os.map DO.p) = X := ⟨_, rfl⟩
  have HX := Lib.hid hX
  rw [hX]
  clear hT hO hT1 hO1 hx1 hx2 hc1 hc2 hR hl hcl hcl0 hFB hX hi hz0 hz1 hz2
  cases FB
  · have hno : hasI (ts.map DT.p) (os.map DO.p) = false := by unfold hasI; rw [HFB.out]; rfl
    obtain rfl : false = R := by rw [← HR.out, hno]
    obtain rfl : [] = X := by rw [← HX.out]; unfold imageOf; rw [hno]; rfl
    clear hno
    go_enter Try.func12, Try.ntmps12
    go_wp2_with (go_at_call 30; refine HFT.out.mono ?_; rintro e w1 ⟨rfl, hc⟩; have HC1' := Lib.hid (HCA.out.trans hc); clear hc)
    go_ret2
    exact ⟨_, rfl, OwnB.nil _ _, HC1'.out⟩
  have hfs : fitS (ts.map DT.p) (os.map DO.p) := of_decide_eq_true HFB.out
  have HFS := Lib.hid hfs
  have hf1 := hfs.1
  rw [List.length_map, List.length_map] at hf1
  have HF1 := Lib.hid hf1
  clear hfs hf1
  go_enter Try.func12, Try.ntmps12
  go_wp2_with (first | (go_at_call 30; refine HFT.out.mono ?_; rintro e w1 ⟨rfl, hc⟩; have HCF := Lib.hid hc; have e0 : w1.cell? ⟨W.heap.size, 0, none⟩ = some (.slice ta ts.length tc) := (HBX.out.keep hc (by simp)).cell rfl; have e1 : w1.cell? ⟨W.heap.size, 1, none⟩ = some (.slice oa os.length oc) := (HBX.out.keep hc (by simp)).cell rfl; clear hc) | (go_at_call 31; refine (bytes_any (W.alloc (.cells #[.slice ta ts.length tc, .slice oa os.length oc] 27)).heap.size _ _ [] [67, 88, 1, (ts.length : Int), (os.length : Int)] _ (OwnB.nil _ _) BytesB.nil (readsN_lit [67, 88, 1, (ts.length : Int), (os.length : Int)] #[.int .i64 67, .int .i64 88, .int .i64 1, .int .i64 ts.length, .int .i64 os.length] 3 rfl w1 _ (by simp) 5 rfl (by simp)) (by intro x hx; simp at hx; rcases hx with rfl | rfl | rfl | rfl | rfl; (unfold fit1; omega); (unfold fit1; omega); (unfold fit1; omega); exact HF1.out.1; exact HF1.out.2) (by simp) (Nat.le_trans HCF.out.size ((Chg.refl [] w1).alloc _).size)).mono ?_; rintro e w2 ⟨v2, rfl, ho, hc⟩; have HO2 : Hid (OwnB w2 (W.alloc (.cells #[.slice ta ts.length tc, .slice oa os.length oc] 27)).heap.size v2 (hdr ts.length os.length)) := Lib.hid (by have h9 := ho; simp only [enc1, List.flatMap_cons, List.flatMap_nil, List.append_nil, List.nil_append] at h9; exact h9); have HJ := Lib.hid (HCF.out.trans (((Chg.refl [] w1).alloc _).trans hc)); have e0 : w2.cell? ⟨W.heap.size, 0, none⟩ = some (.slice ta ts.length tc) := (HBX.out.keep HJ.out (by simp)).cell rfl; clear ho hc))
  clear e0 e1
  go_loopw [4, 23] (fun b i wr => ∃ j : Nat, j ≤ ts.length ∧ i = .int .i64 j ∧ Hid (OwnB wr (W.alloc (.cells #[.slice ta ts.length tc, .slice oa os.length oc] 27)).heap.size b (hdr ts.length os.length ++ ((ts.take j).map DT.p).flatMap encT)) ∧ Hid (Chg [] (W.alloc (.cells #[.slice ta ts.length tc, .slice oa os.length oc] 27)) wr)) (fun _ i _ => ts.length - (intOf i).toNat)
  case atStart => exact ⟨0, Nat.zero_le _, rfl, Lib.hid (by have := HO2.out; simpa using this), HJ⟩
  case round =>
    clear HO2 HJ
    obtain ⟨j, hj, rfl, HOJ, HJ⟩ := hrel
    by_cases hlt : j < ts.length
    · have HLT := Lib.hid hlt
      have g1 := HX1.out j hlt
      obtain ⟨⟨⟨kind, prio, period, offset, deadline, own, ca, cl, cc⟩, code⟩, htk⟩ : ∃ t, ts[j]? = some t := ⟨_, List.getElem?_eq_getElem hlt⟩
      have q0 := (HCA.out.trans HJ.out).keep (HC1.out (j * 7 + 0) _ (by rw [flatMap_get (fun d : DT => d.t.cells) 7 (fun _ => rfl) ts j 0 (by decide) _ htk]; rfl)) (by simp)
      have q1 := (HCA.out.trans HJ.out).keep (HC1.out (j * 7 + 1) _ (by rw [flatMap_get (fun d : DT => d.t.cells) 7 (fun _ => rfl) ts j 1 (by decide) _ htk]; rfl)) (by simp)
      have q2 := (HCA.out.trans HJ.out).keep (HC1.out (j * 7 + 2) _ (by rw [flatMap_get (fun d : DT => d.t.cells) 7 (fun _ => rfl) ts j 2 (by decide) _ htk]; rfl)) (by simp)
      have q3 := (HCA.out.trans HJ.out).keep (HC1.out (j * 7 + 3) _ (by rw [flatMap_get (fun d : DT => d.t.cells) 7 (fun _ => rfl) ts j 3 (by decide) _ htk]; rfl)) (by simp)
      have q4 := (HCA.out.trans HJ.out).keep (HC1.out (j * 7 + 4) _ (by rw [flatMap_get (fun d : DT => d.t.cells) 7 (fun _ => rfl) ts j 4 (by decide) _ htk]; rfl)) (by simp)
      have q5 := (HCA.out.trans HJ.out).keep (HC1.out (j * 7 + 5) _ (by rw [flatMap_get (fun d : DT => d.t.cells) 7 (fun _ => rfl) ts j 5 (by decide) _ htk]; rfl)) (by simp)
      have q6 := (HCA.out.trans HJ.out).keep (HC1.out (j * 7 + 6) _ (by rw [flatMap_get (fun d : DT => d.t.cells) 7 (fun _ => rfl) ts j 6 (by decide) _ htk]; rfl)) (by simp)
      rw [Nat.add_zero] at q0
      rw [← Nat.add_assoc] at q1 q2 q3 q4 q5 q6
      have hDR := HTD.out _ (List.mem_of_getElem? htk)
      obtain rfl : cl = code.length := hDR.len
      have HDR := Lib.hid hDR
      have HCC : Hid (code.length ≤ 1000) := Lib.hid (HCL.out.1 _ (List.mem_of_getElem? htk))
      have HK := Lib.hid htk
      have hj1000 : (j : Int) < 1000 := by have := HL.out; omega
      have k8 : IntKind.i64.wrap ((j : Int) + 1) = (j : Int) + 1 := by rw [IntKind.wrap_i64]; omega
      have HTF : Hid ((⟨kind, prio, period, offset, deadline, own, code⟩ : PTk).fit) := Lib.hid (HFS.out.2.1 _ (List.mem_map.2 ⟨_, List.mem_of_getElem? htk, rfl⟩))
      have HTA := Lib.hid (fun V (h : Chg [] W V) => task_any kind prio period offset deadline own ca cc code V (HDR.out.chg h) HTF.out (by have := HCC.out; omega))
      have HBG : Hid ((hdr ts.length os.length ++ ((ts.take j).map DT.p).flatMap encT).length + (encT (⟨kind, prio, period, offset, deadline, own, code⟩ : PTk)).length ≤ 900000) := Lib.hid (by
        have h1 := lenT (l := (ts.take j).map DT.p) (fun t ht => HFS.out.2.1 t (by rw [List.map_take] at ht; exact List.mem_of_mem_take ht))
        have h2 := lenT (l := [(⟨kind, prio, period, offset, deadline, own, code⟩ : PTk)]) (fun t ht => by simp at ht; subst ht; exact HTF.out)
        have h3 := HF1.out.1
        unfold fit1 at h3
        rw [List.length_map, List.length_take] at h1
        simp only [List.flatMap_cons, List.flatMap_nil, List.append_nil, List.length_cons, List.length_nil] at h2
        rw [List.length_append, hdr_len]
        omega)
      clear htk hj hlt hDR
      go_wp2_with (first | ((with_reducible show wpList _ _ _ (⟨some 30, _, _, _, _, _⟩ :: _) _ _); refine wpList_append_any (o := ⟨some 30, _, _, _, _, _⟩) _ rfl (.tmp 27) (.tmp 29) 22 rfl (W.alloc (.cells #[.slice ta ts.length tc, .slice oa os.length oc] 27)).heap.size 5 i0 (.int .u8 0) 1 1 Try.underlying22 HI0.out.1 HI0.out.2.1 HI0.out.2.2.1 HI0.out.2.2.2 rfl (by decide) _ _ _ rfl HOJ2.out _ _ _ rfl (Reads.of_own HOT.out (by decide)) (ints_oneCell _ _) (by have := HBG.out; unfold maxLen; omega) (by have := HBG.out; omega) HJ2.out.size ?_; intro v3 w3 ho3 hg3; have HO3 : Hid (OwnB w3 (W.alloc (.cells #[.slice ta ts.length tc, .slice oa os.length oc] 27)).heap.size v3 (_ ++ _)) := Lib.hid (by unfold OwnB; rw [List.length_append, List.map_append]; exact ho3); have HJ3 : Hid (Chg [] (W.alloc (.cells #[.slice ta ts.length tc, .slice oa os.length oc] 27)) w3) := Lib.hid (HJ2.out.grown hg3 (fun y hy => .inr (World.ownsRow.lt HOJ2.out y hy).1)); clear ho3 hg3) | (go_at_call 32; refine (HTA.out _ (HCA.out.trans (HJ.out.alloc _))).mono ?_; rintro e w2 ⟨v2, rfl, ho, hc⟩; have HOT := Lib.hid ho; have HJ2 : Hid (Chg [] (W.alloc (.cells #[.slice ta ts.length tc, .slice oa os.length oc] 27)) w2) := Lib.hid ((HJ.out.alloc _).trans hc); have HOJ2 := Lib.hid (mem.own_chg HOJ.out (((Chg.refl [] wr).alloc _).trans hc) (by simp)); clear ho hc))
      have hltj := HLT.out
      go_roundw
      case rel => exact ⟨j + 1, by omega, by go_num, Lib.hid (by rw [List.map_take, flat_snocR encT (show (ts.map DT.p)[j]? = some (⟨kind, prio, period, offset, deadline, own, code⟩ : PTk) by rw [List.getElem?_map, HK.out]; rfl), ← List.append_assoc, ← List.map_take]; exact HO3.out), HJ3⟩
      case measure => simp [intOf]; omega
    · obtain rfl : ts.length = j := by omega
      clear hlt hj
      have HOT1 : Hid (OwnB wr (W.alloc (.cells #[.slice ta ts.length tc, .slice oa os.length oc] 27)).heap.size u4 (hdr ts.length os.length ++ (ts.map DT.p).flatMap encT)) := Lib.hid (by have := HOJ.out; rwa [List.take_length] at this)
      have e1 : wr.cell? ⟨W.heap.size, 1, none⟩ = some (.slice oa os.length oc) := (HBX.out.keep HJ.out (by simp)).cell rfl
      obtain ⟨wo, rfl⟩ : ∃ wo : World, wo = wr := ⟨_, rfl⟩
      clear HOJ
      go_wp2_with fail
      go_loopw [4, 35] (fun b i wr => ∃ j : Nat, j ≤ os.length ∧ i = .int .i64 j ∧ Hid (OwnB wr (W.alloc (.cells #[.slice ta ts.length tc, .slice oa os.length oc] 27)).heap.size b ((hdr ts.length os.length ++ (ts.map DT.p).flatMap encT) ++ ((os.take j).map DO.p).flatMap encO)) ∧ Hid (Chg [] (W.alloc (.cells #[.slice ta ts.length tc, .slice oa os.length oc] 27)) wr)) (fun _ i _ => os.length - (intOf i).toNat)
      case atStart => exact ⟨0, Nat.zero_le _, rfl, Lib.hid (by have := HOT1.out; simpa using this), HJ⟩
      case round =>
        clear HOT1 HJ e1
        obtain ⟨j, hj, rfl, HOJ, HJ⟩ := hrel
        by_cases hlt : j < os.length
        · have HLT := Lib.hid hlt
          have g1 := HX2.out j hlt
          obtain ⟨⟨⟨k, w, s, c, st, ia, il, ic, wri, ra, rl, rc⟩, ini, rds⟩, htk⟩ : ∃ t, os[j]? = some t := ⟨_, List.getElem?_eq_getElem hlt⟩
          have q0 := (HCA.out.trans HJ.out).keep (HC2.out (j * 8 + 0) _ (by rw [flatMap_get (fun d : DO => d.o.cells) 8 (fun _ => rfl) os j 0 (by decide) _ htk]; rfl)) (by simp)
          have q1 := (HCA.out.trans HJ.out).keep (HC2.out (j * 8 + 1) _ (by rw [flatMap_get (fun d : DO => d.o.cells) 8 (fun _ => rfl) os j 1 (by decide) _ htk]; rfl)) (by simp)
          have q2 := (HCA.out.trans HJ.out).keep (HC2.out (j * 8 + 2) _ (by rw [flatMap_get (fun d : DO => d.o.cells) 8 (fun _ => rfl) os j 2 (by decide) _ htk]; rfl)) (by simp)
          have q3 := (HCA.out.trans HJ.out).keep (HC2.out (j * 8 + 3) _ (by rw [flatMap_get (fun d : DO => d.o.cells) 8 (fun _ => rfl) os j 3 (by decide) _ htk]; rfl)) (by simp)
          have q4 := (HCA.out.trans HJ.out).keep (HC2.out (j * 8 + 4) _ (by rw [flatMap_get (fun d : DO => d.o.cells) 8 (fun _ => rfl) os j 4 (by decide) _ htk]; rfl)) (by simp)
          have q5 := (HCA.out.trans HJ.out).keep (HC2.out (j * 8 + 5) _ (by rw [flatMap_get (fun d : DO => d.o.cells) 8 (fun _ => rfl) os j 5 (by decide) _ htk]; rfl)) (by simp)
          have q6 := (HCA.out.trans HJ.out).keep (HC2.out (j * 8 + 6) _ (by rw [flatMap_get (fun d : DO => d.o.cells) 8 (fun _ => rfl) os j 6 (by decide) _ htk]; rfl)) (by simp)
          have q7 := (HCA.out.trans HJ.out).keep (HC2.out (j * 8 + 7) _ (by rw [flatMap_get (fun d : DO => d.o.cells) 8 (fun _ => rfl) os j 7 (by decide) _ htk]; rfl)) (by simp)
          rw [Nat.add_zero] at q0
          rw [← Nat.add_assoc] at q1 q2 q3 q4 q5 q6 q7
          have hDR := HOD.out _ (List.mem_of_getElem? htk)
          obtain rfl : il = ini.length := hDR.leni
          obtain rfl : rl = rds.length := hDR.lenr
          have HDR := Lib.hid hDR
          have HCC : Hid (ini.length ≤ 1000 ∧ rds.length ≤ 1000) := Lib.hid (HCL.out.2 _ (List.mem_of_getElem? htk))
          have HK := Lib.hid htk
          have hj1000 : (j : Int) < 1000 := by have := HL.out; omega
          have k8 : IntKind.i64.wrap ((j : Int) + 1) = (j : Int) + 1 := by rw [IntKind.wrap_i64]; omega
          have HTF : Hid ((⟨k, w, s, c, st, wri, ini, rds⟩ : POb).fit) := Lib.hid (HFS.out.2.2 _ (List.mem_map.2 ⟨_, List.mem_of_getElem? htk, rfl⟩))
          have HTW : Hid ((⟨k, w, s, c, st, wri, ini, rds⟩ : POb).W) := Lib.hid ⟨HDR.out.1.1, fun x hx => wf_u32 (HDR.out.1.2.2 x hx)⟩
          have HTA := Lib.hid (fun V (h : Chg [] W V) => object_any k w s c st wri ia ic ra rc ini rds V (HDR.out.1.2.chg h) (HDR.out.2.chg h) HTF.out HTW.out (by have := HCC.out; omega))
          have HBG : Hid (((hdr ts.length os.length ++ (ts.map DT.p).flatMap encT) ++ ((os.take j).map DO.p).flatMap encO).length + (encO (⟨k, w, s, c, st, wri, ini, rds⟩ : POb)).length ≤ 900000) := Lib.hid (by
            have h0 := lenT HFS.out.2.1
            have h1 := lenO (l := (os.take j).map DO.p) (fun t ht => HFS.out.2.2 t (by rw [List.map_take] at ht; exact List.mem_of_mem_take ht))
            have h2 := lenO (l := [(⟨k, w, s, c, st, wri, ini, rds⟩ : POb)]) (fun t ht => by simp at ht; subst ht; exact HTF.out)
            have h3 := HF1.out
            unfold fit1 at h3
            rw [List.length_map, List.length_take] at h1
            rw [List.length_map] at h0
            simp only [List.flatMap_cons, List.flatMap_nil, List.append_nil, List.length_cons, List.length_nil] at h2
            rw [List.length_append, List.length_append, hdr_len]
            omega)
          clear htk hj hlt hDR
          go_wp2_with (first | ((with_reducible show wpList _ _ _ (⟨some 42, _, _, _, _, _⟩ :: _) _ _); refine wpList_append_any (o := ⟨some 42, _, _, _, _, _⟩) _ rfl (.tmp 39) (.tmp 41) 22 rfl (W.alloc (.cells #[.slice ta ts.length tc, .slice oa os.length oc] 27)).heap.size 5 i0 (.int .u8 0) 1 1 Try.underlying22 HI0.out.1 HI0.out.2.1 HI0.out.2.2.1 HI0.out.2.2.2 rfl (by decide) _ _ _ rfl HOJ2.out _ _ _ rfl (Reads.of_own HOT.out (by decide)) (ints_oneCell _ _) (by have := HBG.out; unfold maxLen; omega) (by have := HBG.out; omega) HJ2.out.size ?_; intro v3 w3 ho3 hg3; have HO3 : Hid (OwnB w3 (W.alloc (.cells #[.slice ta ts.length tc, .slice oa os.length oc] 27)).heap.size v3 (_ ++ _)) := Lib.hid (by unfold OwnB; rw [List.length_append, List.map_append]; exact ho3); have HJ3 : Hid (Chg [] (W.alloc (.cells #[.slice ta ts.length tc, .slice oa os.length oc] 27)) w3) := Lib.hid (HJ2.out.grown hg3 (fun y hy => .inr (World.ownsRow.lt HOJ2.out y hy).1)); clear ho3 hg3) | (go_at_call 33; refine (HTA.out _ (HCA.out.trans (HJ.out.alloc _))).mono ?_; rintro e w2 ⟨v2, rfl, ho, hc⟩; have HOT := Lib.hid ho; have HJ2 : Hid (Chg [] (W.alloc (.cells #[.slice ta ts.length tc, .slice oa os.length oc] 27)) w2) := Lib.hid ((HJ.out.alloc _).trans hc); have HOJ2 := Lib.hid (mem.own_chg HOJ.out (((Chg.refl [] wr).alloc _).trans hc) (by simp)); clear ho hc))
          have hltj := HLT.out
          go_roundw
          case rel => exact ⟨j + 1, by omega, by go_num, Lib.hid (by rw [List.map_take, flat_snocR encO (show (os.map DO.p)[j]? = some (⟨k, w, s, c, st, wri, ini, rds⟩ : POb) by rw [List.getElem?_map, HK.out]; rfl), ← List.append_assoc, ← List.map_take]; exact HO3.out), HJ3⟩
          case measure => simp [intOf]; omega
        · obtain rfl : os.length = j := by omega
          clear hlt hj
          have HOB : Hid (OwnB wr (W.alloc (.cells #[.slice ta ts.length tc, .slice oa os.length oc] 27)).heap.size u4 (bodyB (ts.map DT.p) (os.map DO.p))) := Lib.hid (by have := HOJ.out; rw [List.take_length] at this; rw [body_hdr, List.length_map, List.length_map]; exact this)
          obtain ⟨zb, hzb⟩ : ∃ zb, bodyB (ts.map DT.p) (os.map DO.p) = zb := ⟨_, rfl⟩
          have HZB : Hid (BytesB zb ∧ zb.length ≤ 900000) := Lib.hid (by rw [← hzb]; exact ⟨body_wf _ _, body_len HFS.out⟩)
          have himg : image (ts.map DT.p) (os.map DO.p) = zb ++ leB (sumM zb) 2 := by unfold image; rw [hzb]
          have HIM := Lib.hid himg
          rw [hzb] at HOB
          clear HOJ hzb himg
          have HSU := Lib.hid (Sum_any u4 zb wr (HOB.out.reads HZB.out.1) (by have := HZB.out.2; omega))
          have HPU := Lib.hid (fun V (h : Chg [] wr V) => Put16_own (W.alloc (.cells #[.slice ta ts.length tc, .slice oa os.length oc] 27)).heap.size u4 zb (sumM zb) V (mem.own_chg HOB.out h (by simp)) HZB.out.1 (by have := HZB.out.2; omega) (by have := sumM_bd zb; omega) (Nat.le_trans HJ.out.size h.size))
          have hrr : R = decide ((zb ++ leB (sumM zb) 2).length ≤ 65536) := by rw [← HR.out]; unfold hasI; rw [HFB.out, HIM.out]; rfl
          have hxx : X = if R then zb ++ leB (sumM zb) 2 else [] := by rw [← HX.out]; unfold imageOf; rw [HR.out, HIM.out]
          obtain ⟨zf, hzf⟩ : ∃ zf, zb ++ leB (sumM zb) 2 = zf := ⟨_, rfl⟩
          rw [hzf] at hrr hxx HPU
          have HRR := Lib.hid hrr
          have HXX := Lib.hid hxx
          clear hrr hxx hzf HIM HX HR
          generalize sumM zb = sm at *
          by_cases hbig : zf.length ≤ 65536
          · obtain rfl : R = true := by rw [HRR.out]; exact decide_eq_true hbig
            have HBI := Lib.hid hbig
            have hb2 : ¬ ((65536 : Int) < (zf.length : Int)) := by omega
            have hb3 : (zf.length : Int) ≤ 65536 := by omega
            clear hbig
            go_wp2_with (first | (go_at_call 16; refine HSU.out.mono ?_; rintro e w5 ⟨rfl, hc⟩; have HC5 := Lib.hid hc; clear hc) | (go_at_call 34; refine (HPU.out _ HC5.out).mono ?_; rintro e w6 ⟨v6, rfl, ho, hc⟩; (obtain ⟨a6, c6, rfl, -⟩ := reads_slice (Reads.of_own ho (by decide))); have HO6 := Lib.hid ho; have HC6 := Lib.hid (HJ.out.trans (HC5.out.trans hc)); clear ho hc))
            go_ret2
            exact ⟨_, rfl, by rw [HXX.out]; exact own_mono HO6.out HCA.out.size, HCA.out.trans HC6.out⟩
          · obtain rfl : R = false := by rw [HRR.out]; exact decide_eq_false hbig
            have hb2 : (65536 : Int) < (zf.length : Int) := by omega
            obtain rfl : X = [] := by rw [HXX.out]; rfl
            clear hbig
            go_wp2_with (first | (go_at_call 16; refine HSU.out.mono ?_; rintro e w5 ⟨rfl, hc⟩; have HC5 := Lib.hid hc; clear hc) | (go_at_call 34; refine (HPU.out _ HC5.out).mono ?_; rintro e w6 ⟨v6, rfl, ho, hc⟩; (obtain ⟨a6, c6, rfl, -⟩ := reads_slice (Reads.of_own ho (by decide))); have HC6 := Lib.hid (HJ.out.trans (HC5.out.trans hc)); clear ho hc))
            go_ret2
            exact ⟨_, rfl, OwnB.nil _ _, HCA.out.trans HC6.out⟩
theorem Fits_any (ta : Option Addr) (tc : Nat) (oa : Option Addr) (oc : Nat) (ts : List DT) (os : List DO) (W : World) (hT : ReadsDT W (.slice ta ts.length tc) ts) (hO : ReadsDO W (.slice oa os.length oc) os) (hl : ts.length ≤ 1000 ∧ os.length ≤ 1000) (hcl : (∀ d ∈ ts, d.code.length ≤ 1000) ∧ ∀ d ∈ os, d.ini.length ≤ 1000 ∧ d.rds.length ≤ 1000) :
    Calls Try.prog 15 #[.agg #[.slice ta ts.length tc, .slice oa os.length oc]] W fun e W' => e = .returned (.bool (hasI (ts.map DT.p) (os.map DO.p))) ∧ Chg [] W W' := by
  have HCA : Hid (Chg [] W (W.alloc (.cells #[.slice ta ts.length tc, .slice oa os.length oc] 27))) := Lib.hid ((Chg.refl _ _).alloc _)
  have HE := Lib.hid (Encode_any ta tc oa oc ts os (W.alloc (.cells #[.slice ta ts.length tc, .slice oa os.length oc] 27)) (hT.chg HCA.out) (hO.chg HCA.out) hl hcl)
  generalize hasI (ts.map DT.p) (os.map DO.p) = R at *
  clear hT hO hl hcl
  go_enter Try.func15, Try.ntmps15
  go_wp2_with (go_at_call 12; refine HE.out.mono ?_; rintro e w1 ⟨v, rfl, ho, hc⟩; have HC := Lib.hid (HCA.out.trans hc); clear ho hc)
  go_ret
  exact ⟨rfl, HC.out⟩
end Go.Proofs.Ytkmalnojkjmjiaa.img
