/- Images: a task laid. -/
import Derived.Test.YtkmalnojkjmjiaaImgB
import Derived.Test.YtkmalnojkjmjiaaPlans
namespace Go.Proofs.Ytkmalnojkjmjiaa.img
open Go Go.RowKit Go.Proofs.Ytkmalnojkjmjiaa.kit Go.Proofs.Ytkmalnojkjmjiaa.obj Go.Proofs.Ytkmalnojkjmjiaa.mem Go.Proofs.Ytkmalnojkjmjiaa.lay Go.Proofs.Ytkmalnojkjmjiaa.codec
set_option linter.unusedVariables false
set_option linter.unusedSimpArgs false
set_option maxRecDepth 20000
theorem readsN_lit (zs : List Int) (c : Array Value) (T : TypeId) (hc : c.toList = zs.map (Value.int .i64)) (V : World) (h : Nat) (hh : h = V.heap.size) (n : Nat) (hn : n = zs.length) (hl : zs.length ≤ 1000) : ReadsN (V.alloc (.cells c T)) (.slice (some ⟨h, 0, none⟩) n n) zs := by
  subst hh hn
  have hr := reads_lit V c T zs.length (by rw [← Array.length_toList, hc, List.length_map]) (by unfold maxLen; omega)
  rw [hc] at hr
  exact hr
theorem wfW {zs : List Int} (h : ∀ x ∈ zs, fit4 x) : ∀ n ∈ zs, (Lit.int .u32 n).wf = true := fun n hn => by
  have := h n hn
  unfold fit4 at this
  simp [Lit.wf, IntKind.min, IntKind.max, IntKind.signed, IntKind.bits]; omega
theorem readsW_lit (zs : List Int) (c : Array Value) (T : TypeId) (hc : c.toList = zs.map (Value.int .u32)) (V : World) (h : Nat) (hh : h = V.heap.size) (n : Nat) (hn : n = zs.length) (hl : zs.length ≤ 1000) (hf : ∀ x ∈ zs, fit4 x) : ReadsW (V.alloc (.cells c T)) (.slice (some ⟨h, 0, none⟩) n n) zs := by
  subst hh hn
  have hr := reads_lit V c T zs.length (by rw [← Array.length_toList, hc, List.length_map]) (by unfold maxLen; omega)
  rw [hc] at hr
  exact ⟨hr, wfW hf⟩
theorem code_gen {c : Code} {Q : Exit → Act → World → Prop} {a : Act} {W : World} {R : World → Prop} (hp : R W) (h : ∀ W', R W' → c.wp Try.prog Q a W') : c.wp Try.prog Q a W := h W hp
theorem encC_len (l : List Ins) : (encC l).length = 8 * l.length := by
  induction l with
  | nil => rfl
  | cons x r ih => unfold encC at ih ⊢; rw [List.flatMap_cons, List.length_append, ih, List.length_cons]; simp [encI, leB_length]; omega
theorem encI_wf (i : Ins) : BytesB (encI i) := (BytesB.le _ _).app ((BytesB.le _ _).app ((BytesB.le _ _).app ((BytesB.le _ _).app (BytesB.le _ _))))
theorem flat_wf {R : Type} {f : R → List Int} (h : ∀ r, BytesB (f r)) (l : List R) : BytesB (l.flatMap f) := by
  intro x hx
  obtain ⟨y, -, hy⟩ := List.mem_flatMap.1 hx
  exact h y x hy
theorem encT_wf (t : PTk) : BytesB (encT t) := (BytesB.le _ _).app ((BytesB.le _ _).app ((BytesB.le _ _).app ((BytesB.le _ _).app ((BytesB.le _ _).app ((BytesB.le _ _).app ((BytesB.le _ _).app (flat_wf encI_wf _)))))))
theorem encO_wf (o : POb) : BytesB (encO o) := (BytesB.le _ _).app ((BytesB.le _ _).app ((BytesB.le _ _).app ((BytesB.le _ _).app ((BytesB.le _ _).app ((BytesB.le _ _).app ((BytesB.le _ _).app ((enc1_wf _).app ((BytesB.le _ _).app (enc4_wf _)))))))))
theorem flat_snocR {R : Type} (f : R → List Int) {l : List R} {j : Nat} {t : R} (h : l[j]? = some t) : (l.take (j + 1)).flatMap f = (l.take j).flatMap f ++ f t := by
  have hj := List.getElem?_eq_some_iff.1 h
  rw [List.take_succ_eq_append_getElem hj.1, List.flatMap_append, hj.2]
  simp
set_option maxHeartbeats 8000000 in
theorem task_any (kind prio period offset deadline own : Int) (ca : Option Addr) (cc : Nat) (code : List Ins) (W : World) (hr : ReadsC W (.slice ca code.length cc) code) (hf : (PTk.mk kind prio period offset deadline own code).fit) (hl : code.length ≤ 1000) :
    Calls Try.prog 32 #[.slice none 0 0, .agg #[.int .i64 kind, .int .i64 prio, .int .i64 period, .int .i64 offset, .int .i64 deadline, .int .i64 own, .slice ca code.length cc]] W fun e W' => ∃ v, e = .returned v ∧ OwnB W' W.heap.size v (encT ⟨kind, prio, period, offset, deadline, own, code⟩) ∧ Chg [] W W' := by
  obtain ⟨b3, o3, hx3, hc3, -⟩ := reads_index (P := Try.prog) Try.underlying39 szIns hr.1
  have HX3 := Lib.hid hx3
  have HC3 := Lib.hid hc3
  have HN4 := Lib.hid hr.2
  have HF := Lib.hid hf
  have HL := Lib.hid hl
  have HCA : Hid (Chg [] W (W.alloc (.cells #[.int .i64 kind, .int .i64 prio, .int .i64 period, .int .i64 offset, .int .i64 deadline, .int .i64 own, .slice ca code.length cc] 41))) := Lib.hid ((Chg.refl _ _).alloc _)
  have HBX : Hid (Blk (W.alloc (.cells #[.int .i64 kind, .int .i64 prio, .int .i64 period, .int .i64 offset, .int .i64 deadline, .int .i64 own, .slice ca code.length cc] 41)) W.heap.size #[.int .i64 kind, .int .i64 prio, .int .i64 period, .int .i64 offset, .int .i64 deadline, .int .i64 own, .slice ca code.length cc] 41) := Lib.hid (Blk.new W _ _)
  have hfp := hf.2.1
  unfold fit4 at hfp
  dsimp only at hfp
  have u1 : IntKind.u32.wrap period = period := by simp [IntKind.wrap, IntKind.signed, IntKind.bits]; omega
  have u2 : IntKind.u32.wrap offset = offset := by simp [IntKind.wrap, IntKind.signed, IntKind.bits]; omega
  have u3 : IntKind.u32.wrap deadline = deadline := by simp [IntKind.wrap, IntKind.signed, IntKind.bits]; omega
  clear hx3 hc3 hr hf hl hfp
  go_enter Try.func32, Try.ntmps32
  go_upto_region 2 with (go_at_call 31; refine (bytes_any W.heap.size _ _ [] [kind, prio] _ (OwnB.nil _ _) BytesB.nil (readsN_lit [kind, prio] #[.int .i64 kind, .int .i64 prio] 3 rfl (W.alloc (.cells #[.int .i64 kind, .int .i64 prio, .int .i64 period, .int .i64 offset, .int .i64 deadline, .int .i64 own, .slice ca code.length cc] 41)) _ (by simp) 2 rfl (by simp)) (by intro x hx; simp at hx; rcases hx with rfl | rfl; exact HF.out.1.1; exact HF.out.1.2.1) (by simp) (by simp; omega)).mono ?_; rintro e w1 ⟨v1, rfl, ho, hc⟩; have HO1 := Lib.hid ho; have HC1 := Lib.hid (((Chg.refl [] (W.alloc (.cells #[.int .i64 kind, .int .i64 prio, .int .i64 period, .int .i64 offset, .int .i64 deadline, .int .i64 own, .slice ca code.length cc] 41))).alloc _).trans hc); have HB1 := Lib.hid (HBX.out.keep HC1.out (by simp)); have p2 := HB1.out.cell (o := 2) rfl; have p3 := HB1.out.cell (o := 3) rfl; have p4 := HB1.out.cell (o := 4) rfl; clear ho hc)
  go_upto_region 3 with (go_at_call 48; refine (words_any W.heap.size _ _ _ [period, offset, deadline] _ (mem.own_chg HO1.out ((Chg.refl [] _).alloc _) (by simp)) (enc1_wf [kind, prio]) (readsW_lit [period, offset, deadline] #[.int .u32 period, .int .u32 offset, .int .u32 deadline] 49 rfl w1 _ (by simp) 3 rfl (by simp) (by intro x hx; simp at hx; rcases hx with rfl | rfl | rfl; exact HF.out.2.1.1; exact HF.out.2.1.2.1; exact HF.out.2.1.2.2)) (by intro x hx; simp at hx; rcases hx with rfl | rfl | rfl; exact HF.out.2.1.1; exact HF.out.2.1.2.1; exact HF.out.2.1.2.2) (by simp [enc1, leB_length]) (by have := HCA.out.size; have := HC1.out.size; simp at *; omega)).mono ?_; rintro e w2 ⟨v2, rfl, ho, hc⟩; have HO2 := Lib.hid ho; have HC2 := Lib.hid (HC1.out.trans (((Chg.refl [] w1).alloc _).trans hc)); have HB2 := Lib.hid (HBX.out.keep HC2.out (by simp)); have p5 := HB2.out.cell (o := 5) rfl; have p6 := HB2.out.cell (o := 6) rfl; clear ho hc)
  go_upto_region 4 with (go_at_call 31; refine (bytes_any W.heap.size _ _ _ [own, (code.length : Int)] _ (mem.own_chg HO2.out ((Chg.refl [] _).alloc _) (by simp)) ((enc1_wf [kind, prio]).app (enc4_wf [period, offset, deadline])) (readsN_lit [own, (code.length : Int)] #[.int .i64 own, .int .i64 code.length] 3 rfl w2 _ (by simp) 2 rfl (by simp)) (by intro x hx; simp at hx; rcases hx with rfl | rfl; exact HF.out.1.2.2.1; exact HF.out.1.2.2.2) (by simp [enc1, enc4, leB_length]) (by have := HCA.out.size; have := HC2.out.size; simp at *; omega)).mono ?_; rintro e w3 ⟨v3, rfl, ho, hc⟩; have HO3 := Lib.hid ho; have HC3w := Lib.hid (HC2.out.trans (((Chg.refl [] w2).alloc _).trans hc)); have HB3 := Lib.hid (HBX.out.keep HC3w.out (by simp)); have p6 := HB3.out.cell (o := 6) rfl; clear ho hc)
  have hcl : (code.length : Int) ≤ 1000 := by have := HL.out; omega
  have HOH : Hid (OwnB w3 W.heap.size v3 (leB kind 1 ++ (leB prio 1 ++ (leB period 4 ++ (leB offset 4 ++ (leB deadline 4 ++ (leB own 1 ++ leB code.length 1))))))) := Lib.hid (by have h9 := HO3.out; simp only [enc1, enc4, List.flatMap_cons, List.flatMap_nil, List.append_nil, List.append_assoc, List.nil_append] at h9 ⊢; exact h9)
  obtain ⟨zh, hzh⟩ : ∃ zh, (leB kind 1 ++ (leB prio 1 ++ (leB period 4 ++ (leB offset 4 ++ (leB deadline 4 ++ (leB own 1 ++ leB code.length 1)))))) = zh := ⟨_, rfl⟩
  have HZH := Lib.hid hzh
  rw [hzh] at HOH
  have HWH : Hid (BytesB zh ∧ zh.length ≤ 20) := Lib.hid ⟨by rw [← hzh]; exact (BytesB.le _ _).app ((BytesB.le _ _).app ((BytesB.le _ _).app ((BytesB.le _ _).app ((BytesB.le _ _).app ((BytesB.le _ _).app (BytesB.le _ _)))))), by rw [← hzh]; simp [leB_length]⟩
  clear hzh HO1 HO2 HO3 p2 p3 p4 p5 HB1 HB2 u1 u2 u3
  obtain ⟨wo, rfl⟩ : ∃ wo : World, wo = w3 := ⟨_, rfl⟩
  go_wp2_with fail
  go_loopw [0, 37] (fun b i wr => ∃ m : Nat, m ≤ code.length ∧ i = .int .i64 m ∧ Hid (OwnB wr W.heap.size b (zh ++ encC (code.take m))) ∧ Hid (Chg [] (W.alloc (.cells #[.int .i64 kind, .int .i64 prio, .int .i64 period, .int .i64 offset, .int .i64 deadline, .int .i64 own, .slice ca code.length cc] 41)) wr)) (fun _ i _ => code.length - (intOf i).toNat)
  case atStart => exact ⟨0, Nat.zero_le _, rfl, Lib.hid (by have := HOH.out; simpa [encC] using this), HC3w⟩
  case round =>
    clear HOH HC3w
    obtain ⟨m, hm, rfl, HOJ, HJ⟩ := hrel
    by_cases hmt : m < code.length
    · have HMT := Lib.hid hmt
      have g1 := HX3.out m hmt
      obtain ⟨⟨iop, ia, ib, ic, iN⟩, hik⟩ : ∃ t, code[m]? = some t := ⟨_, List.getElem?_eq_getElem hmt⟩
      have q0 := (HCA.out.trans HJ.out).keep (HC3.out (m * 5 + 0) _ (by rw [flatMap_get Ins.cells 5 (fun _ => rfl) code m 0 (by decide) _ hik]; rfl)) (by simp)
      have q1 := (HCA.out.trans HJ.out).keep (HC3.out (m * 5 + 1) _ (by rw [flatMap_get Ins.cells 5 (fun _ => rfl) code m 1 (by decide) _ hik]; rfl)) (by simp)
      have q2 := (HCA.out.trans HJ.out).keep (HC3.out (m * 5 + 2) _ (by rw [flatMap_get Ins.cells 5 (fun _ => rfl) code m 2 (by decide) _ hik]; rfl)) (by simp)
      have q3 := (HCA.out.trans HJ.out).keep (HC3.out (m * 5 + 3) _ (by rw [flatMap_get Ins.cells 5 (fun _ => rfl) code m 3 (by decide) _ hik]; rfl)) (by simp)
      have q4 := (HCA.out.trans HJ.out).keep (HC3.out (m * 5 + 4) _ (by rw [flatMap_get Ins.cells 5 (fun _ => rfl) code m 4 (by decide) _ hik]; rfl)) (by simp)
      rw [Nat.add_zero] at q0
      rw [← Nat.add_assoc] at q1 q2 q3 q4
      have HIK := Lib.hid hik
      have HIF : Hid (fit1 iop ∧ fit1 ia ∧ fit1 ib ∧ fit1 ic) := Lib.hid (HF.out.2.2 _ (List.mem_of_getElem? hik))
      have HWW : Hid (∀ x ∈ [iN], fit4 x) := Lib.hid (by intro x hx; simp at hx; subst hx; exact HN4.out _ (List.mem_of_getElem? hik))
      have HFX : Hid (∀ x ∈ [iop, ia, ib, ic], fit1 x) := Lib.hid (by intro x hx; simp at hx; have h9 := HIF.out; rcases hx with rfl | rfl | rfl | rfl; exact h9.1; exact h9.2.1; exact h9.2.2.1; exact h9.2.2.2)
      have hm1000 : (m : Int) < 1000 := by have := HL.out; omega
      have k9 : IntKind.i64.wrap ((m : Int) + 1) = (m : Int) + 1 := by rw [IntKind.wrap_i64]; omega
      clear hik hm hmt
      go_upto_region 7 with fail
      refine code_gen (R := fun V => Hid (Blk V wr.heap.size #[.int .i64 iop, .int .i64 ia, .int .i64 ib, .int .i64 ic, .int .u32 iN] 60) ∧ Hid (OwnB V W.heap.size u0 (zh ++ encC (code.take m))) ∧ Hid (Chg [] (W.alloc (.cells #[.int .i64 kind, .int .i64 prio, .int .i64 period, .int .i64 offset, .int .i64 deadline, .int .i64 own, .slice ca code.length cc] 41)) V)) ⟨Lib.hid (Blk.new wr _ _), Lib.hid (mem.own_chg HOJ.out ((Chg.refl [] _).alloc _) (by simp)), Lib.hid (HJ.out.alloc _)⟩ ?_
      rintro V0 ⟨HBI, HO0, HC0⟩
      have HW0 : Hid (BytesB (zh ++ encC (code.take m))) := Lib.hid (HWH.out.1.app (flat_wf encI_wf _))
      have HLZ : Hid ((zh ++ encC (code.take m)).length + 1 * ([iop, ia, ib, ic] : List Int).length ≤ 1000000) := Lib.hid (by have h1 := HWH.out.2; have h2 := HL.out; rw [List.length_append, encC_len, List.length_take]; simp; omega)
      have HLY : Hid (((zh ++ encC (code.take m)) ++ enc1 [iop, ia, ib, ic]).length + 4 * ([iN] : List Int).length ≤ 1000000) := Lib.hid (by have h1 := HWH.out.2; have h2 := HL.out; rw [List.length_append, List.length_append, encC_len, enc1_len, List.length_take]; simp; omega)
      have HB0 : Hid (W.heap.size ≤ V0.heap.size) := Lib.hid (by have := HCA.out.size; have := HC0.out.size; simp at *; omega)
      obtain ⟨hb, hhb⟩ : ∃ hb, hb = wr.heap.size := ⟨_, rfl⟩
      rw [← hhb] at HBI
      have eI0 := HBI.out.cell (o := 0) rfl
      have eI1 := HBI.out.cell (o := 1) rfl
      have eI2 := HBI.out.cell (o := 2) rfl
      have eI3 := HBI.out.cell (o := 3) rfl
      have eI4 := HBI.out.cell (o := 4) rfl
      have KEEP := Lib.hid (fun (V : World) (h : Chg [] V0 V) => (⟨h.keep eI0 (by simp), h.keep eI1 (by simp), h.keep eI2 (by simp), h.keep eI3 (by simp), h.keep eI4 (by simp), Lib.hid h⟩ : (fun V : World => V.cell? ⟨hb, 0, none⟩ = some (.int .i64 iop) ∧ V.cell? ⟨hb, 1, none⟩ = some (.int .i64 ia) ∧ V.cell? ⟨hb, 2, none⟩ = some (.int .i64 ib) ∧ V.cell? ⟨hb, 3, none⟩ = some (.int .i64 ic) ∧ V.cell? ⟨hb, 4, none⟩ = some (.int .u32 iN) ∧ Hid (Chg [] V0 V)) V))
      rw [← hhb]
      clear hhb eI0 eI1 eI2 eI3 eI4 q0 q1 q2 q3 q4 g1
      have HD : Hid (Chg [] V0 V0.drew) := Lib.hid (Chg.refl _ _).drew
      have hHeld : (fun V : World => V.cell? ⟨hb, 0, none⟩ = some (.int .i64 iop) ∧ V.cell? ⟨hb, 1, none⟩ = some (.int .i64 ia) ∧ V.cell? ⟨hb, 2, none⟩ = some (.int .i64 ib) ∧ V.cell? ⟨hb, 3, none⟩ = some (.int .i64 ic) ∧ V.cell? ⟨hb, 4, none⟩ = some (.int .u32 iN) ∧ Hid (Chg [] V0 V)) V0.drew := KEEP.out _ HD.out
      refine wp_region_pt (fun V : World => V.cell? ⟨hb, 0, none⟩ = some (.int .i64 iop) ∧ V.cell? ⟨hb, 1, none⟩ = some (.int .i64 ia) ∧ V.cell? ⟨hb, 2, none⟩ = some (.int .i64 ib) ∧ V.cell? ⟨hb, 3, none⟩ = some (.int .i64 ic) ∧ V.cell? ⟨hb, 4, none⟩ = some (.int .u32 iN) ∧ Hid (Chg [] V0 V)) (PT.read 0 (some 41) (PT.read 1 (some 42) (PT.read 2 (some 43) (PT.read 3 (some 44) (PT.read 4 (some 45) (PT.read 5 (some 46) (PT.read 6 (some 47) (PT.read 7 (some 48) (PT.read 8 (some 49) (PT.read 11 (some 52) (PT.read 12 (some 53) (PT.fork 9 (some 50) (PT.fork 10 (some 51) (PT.act 13 (some 54) (PT.act 14 (some 55) (PT.read 15 (some 0) PT.nil))) 13 (some 54) (PT.act 10 (some 51) (PT.act 14 (some 55) (PT.read 15 (some 0) PT.nil)))) 13 (some 54) (PT.act 9 (some 50) (PT.act 10 (some 51) (PT.act 14 (some 55) (PT.read 15 (some 0) PT.nil)))))))))))))))) (by kernel_rfl) (by kernel_rfl) (by kernel_rfl) (by kernel_rfl) (fun d c a v w h => by cases d <;> exact h) hHeld ?_
      clear hHeld
      (repeat (refine pt_read (v := ?_) rfl rfl ?_ ?_ ?_; rotate_left; (focus rfl); (focus (intro u hSw; (try dsimp only at hSw); go_simp; (try with_reducible rfl); done)); ((try dsimp only); (try simp only [Act.put, List.setIfInBounds_toArray, List.set_cons_zero, List.set_cons_succ]))))
      refine pt_fork ?_ ?_
      · refine act_do rfl rfl ?_ (fun K hK => ?_)
        · rfl
        go_simp
        have HCA1 : Hid (Chg [] V0 (V0.drew.alloc (.cells #[.int .i64 iop, .int .i64 ia, .int .i64 ib, .int .i64 ic] 3))) := Lib.hid (HD.out.alloc _)
        refine hK.out _ _ (KEEP.out _ HCA1.out) (fun _ => ?_)
        clear hK K
        ((try dsimp only); (try simp only [Act.put, List.setIfInBounds_toArray, List.set_cons_zero, List.set_cons_succ]))
        refine pt_fork ?_ ?_
        · refine act_do rfl rfl ?_ (fun K hK => ?_)
          · rfl
          go_simp
          go_wp2_with (go_at_call 31; refine (bytes_any W.heap.size _ _ _ [iop, ia, ib, ic] _ (mem.own_chg HO0.out HCA1.out (by simp)) HW0.out (readsN_lit [iop, ia, ib, ic] #[.int .i64 iop, .int .i64 ia, .int .i64 ib, .int .i64 ic] 3 rfl V0.drew _ (by simp) 4 rfl (by simp)) HFX.out HLZ.out (Nat.le_trans HB0.out HCA1.out.size)).mono ?_; rintro e w1 ⟨v1, rfl, ho, hcc⟩; have HO1 := Lib.hid ho; have HO1s := Lib.hid hcc; have HCB1 := Lib.hid (HCA1.out.trans hcc); clear ho hcc)
          refine hK.out _ _ (KEEP.out _ HCB1.out) (fun _ => ?_)
          clear hK K
          ((try dsimp only); (try simp only [Act.put, List.setIfInBounds_toArray, List.set_cons_zero, List.set_cons_succ]))
          refine pt_act ?_
          refine act_do rfl rfl ?_ (fun K hK => ?_)
          · rfl
          go_simp
          have HCB2 : Hid (Chg [] V0 (w1.alloc (.cells #[.int .u32 iN] 49))) := Lib.hid (HCB1.out.alloc _)
          refine hK.out _ _ (KEEP.out _ HCB2.out) (fun _ => ?_)
          clear hK K
          ((try dsimp only); (try simp only [Act.put, List.setIfInBounds_toArray, List.set_cons_zero, List.set_cons_succ]))
          refine pt_act ?_
          refine act_do rfl rfl ?_ (fun K hK => ?_)
          · rfl
          go_simp
          go_wp2_with (go_at_call 48; refine (words_any W.heap.size _ _ _ [iN] _ (mem.own_chg HO1.out ((Chg.refl [] _).alloc _) (by simp)) (HW0.out.app (enc1_wf _)) (readsW_lit [iN] #[.int .u32 iN] 49 rfl w1 _ (by simp) 1 rfl (by simp) HWW.out) HWW.out HLY.out (Nat.le_trans HB0.out HCB2.out.size)).mono ?_; rintro e w2 ⟨v2, rfl, ho, hcc⟩; have HO2 := Lib.hid ho; have HO2s := Lib.hid hcc; have HCE := Lib.hid (HCB2.out.trans hcc); clear ho hcc)
          refine hK.out _ _ (KEEP.out _ HCE.out) (fun _ => ?_)
          clear hK K
          ((try dsimp only); (try simp only [Act.put, List.setIfInBounds_toArray, List.set_cons_zero, List.set_cons_succ]))
          (repeat (refine pt_read (v := ?_) rfl rfl ?_ ?_ ?_; rotate_left; (focus rfl); (focus (intro u hSw; (try dsimp only at hSw); go_simp; (try with_reducible rfl); done)); ((try dsimp only); (try simp only [Act.put, List.setIfInBounds_toArray, List.set_cons_zero, List.set_cons_succ]))))
          refine pt_nil ?_
          go_wp2_with fail
          have hmm := HMT.out
          go_roundw
          case rel => exact ⟨m + 1, by omega, by go_num, Lib.hid (by unfold encC; rw [flat_snocR encI HIK.out, ← List.append_assoc]; have h9 := HO2.out; simp only [enc1, enc4, List.flatMap_cons, List.flatMap_nil, List.append_nil, List.append_assoc] at h9 ⊢; unfold encI; simp only [List.append_assoc]; exact h9), Lib.hid (HC0.out.trans HCE.out)⟩
          case measure => simp [intOf]; omega
        · refine act_do rfl rfl ?_ (fun K hK => ?_)
          · rfl
          go_simp
          have HCA2 : Hid (Chg [] V0 ((V0.drew.alloc (.cells #[.int .i64 iop, .int .i64 ia, .int .i64 ib, .int .i64 ic] 3)).alloc (.cells #[.int .u32 iN] 49))) := Lib.hid (HCA1.out.alloc _)
          refine hK.out _ _ (KEEP.out _ HCA2.out) (fun _ => ?_)
          clear hK K
          ((try dsimp only); (try simp only [Act.put, List.setIfInBounds_toArray, List.set_cons_zero, List.set_cons_succ]))
          refine pt_act ?_
          refine act_do rfl rfl ?_ (fun K hK => ?_)
          · rfl
          go_simp
          go_wp2_with (go_at_call 31; refine (bytes_any W.heap.size _ _ _ [iop, ia, ib, ic] _ (mem.own_chg HO0.out HCA2.out (by simp)) HW0.out ((readsN_lit [iop, ia, ib, ic] #[.int .i64 iop, .int .i64 ia, .int .i64 ib, .int .i64 ic] 3 rfl V0.drew _ (by simp) 4 rfl (by simp)).chg ((Chg.refl [] _).alloc _)) HFX.out HLZ.out (Nat.le_trans HB0.out HCA2.out.size)).mono ?_; rintro e w1 ⟨v1, rfl, ho, hcc⟩; have HO1 := Lib.hid ho; have HO1s := Lib.hid hcc; have HCB1 := Lib.hid (HCA2.out.trans hcc); clear ho hcc)
          refine hK.out _ _ (KEEP.out _ HCB1.out) (fun _ => ?_)
          clear hK K
          ((try dsimp only); (try simp only [Act.put, List.setIfInBounds_toArray, List.set_cons_zero, List.set_cons_succ]))
          refine pt_act ?_
          refine act_do rfl rfl ?_ (fun K hK => ?_)
          · rfl
          go_simp
          go_wp2_with (go_at_call 48; refine (words_any W.heap.size _ _ _ [iN] _ HO1.out (HW0.out.app (enc1_wf _)) ((readsW_lit [iN] #[.int .u32 iN] 49 rfl (V0.drew.alloc (.cells #[.int .i64 iop, .int .i64 ia, .int .i64 ib, .int .i64 ic] 3)) _ (by simp) 1 rfl (by simp) HWW.out).chg HO1s.out) HWW.out HLY.out (Nat.le_trans HB0.out HCB1.out.size)).mono ?_; rintro e w2 ⟨v2, rfl, ho, hcc⟩; have HO2 := Lib.hid ho; have HO2s := Lib.hid hcc; have HCE := Lib.hid (HCB1.out.trans hcc); clear ho hcc)
          refine hK.out _ _ (KEEP.out _ HCE.out) (fun _ => ?_)
          clear hK K
          ((try dsimp only); (try simp only [Act.put, List.setIfInBounds_toArray, List.set_cons_zero, List.set_cons_succ]))
          (repeat (refine pt_read (v := ?_) rfl rfl ?_ ?_ ?_; rotate_left; (focus rfl); (focus (intro u hSw; (try dsimp only at hSw); go_simp; (try with_reducible rfl); done)); ((try dsimp only); (try simp only [Act.put, List.setIfInBounds_toArray, List.set_cons_zero, List.set_cons_succ]))))
          refine pt_nil ?_
          go_wp2_with fail
          have hmm := HMT.out
          go_roundw
          case rel => exact ⟨m + 1, by omega, by go_num, Lib.hid (by unfold encC; rw [flat_snocR encI HIK.out, ← List.append_assoc]; have h9 := HO2.out; simp only [enc1, enc4, List.flatMap_cons, List.flatMap_nil, List.append_nil, List.append_assoc] at h9 ⊢; unfold encI; simp only [List.append_assoc]; exact h9), Lib.hid (HC0.out.trans HCE.out)⟩
          case measure => simp [intOf]; omega
      · refine act_do rfl rfl ?_ (fun K hK => ?_)
        · rfl
        go_simp
        have HCA1 : Hid (Chg [] V0 (V0.drew.alloc (.cells #[.int .u32 iN] 49))) := Lib.hid (HD.out.alloc _)
        refine hK.out _ _ (KEEP.out _ HCA1.out) (fun _ => ?_)
        clear hK K
        ((try dsimp only); (try simp only [Act.put, List.setIfInBounds_toArray, List.set_cons_zero, List.set_cons_succ]))
        refine pt_act ?_
        refine act_do rfl rfl ?_ (fun K hK => ?_)
        · rfl
        go_simp
        have HCA2 : Hid (Chg [] V0 ((V0.drew.alloc (.cells #[.int .u32 iN] 49)).alloc (.cells #[.int .i64 iop, .int .i64 ia, .int .i64 ib, .int .i64 ic] 3))) := Lib.hid (HCA1.out.alloc _)
        refine hK.out _ _ (KEEP.out _ HCA2.out) (fun _ => ?_)
        clear hK K
        ((try dsimp only); (try simp only [Act.put, List.setIfInBounds_toArray, List.set_cons_zero, List.set_cons_succ]))
        refine pt_act ?_
        refine act_do rfl rfl ?_ (fun K hK => ?_)
        · rfl
        go_simp
        go_wp2_with (go_at_call 31; refine (bytes_any W.heap.size _ _ _ [iop, ia, ib, ic] _ (mem.own_chg HO0.out HCA2.out (by simp)) HW0.out (readsN_lit [iop, ia, ib, ic] #[.int .i64 iop, .int .i64 ia, .int .i64 ib, .int .i64 ic] 3 rfl (V0.drew.alloc (.cells #[.int .u32 iN] 49)) _ (by simp) 4 rfl (by simp)) HFX.out HLZ.out (Nat.le_trans HB0.out HCA2.out.size)).mono ?_; rintro e w1 ⟨v1, rfl, ho, hcc⟩; have HO1 := Lib.hid ho; have HO1s := Lib.hid hcc; have HCB1 := Lib.hid (HCA2.out.trans hcc); clear ho hcc)
        refine hK.out _ _ (KEEP.out _ HCB1.out) (fun _ => ?_)
        clear hK K
        ((try dsimp only); (try simp only [Act.put, List.setIfInBounds_toArray, List.set_cons_zero, List.set_cons_succ]))
        refine pt_act ?_
        refine act_do rfl rfl ?_ (fun K hK => ?_)
        · rfl
        go_simp
        go_wp2_with (go_at_call 48; refine (words_any W.heap.size _ _ _ [iN] _ HO1.out (HW0.out.app (enc1_wf _)) (((readsW_lit [iN] #[.int .u32 iN] 49 rfl V0.drew _ (by simp) 1 rfl (by simp) HWW.out).chg ((Chg.refl [] _).alloc _)).chg HO1s.out) HWW.out HLY.out (Nat.le_trans HB0.out HCB1.out.size)).mono ?_; rintro e w2 ⟨v2, rfl, ho, hcc⟩; have HO2 := Lib.hid ho; have HO2s := Lib.hid hcc; have HCE := Lib.hid (HCB1.out.trans hcc); clear ho hcc)
        refine hK.out _ _ (KEEP.out _ HCE.out) (fun _ => ?_)
        clear hK K
        ((try dsimp only); (try simp only [Act.put, List.setIfInBounds_toArray, List.set_cons_zero, List.set_cons_succ]))
        (repeat (refine pt_read (v := ?_) rfl rfl ?_ ?_ ?_; rotate_left; (focus rfl); (focus (intro u hSw; (try dsimp only at hSw); go_simp; (try with_reducible rfl); done)); ((try dsimp only); (try simp only [Act.put, List.setIfInBounds_toArray, List.set_cons_zero, List.set_cons_succ]))))
        refine pt_nil ?_
        go_wp2_with fail
        have hmm := HMT.out
        go_roundw
        case rel => exact ⟨m + 1, by omega, by go_num, Lib.hid (by unfold encC; rw [flat_snocR encI HIK.out, ← List.append_assoc]; have h9 := HO2.out; simp only [enc1, enc4, List.flatMap_cons, List.flatMap_nil, List.append_nil, List.append_assoc] at h9 ⊢; unfold encI; simp only [List.append_assoc]; exact h9), Lib.hid (HC0.out.trans HCE.out)⟩
        case measure => simp [intOf]; omega
    · obtain rfl : code.length = m := by omega
      clear hmt hm
      go_wp2_with fail
      go_ret
      exact ⟨_, rfl, by have h9 := HOJ.out; rw [List.take_length, ← HZH.out] at h9; unfold encT; simp only [List.append_assoc] at h9 ⊢; exact h9, HCA.out.trans HJ.out⟩
end Go.Proofs.Ytkmalnojkjmjiaa.img
