/- TopFits: the law walked. -/
import Derived.Test.YtkedegbpkkgeaaaGreatTop24
import Derived.Test.YtkedegbpkkgeaaaGreatTop18
import Derived.Test.YtkedegbpkkgeaaaGreatTop8
namespace Go.Proofs.YtkedegbpkkgeaaaGreat.tf
open Go Go.RowKit Go.Proofs.YtkedegbpkkgeaaaGreat.kit Go.Proofs.YtkedegbpkkgeaaaGreat.obj Go.Proofs.YtkedegbpkkgeaaaGreat.mem Go.Proofs.YtkedegbpkkgeaaaGreat.lay Go.Proofs.YtkedegbpkkgeaaaGreat.isa
set_option linter.unusedVariables false
set_option linter.unusedSimpArgs false
set_option maxRecDepth 20000

open Go.Proofs.YtkedegbpkkgeaaaGreat.word
theorem few_all {ts : List Tk} {os : List Ob} {m : Int} (h : fewS ts os m = true) : ((ts.length : Int) ≤ m ∧ (os.length : Int) ≤ m) ∧ ∀ o ∈ os, o.small = true := by
  unfold fewS fewT at h
  simp only [Bool.and_eq_true, decide_eq_true_eq, List.all_eq_true] at h
  exact ⟨⟨h.1.1, h.2.1⟩, h.2.2⟩
set_option maxHeartbeats 32000000 in
theorem topfits_any (ta : Option Addr) (tc : Nat) (oa : Option Addr) (oc : Nat) (ts : List DT) (os : List DO) (W : World) (hT : ReadsDT W (.slice ta ts.length tc) ts) (hO : ReadsDO W (.slice oa os.length oc) os) (hw0 : ∀ d ∈ os, d.o.small = true → d.o.W) :
    Calls Tryz.prog 3 #[.agg #[.slice ta ts.length tc, .slice oa os.length oc]] W fun e W' => e = .returned (.bool true) ∧ Chg [] W W' := by
  have HC1 : Hid (Chg [] W (W.alloc (.cells #[.slice ta ts.length tc, .slice oa os.length oc] 25))) := Lib.hid ((Chg.refl [] W).alloc _)
  have HB0 : Hid (Blk (W.alloc (.cells #[.slice ta ts.length tc, .slice oa os.length oc] 25)) W.heap.size #[.slice ta ts.length tc, .slice oa os.length oc] 25) := Lib.hid (Blk.new W _ _)
  have hfw := fewS_any ta tc oa oc (ts.map DT.t) (os.map DO.o) 20 ⟨by decide, by decide⟩ (W.alloc (.cells #[.slice ta ts.length tc, .slice oa os.length oc] 25)) (by have h := (hT.chg HC1.out).1; simpa only [List.length_map] using h) (by have h := (hO.chg HC1.out).1; simpa only [List.length_map] using h)
  simp only [List.length_map] at hfw
  by_cases hf : fewS (ts.map DT.t) (os.map DO.o) 20 = true
  rotate_left
  · have hf0 : fewS (ts.map DT.t) (os.map DO.o) 20 = false := by simpa using hf
    rw [hf0] at hfw
    have HFW := Lib.hid hfw
    clear hfw hT hO hw0 hf hf0
    go_enter Tryz.func3, Tryz.ntmps3
    go_wp2_with (first
      | (go_at_call 4; refine HFW.out.mono ?_; rintro e w2 ⟨rfl, hc2⟩; have HC2 := Lib.hid (HC1.out.trans hc2); clear hc2)
      | (go_at_call 6; refine (judges_any _).mono ?_; rintro e wj ⟨rfl, hcj⟩; have HCJ := Lib.hid hcj; clear hcj))
    go_ret
    exact ⟨rfl, HC2.out.trans HCJ.out⟩
  rw [hf] at hfw
  have hfa := few_all hf
  simp only [List.length_map] at hfa
  have hw : ∀ d ∈ os, d.o.W := fun d hd => hw0 d hd (hfa.2 d.o (List.mem_map.2 ⟨d, hd, rfl⟩))
  have hrd : ∀ d ∈ os, d.rds.length ≤ 1000 := fun d hd => by have h1 := (hw d hd).rlen; have h2 := (hO.2 d hd).lenr; omega
  have HFI := Lib.hid (fun V (hV : Chg [] W V) => r32Fine_any ta tc oa oc ts os V (hT.chg hV) (hO.chg hV) hw ⟨by omega, by omega⟩ hrd)
  have HSK : Hid (∀ V, Chg [] W V → FineS (sys ts os) → SysOK V ta tc oa oc ts os) := Lib.hid (fun V hV hf => ⟨hT.chg hV, hO.chg hV, hw, hf⟩)
  obtain ⟨-, b1, o1, hx1, hc1⟩ := tasks_at hT
  have HX := Lib.hid hx1
  have HQ := Lib.hid hc1
  have HFW := Lib.hid hfw
  clear hfw hT hO hw0 hf hfa hw hrd hx1 hc1
  go_enter Tryz.func3, Tryz.ntmps3
  go_upto_region 1 with fail
  obtain ⟨w1, hw1⟩ : ∃ x, x = (W.alloc (.cells #[.slice ta ts.length tc, .slice oa os.length oc] 25)) := ⟨_, rfl⟩
  rw [← hw1] at HC1 HB0 HFW
  try rw [← hw1]
  clear hw1
  have s0 := HB0.out.cell (o := 0) (v := .slice ta ts.length tc) rfl
  have s1 := HB0.out.cell (o := 1) (v := .slice oa os.length oc) rfl
  go_upto_region 3 with (first
    | (go_at_call 4; refine HFW.out.mono ?_; rintro e w2 ⟨rfl, hc2⟩; have HK2 := Lib.hid hc2; have s2 := (HB0.out.keep hc2 (by simp)).cell (o := 0) (v := .slice ta ts.length tc) rfl; have s3 := (HB0.out.keep hc2 (by simp)).cell (o := 1) (v := .slice oa os.length oc) rfl; clear hc2)
    | (go_at_call 5; refine (HFI.out _ (HC1.out.trans HK2.out)).mono ?_; rintro e w3 ⟨⟨x, rfl, hx⟩, hc3⟩; have HXX := Lib.hid hx; have HK3 := Lib.hid (HK2.out.trans hc3); clear hx hc3; cases x)
    | (go_at_call 6; refine (judges_any _).mono ?_; rintro e wj ⟨rfl, hcj⟩; have HCJ := Lib.hid hcj; clear hcj))
  · go_ret
    exact ⟨rfl, (HC1.out.trans HK3.out).trans HCJ.out⟩
  clear s0 s1 s2 s3
  have HFS : Hid (FineS (sys ts os)) := Lib.hid (HXX.out (by first | rfl | trivial)).1
  have HOK : Hid (∀ V, Chg [] W V → SysOK V ta tc oa oc ts os) := Lib.hid (fun V hV => HSK.out V hV HFS.out)
  clear HXX HSK HFI HFW
  have HSV : Hid (∀ V, Chg [] w3 V → (V.cell? ⟨W.heap.size, 0, none⟩ = some (.slice ta ts.length tc) ∧ V.cell? ⟨W.heap.size, 1, none⟩ = some (.slice oa os.length oc)) ∧ Chg [] W V) := Lib.hid (fun V hV => by
    have B := HB0.out.keep (HK3.out.trans hV) (by simp)
    exact ⟨⟨B.cell rfl, B.cell rfl⟩, HC1.out.trans (HK3.out.trans hV)⟩)
  have HL := Lib.hid (HOK.out W (Chg.refl _ _)).lens
  obtain ⟨⟨s0, s1⟩, -⟩ := HSV.out w3 (Chg.refl _ _)
  go_wp2_with fail
  clear s0 s1
  go_loopw [26] (fun q wr => ∃ m : Nat, m ≤ ts.length ∧ q = .int .i64 (m : Int) ∧ Hid (∀ i : Nat, i < m → (∀ d, ts[i]? = some d → d.t.deadline ≤ 400) ∧ ∀ k : Nat, k < os.length → hopeM (sys ts os) i k = false) ∧ Hid (Chg [] w3 wr)) (fun q _ => ts.length - (intOf q).toNat)
  case atStart => exact ⟨0, Nat.zero_le _, rfl, Lib.hid (fun i hi => absurd hi (by omega)), Lib.hid (Chg.refl _ _)⟩
  case round =>
    obtain ⟨m, hm, rfl, HG, HJ⟩ := hrel
    by_cases hlm : m < ts.length
    · have HLM := Lib.hid hlm
      have mm : (m : Int) < (ts.length : Int) := by omega
      have g3 := HX.out m hlm
      obtain ⟨d, hd⟩ : ∃ d, ts[m]? = some d := ⟨_, List.getElem?_eq_getElem hlm⟩
      obtain ⟨⟨q0, q1, q2, q3⟩, q4, q5, q6⟩ := HQ.out wr (HSV.out wr HJ.out).2 m d hd
      have HD := Lib.hid hd
      obtain ⟨⟨tk, tp, tpe, tof, td, tow, tca, tcl, tcc⟩, code⟩ := d
      simp only at q0 q1 q2 q3 q4 q5 q6
      have k9 : IntKind.i64.wrap ((m : Int) + 1) = (m : Int) + 1 := by rw [IntKind.wrap_i64]; have := HL.out; omega
      have HA : Hid (Chg [] wr (wr.alloc (.cells #[.int .i64 tk, .int .i64 tp, .int .i64 tpe, .int .i64 tof, .int .i64 td, .int .i64 tow, .slice tca tcl tcc] 31))) := Lib.hid ((Chg.refl _ _).alloc _)
      clear hd hlm hm
      by_cases hdl : 400 < td
      · go_wp2_with (go_at_call 6; refine (judges_any _).mono ?_; rintro e wj ⟨rfl, hcj⟩; have HCJ := Lib.hid hcj; clear hcj)
        go_ret
        exact ⟨rfl, ((HSV.out wr HJ.out).2.trans HA.out).trans HCJ.out⟩
      · have e1 : (wr.alloc (.cells #[.int .i64 tk, .int .i64 tp, .int .i64 tpe, .int .i64 tof, .int .i64 td, .int .i64 tow, .slice tca tcl tcc] 31)).cell? ⟨W.heap.size, 1, none⟩ = some (.slice oa os.length oc) := (HSV.out _ (HJ.out.trans HA.out)).1.2
        go_wp2_with fail
        obtain ⟨w5, hw5⟩ : ∃ x, x = wr.alloc (.cells #[.int .i64 tk, .int .i64 tp, .int .i64 tpe, .int .i64 tof, .int .i64 td, .int .i64 tow, .slice tca tcl tcc] 31) := ⟨_, rfl⟩
        rw [← hw5] at HA
        try rw [← hw5]
        clear hw5 e1 q0 q1 q2 q3 q4 q5 q6 g3
        go_loopw [38] (fun p wx => ∃ j : Nat, j ≤ os.length ∧ p = .int .i64 (j : Int) ∧ Hid (∀ k : Nat, k < j → hopeM (sys ts os) m k = false) ∧ Hid (Chg [] w5 wx)) (fun p _ => os.length - (intOf p).toNat)
        case atStart => exact ⟨0, Nat.zero_le _, rfl, Lib.hid (fun k hk => absurd hk (by omega)), Lib.hid (Chg.refl _ _)⟩
        case round =>
          obtain ⟨j, hj, rfl, HP, HI⟩ := hrel
          have HIW : Hid (Chg [] w3 wr) := Lib.hid ((HJ.out.trans HA.out).trans HI.out)
          by_cases hlt : j < os.length
          · have HLT := Lib.hid hlt
            have m5 : (j : Int) < (os.length : Int) := by omega
            obtain ⟨⟨s0, s1⟩, hcw⟩ := HSV.out wr HIW.out
            have hhp := hopeless_any ta tc oa oc ts os m j wr (HOK.out wr hcw) HLM.out hlt
            obtain ⟨hb, hhb⟩ : ∃ x, hopeM (sys ts os) m j = x := ⟨_, rfl⟩
            rw [hhb] at hhp
            have HHP := Lib.hid hhp
            have HHB := Lib.hid hhb
            have k5 : IntKind.i64.wrap ((j : Int) + 1) = (j : Int) + 1 := by rw [IntKind.wrap_i64]; have := HL.out; omega
            clear hhp hhb hcw hlt hj
            cases hb
            · go_wp2_with (go_at_call 7; refine HHP.out.mono ?_; rintro e w6 ⟨rfl, hc6⟩; have HC6 := Lib.hid (HI.out.trans hc6); clear hc6)
              have hlt := HLT.out
              go_roundw
              case rel => exact ⟨j + 1, by omega, by go_num, Lib.hid (fun k hk => by by_cases h : k = j; subst h; exact HHB.out; exact HP.out k (by omega)), HC6⟩
              case measure => (simp [intOf]) <;> omega
            · go_wp2_with (first
                | (go_at_call 7; refine HHP.out.mono ?_; rintro e w6 ⟨rfl, hc6⟩; have HC6 := Lib.hid (HIW.out.trans hc6); clear hc6)
                | (go_at_call 6; refine (judges_any _).mono ?_; rintro e wj ⟨rfl, hcj⟩; have HCJ := Lib.hid hcj; clear hcj))
              go_ret
              exact ⟨rfl, (HSV.out _ HC6.out).2.trans HCJ.out⟩
          · obtain rfl : os.length = j := by omega
            have m5 : ¬ (os.length : Int) < (os.length : Int) := by omega
            clear hlt hj
            go_wp2
            have hlt := HLM.out
            go_roundw
            case rel => exact ⟨m + 1, by omega, by go_num, Lib.hid (fun i hi => by
              by_cases h : i = m
              · subst h
                exact ⟨fun d hd => by rw [HD.out] at hd; obtain rfl := Option.some.inj hd; show td ≤ 400; omega, HP.out⟩
              · exact HG.out i (by omega)), HIW⟩
            case measure => (simp [intOf]) <;> omega
    · obtain rfl : ts.length = m := by omega
      clear hlm hm
      have HHH : Hid (∀ i k : Nat, i < ts.length → k < os.length → hopeM (sys ts os) i k = false) := Lib.hid (fun i k hi hk => (HG.out i hi).2 k hk)
      have HDD : Hid (∀ t ∈ (sys ts os).ts, t.deadline ≤ 400) := Lib.hid (fun t ht => by
        obtain ⟨d, hd, rfl⟩ := List.mem_map.1 ht
        obtain ⟨i, hi, he⟩ := List.getElem_of_mem hd
        exact (HG.out i hi).1 d (List.getElem?_eq_some_iff.2 ⟨hi, he⟩))
      obtain ⟨SS, hSS⟩ : ∃ s, sys ts os = s := ⟨_, rfl⟩
      obtain ⟨RK, hRK⟩ : ∃ s, ranksM (ts.map (fun d => d.t.prio)) = s := ⟨_, rfl⟩
      have hAL := fun V (hV : Chg [] w3 V) => all_any ta tc oa oc ts os V (HOK.out V (HSV.out V hV).2)
      have hFT := fun V (hV : Chg [] w3 V) => fit_any ta tc oa oc ts os V (HOK.out V (HSV.out V hV).2)
      simp only [hSS, hRK] at hAL hFT
      obtain ⟨AM, hAM⟩ : ∃ a, allM SS RK ts.length = a := ⟨_, rfl⟩
      simp only [hAM] at hAL
      have HSS : Hid (sys ts os = SS ∧ ranksM (ts.map (fun d => d.t.prio)) = RK ∧ allM SS RK ts.length = AM ∧ SS.ts.length = ts.length ∧ SS.os.length = os.length) := Lib.hid ⟨hSS, hRK, hAM, by rw [← hSS]; simp [sys], by rw [← hSS]; simp [sys]⟩
      have HFT := Lib.hid hFT
      obtain ⟨⟨s0, s1⟩, -⟩ := HSV.out wr HJ.out
      clear HG hFT hSS hRK hAM
      by_cases he : AM.e = 0
      rotate_left
      · have HAB : Hid (∀ V, Chg [] w3 V → Calls Tryz.prog 8 #[.agg #[.slice ta ts.length tc, .slice oa os.length oc]] V fun e W' => e = .returned (.tuple #[.slice none 0 0, .slice none 0 0, .int .i64 AM.at_, .int .i64 AM.e]) ∧ Chg [] V W') := Lib.hid (fun V hV => (hAL V hV).mono fun e W' ⟨h1, h2⟩ => ⟨by
          rcases h1 with ⟨h0, -⟩ | ⟨-, h0⟩
          · exact absurd h0 he
          · exact h0, h2⟩)
        obtain ⟨ee, hee⟩ : ∃ x, AM.e = x := ⟨_, rfl⟩
        have d1 : (ee != 0) = true := by rw [← hee]; simpa using he
        rw [hee] at HAB
        clear hAL he hee
        go_wp2_with (first
          | (go_at_call 8; refine (HAB.out _ HJ.out).mono ?_; rintro e w6 ⟨rfl, hc6⟩; have HK6 := Lib.hid (HJ.out.trans hc6); obtain ⟨⟨s2, s3⟩, -⟩ := HSV.out w6 HK6.out; clear hc6)
          | (go_at_call 9; refine (HFT.out _ HK6.out).mono ?_; rintro e w7 ⟨⟨a, x, c, a2, y, c2, ok, rfl, -⟩, hc7⟩; have HK7 := Lib.hid ((HK6.out.trans hc7).alloc (.cells #[.slice a x c, .slice a2 y c2] 25)); clear hc7)
          | (go_at_call 6; refine (judges_any _).mono ?_; rintro e wj ⟨rfl, hcj⟩; have HCJ := Lib.hid hcj; clear hcj))
        go_ret
        exact ⟨rfl, (HSV.out _ HK7.out).2.trans HCJ.out⟩
      · have HAB : Hid (∀ V, Chg [] w3 V → Calls Tryz.prog 8 #[.agg #[.slice ta ts.length tc, .slice oa os.length oc]] V fun e W' => (∃ A C, e = .returned (.tuple #[.slice (some ⟨A, 0, none⟩) ts.length ts.length, .slice (some ⟨C, 0, none⟩) ts.length ts.length, .int .i64 (-1), .int .i64 0]) ∧ InB W' A AM.rs ∧ AM.rs.length = ts.length) ∧ Chg [] V W') := Lib.hid (fun V hV => (hAL V hV).mono fun e W' ⟨h1, h2⟩ => ⟨by
          rcases h1 with ⟨-, A, C, h0, h3, h4, -⟩ | ⟨h0, -⟩
          · exact ⟨A, C, h0, h3, h4⟩
          · exact absurd he h0, h2⟩)
        have HE := Lib.hid he
        clear hAL he
        go_upto_region 17 with (first
          | (go_at_call 8; refine (HAB.out _ HJ.out).mono ?_; rintro e w6 ⟨⟨A, C, rfl, hA, hAl⟩, hc6⟩; have HA := Lib.hid hA; have HAL := Lib.hid hAl; have HK6 := Lib.hid (HJ.out.trans hc6); obtain ⟨⟨s2, s3⟩, -⟩ := HSV.out w6 HK6.out; clear hc6 hA hAl)
          | (go_at_call 9; refine (HFT.out _ HK6.out).mono ?_; rintro e w7 ⟨⟨a, x, c, a2, y, c2, ok, rfl, hg⟩, hc7⟩; have HGD := Lib.hid hg; have HC7 := Lib.hid hc7; clear hc7 hg))
        clear s0 s1 s2 s3
        obtain ⟨ts', os', ⟨rfl, rfl⟩, hT', hO', hw', hsys⟩ := HGD.out (by rw [HSS.out.2.2.1]; exact HE.out)
        rw [HSS.out.2.2.1] at hsys
        have hpT : ts'.map DT.p = ts.map DT.p := by
          have h1 := congrArg S.ts hsys
          rw [← HSS.out.1] at h1
          exact h1
        have hln : ts'.length = ts.length := by simpa using congrArg List.length hpT
        have hlo : os'.length = os.length := by
          have h1 := congrArg (fun s : S => s.os.length) hsys
          have h2 := HSS.out.2.2.2.2
          simp only [sys, fitM, List.length_map, List.length_range] at h1
          omega
        have hrd' : ∀ d ∈ os', d.rds.length ≤ 1000 := fun d hd => by have h1 := (hw' d hd).rlen; have h2 := (hO'.2 d hd).lenr; omega
        have HFX := Lib.hid (fun V (hV : Chg [] w7 V) => r32Fine_any a c a2 c2 ts' os' V (hT'.chg hV) (hO'.chg hV) hw' ⟨by have := HL.out; omega, by have := HL.out; omega⟩ hrd')
        have HXT := Lib.hid (⟨hT', hO', hw', hsys, hpT, hln, hlo⟩ : _ ∧ _ ∧ _ ∧ _ ∧ _ ∧ _ ∧ _)
        have HBX : Hid (Blk (w7.alloc (.cells #[.slice a (ts').length c, .slice a2 (os').length c2] 25)) w7.heap.size #[.slice a (ts').length c, .slice a2 (os').length c2] 25) := Lib.hid (Blk.new w7 _ _)
        have HKX : Hid (Chg [] w7 (w7.alloc (.cells #[.slice a (ts').length c, .slice a2 (os').length c2] 25))) := Lib.hid ((Chg.refl _ _).alloc _)
        clear hT' hO' hw' hsys hpT hln hlo hrd' HGD
        obtain ⟨w8, hw8⟩ : ∃ x, x = w7.alloc (.cells #[.slice a (ts').length c, .slice a2 (os').length c2] 25) := ⟨_, rfl⟩
        rw [← hw8] at HBX HKX
        try rw [← hw8]
        clear hw8
        have HK8 : Hid (Chg [] w3 w8) := Lib.hid ((HK6.out.trans HC7.out).trans HKX.out)
        have t0 := HBX.out.cell (o := 0) (v := .slice a (ts').length c) rfl
        have t1 := HBX.out.cell (o := 1) (v := .slice a2 (os').length c2) rfl
        cases ok
        · go_wp2_with (go_at_call 6; refine (judges_any _).mono ?_; rintro e wj ⟨rfl, hcj⟩; have HCJ := Lib.hid hcj; clear hcj)
          go_ret
          exact ⟨rfl, (HSV.out _ HK8.out).2.trans HCJ.out⟩
        go_upto_region 19 with (first
          | (go_at_call 5; refine (HFX.out _ HKX.out).mono ?_; rintro e w9 ⟨⟨x, rfl, hx⟩, hc9⟩; have HXX := Lib.hid hx; have HC9 := Lib.hid hc9; clear hx hc9; cases x)
          | (go_at_call 6; refine (judges_any _).mono ?_; rintro e wj ⟨rfl, hcj⟩; have HCJ := Lib.hid hcj; clear hcj))
        · go_ret
          exact ⟨rfl, (HSV.out _ (HK8.out.trans HC9.out)).2.trans HCJ.out⟩
        have HFN := Lib.hid (HXX.out (by first | rfl | trivial))
        clear t0 t1
        have hlaw := law SS RK (by rw [← HSS.out.1]; exact HFS.out) (by rw [← HSS.out.1]; exact HDD.out) (fun i k hi hk => by rw [← HSS.out.1]; exact HHH.out i k (by rw [← HSS.out.2.2.2.1]; exact hi) (by rw [← HSS.out.2.2.2.2]; exact hk)) (by rw [HSS.out.2.2.2.1, HSS.out.2.2.1]; exact HE.out) (by
          have h1 := HFN.out.1
          rw [HXT.out.2.2.2.1] at h1
          rw [HSS.out.2.2.2.1, HSS.out.2.2.1]
          exact h1)
        simp only [HSS.out.2.2.2.1, HSS.out.2.2.2.2, HSS.out.2.2.1] at hlaw
        obtain ⟨XM, hXM⟩ : ∃ x, allM (fitM SS AM.rs) RK ts.length = x := ⟨_, rfl⟩
        rw [hXM] at hlaw
        obtain ⟨hl1, hl2, ⟨hl3, -⟩, hl4, hl5⟩ := hlaw
        have hck := fun V (hV : Chg [] w7 V) => acheck_any a c a2 c2 ts' os' V ⟨HXT.out.1.chg hV, HXT.out.2.1.chg hV, HXT.out.2.2.1, HFN.out.1⟩ HFN.out.2 (fun i k hi hk => by rw [HXT.out.2.2.2.1]; exact hl1 i k (by rw [← HXT.out.2.2.2.2.2.1]; exact hi) (by rw [← HXT.out.2.2.2.2.2.2]; exact hk)) (fun _ k hk i hi => by
          rw [HXT.out.2.2.2.1] at hi ⊢
          rw [prios_eq HXT.out.2.2.2.2.1, HSS.out.2.1, HXT.out.2.2.2.2.2.1, hXM]
          exact hl5 k (by rw [← HXT.out.2.2.2.2.2.2]; exact hk) i hi)
        have HCK : Hid (∀ V, Chg [] w7 V → Calls Tryz.prog 10 #[.agg #[.slice a (ts').length c, .slice a2 (os').length c2]] V fun e W' => (∃ B, e = .returned (.agg #[.int .i64 0, .int .i64 (-1), .int .i64 (-1), .slice (some ⟨B, 0, none⟩) ts.length ts.length]) ∧ InB W' B XM.rs) ∧ Chg [] V W') := Lib.hid (fun V hV => (hck V hV).mono fun e W' ⟨h1, h2⟩ => ⟨by
          have hx : allM (sys ts' os') (ranksM (ts'.map (fun d => d.t.prio))) ts'.length = XM := by rw [HXT.out.2.2.2.1, prios_eq HXT.out.2.2.2.2.1, HSS.out.2.1, HXT.out.2.2.2.2.2.1, hXM]
          rw [hx] at h1
          rcases h1 with ⟨h3, -⟩ | ⟨-, B, h3, h4⟩
          · exact absurd hl2 h3
          · rw [HXT.out.2.2.2.2.2.1] at h3
            exact ⟨B, h3, h4⟩, h2⟩)
        have HLE := Lib.hid hl4
        have HXL := Lib.hid hl3
        clear hck hl1 hl2 hl3 hl4 hl5 hXM
        have HK9 : Hid (Chg [] w7 w9) := Lib.hid (HKX.out.trans HC9.out)
        have t0 := (HBX.out.keep HC9.out (by simp)).cell (o := 0) (v := .slice a (ts').length c) rfl
        have t1 := (HBX.out.keep HC9.out (by simp)).cell (o := 1) (v := .slice a2 (os').length c2) rfl
        go_upto_region 20 with (go_at_call 10; refine (HCK.out _ HK9.out).mono ?_; rintro e wa ⟨⟨B, rfl, hB⟩, hca⟩; have HB := Lib.hid hB; have HKA := Lib.hid hca; clear hB hca)
        clear t0 t1
        obtain ⟨wb, hwb⟩ : ∃ x, x = wa.alloc (.cells #[.int .i64 0, .int .i64 (-1), .int .i64 (-1), .slice (some ⟨B, 0, none⟩) ts.length ts.length] 40) := ⟨_, rfl⟩
        have HBV : Hid (Blk wb wa.heap.size #[.int .i64 0, .int .i64 (-1), .int .i64 (-1), .slice (some ⟨B, 0, none⟩) ts.length ts.length] 40 ∧ Chg [] wa wb) := Lib.hid (by rw [hwb]; exact ⟨Blk.new wa _ _, (Chg.refl _ _).alloc _⟩)
        rw [← hwb]
        clear hwb
        obtain ⟨vb, hvb⟩ : ∃ x, wa.heap.size = x := ⟨_, rfl⟩
        rw [hvb] at HBV
        try rw [hvb]
        clear hvb
        have HKB : Hid (Chg [] w3 wb) := Lib.hid (((HK8.out.trans HC9.out).trans HKA.out).trans HBV.out.2)
        have HAB2 : Hid (InB wb A AM.rs) := Lib.hid (((((HA.out.keep HC7.out (by simp)).keep HKX.out (by simp)).keep HC9.out (by simp)).keep HKA.out (by simp)).keep HBV.out.2 (by simp))
        have HBB2 : Hid (InB wb B XM.rs) := Lib.hid (HB.out.keep HBV.out.2 (by simp))
        have v0 := HBV.out.1.cell (o := 0) (v := .int .i64 0) rfl
        have v3 := HBV.out.1.cell (o := 3) (v := .slice (some ⟨B, 0, none⟩) ts.length ts.length) rfl
        go_wp2_with fail
        go_loopw [87] (fun q wr => ∃ m : Nat, m ≤ ts.length ∧ q = .int .i64 (m : Int) ∧ Hid (Chg [] wb wr)) (fun q _ => ts.length - (intOf q).toNat)
        case atStart => exact ⟨0, Nat.zero_le _, rfl, Lib.hid (Chg.refl _ _)⟩
        case round =>
          clear HJ
          obtain ⟨m, hm, rfl, HJ⟩ := hrel
          by_cases hlm : m < ts.length
          · have HLM := Lib.hid hlm
            have mm : (m : Int) < (ts.length : Int) := by omega
            obtain ⟨xv, hxv⟩ : ∃ x, XM.rs[m]? = some x := ⟨_, List.getElem?_eq_getElem (by rw [HXL.out]; exact hlm)⟩
            obtain ⟨rv, hrv⟩ : ∃ x, AM.rs[m]? = some x := ⟨_, List.getElem?_eq_getElem (by rw [HAL.out]; exact hlm)⟩
            have m1 : ¬ rv < xv := by
              have h := HLE.out m
              rw [List.getD_eq_getElem?_getD, List.getD_eq_getElem?_getD, hxv, hrv] at h
              simp only [Option.getD_some] at h
              omega
            have b3 := (HBV.out.1.keep HJ.out (by simp)).cell (o := 3) (v := .slice (some ⟨B, 0, none⟩) ts.length ts.length) rfl
            have xb := (HBB2.out.keep HJ.out (by simp)).at hxv
            have rb := (HAB2.out.keep HJ.out (by simp)).at hrv
            have g1 := idxN B ts.length m hlm
            have g2 := idxN A ts.length m hlm
            have k9 : IntKind.i64.wrap ((m : Int) + 1) = (m : Int) + 1 := by rw [IntKind.wrap_i64]; have := HL.out; omega
            clear hxv hrv hlm hm
            go_upto_region 25 with fail
            have hHeld : (fun V : World => V.cell? ⟨vb, 3, none⟩ = some (.slice (some ⟨B, 0, none⟩) ts.length ts.length) ∧ V.cell? ⟨B, m, none⟩ = some (.int .i64 xv) ∧ V.cell? ⟨A, m, none⟩ = some (.int .i64 rv)) (World.drew wr) := ⟨b3, xb, rb⟩
            refine wp_region_plan (fun V : World => V.cell? ⟨vb, 3, none⟩ = some (.slice (some ⟨B, 0, none⟩) ts.length ts.length) ∧ V.cell? ⟨B, m, none⟩ = some (.int .i64 xv) ∧ V.cell? ⟨A, m, none⟩ = some (.int .i64 rv)) [(0, true, some 90), (1, true, some 91), (2, true, some 92), (3, true, some 93), (4, true, some 94), (5, true, some 95), (6, true, some 96), (7, true, some 97), (8, true, some 98), (9, true, some 99)] (by kernel_rfl) (by kernel_rfl) (by kernel_rfl) (by kernel_rfl) (fun d c a v w h => by cases d <;> exact h) hHeld ?_
            repeat (first
              | (refine planWp_read (v := ?_) rfl rfl ?_ ?_ ?_; rotate_left; (focus rfl); (focus (intro u hSw; (try dsimp only at hSw); obtain ⟨u0, u1, u2⟩ := hSw; go_simp; (try with_reducible rfl))); (try simp only [Act.put, List.setIfInBounds_toArray, List.set_cons_zero, List.set_cons_succ]))
              | (refine planWp_skip rfl rfl ?_ ?_; (focus rfl); (try simp only [Act.put, List.setIfInBounds_toArray, List.set_cons_zero, List.set_cons_succ]))
              | (refine planWp_leave rfl rfl ?_ hHeld ?_; (focus rfl); (try simp only [Act.put, List.setIfInBounds_toArray, List.set_cons_zero, List.set_cons_succ]))
              | (refine planWp_do rfl rfl ?_ (fun K hK => ?_); (focus rfl); go_simp; (try go_wp2_with fail); refine hK.out _ _ ?_ (fun hHeld2 => ?_); (focus exact hHeld); clear hK K hHeld; have hHeld := hHeld2; clear hHeld2; (try simp only [Act.put, List.setIfInBounds_toArray, List.set_cons_zero, List.set_cons_succ])))
            refine planWp_nil ?_
            clear b3 xb rb
            go_wp2
            have hlt := HLM.out
            go_roundw
            case rel => exact ⟨m + 1, by omega, by go_num, Lib.hid HJ.out.drew⟩
            case measure => (simp [intOf]) <;> omega
          · obtain rfl : ts.length = m := by omega
            clear hlm hm
            go_wp2_with (go_at_call 6; refine (judges_any _).mono ?_; rintro e wj ⟨rfl, hcj⟩; have HCJ := Lib.hid hcj; clear hcj)
            go_ret
            exact ⟨rfl, (HSV.out _ (HKB.out.trans HJ.out)).2.trans HCJ.out⟩
end Go.Proofs.YtkedegbpkkgeaaaGreat.tf
