import Derived.Test.YtkedegbpkkgeaaaGreatTop22
import Derived.Deep.CutRange
import Derived.Deep.CutBlock
import Derived.Test.YtkedegbpkkgeaaaGreatTop11
import Derived.Test.YtkedegbpkkgeaaaGreatTop19
import Derived.Test.YtkedegbpkkgeaaaGreatTop18
import Derived.Maps.OwnSet
import Derived.Maps.OwnOps
/- TopFits: size: Fit. -/
namespace Go.Proofs.YtkedegbpkkgeaaaGreat.tf
open Go Go.RowKit Go.Proofs.YtkedegbpkkgeaaaGreat.kit Go.Proofs.YtkedegbpkkgeaaaGreat.obj Go.Proofs.YtkedegbpkkgeaaaGreat.mem Go.Proofs.YtkedegbpkkgeaaaGreat.lay Go.Proofs.YtkedegbpkkgeaaaGreat.isa
set_option linter.unusedVariables false
set_option linter.unusedSimpArgs false
set_option maxRecDepth 20000

theorem results_row_tmpF {P : Program} {fn : Func} {p q : Tmp} {ty : TypeId} (h : fn.results = #[.cell p ty, .tmp q]) (tmps : Array Value) (w : World) (g : Nat) (t : TypeId) (cs : Array Value) (fr : Nat × Nat) (d : TypeDesc)
    (hp : tmps.getD p undef = .pointer (some ⟨g, 0, none⟩)) (hg : w.heap[g]? = some (.cells cs t fr))
    (hu : P.underlying ty = some d) (hd : (match d with | .struct _ | .array _ _ => true | _ => false) = true) (hi : (P.info? ty).map (·.size) = some cs.size) :
    (results fn tmps).run P w = .ok (.tuple #[.agg cs, tmps.getD q undef]) w := by
  have hp' : tmps[p]?.getD undef = .pointer (some ⟨g, 0, none⟩) := by simpa using hp
  simp [results, h, hp', asAddr, run_loadVar_row w g t ty cs fr d hg hu hd hi]
theorem set_same {α : Type} {xs : List α} {m : Nat} {d : α} (h : xs[m]? = some d) : xs.set m d = xs := by
  refine List.ext_getElem? fun j => ?_
  rw [List.getElem?_set]
  by_cases hj : m = j
  · subst hj
    rw [if_pos rfl, if_pos (List.getElem?_eq_some_iff.1 h).1, h]
  · rw [if_neg hj]
theorem prios_eq {ts' ts : List DT} (h : ts'.map DT.p = ts.map DT.p) : ts'.map (fun d => d.t.prio) = ts.map (fun d => d.t.prio) := by
  have := congrArg (List.map T.prio) h
  rw [List.map_map, List.map_map] at this
  exact this
set_option maxHeartbeats 16000000 in
theorem fit_any (ta : Option Addr) (tc : Nat) (oa : Option Addr) (oc : Nat) (ts : List DT) (os : List DO) (W : World) (h : SysOK W ta tc oa oc ts os) :
    Calls Tryz.prog 9 #[.agg #[.slice ta ts.length tc, .slice oa os.length oc]] W fun e W' => FitE (sys ts os) (ranksM (ts.map (fun d => d.t.prio))) ts.length e W' ∧ Chg [] W W' := by
  have hl := h.lens
  have HC2 : Hid (Chg [] W ((W.alloc (.cells #[.slice ta ts.length tc, .slice oa os.length oc] 25)).alloc (.cells #[.slice none 0 0, .slice none 0 0] 25))) := Lib.hid (((Chg.refl [] W).alloc _).alloc _)
  have HB0 : Hid (Blk ((W.alloc (.cells #[.slice ta ts.length tc, .slice oa os.length oc] 25)).alloc (.cells #[.slice none 0 0, .slice none 0 0] 25)) W.heap.size #[.slice ta ts.length tc, .slice oa os.length oc] 25) := Lib.hid ((Blk.new W _ _).alloc _)
  have HB1 : Hid (Blk ((W.alloc (.cells #[.slice ta ts.length tc, .slice oa os.length oc] 25)).alloc (.cells #[.slice none 0 0, .slice none 0 0] 25)) (W.heap.size + 1) #[.slice none 0 0, .slice none 0 0] 25) := Lib.hid (by
    have := Blk.new (W.alloc (.cells #[.slice ta ts.length tc, .slice oa os.length oc] 25)) #[.slice none 0 0, .slice none 0 0] 25
    rwa [show (W.alloc (.cells #[.slice ta ts.length tc, .slice oa os.length oc] 25)).heap.size = W.heap.size + 1 by simp] at this)
  have HCP := Lib.hid (fun V (ta' : Option Addr) (tc' : Nat) (oa' : Option Addr) (oc' : Nat) (ts' : List DT) (os' : List DO) (h' : SysOK V ta' tc' oa' oc' ts' os') => scopy_any ta' tc' oa' oc' ts' os' V h'.T h'.O ⟨h'.lens.1.2, h'.lens.2⟩ (fun d hd => by
    obtain ⟨i, hi, he⟩ := List.getElem_of_mem hd
    exact (h'.code (i := i) (List.getElem?_eq_some_iff.2 ⟨hi, he⟩)).len.2) (fun d hd => ⟨by
      have hh := h'.fine.right d.p (List.mem_map.2 ⟨d, hd, rfl⟩)
      unfold O.right rightB at hh
      rw [decide_eq_true_eq] at hh
      simp only [DO.p] at hh
      omega, h'.rds d hd⟩))
  have HOK := Lib.hid h
  have HL := Lib.hid hl
  obtain ⟨SS, hSS⟩ : ∃ s, sys ts os = s := ⟨_, rfl⟩
  obtain ⟨RK, hRK⟩ : ∃ s, ranksM (ts.map (fun d => d.t.prio)) = s := ⟨_, rfl⟩
  have HSS : Hid (sys ts os = SS ∧ ranksM (ts.map (fun d => d.t.prio)) = RK) := Lib.hid ⟨hSS, hRK⟩
  rw [hSS, hRK]
  clear h hl hSS hRK
  go_enter Tryz.func9, Tryz.ntmps9
  go_upto_region 1 with fail
  obtain ⟨w2, hw2⟩ : ∃ x, x = ((W.alloc (.cells #[.slice ta ts.length tc, .slice oa os.length oc] 25)).alloc (.cells #[.slice none 0 0, .slice none 0 0] 25)) := ⟨_, rfl⟩
  rw [← hw2] at HC2 HB0 HB1
  try rw [← hw2]
  have HS2 : Hid (w2.heap.size = W.heap.size + 2) := Lib.hid (by rw [hw2]; simp)
  clear hw2
  have s0 := HB0.out.cell (o := 0) (v := .slice ta ts.length tc) rfl
  have s1 := HB0.out.cell (o := 1) (v := .slice oa os.length oc) rfl
  go_upto_region 2 with (first
    | (go_at_call 20; refine (HCP.out w2 ta tc oa oc ts os (HOK.out.chg HC2.out)).mono ?_; rintro e w3 ⟨⟨a1, c1, ts1, a2, c2, os1, rfl, hcop⟩, hc3⟩; have HCOP := Lib.hid hcop; have HC3 := Lib.hid hc3; have HB03 := Lib.hid (HB0.out.keep hc3 (by simp)); have HB13 := Lib.hid (HB1.out.keep hc3 (by simp)); clear hcop hc3)
    | (refine Go.Proofs.YtkedegbpkkgeaaaGreat.blk.wpList_store_blk rfl 25 (.tmp 1) (.tmp 14) rfl W.heap.size #[.slice a1 ts1.length c1, .slice a2 os1.length c2] rfl rfl HB03.out szSy rfl (by simp [Value.oneCell']) ?_; intro w4 hb4 hc4; have HB04 := Lib.hid hb4; have HC4 := Lib.hid hc4; clear hb4 hc4))
  clear s0 s1
  have HFR : Hid (∀ T, T ≠ 25 → Far w3 [W.heap.size] T) := Lib.hid (fun T hT => far_blk HB03.out (Ne.symm hT))
  have HCO4 : Hid (Cop w4 w2.heap.size a1 c1 ts1 a2 c2 os1 ts os) := Lib.hid ⟨HCOP.out.T.keep HC4.out (HFR.out _ (by decide)) (HFR.out _ (by decide)), HCOP.out.O.keep HC4.out (HFR.out _ (by decide)) (HFR.out _ (by decide)) (HFR.out _ (by decide)), HCOP.out.tp, HCOP.out.op⟩
  have HB14 := Lib.hid (HB13.out.keep HC4.out (by simp))
  have HOK4 := Lib.hid (HCO4.out.ok HOK.out)
  have HW4 : Hid (Chg [] W w4) := Lib.hid ((HC2.out.trans HC3.out).into HC4.out (by simp))
  have HLN : Hid (ts1.length = ts.length ∧ os1.length = os.length) := Lib.hid ⟨by have := congrArg List.length HCO4.out.tp; simpa using this, by have := congrArg List.length HCO4.out.op; simpa using this⟩
  have HS1 : Hid (sys ts1 os1 = SS ∧ ranksM (ts1.map (fun d => d.t.prio)) = RK) := Lib.hid ⟨by rw [← HSS.out.1]; unfold sys; rw [HCO4.out.tp, HCO4.out.op], by rw [prios_eq HCO4.out.tp]; exact HSS.out.2⟩
  have hAL := all_any a1 c1 a2 c2 ts1 os1 w4 HOK4.out
  rw [HS1.out.1, HS1.out.2] at hAL
  have r0 := HB04.out.cell (o := 0) (v := .slice a1 ts1.length c1) rfl
  have r1 := HB04.out.cell (o := 1) (v := .slice a2 os1.length c2) rfl
  obtain ⟨n, hn⟩ : ∃ n, ts1.length = n := ⟨_, rfl⟩
  have HN : Hid (ts1.length = n ∧ ts.length = n) := Lib.hid ⟨hn, by rw [← HLN.out.1]; exact hn⟩
  rw [show ts.length = n from HN.out.2]
  rw [hn] at hAL
  obtain ⟨AM, hAM⟩ : ∃ a, allM SS RK n = a := ⟨_, rfl⟩
  rw [hAM] at hAL
  have HAM := Lib.hid hAM
  by_cases he : AM.e = 0
  rotate_left
  · have HAB : Hid (Calls Tryz.prog 8 #[.agg #[.slice a1 n c1, .slice a2 os1.length c2]] w4 fun e W' => e = .returned (.tuple #[.slice none 0 0, .slice none 0 0, .int .i64 AM.at_, .int .i64 AM.e]) ∧ Chg [] w4 W') := Lib.hid (hAL.mono fun e W' ⟨h1, h2⟩ => ⟨by
      rcases h1 with ⟨h0, -⟩ | ⟨-, h0⟩
      · exact absurd h0 he
      · exact h0, h2⟩)
    rw [← hn] at HAB
    have HE := Lib.hid he
    obtain ⟨ee, hee⟩ : ∃ x, AM.e = x := ⟨_, rfl⟩
    have d1 : (ee != 0) = true := by rw [← hee]; simpa using he
    rw [hee] at HAB
    clear hAL hAM he hee hn
    go_upto_region 4 with (go_at_call 8; refine HAB.out.mono ?_; rintro e w5 ⟨rfl, hc5⟩; have HC5 := Lib.hid hc5; have HB05 := Lib.hid (HB04.out.keep hc5 (by simp)); have HB15 := Lib.hid (HB14.out.keep hc5 (by simp)); have t0 := HB05.out.cell (o := 0) (v := .slice a1 ts1.length c1) rfl; have t1 := HB05.out.cell (o := 1) (v := .slice a2 os1.length c2) rfl; clear hc5)
    go_wp2_with (refine Go.Proofs.YtkedegbpkkgeaaaGreat.blk.wpList_store_blk rfl 25 (.tmp 2) (.tmp 24) rfl (W.heap.size + 1) #[.slice a1 ts1.length c1, .slice a2 os1.length c2] rfl rfl HB15.out szSy rfl (by simp [Value.oneCell']) ?_; intro w9 hb9 hc9; have HB9 := Lib.hid hb9; have HC9 := Lib.hid hc9; clear hb9 hc9)
    refine bodyPost_ret (results_row_tmpF rfl _ _ (W.heap.size + 1) 25 _ (0, 0) _ rfl HB9.out Tryz.underlying25 rfl szSy) rfl ?_
    exact ⟨⟨_, _, _, _, _, _, false, rfl, fun h0 => absurd (by rw [HN.out.2, HAM.out] at h0; exact h0) HE.out⟩, (HW4.out.trans HC5.out).into HC9.out (by simp)⟩
  · have HAB : Hid (Calls Tryz.prog 8 #[.agg #[.slice a1 n c1, .slice a2 os1.length c2]] w4 fun e W' => (∃ A C, e = .returned (.tuple #[.slice (some ⟨A, 0, none⟩) n n, .slice (some ⟨C, 0, none⟩) n n, .int .i64 (-1), .int .i64 0]) ∧ InB W' A AM.rs ∧ AM.rs.length = n) ∧ Chg [] w4 W') := Lib.hid (hAL.mono fun e W' ⟨h1, h2⟩ => ⟨by
      rcases h1 with ⟨-, A, C, h0, h3, h4, -⟩ | ⟨h0, -⟩
      · exact ⟨A, C, h0, h3, h4⟩
      · exact absurd he h0, h2⟩)
    rw [← hn] at HAB
    have HRB : Hid (∀ x ∈ AM.rs, x ≤ 9223372036854775807) := Lib.hid (fun x hx => by
      have h := all_bd (s := SS) (fine_dl (by rw [← HSS.out.1]; exact HOK.out.fine)) RK n x (by rw [hAM]; exact hx)
      omega)
    clear hAL hAM he hn
    go_upto_region 5 with (go_at_call 8; refine HAB.out.mono ?_; rintro e w5 ⟨⟨A, C, rfl, hA, hAl⟩, hc5⟩; have HA := Lib.hid hA; have HAl := Lib.hid hAl; have HC5 := Lib.hid hc5; have HB05 := Lib.hid (HB04.out.keep hc5 (by simp)); have HB15 := Lib.hid (HB14.out.keep hc5 (by simp)); have t0 := HB05.out.cell (o := 0) (v := .slice a1 ts1.length c1) rfl; have t1 := HB05.out.cell (o := 1) (v := .slice a2 os1.length c2) rfl; clear hA hAl hc5)
    have HOK5 := Lib.hid (HOK4.out.chg HC5.out)
    go_upto_region 6 with (go_at_call 20; refine (HCP.out w5 a1 c1 a2 c2 ts1 os1 HOK5.out).mono ?_; rintro e w6 ⟨⟨a3, c3, ts2, a4, c4, os2, rfl, hcop⟩, hc6⟩; have HCO6 := Lib.hid hcop; have HC6 := Lib.hid hc6; have HB06 := Lib.hid (HB05.out.keep hc6 (by simp)); have HB16 := Lib.hid (HB15.out.keep hc6 (by simp)); clear hcop hc6)
    obtain ⟨w7, hw7⟩ : ∃ x, x = w6.alloc (.cells #[.slice a3 ts2.length c3, .slice a4 os2.length c4] 25) := ⟨_, rfl⟩
    have HX7 : Hid (Blk w7 w6.heap.size #[.slice a3 ts2.length c3, .slice a4 os2.length c4] 25 ∧ w7.heap.size = w6.heap.size + 1 ∧ Chg [] w6 w7) := Lib.hid (by rw [hw7]; exact ⟨Blk.new w6 _ _, by simp, (Chg.refl _ _).alloc _⟩)
    rw [← hw7]
    clear hw7 t0 t1
    have HB07 := Lib.hid (HB06.out.keep HX7.out.2.2 (by simp))
    have HB17 := Lib.hid (HB16.out.keep HX7.out.2.2 (by simp))
    have HC57 : Hid (Chg [] w5 w7) := Lib.hid (HC6.out.trans HX7.out.2.2)
    have HCT7 := Lib.hid (HCO6.out.T.keep HX7.out.2.2 (far_nil _ _) (far_nil _ _))
    have HCX7 := Lib.hid (HCO6.out.O.keep HX7.out.2.2 (far_nil _ _) (far_nil _ _) (far_nil _ _))
    obtain ⟨M, hM⟩ : ∃ M, os1.length = M := ⟨_, rfl⟩
    have HM : Hid (os1.length = M ∧ os2.length = M ∧ M ≤ 8 ∧ SS.os.length = M) := Lib.hid ⟨hM, by have := congrArg List.length HCO6.out.op; simp at this; omega, by have := HOK5.out.lens.2; omega, by rw [← HS1.out.1]; simp [sys, hM]⟩
    clear hM
    obtain ⟨g, HGA⟩ : ∃ g, Hid ((M = 0 ∨ a4 = some ⟨g, 0, none⟩) ∧ w5.heap.size ≤ g ∧ g ≠ w6.heap.size) := by
      rcases HCO6.out.O.row.2 with ⟨-, h0⟩ | ⟨g, cap, cur, he, hB, hg, -⟩
      · exact ⟨w7.heap.size + 1, Lib.hid ⟨.inl (by rw [← HM.out.2.1]; exact h0), by have := HC57.out.size; omega, by have := HX7.out.2.1; omega⟩⟩
      · simp only [Value.slice.injEq] at he
        exact ⟨g, Lib.hid ⟨.inr he.1, hB, by have := lt_of_block hg; omega⟩⟩
    have HSV : Hid (∀ V, Chg [g] w7 V → Chg [] w5 V) := Lib.hid (fun V hV => HC57.out.into hV (fun y hy => .inr (by simp at hy; subst hy; exact HGA.out.2.1)))
    have HW5 : Hid (Chg [] W w5) := Lib.hid (HW4.out.trans HC5.out)
    have HR0 : Hid (W.heap.size + 1 < w5.heap.size) := Lib.hid HB15.out.lt
    have HBV : Hid (∀ V, Chg [g] w7 V → Blk V W.heap.size #[.slice a1 ts1.length c1, .slice a2 os1.length c2] 25 ∧ Blk V (W.heap.size + 1) #[.slice none 0 0, .slice none 0 0] 25 ∧ Blk V w6.heap.size #[.slice a3 ts2.length c3, .slice a4 os2.length c4] 25) := Lib.hid (fun V hV => ⟨HB05.out.keep (HSV.out V hV) (by simp), HB15.out.keep (HSV.out V hV) (by simp), HX7.out.1.keep hV (by simp; exact Ne.symm HGA.out.2.2)⟩)
    obtain ⟨-, b5, o5, hx5, hc5⟩ := objs_at HOK5.out.O
    have HXO := Lib.hid hx5
    have HQO := Lib.hid hc5
    clear hx5 hc5
    have HSO : Hid (∀ (k : Nat) (d : DO), os1[k]? = some d → SS.o (k : Int) = d.p) := Lib.hid (fun k d hd => by rw [← HS1.out.1]; exact sys_o ts1 hd)
    have HRD : Hid (∀ V, Chg [] w5 V → ReadsN V (.slice (some ⟨A, 0, none⟩) ts1.length ts1.length) AM.rs) := Lib.hid (fun V hV => by
      have h := (HA.out.keep hV (by simp)).reads (by rw [HAl.out]; have := HOK5.out.lens; omega)
      rwa [HAl.out] at h)
    have HSL : Hid (∀ (k : Nat) (d : DO), os1[k]? = some d → d.o.k = 4 → ∀ V, Chg [] w5 V → Calls Tryz.prog 21 #[.agg #[.slice a1 ts1.length c1, .slice a2 os1.length c2], .int .i64 (k : Int), .slice (some ⟨A, 0, none⟩) ts1.length ts1.length] V fun e W' => e = .returned (.int .i64 (slotsM SS k AM.rs)) ∧ Chg [] V W') := Lib.hid (fun k d hd hk V hV => by
      have h := slots_any a1 c1 a2 c2 ts1 os1 k (some ⟨A, 0, none⟩) ts1.length AM.rs V (HOK5.out.chg hV) (by rw [HAl.out]; exact HRD.out V hV) HAl.out HRB.out d hd hk
      rw [HAl.out, HS1.out.1] at h
      exact h)
    have HSC : Hid (∀ (k : Nat) (d : DO), os1[k]? = some d → triesB d.o.k = true → ∀ V, Chg [] w5 V → Calls Tryz.prog 23 #[.agg #[.slice a1 ts1.length c1, .slice a2 os1.length c2], .int .i64 (k : Int), .slice (some ⟨A, 0, none⟩) ts1.length ts1.length] V fun e W' => e = .returned (.int .i64 (capsM SS k AM.rs)) ∧ Chg [] V W') := Lib.hid (fun k d hd hk V hV => by
      have h := caps_any a1 c1 a2 c2 ts1 os1 k (some ⟨A, 0, none⟩) ts1.length AM.rs V (HOK5.out.chg hV) (by rw [HAl.out]; exact HRD.out V hV) HAl.out HRB.out d hd hk
      rw [HAl.out, HS1.out.1] at h
      exact h)
    have s1 := HB07.out.cell (o := 1) (v := .slice a2 os1.length c2) rfl
    go_wp2_with fail
    clear s1
    go_loopw [9, 30] (fun o q wr => ∃ (m : Nat) (b : Bool) (xs : List DO), m ≤ M ∧ q = .int .i64 (m : Int) ∧ o = .bool b ∧ Hid (Fts SS AM.rs M m xs) ∧ Hid (CopO wr w5.heap.size a4 c4 xs) ∧ Hid (CopT wr w5.heap.size a3 c3 ts2) ∧ Hid (∀ d ∈ xs, d.o.W) ∧ Hid (Chg [g] w7 wr)) (fun _ q _ => M - (intOf q).toNat)
    case atStart => exact ⟨0, true, os2, Nat.zero_le _, rfl, rfl, Lib.hid ⟨HM.out.2.1, fun j d hj => by
      have hp : d.p = SS.o j := by
        have h1 : (os2.map DO.p)[j]? = some d.p := by rw [List.getElem?_map, hj]; rfl
        rw [HCO6.out.op, List.getElem?_map] at h1
        obtain ⟨d1, hd1, hd2⟩ := Option.map_eq_some_iff.1 h1
        rw [HSO.out j d1 hd1, hd2]
      simpa using hp⟩, HCX7, HCT7, Lib.hid (HCO6.out.ok HOK5.out).w, Lib.hid (Chg.refl _ _)⟩
    case round =>
      obtain ⟨m, b, xs, hm, rfl, rfl, HF, HXS, HXT, HXW, HJ⟩ := hrel
      by_cases hlm : m < M
      · have HLM := Lib.hid hlm
        have mm : (m : Int) < (os1.length : Int) := by have := HM.out; omega
        have g3 := HXO.out m (by have := HM.out; omega)
        obtain ⟨d, hd⟩ : ∃ d, os1[m]? = some d := ⟨_, List.getElem?_eq_getElem (by have := HM.out; omega)⟩
        obtain ⟨dx, hdx⟩ : ∃ d, xs[m]? = some d := ⟨_, List.getElem?_eq_getElem (by rw [HF.out.len]; exact hlm)⟩
        have hpp : dx.p = d.p := by
          have h1 := HF.out.at_ m dx hdx
          rw [if_neg (by omega), HSO.out m d hd] at h1
          exact h1
        have ha4 : a4 = some ⟨g, 0, none⟩ := by rcases HGA.out.1 with h0 | h0; omega; exact h0
        subst ha4
        obtain ⟨⟨q0, q1, q2, q3⟩, q4, q5, q6, q7⟩ := HQO.out wr (HSV.out wr HJ.out) m d hd
        have hsl := HSL.out m d hd
        have hsc := HSC.out m d hd
        have hso := HSO.out m d hd
        have hwd := HOK5.out.w d (List.mem_of_getElem? hd)
        have hri : d.p.right = true := HOK5.out.fine.right d.p (List.mem_map.2 ⟨d, List.mem_of_getElem? hd, rfl⟩)
        have hli := (HOK5.out.O.2 d (List.mem_of_getElem? hd)).leni
        have hlr := (HOK5.out.O.2 d (List.mem_of_getElem? hd)).lenr
        have hxi := (HXS.out.ini dx (List.mem_of_getElem? hdx)).1
        have hxr := (HXS.out.rds dx (List.mem_of_getElem? hdx)).1
        obtain ⟨⟨k', w', s', c', st', ia, il, ic, wri', ra, rl, rc⟩, ini', rds'⟩ := d
        obtain ⟨⟨k, w, s, c, st, ia2, il2, ic2, wri, ra2, rl2, rc2⟩, ini, rds⟩ := dx
        simp only [DO.p, O.mk.injEq] at hpp
        obtain ⟨rfl, rfl, rfl, rfl, rfl, rfl, rfl, rfl⟩ := hpp
        simp only at q0 q1 q2 q3 q4 q5 q6 q7 hli hlr hxi hxr hsl hsc
        subst hli hlr hxi hxr
        have e0 : ∀ x, (wr.alloc x).cell? ⟨w6.heap.size, 1, none⟩ = some (.slice (some ⟨g, 0, none⟩) os2.length c4) := fun x => (HBV.out _ (HJ.out.alloc x)).2.2.cell (o := 1) rfl
        have m3 : (m : Int) < (os2.length : Int) := by have := HM.out; omega
        have g4 := index_at Tryz.underlying23 szObj g os2.length c4 m (by have := HM.out; omega)
        obtain ⟨s2, hs2⟩ : ∃ x, (if k = 4 then max s (slotsM SS m AM.rs) else s) = x := ⟨_, rfl⟩
        obtain ⟨cc2, hcc2⟩ : ∃ x, (if triesB k = true then max c (capsM SS m AM.rs) else c) = x := ⟨_, rfl⟩
        have hfo : fitO SS AM.rs m (SS.o m) = ⟨k, w, s2, cc2, st, ini, wri, rds⟩ := by
          rw [hso, ← hs2, ← hcc2]
          rfl
        have hb1 := slots_bd SS m AM.rs
        have hb2 := caps_bd SS m AM.rs
        have HWD : Hid (ObjW k w s2 cc2 st ini.length rds.length ∧ ObjW k w s c st ini.length rds.length ∧ 1 ≤ k ∧ k ≤ 6) := Lib.hid (by
          have h1 : ObjW k w s c st ini.length rds.length := hwd
          have hk : 1 ≤ k ∧ k ≤ 6 := by
            have h2 := rightB_bd hri
            simp only [DO.p] at h2
            omega
          refine ⟨ObjW.sc h1 ?_ ?_, h1, hk⟩
          · have := h1.s64; rw [← hs2]; split <;> omega
          · have := h1.c64; rw [← hcc2]; split <;> omega)
        have HFO := Lib.hid hfo
        have HDX := Lib.hid hdx
        have HS2 := Lib.hid hs2
        have HC2 := Lib.hid hcc2
        have HSLX := Lib.hid hsl
        have HSCX := Lib.hid hsc
        have HB8 := Lib.hid (Blk.new wr #[.int .i64 k, .int .i64 w, .int .i64 s, .int .i64 c, .int .u32 st, .slice ia ini.length ic, .int .i64 wri, .slice ra rds.length rc] 46)
        have HA8 : Hid (Chg [] wr (wr.alloc (.cells #[.int .i64 k, .int .i64 w, .int .i64 s, .int .i64 c, .int .u32 st, .slice ia ini.length ic, .int .i64 wri, .slice ra rds.length rc] 46))) := Lib.hid ((Chg.refl _ _).alloc _)
        clear hs2 hcc2 hb1 hb2 hwd hri hso hsl hsc hdx hd hfo hlm hm
        go_upto_region 10 with fail
        obtain ⟨w8, hw8⟩ : ∃ x, x = wr.alloc (.cells #[.int .i64 k, .int .i64 w, .int .i64 s, .int .i64 c, .int .u32 st, .slice ia ini.length ic, .int .i64 wri, .slice ra rds.length rc] 46) := ⟨_, rfl⟩
        rw [← hw8] at HB8 HA8
        try rw [← hw8]
        clear hw8 e0 g3 g4 q0 q1 q2 q3 q4 q5 q6 q7
        have HJ8 : Hid (Chg [g] w7 w8) := Lib.hid (HJ.out.trans (HA8.out.mono (by simp)))
        have HXS8 := Lib.hid (HXS.out.keep HA8.out (far_nil _ _) (far_nil _ _) (far_nil _ _))
        have HXT8 := Lib.hid (HXT.out.keep HA8.out (far_nil _ _) (far_nil _ _))
        have z0 := HB8.out.cell (o := 0) (v := .int .i64 k) rfl
        go_upto_if 41 with fail
        clear z0
        go_cut [30] from 30 to 77 (fun q wc => q = .int .i64 (m : Int) ∧ Hid (CopO wc w5.heap.size (some ⟨g, 0, none⟩) c4 (xs.set m ⟨⟨k, w, s2, c, st, ia2, ini.length, ic2, wri, ra2, rds.length, rc2⟩, ini, rds⟩)) ∧ Hid (CopT wc w5.heap.size a3 c3 ts2) ∧ Hid (Chg [g] w8 wc))
        case first =>
          by_cases hk4 : k = 4
          · subst hk4
            obtain ⟨sl, hsl⟩ : ∃ x, slotsM SS m AM.rs = x := ⟨_, rfl⟩
            have hsx := HSLX.out rfl
            rw [hsl] at hsx
            have HSX := Lib.hid hsx
            have HVV : Hid (∀ v, v = max s sl → v = s2) := Lib.hid (fun v hv => by have h := HS2.out; rw [if_pos rfl, hsl] at h; rw [hv, h])
            clear hsx hsl
            go_upto_region 11 with fail
            have KEEP : Hid (∀ V, Chg [] w8 V → (fun V : World => (V.cell? ⟨W.heap.size, 0, none⟩ = some (.slice a1 ts1.length c1) ∧ V.cell? ⟨W.heap.size, 1, none⟩ = some (.slice a2 os1.length c2)) ∧ V.cell? ⟨wr.heap.size, 2, none⟩ = some (.int .i64 s) ∧ Hid (Chg [] w8 V)) V) := Lib.hid (fun V hV => by
              have B := (HBV.out V (HJ8.out.trans (hV.mono (by simp)))).1
              exact ⟨⟨B.cell rfl, B.cell rfl⟩, (HB8.out.keep hV (by simp)).cell rfl, Lib.hid hV⟩)
            have hHeld : (fun V : World => (V.cell? ⟨W.heap.size, 0, none⟩ = some (.slice a1 ts1.length c1) ∧ V.cell? ⟨W.heap.size, 1, none⟩ = some (.slice a2 os1.length c2)) ∧ V.cell? ⟨wr.heap.size, 2, none⟩ = some (.int .i64 s) ∧ Hid (Chg [] w8 V)) (World.drew w8) := KEEP.out _ (Chg.refl _ _).drew
            refine wp_region_planV (fun V : World => (V.cell? ⟨W.heap.size, 0, none⟩ = some (.slice a1 ts1.length c1) ∧ V.cell? ⟨W.heap.size, 1, none⟩ = some (.slice a2 os1.length c2)) ∧ V.cell? ⟨wr.heap.size, 2, none⟩ = some (.int .i64 s) ∧ Hid (Chg [] w8 V)) 10 [(0, true, some 42), (1, true, some 43), (2, true, some 44), (3, true, some 45), (4, true, some 46), (5, true, some 47), (6, false, some 48), (7, true, some 49), (8, true, some 50), (9, true, some 51)] (by kernel_rfl) (by kernel_rfl) (by kernel_rfl) (by kernel_rfl) (by kernel_rfl) (fun d c a v w h => by cases d <;> exact h) hHeld ?_
            repeat (first
              | (refine planV_read (v := ?_) rfl rfl ?_ ?_ ?_; rotate_left; (focus rfl); (focus (intro u hSw; (try dsimp only at hSw); obtain ⟨⟨u0, u1⟩, u2, -⟩ := hSw; go_simp; (try with_reducible rfl))); (try simp only [Act.put, List.setIfInBounds_toArray, List.set_cons_zero, List.set_cons_succ]))
              | (refine planV_do rfl rfl ?_ (fun K hK => ?_); (focus rfl); go_simp; (try go_wp2_with (go_at_call 21; refine (HSX.out _ (HSV.out _ (HJ8.out.trans (hHeld.2.2.out.mono (by simp))))).mono ?_; rintro e w9 ⟨rfl, hc9⟩; have HCX := Lib.hid hc9; clear hc9)); refine hK.out _ _ ?_ (fun hHeld2 => ?_); (focus exact KEEP.out _ (hHeld.2.2.out.trans HCX.out)); clear hK K hHeld; have hHeld := hHeld2; clear hHeld2; (try simp only [Act.put, List.setIfInBounds_toArray, List.set_cons_zero, List.set_cons_succ])))
            refine planV_tail ?_
            simp only [List.drop_succ_cons, List.drop_zero]
            obtain ⟨-, -, hcz⟩ := hHeld
            clear KEEP
            have HX9 := Lib.hid (HXS8.out.keep hcz.out (far_nil _ _) (far_nil _ _) (far_nil _ _))
            have HT9 := Lib.hid (HXT8.out.keep hcz.out (far_nil _ _) (far_nil _ _))
            have y2 := (HX9.out.cell HDX.out).1.2.2.1
            simp only at y2
            have yf := own_free HX9.out.row (m * 8 + 2)
            have HPUT : Hid (∀ v : Int, v = s2 → CopO (w9.setCell ⟨g, m * 8 + 2, none⟩ (.int .i64 v)) w5.heap.size (some ⟨g, 0, none⟩) c4 (xs.set m ⟨⟨4, w, s2, c, st, ia2, ini.length, ic2, wri, ra2, rds.length, rc2⟩, ini, rds⟩) ∧ CopT (w9.setCell ⟨g, m * 8 + 2, none⟩ (.int .i64 v)) w5.heap.size a3 c3 ts2 ∧ Chg [g] w8 (w9.setCell ⟨g, m * 8 + 2, none⟩ (.int .i64 v))) := Lib.hid (fun v hv => by
              subst hv
              have hk : Chg [g] w9 (w9.setCell ⟨g, m * 8 + 2, none⟩ (.int .i64 v)) := (Chg.refl _ _).setCell (.inl (by simp)) _
              obtain ⟨cur, hbg, -⟩ := own_row HX9.out.row
              exact ⟨HX9.out.put HDX.out (by decide) rfl ⟨⟨rfl, rfl, rfl, rfl⟩, rfl, rfl, rfl, rfl⟩, HT9.out.keep hk (far_blk hbg (by decide)) (far_blk hbg (by decide)), (hcz.out.mono (by simp)).trans hk⟩)
            by_cases hss : s < sl
            · have hp := Lib.hid (HPUT.out _ (HVV.out sl (by omega)))
              go_wp2_with fail
              go_meet
              case rel => exact ⟨rfl, Lib.hid hp.out.1, Lib.hid hp.out.2.1, Lib.hid hp.out.2.2⟩
            · have hp := Lib.hid (HPUT.out _ (HVV.out s (by omega)))
              go_wp2_with fail
              go_meet
              case rel => exact ⟨rfl, Lib.hid hp.out.1, Lib.hid hp.out.2.1, Lib.hid hp.out.2.2⟩
          · have d4 : (k == 4) = false := by simpa using hk4
            have h := HS2.out
            rw [if_neg hk4] at h
            subst h
            go_wp2_with fail
            go_meet
            case rel =>
              rw [set_same HDX.out]
              exact ⟨rfl, HXS8, HXT8, Lib.hid (Chg.refl _ _)⟩
        case rest =>
          obtain ⟨rfl, HX10, HT10, HJ10⟩ := hcut
          have HGL : Hid (g < wr.heap.size) := Lib.hid (by obtain ⟨cur, hbg, -⟩ := own_row HXS.out.row; exact hbg.lt)
          have HB10 := Lib.hid (HB8.out.keep HJ10.out (by have := HGL.out; simp; omega))
          have HJ11 : Hid (Chg [g] w7 wc) := Lib.hid (HJ8.out.trans HJ10.out)
          have HDX1 : Hid ((xs.set m ⟨⟨k, w, s2, c, st, ia2, ini.length, ic2, wri, ra2, rds.length, rc2⟩, ini, rds⟩)[m]? = some ⟨⟨k, w, s2, c, st, ia2, ini.length, ic2, wri, ra2, rds.length, rc2⟩, ini, rds⟩) := Lib.hid (by rw [List.getElem?_set, if_pos rfl, if_pos (List.getElem?_eq_some_iff.1 HDX.out).1])
          have HTR := Lib.hid (fun V => tries_any k V)
          obtain ⟨tb, htb⟩ : ∃ x, triesB k = x := ⟨_, rfl⟩
          rw [htb] at HTR
          have HTB := Lib.hid htb
          clear htb HXS8 HXT8
          have z0 := HB10.out.cell (o := 0) (v := .int .i64 k) rfl
          go_upto_if 54 with (go_at_call 22; refine (HTR.out _).mono ?_; rintro e wy ⟨rfl, rfl⟩)
          clear z0
          go_cut [30] from 30 to 77 (fun q wd => q = .int .i64 (m : Int) ∧ Hid (CopO wd w5.heap.size (some ⟨g, 0, none⟩) c4 (xs.set m ⟨⟨k, w, s2, cc2, st, ia2, ini.length, ic2, wri, ra2, rds.length, rc2⟩, ini, rds⟩)) ∧ Hid (CopT wd w5.heap.size a3 c3 ts2) ∧ Hid (Chg [g] wc wd))
          case first =>
            cases tb
            · have h := HC2.out
              rw [HTB.out, if_neg (by decide)] at h
              subst h
              go_wp2_with fail
              go_meet
              case rel => exact ⟨rfl, HX10, HT10, Lib.hid (Chg.refl _ _)⟩
            · obtain ⟨sl, hsl⟩ : ∃ x, capsM SS m AM.rs = x := ⟨_, rfl⟩
              have hsx := HSCX.out HTB.out
              rw [hsl] at hsx
              have HSX := Lib.hid hsx
              have HVV : Hid (∀ v, v = max c sl → v = cc2) := Lib.hid (fun v hv => by have h := HC2.out; rw [HTB.out, if_pos rfl, hsl] at h; rw [hv, h])
              clear hsx hsl
              go_upto_region 13 with fail
              have KEEP : Hid (∀ V, Chg [] wc V → (fun V : World => (V.cell? ⟨W.heap.size, 0, none⟩ = some (.slice a1 ts1.length c1) ∧ V.cell? ⟨W.heap.size, 1, none⟩ = some (.slice a2 os1.length c2)) ∧ V.cell? ⟨wr.heap.size, 3, none⟩ = some (.int .i64 c) ∧ Hid (Chg [] wc V)) V) := Lib.hid (fun V hV => by
                have B := (HBV.out V (HJ11.out.trans (hV.mono (by simp)))).1
                exact ⟨⟨B.cell rfl, B.cell rfl⟩, (HB10.out.keep hV (by simp)).cell rfl, Lib.hid hV⟩)
              have hHeld : (fun V : World => (V.cell? ⟨W.heap.size, 0, none⟩ = some (.slice a1 ts1.length c1) ∧ V.cell? ⟨W.heap.size, 1, none⟩ = some (.slice a2 os1.length c2)) ∧ V.cell? ⟨wr.heap.size, 3, none⟩ = some (.int .i64 c) ∧ Hid (Chg [] wc V)) (World.drew wc) := KEEP.out _ (Chg.refl _ _).drew
              refine wp_region_planV (fun V : World => (V.cell? ⟨W.heap.size, 0, none⟩ = some (.slice a1 ts1.length c1) ∧ V.cell? ⟨W.heap.size, 1, none⟩ = some (.slice a2 os1.length c2)) ∧ V.cell? ⟨wr.heap.size, 3, none⟩ = some (.int .i64 c) ∧ Hid (Chg [] wc V)) 10 [(0, true, some 55), (1, true, some 56), (2, true, some 57), (3, true, some 58), (4, true, some 59), (5, true, some 60), (6, false, some 61), (7, true, some 62), (8, true, some 63), (9, true, some 64)] (by kernel_rfl) (by kernel_rfl) (by kernel_rfl) (by kernel_rfl) (by kernel_rfl) (fun d c a v w h => by cases d <;> exact h) hHeld ?_
              repeat (first
                | (refine planV_read (v := ?_) rfl rfl ?_ ?_ ?_; rotate_left; (focus rfl); (focus (intro u hSw; (try dsimp only at hSw); obtain ⟨⟨u0, u1⟩, u2, -⟩ := hSw; go_simp; (try with_reducible rfl))); (try simp only [Act.put, List.setIfInBounds_toArray, List.set_cons_zero, List.set_cons_succ]))
                | (refine planV_do rfl rfl ?_ (fun K hK => ?_); (focus rfl); go_simp; (try go_wp2_with (go_at_call 23; refine (HSX.out _ (HSV.out _ (HJ11.out.trans (hHeld.2.2.out.mono (by simp))))).mono ?_; rintro e w9 ⟨rfl, hc9⟩; have HCX := Lib.hid hc9; clear hc9)); refine hK.out _ _ ?_ (fun hHeld2 => ?_); (focus exact KEEP.out _ (hHeld.2.2.out.trans HCX.out)); clear hK K hHeld; have hHeld := hHeld2; clear hHeld2; (try simp only [Act.put, List.setIfInBounds_toArray, List.set_cons_zero, List.set_cons_succ])))
              refine planV_tail ?_
              simp only [List.drop_succ_cons, List.drop_zero]
              obtain ⟨-, -, hcz⟩ := hHeld
              clear KEEP
              have HX9 := Lib.hid (HX10.out.keep hcz.out (far_nil _ _) (far_nil _ _) (far_nil _ _))
              have HT9 := Lib.hid (HT10.out.keep hcz.out (far_nil _ _) (far_nil _ _))
              have y3 := (HX9.out.cell HDX1.out).1.2.2.2
              simp only at y3
              have yf := own_free HX9.out.row (m * 8 + 3)
              have HPUT : Hid (∀ v : Int, v = cc2 → CopO (w9.setCell ⟨g, m * 8 + 3, none⟩ (.int .i64 v)) w5.heap.size (some ⟨g, 0, none⟩) c4 (xs.set m ⟨⟨k, w, s2, cc2, st, ia2, ini.length, ic2, wri, ra2, rds.length, rc2⟩, ini, rds⟩) ∧ CopT (w9.setCell ⟨g, m * 8 + 3, none⟩ (.int .i64 v)) w5.heap.size a3 c3 ts2 ∧ Chg [g] wc (w9.setCell ⟨g, m * 8 + 3, none⟩ (.int .i64 v))) := Lib.hid (fun v hv => by
                subst hv
                have hk : Chg [g] w9 (w9.setCell ⟨g, m * 8 + 3, none⟩ (.int .i64 v)) := (Chg.refl _ _).setCell (.inl (by simp)) _
                obtain ⟨cur, hbg, -⟩ := own_row HX9.out.row
                have h1 := HX9.out.put (d' := ⟨⟨k, w, s2, v, st, ia2, ini.length, ic2, wri, ra2, rds.length, rc2⟩, ini, rds⟩) (v := .int .i64 v) (t := 3) HDX1.out (by decide) rfl ⟨⟨rfl, rfl, rfl, rfl⟩, rfl, rfl, rfl, rfl⟩
                rw [List.set_set] at h1
                exact ⟨h1, HT9.out.keep hk (far_blk hbg (by decide)) (far_blk hbg (by decide)), (hcz.out.mono (by simp)).trans hk⟩)
              by_cases hss : c < sl
              · have hp := Lib.hid (HPUT.out _ (HVV.out sl (by omega)))
                go_wp2_with fail
                go_meet
                case rel => exact ⟨rfl, Lib.hid hp.out.1, Lib.hid hp.out.2.1, Lib.hid hp.out.2.2⟩
              · have hp := Lib.hid (HPUT.out _ (HVV.out c (by omega)))
                go_wp2_with fail
                go_meet
                case rel => exact ⟨rfl, Lib.hid hp.out.1, Lib.hid hp.out.2.1, Lib.hid hp.out.2.2⟩
          case rest =>
            obtain ⟨rfl, HX20, HT20, HJ20⟩ := hcut
            rename World => wd
            have HJ21 : Hid (Chg [g] w7 wd) := Lib.hid (HJ11.out.trans HJ20.out)
            have HB20 := Lib.hid (HB10.out.keep HJ20.out (by have := HGL.out; simp; omega))
            have HDX2 : Hid ((xs.set m ⟨⟨k, w, s2, cc2, st, ia2, ini.length, ic2, wri, ra2, rds.length, rc2⟩, ini, rds⟩)[m]? = some ⟨⟨k, w, s2, cc2, st, ia2, ini.length, ic2, wri, ra2, rds.length, rc2⟩, ini, rds⟩) := Lib.hid (by rw [List.getElem?_set, if_pos rfl, if_pos (List.getElem?_eq_some_iff.1 HDX.out).1])
            have HFN : Hid (Fts SS AM.rs M (m + 1) (xs.set m ⟨⟨k, w, s2, cc2, st, ia2, ini.length, ic2, wri, ra2, rds.length, rc2⟩, ini, rds⟩)) := Lib.hid (HF.out.step HLM.out HFO.out.symm)
            have HWN : Hid (∀ d ∈ xs.set m ⟨⟨k, w, s2, cc2, st, ia2, ini.length, ic2, wri, ra2, rds.length, rc2⟩, ini, rds⟩, d.o.W) := Lib.hid (fun d hd => by
              rcases List.mem_or_eq_of_mem_set hd with h | h
              · exact HXW.out d h
              · rw [h]; exact HWD.out.1)
            have HSA := Lib.hid (fun V => shaped_any k w s2 cc2 st ia2 ini.length ic2 wri ra2 rds.length rc2 HWD.out.2.2 HWD.out.1 V)
            have HSB := Lib.hid (fun V => shaped_any k w s c st ia ini.length ic wri ra rds.length rc HWD.out.2.2 HWD.out.2.1 V)
            obtain ⟨RA, hRA⟩ : ∃ x, rightB k w s2 cc2 st ini.length rds.length = x := ⟨_, rfl⟩
            obtain ⟨RB, hRB⟩ : ∃ x, rightB k w s c st ini.length rds.length = x := ⟨_, rfl⟩
            rw [hRA] at HSA
            rw [hRB] at HSB
            have HEND : Hid (∀ V, Chg [] wd V → CopO V w5.heap.size (some ⟨g, 0, none⟩) c4 (xs.set m ⟨⟨k, w, s2, cc2, st, ia2, ini.length, ic2, wri, ra2, rds.length, rc2⟩, ini, rds⟩) ∧ CopT V w5.heap.size a3 c3 ts2 ∧ Chg [g] w7 V) := Lib.hid (fun V hV => ⟨HX20.out.keep hV (far_nil _ _) (far_nil _ _) (far_nil _ _), HT20.out.keep hV (far_nil _ _) (far_nil _ _), HJ21.out.trans (hV.mono (by simp))⟩)
            have k9 : IntKind.i64.wrap ((m : Int) + 1) = (m : Int) + 1 := by rw [IntKind.wrap_i64]; have := HM.out; have := HLM.out; omega
            have hmm := HLM.out
            clear hRA hRB HX10 HT10
            cases b
            · go_wp2_with fail
              go_roundw
              case rel => exact ⟨m + 1, _, xs.set m ⟨⟨k, w, s2, cc2, st, ia2, ini.length, ic2, wri, ra2, rds.length, rc2⟩, ini, rds⟩, by omega, by go_num, rfl, HFN, Lib.hid (HEND.out _ (Chg.refl _ _)).1, Lib.hid (HEND.out _ (Chg.refl _ _)).2.1, HWN, Lib.hid (HEND.out _ (Chg.refl _ _)).2.2⟩
              case measure => (simp [intOf]) <;> omega
            · obtain ⟨⟨x0, x1, x2, x3⟩, x4, x5, x6, x7⟩ := HX20.out.cell HDX2.out
              simp only at x0 x1 x2 x3 x4 x5 x6 x7
              cases RA
              · go_wp2_with (first
                  | (go_at_call 24; with_reducible refine (HSA.out _).mono ?_; rintro e wf ⟨rfl, hcf⟩; have HCF := Lib.hid hcf; have HBF := Lib.hid (HB20.out.keep hcf (by simp)); have z0 := HBF.out.cell (o := 0) (v := .int .i64 k) rfl; have z1 := HBF.out.cell (o := 1) (v := .int .i64 w) rfl; have z2 := HBF.out.cell (o := 2) (v := .int .i64 s) rfl; have z3 := HBF.out.cell (o := 3) (v := .int .i64 c) rfl; have z4 := HBF.out.cell (o := 4) (v := .int .u32 st) rfl; have z5 := HBF.out.cell (o := 5) (v := .slice ia ini.length ic) rfl; have z6 := HBF.out.cell (o := 6) (v := .int .i64 wri) rfl; have z7 := HBF.out.cell (o := 7) (v := .slice ra rds.length rc) rfl; clear hcf)
                  | (go_at_call 24; with_reducible refine (HSB.out _).mono ?_; rintro e wh ⟨rfl, hch⟩; have HCH := Lib.hid (HCF.out.trans hch); clear hch))
                go_roundw
                case rel => exact ⟨m + 1, _, xs.set m ⟨⟨k, w, s2, cc2, st, ia2, ini.length, ic2, wri, ra2, rds.length, rc2⟩, ini, rds⟩, by omega, by go_num, rfl, HFN, Lib.hid (HEND.out _ HCH.out).1, Lib.hid (HEND.out _ HCH.out).2.1, HWN, Lib.hid (HEND.out _ HCH.out).2.2⟩
                case measure => (simp [intOf]) <;> omega
              · go_wp2_with (go_at_call 24; with_reducible refine (HSA.out _).mono ?_; rintro e wf ⟨rfl, hcf⟩; have HCF := Lib.hid hcf; clear hcf)
                go_roundw
                case rel => exact ⟨m + 1, _, xs.set m ⟨⟨k, w, s2, cc2, st, ia2, ini.length, ic2, wri, ra2, rds.length, rc2⟩, ini, rds⟩, by omega, by go_num, rfl, HFN, Lib.hid (HEND.out _ HCF.out).1, Lib.hid (HEND.out _ HCF.out).2.1, HWN, Lib.hid (HEND.out _ HCF.out).2.2⟩
                case measure => (simp [intOf]) <;> omega
      · obtain rfl : M = m := by omega
        have mm : ¬ (M : Int) < (os1.length : Int) := by have := HM.out; omega
        clear hlm hm
        obtain ⟨hb0, hb1, hb2⟩ := HBV.out wr HJ.out
        have u0 := hb2.cell (o := 0) (v := .slice a3 ts2.length c3) rfl
        have u1 := hb2.cell (o := 1) (v := .slice a4 os2.length c4) rfl
        have HR1 := Lib.hid hb1
        clear hb0 hb1 hb2
        go_wp2_with (refine Go.Proofs.YtkedegbpkkgeaaaGreat.blk.wpList_store_blk rfl 25 (.tmp 2) (.tmp 78) rfl (W.heap.size + 1) #[.slice a3 ts2.length c3, .slice a4 os2.length c4] rfl rfl HR1.out szSy rfl (by simp [Value.oneCell']) ?_; intro w9 hb9 hc9; have HB9 := Lib.hid hb9; have HC9 := Lib.hid hc9; clear hb9 hc9)
        refine bodyPost_ret (results_row_tmpF rfl _ _ (W.heap.size + 1) 25 _ (0, 0) _ rfl HB9.out Tryz.underlying25 rfl szSy) rfl ?_
        have HFZ : ∀ T, T ≠ 25 → Far wr [W.heap.size + 1] T := fun T hT => far_blk HR1.out (Ne.symm hT)
        have hT9 := HXT.out.keep HC9.out (HFZ _ (by decide)) (HFZ _ (by decide))
        have hO9 := HXS.out.keep HC9.out (HFZ _ (by decide)) (HFZ _ (by decide)) (HFZ _ (by decide))
        refine ⟨⟨_, _, _, _, _, _, b, rfl, fun _ => ⟨ts2, xs, ⟨rfl, by rw [HF.out.len, HM.out.2.1]⟩, hT9.reads (HCO6.out.tp.trans HCO4.out.tp) HOK.out.T, hO9.reads, HXW.out, ?_⟩⟩, (HW5.out.trans (HSV.out wr HJ.out)).into HC9.out (by simp)⟩
        rw [HN.out.2, HAM.out]
        have e1 := HF.out.all HM.out.2.2.2
        have e2 : ts2.map DT.p = SS.ts := by rw [HCO6.out.tp, ← HS1.out.1]; rfl
        unfold sys
        rw [e1, e2]
        rfl
end Go.Proofs.YtkedegbpkkgeaaaGreat.tf
/- TopFits: system: nowhere, tasks; task: Plain, Fault. -/
namespace Go.Proofs.YtkedegbpkkgeaaaGreat.tf
open Go Go.RowKit Go.Proofs.YtkedegbpkkgeaaaGreat.kit Go.Proofs.YtkedegbpkkgeaaaGreat.obj Go.Proofs.YtkedegbpkkgeaaaGreat.mem Go.Proofs.YtkedegbpkkgeaaaGreat.lay Go.Proofs.YtkedegbpkkgeaaaGreat.isa
set_option linter.unusedVariables false
set_option linter.unusedSimpArgs false
set_option maxRecDepth 20000

theorem nowhere_any (W : World) : Calls Tryz.prog 61 #[] W fun e W' => e = .returned (.agg #[.int .i64 (-1), .int .i64 (-1), .int .i64 (-1)]) ∧ Chg [] W W' := by
  have HB : Hid (Blk (W.alloc (.cells #[.int .i64 0, .int .i64 0, .int .i64 0] 49)) W.heap.size #[.int .i64 0, .int .i64 0, .int .i64 0] 49) := Lib.hid (Blk.new W _ _)
  have HC : Hid (Chg [] W (W.alloc (.cells #[.int .i64 0, .int .i64 0, .int .i64 0] 49))) := Lib.hid ((Chg.refl [] W).alloc _)
  go_enter Tryz.func61, Tryz.ntmps61
  go_upto_region 1 with fail
  go_wp2_with (refine Go.Proofs.YtkedegbpkkgeaaaGreat.blk.wpList_store_blk rfl 49 (.tmp 0) (.tmp 1) rfl W.heap.size #[.int .i64 (-1), .int .i64 (-1), .int .i64 (-1)] rfl rfl HB.out szSpot rfl (by simp [Value.oneCell']) ?_; intro w9 hb9 hc9; have HB9 := Lib.hid hb9; have HC9 := Lib.hid hc9; clear hb9 hc9)
  refine bodyPost_ret (results_row_one rfl _ _ W.heap.size 49 _ (0, 0) _ rfl HB9.out Tryz.underlying49 rfl szSpot) rfl ?_
  exact ⟨rfl, HC.out.into HC9.out (by simp)⟩
set_option maxHeartbeats 4000000 in
theorem plain_any (tk tp tpe tof td tow : Int) (tca : Option Addr) (tcl tcc : Nat) (hk : tk = 1 ∨ tk = 2 ∧ tof = 0) (h1 : 0 ≤ tp ∧ tp ≤ 255) (h2 : 1 ≤ tpe ∧ tpe ≤ 1048576) (h3 : 0 ≤ tof ∧ tof ≤ 1048576) (h4 : 1 ≤ td ∧ td ≤ tpe) (h5 : 1 ≤ tow ∧ tow ≤ 64) (W : World) : Calls Tryz.prog 118 #[.agg #[.int .i64 tk, .int .i64 tp, .int .i64 tpe, .int .i64 tof, .int .i64 td, .int .i64 tow, .slice tca tcl tcc]] W fun e W' => e = .returned (.bool true) ∧ Chg [] W W' := by
  have HC : Hid (Chg [] W (W.alloc (.cells #[.int .i64 tk, .int .i64 tp, .int .i64 tpe, .int .i64 tof, .int .i64 td, .int .i64 tow, .slice tca tcl tcc] 31))) := Lib.hid ((Chg.refl [] W).alloc _)
  rcases hk with rfl | ⟨rfl, rfl⟩
  · go_enter Tryz.func118, Tryz.ntmps118
    go_wp2_with (go_at_call 75; refine (within_any _ _ _ (by first | exact h1 | exact h2 | exact h3 | exact h4 | exact h5) _).mono ?_; rintro e w1 ⟨rfl, rfl⟩)
    go_ret
    exact ⟨rfl, HC.out⟩
  · go_enter Tryz.func118, Tryz.ntmps118
    go_wp2_with (go_at_call 75; refine (within_any _ _ _ (by first | exact h1 | exact h2 | exact h3 | exact h4 | exact h5) _).mono ?_; rintro e w1 ⟨rfl, rfl⟩)
    go_ret
    exact ⟨rfl, HC.out⟩
theorem fault_any (tk tp tpe tof td tow : Int) (tca : Option Addr) (tcl tcc : Nat) (hk : tk = 1 ∨ tk = 2 ∧ tof = 0) (h1 : 0 ≤ tp ∧ tp ≤ 255) (h2 : 1 ≤ tpe ∧ tpe ≤ 1048576) (h3 : 0 ≤ tof ∧ tof ≤ 1048576) (h4 : 1 ≤ td ∧ td ≤ tpe) (h5 : 1 ≤ tow ∧ tow ≤ 64) (code : List Ins) (W : World) (hr : ReadsC W (.slice tca tcl tcc) code) (hl : tcl = code.length) (hf : FineP code) : Calls Tryz.prog 90 #[.agg #[.int .i64 tk, .int .i64 tp, .int .i64 tpe, .int .i64 tof, .int .i64 td, .int .i64 tow, .slice tca tcl tcc]] W fun e W' => e = .returned (.tuple #[.int .i64 (-1), .int .i64 0]) ∧ Chg [] W W' := by
  subst hl
  have HC : Hid (Chg [] W (W.alloc (.cells #[.int .i64 tk, .int .i64 tp, .int .i64 tpe, .int .i64 tof, .int .i64 td, .int .i64 tow, .slice tca code.length tcc] 31))) := Lib.hid ((Chg.refl [] W).alloc _)
  have HB := Lib.hid (Blk.new W #[.int .i64 tk, .int .i64 tp, .int .i64 tpe, .int .i64 tof, .int .i64 td, .int .i64 tow, .slice tca code.length tcc] 31)
  have HP := Lib.hid (fun V => plain_any tk tp tpe tof td tow tca code.length tcc hk h1 h2 h3 h4 h5 V)
  have HF := Lib.hid (fun V (hV : Chg [] W V) => fCheck_any tca tcc code V (hr.chg hV) hf)
  clear hk h1 h2 h3 h4 h5 hr hf
  go_enter Tryz.func90, Tryz.ntmps90
  go_wp2_with (first
    | (go_at_call 118; refine (HP.out _).mono ?_; rintro e w1 ⟨rfl, hc1⟩; have c6 := (HB.out.keep hc1 (by simp)).cell (o := 6) (v := .slice tca code.length tcc) rfl; have HC1 := Lib.hid (HC.out.trans hc1); clear hc1)
    | (go_at_call 119; refine (HF.out _ HC1.out).mono ?_; rintro e w2 ⟨rfl, hc2⟩; have HC2 := Lib.hid (HC1.out.trans hc2); clear hc2))
  go_ret2
  exact ⟨rfl, HC2.out⟩
set_option maxHeartbeats 8000000 in
theorem stasks_any (ta : Option Addr) (tc : Nat) (oa : Option Addr) (oc : Nat) (ts : List DT) (os : List DO) (W : World) (h : SysOK W ta tc oa oc ts os) :
    Calls Tryz.prog 62 #[.agg #[.slice ta ts.length tc, .slice oa os.length oc]] W fun e W' => e = .returned (.tuple #[.agg #[.int .i64 (-1), .int .i64 (-1), .int .i64 (-1)], .int .i64 0]) ∧ Chg [] W W' := by
  obtain ⟨-, b1, o1, hx1, hc1⟩ := tasks_at h.T
  have HL := Lib.hid h.lens
  have HX := Lib.hid hx1
  have HQ := Lib.hid hc1
  have HFT : Hid (∀ d ∈ ts, ∀ V, Chg [] W V → Calls Tryz.prog 90 #[.agg #[.int .i64 d.t.kind, .int .i64 d.t.prio, .int .i64 d.t.period, .int .i64 d.t.offset, .int .i64 d.t.deadline, .int .i64 d.t.own, .slice d.t.ca d.t.cl d.t.cc]] V fun e V' => e = .returned (.tuple #[.int .i64 (-1), .int .i64 0]) ∧ Chg [] V V') := Lib.hid (fun d hd V hV => by
    obtain ⟨i, hi, he⟩ := List.getElem_of_mem hd
    have hn := h.fine.nums d.p (List.mem_map.2 ⟨d, hd, rfl⟩)
    have hcd := h.code (i := i) (List.getElem?_eq_some_iff.2 ⟨hi, he⟩)
    exact fault_any _ _ _ _ _ _ _ _ _ hn.1 hn.2.1 hn.2.2.1 hn.2.2.2.1 hn.2.2.2.2.1 hn.2.2.2.2.2 d.code V ((h.T.2 d hd).chg hV) (h.T.2 d hd).len hcd)
  have HC2 : Hid (Chg [] W ((W.alloc (.cells #[.slice ta ts.length tc, .slice oa os.length oc] 25)).alloc (.cells #[.int .i64 0, .int .i64 0, .int .i64 0] 49))) := Lib.hid (((Chg.refl [] W).alloc _).alloc _)
  have HB0 : Hid (Blk ((W.alloc (.cells #[.slice ta ts.length tc, .slice oa os.length oc] 25)).alloc (.cells #[.int .i64 0, .int .i64 0, .int .i64 0] 49)) W.heap.size #[.slice ta ts.length tc, .slice oa os.length oc] 25) := Lib.hid ((Blk.new W _ _).alloc _)
  have HB1 : Hid (Blk ((W.alloc (.cells #[.slice ta ts.length tc, .slice oa os.length oc] 25)).alloc (.cells #[.int .i64 0, .int .i64 0, .int .i64 0] 49)) (W.heap.size + 1) #[.int .i64 0, .int .i64 0, .int .i64 0] 49) := Lib.hid (by
    have := Blk.new (W.alloc (.cells #[.slice ta ts.length tc, .slice oa os.length oc] 25)) #[.int .i64 0, .int .i64 0, .int .i64 0] 49
    rwa [show (W.alloc (.cells #[.slice ta ts.length tc, .slice oa os.length oc] 25)).heap.size = W.heap.size + 1 by simp] at this)
  clear h hx1 hc1
  go_enter Tryz.func62, Tryz.ntmps62
  go_upto_region 1 with fail
  obtain ⟨w2, hw2⟩ : ∃ x, x = (W.alloc (.cells #[.slice ta ts.length tc, .slice oa os.length oc] 25)).alloc (.cells #[.int .i64 0, .int .i64 0, .int .i64 0] 49) := ⟨_, rfl⟩
  rw [← hw2] at HC2 HB0 HB1
  try rw [← hw2]
  clear hw2
  go_upto_region 2 with (go_at_call 61; refine (nowhere_any _).mono ?_; rintro e w3 ⟨rfl, hc3⟩; have HC3 := Lib.hid hc3; clear hc3)
  obtain ⟨w4, hw4⟩ : ∃ x, x = w3.alloc (.cells #[.int .i64 (-1), .int .i64 (-1), .int .i64 (-1)] 49) := ⟨_, rfl⟩
  have HK4 : Hid (Chg [] w2 w4 ∧ Blk w4 w3.heap.size #[.int .i64 (-1), .int .i64 (-1), .int .i64 (-1)] 49) := Lib.hid (by rw [hw4]; exact ⟨HC3.out.alloc _, Blk.new w3 _ _⟩)
  rw [← hw4]
  clear hw4
  have s0 := (HB0.out.keep HK4.out.1 (by simp)).cell (o := 0) (v := .slice ta ts.length tc) rfl
  go_wp2_with fail
  clear s0
  go_loopw [13] (fun q wr => ∃ m : Nat, m ≤ ts.length ∧ q = .int .i64 (m : Int) ∧ Hid (Chg [] w4 wr)) (fun q _ => ts.length - (intOf q).toNat)
  case atStart => exact ⟨0, Nat.zero_le _, rfl, Lib.hid (Chg.refl _ _)⟩
  case round =>
    obtain ⟨m, hm, rfl, HJ⟩ := hrel
    have HJW : Hid (Chg [] W wr) := Lib.hid ((HC2.out.trans HK4.out.1).trans HJ.out)
    by_cases hlm : m < ts.length
    · have HLM := Lib.hid hlm
      have mm : (m : Int) < (ts.length : Int) := by omega
      have g3 := HX.out m hlm
      obtain ⟨d, hd⟩ : ∃ d, ts[m]? = some d := ⟨_, List.getElem?_eq_getElem hlm⟩
      obtain ⟨⟨q0, q1, q2, q3⟩, q4, q5, q6⟩ := HQ.out wr HJW.out m d hd
      have hft := HFT.out d (List.mem_of_getElem? hd)
      obtain ⟨⟨tk, tp, tpe, tof, td, tow, tca, tcl, tcc⟩, code⟩ := d
      simp only at q0 q1 q2 q3 q4 q5 q6 hft
      have HFX := Lib.hid hft
      have HA : Hid (Chg [] wr (wr.alloc (.cells #[.int .i64 tk, .int .i64 tp, .int .i64 tpe, .int .i64 tof, .int .i64 td, .int .i64 tow, .slice tca tcl tcc] 31))) := Lib.hid ((Chg.refl _ _).alloc _)
      have k9 : IntKind.i64.wrap ((m : Int) + 1) = (m : Int) + 1 := by rw [IntKind.wrap_i64]; have := HL.out; omega
      clear hd hft hlm hm
      go_wp2_with (go_at_call 90; refine (HFX.out _ (HJW.out.trans HA.out)).mono ?_; rintro e w6 ⟨rfl, hc6⟩; have HC6 := Lib.hid (HA.out.trans hc6); clear hc6)
      have hlt := HLM.out
      go_roundw
      case rel => exact ⟨m + 1, by omega, by go_num, Lib.hid (HJ.out.trans HC6.out)⟩
      case measure => (simp [intOf]) <;> omega
    · obtain rfl : ts.length = m := by omega
      clear hlm hm
      have B4 := HK4.out.2.keep HJ.out (by simp)
      have t0 := B4.cell (o := 0) (v := .int .i64 (-1)) rfl
      have t1 := B4.cell (o := 1) (v := .int .i64 (-1)) rfl
      have t2 := B4.cell (o := 2) (v := .int .i64 (-1)) rfl
      have HR := Lib.hid ((HB1.out.keep HK4.out.1 (by simp)).keep HJ.out (by simp))
      clear B4
      go_wp2_with (refine Go.Proofs.YtkedegbpkkgeaaaGreat.blk.wpList_store_blk rfl 49 (.tmp 2) (.tmp 32) rfl (W.heap.size + 1) #[.int .i64 (-1), .int .i64 (-1), .int .i64 (-1)] rfl rfl HR.out szSpot rfl (by simp [Value.oneCell']) ?_; intro w9 hb9 hc9; have HB9 := Lib.hid hb9; have HC9 := Lib.hid hc9; clear hb9 hc9)
      refine bodyPost_ret (results_row_tmpF rfl _ _ (W.heap.size + 1) 49 _ (0, 0) _ rfl HB9.out Tryz.underlying49 rfl szSpot) rfl ?_
      exact ⟨rfl, HJW.out.into HC9.out (by simp)⟩
end Go.Proofs.YtkedegbpkkgeaaaGreat.tf
/- TopFits: maps of numbers. -/
namespace Go.Proofs.YtkedegbpkkgeaaaGreat.tf
open Go Go.RowKit Go.Proofs.YtkedegbpkkgeaaaGreat.kit Go.Shelf
open Go.Maps (Keyed IsMap)
set_option linter.unusedVariables false
set_option linter.unusedSimpArgs false
set_option maxRecDepth 20000
def I64 (x : Int) : Prop := (Lit.int .i64 x).wf = true
theorem i64_of {x : Int} (h1 : -9223372036854775808 ≤ x) (h2 : x ≤ 9223372036854775807) : I64 x := by
  have e1 : IntKind.i64.min = -9223372036854775808 := by decide
  have e2 : IntKind.i64.max = 9223372036854775807 := by decide
  show (decide (IntKind.i64.min ≤ x) && decide (x ≤ IntKind.i64.max)) = true
  rw [e1, e2]; simp [h1, h2]
def MapI (w : World) (b n : Nat) (f : Int → Option Int) : Prop :=
  ∃ D : DataW Unit, w.ownsMap Tryz.prog 3 (plainElem Tryz.prog 3) b n D ∧ ∀ i, I64 i → (f i = none → Maps.has D (.int .i64 i) = false) ∧ ∀ v, f i = some v → ∀ z, D.atKey (.int .i64 i) z = .lit (.int .i64 v)
def upd (f : Int → Option Int) (i : Int) (v : Option Int) : Int → Option Int := fun j => if j = i then v else f j
theorem keyI : Keyed Tryz.prog 3 := Maps.int_keyed Tryz.underlying3
theorem keyI_of {i : Int} (h : I64 i) : keyOf Tryz.prog 3 (.int .i64 i) = some (.int .i64 i) := Maps.keyOf_int_mk Tryz.underlying3 h
theorem zeroI (w : World) : (zeroValue 3).run Tryz.prog w = .ok (.int .i64 0) w := by kernel_rfl
theorem MapI.lt {w : World} {b n : Nat} {f : Int → Option Int} (h : MapI w b n f) : b < w.heap.size := let ⟨_, h1, _⟩ := h; h1.lt
theorem MapI.mono {w : World} {b n n' : Nat} {f : Int → Option Int} (h : MapI w b n f) (hn : n ≤ n') : MapI w b n' f := let ⟨D, h1, h2⟩ := h; ⟨D, h1.mono hn, h2⟩
theorem MapI.keep {w w' : World} {b n : Nat} {f : Int → Option Int} {L : List Nat} (h : MapI w b n f) (k : Chg L w w') (hn : b ∉ L) : MapI w' b n f := by
  obtain ⟨D, ⟨es, clock, hb, r⟩, h2⟩ := h
  exact ⟨D, ⟨es, clock, k.heap hb hn, r⟩, h2⟩
theorem MapI.made (w : World) : MapI (w.alloc (.map #[] 0)) w.heap.size 0 (fun _ => none) :=
  ⟨.map [], World.ownsMap_made w _ _ _, fun i hi => ⟨fun _ => rfl, fun v h => by cases h⟩⟩
theorem MapI.look {w : World} {b n : Nat} {f : Int → Option Int} (h : MapI w b n f) {i : Int} (hi : I64 i) : (Instr.lookup 126 (.map (some b)) (.int .i64 i) false).run Tryz.prog w = .ok (.int .i64 ((f i).getD 0)) w := by
  obtain ⟨D, h1, h2⟩ := h
  obtain ⟨c, hrun, hat, -⟩ := h1.lookup_int keyI Tryz.underlying126 Tryz.underlying3 (zeroI w) (keyI_of hi)
  rw [hrun]
  cases hf : f i with
  | none =>
    rw [Maps.atKey_of_not_has ((h2 i hi).1 hf)] at hat
    cases hat; rfl
  | some v =>
    rw [(h2 i hi).2 v hf] at hat
    cases hat; rfl
theorem isKeyI (i : Int) : WideAt.IsKeyLit (.int .i64 i) := by
  simp [WideAt.IsKeyLit]
theorem MapI.put {w : World} {b n : Nat} {f : Int → Option Int} (h : MapI w b n f) (hn : n < 100000) {i v : Int} (hi : I64 i) (hv : I64 v) :
    ∃ w', (Instr.mapUpdate 126 (.map (some b)) (.int .i64 i) (.int .i64 v)).run Tryz.prog w = .ok () w' ∧ MapI w' b (n + 1) (upd f i (some v)) ∧ Chg [b] w w' := by
  obtain ⟨D, h1, h2⟩ := h
  have hm := h1.isMap
  obtain ⟨w', hrun, h3, hg⟩ := h1.update keyI Tryz.underlying126 (Nat.lt_of_lt_of_le hn (by decide)) (keyI_of hi) (plainElem_int Tryz.underlying3 hv)
  refine ⟨w', hrun, ⟨_, h3, fun j hj => ?_⟩, (Chg.refl [b] w).grown hg (fun k hk => by cases hk; simp)⟩
  by_cases hji : j = i
  · subst hji
    refine ⟨fun h => by simp [upd] at h, fun v' hv' z => ?_⟩
    have : v = v' := by simpa [upd] using hv'
    subst this
    exact Maps.atKey_put_same hm (isKeyI _) _ z
  · have hne : (Lit.int .i64 j) ≠ .int .i64 i := fun h => hji (by cases h; rfl)
    refine ⟨fun h => ?_, fun v' hv' z => ?_⟩
    · rw [Maps.has_put_other hne]
      exact (h2 j hj).1 (by simpa [upd, hji] using h)
    · rw [Maps.atKey_put_other hne]
      exact (h2 j hj).2 v' (by simpa [upd, hji] using hv') z
section
variable {P : Program} (w : World) {ops : Array Oper} {rest : List Oper} {o : Oper} {a : Act} {Q : Exit → Act → World → Prop}
theorem wpList_put (hg : o.guard = none) (m x v : Operand) (hop : o.op = Op.mapUpdate 126 m x v) (b n : Nat) (f : Int → Option Int)
    (hm : a.eval m = .map (some b)) (hown : MapI w b n f) (hn : n < 100000) (i : Int) (hx : a.eval x = .int .i64 i) (hi : I64 i) (z : Int) (hv : a.eval v = .int .i64 z) (hz : I64 z)
    (hK : ∀ w', MapI w' b (n + 1) (upd f i (some z)) → Chg [b] w w' → wpList Tryz.prog ops Q rest (a.put o.dst undef) w') :
    wpList Tryz.prog ops Q (o :: rest) a w := by
  refine wpList_plain hg fun K' hK' => ?_
  obtain ⟨w', hrun, r1, r2⟩ := hown.put hn hi hz
  unfold Oper.wp
  simp [execOp, hop, hm, hx, hv, hrun, Result.andThen]
  exact hK' _ _ (hK w' r1 r2)
theorem wpList_look (hg : o.guard = none) (m x : Operand) (hop : o.op = Op.lookup 126 m x false) (b n : Nat) (f : Int → Option Int)
    (hm : a.eval m = .map (some b)) (hown : MapI w b n f) (i : Int) (hx : a.eval x = .int .i64 i) (hi : I64 i) (z : Int) (hz : (f i).getD 0 = z)
    (hK : wpList Tryz.prog ops Q rest (a.put o.dst (.int .i64 z)) w) :
    wpList Tryz.prog ops Q (o :: rest) a w := by
  refine wpList_plain hg fun K' hK' => ?_
  have hrun := hown.look hi
  rw [hz] at hrun
  unfold Oper.wp
  simp [execOp, hop, hm, hx, hrun, Result.andThen]
  exact hK' _ _ hK
end
end Go.Proofs.YtkedegbpkkgeaaaGreat.tf
/- TopFits: object.Right. -/
namespace Go.Proofs.YtkedegbpkkgeaaaGreat.tf
open Go Go.RowKit Go.Proofs.YtkedegbpkkgeaaaGreat.kit Go.Proofs.YtkedegbpkkgeaaaGreat.obj Go.Proofs.YtkedegbpkkgeaaaGreat.mem Go.Proofs.YtkedegbpkkgeaaaGreat.lay Go.Proofs.YtkedegbpkkgeaaaGreat.isa
set_option linter.unusedVariables false
set_option linter.unusedSimpArgs false
set_option maxRecDepth 20000

def metF (l : List Int) (j : Nat) : Int → Option Int := fun x => if x ∈ l.take j then some 1 else none
theorem metF_succ {l : List Int} {j : Nat} {x : Int} (h : l[j]? = some x) : upd (metF l j) x (some 1) = metF l (j + 1) := by
  funext y
  unfold upd metF
  rw [take_snoc h]
  by_cases hy : y = x
  · subst hy; simp
  · rw [if_neg hy]
    by_cases h2 : y ∈ l.take j
    · rw [if_pos h2, if_pos (List.mem_append_left _ h2)]
    · rw [if_neg h2, if_neg (fun h3 => by rcases List.mem_append.1 h3 with h4 | h4; exact h2 h4; simp at h4; exact hy h4)]
theorem metF_not {l : List Int} {j : Nat} {x : Int} (h : l[j]? = some x) (hn : l.Nodup) : metF l j x = none := by
  unfold metF
  rw [if_neg]
  intro hm
  obtain ⟨i, hi, he⟩ := List.mem_take_iff_getElem.1 hm
  have hj := List.getElem?_eq_some_iff.1 h
  exact (List.pairwise_iff_getElem.1 hn) i j (by omega) hj.1 (by omega) (he.trans hj.2.symm)
set_option maxHeartbeats 8000000 in
theorem oright_any (k w s c st : Int) (ia : Option Addr) (il ic : Nat) (wri : Int) (ra : Option Addr) (rc : Nat) (rds : List Int) (W : World) (hr : ReadsN W (.slice ra rds.length rc) rds) (h : ObjW k w s c st il rds.length) (hR : rightB k w s c st il rds.length = true) (hnd : (wri :: rds).Nodup) (hrg : ∀ x ∈ wri :: rds, 0 ≤ x ∧ x < 8) :
    Calls Tryz.prog 91 #[.agg #[.int .i64 k, .int .i64 w, .int .i64 s, .int .i64 c, .int .u32 st, .slice ia il ic, .int .i64 wri, .slice ra rds.length rc]] W fun e W' => e = .returned (.bool true) ∧ Chg [] W W' := by
  have hbd := rightB_bd hR
  have HSH := Lib.hid (fun V => by have h := shaped_any k w s c st ia il ic wri ra rds.length rc (by omega) h V; rwa [hR] at h)
  have HLEN : Hid (rds.length ≤ 4) := Lib.hid (by omega)
  have HRD := Lib.hid hr
  have HND := Lib.hid hnd
  have HRG := Lib.hid hrg
  have HCA : Hid (Chg [] W (W.alloc (.cells #[.int .i64 k, .int .i64 w, .int .i64 s, .int .i64 c, .int .u32 st, .slice ia il ic, .int .i64 wri, .slice ra rds.length rc] 46))) := Lib.hid ((Chg.refl [] W).alloc _)
  have HBA : Hid (Blk (W.alloc (.cells #[.int .i64 k, .int .i64 w, .int .i64 s, .int .i64 c, .int .u32 st, .slice ia il ic, .int .i64 wri, .slice ra rds.length rc] 46)) W.heap.size #[.int .i64 k, .int .i64 w, .int .i64 s, .int .i64 c, .int .u32 st, .slice ia il ic, .int .i64 wri, .slice ra rds.length rc] 46) := Lib.hid (Blk.new _ _ _)
  obtain ⟨i0, hi0, hz0, hz1, hz2⟩ := info_parts infoInt
  have hmk : ∀ W : World, (Instr.makeMap 126 none).run Tryz.prog W = .ok (.map (some W.heap.size)) (W.alloc (.map #[] 0)) := fun W => by
    first | exact run_makeMap W Tryz.underlying126 | (simp [Instr.makeMap, run_underlying Tryz.underlying126, go_sem]; done) | kernel_rfl
  clear hr h hR hnd hrg hbd
  go_enter Tryz.func91, Tryz.ntmps91
  go_upto_region 4 with (go_at_call 24; refine (HSH.out _).mono ?_; rintro e w1 ⟨rfl, hc1⟩; have HC1 := Lib.hid hc1; clear hc1)
  obtain ⟨w3, hw3⟩ : ∃ x, x = w1.alloc (.map #[] 0) := ⟨_, rfl⟩
  have HM3 : Hid (MapI w3 w1.heap.size 0 (fun _ => none) ∧ Chg [] w1 w3 ∧ w3.heap.size = w1.heap.size + 1) := Lib.hid (by rw [hw3]; exact ⟨MapI.made w1, (Chg.refl _ _).alloc _, by simp⟩)
  rw [← hw3]
  clear hw3 hmk
  obtain ⟨mb, hmb⟩ : ∃ x, w1.heap.size = x := ⟨_, rfl⟩
  rw [hmb] at HM3
  try rw [hmb]
  have HMB : Hid (W.heap.size < mb) := Lib.hid (by have h1 := HC1.out.size; simp at h1; omega)
  clear hmb
  have HCX : Hid (Chg [] W w3) := Lib.hid ((HCA.out.trans HC1.out).trans HM3.out.2.1)
  have hb1 := (HBA.out.keep HC1.out (by simp)).keep HM3.out.2.1 (by simp)
  have e6 := hb1.cell (o := 6) (v := .int .i64 wri) rfl
  have e7 := (hb1.alloc (.cells #[.int .i64 wri] 3)).cell (o := 7) (v := .slice ra rds.length rc) rfl
  clear hb1
  go_wp2_with (at_builtin; refine wpList_append_any _ rfl _ _ 33 rfl w3.heap.size 3 i0 (.int .i64 0) 1 8 Tryz.underlying33 hi0 hz0 hz1 hz2 rfl (by decide) (.slice (some ⟨w3.heap.size, 0, none⟩) 1 1) 1 _ rfl (own_lit1 w3 wri) (.slice ra rds.length rc) rds.length _ rfl (Reads.alloc (HRD.out.chg HCX.out) _) (ints_one _) ?c3 ?c4 ?c5 ?_)
  case c3 => have := HLEN.out; unfold maxLen; omega
  case c4 => have := HLEN.out; omega
  case c5 => simp
  intro v' w2 hown' hgrow
  obtain ⟨a2, c2, rfl⟩ := own_open hown'
  have HK2 : Hid (Chg [] w3 w2) := Lib.hid (((Chg.refl _ _).alloc _).grown hgrow (fun q hq => .inr (by simp [Value.ownBlock] at hq; omega)))
  have HC2 : Hid (Chg [] W w2) := Lib.hid (HCX.out.trans HK2.out)
  have HM2 := Lib.hid (HM3.out.1.keep HK2.out (by simp))
  obtain ⟨l, hl⟩ : ∃ l, wri :: rds = l := ⟨_, rfl⟩
  have hrl : ReadsN w2 (.slice a2 (1 + rds.length) c2) l := by
    have := Reads.of_own hown' (by decide)
    rw [← hl]
    unfold ReadsN
    rwa [List.length_cons, Nat.add_comm rds.length 1]
  obtain ⟨hln, -⟩ := ints_at hrl
  rw [hln] at hrl ⊢
  rw [hl] at HND HRG
  have hob : ∀ y, (Value.slice a2 (1 + rds.length) c2).ownBlock = some y → y ≠ mb := fun y hy => by
    have h1 := (World.ownsRow.lt hown' y hy).1
    have h2 := HM3.out.1.lt
    have h3 := HM3.out.2.2
    intro e
    subst e
    omega
  have hrl2 : ∀ V, Chg [mb] w2 V → ReadsN V (.slice a2 l.length c2) l := fun V hV => by
    have h1 := own_keep hown' hV (fun y hy hm => hob y hy (by simpa using hm))
    have h2 := Reads.of_own h1 (by decide)
    unfold ReadsN
    rw [← hln, ← hl]
    rwa [List.map_cons]
  obtain ⟨-, b1, o1, hx1, hc1⟩ := ints_at hrl
  have HX1 := Lib.hid hx1
  have HC3 : Hid (∀ V, Chg [mb] w2 V → ∀ (j : Nat) (x : Int), l[j]? = some x → ∀ u, (Instr.indexAt 33 (.slice a2 l.length c2) (.int .i64 (j : Int))).run Tryz.prog u = .ok (.pointer (some ⟨b1, o1 + j, none⟩)) u → V.cell? ⟨b1, o1 + j, none⟩ = some (.int .i64 x)) := Lib.hid (fun V hV j x hj u hu => by
    obtain ⟨-, b1', o1', hx1', hc1'⟩ := ints_at (hrl2 V hV)
    have h1 := hx1' j (List.getElem?_eq_some_iff.1 hj).1 u
    rw [hu] at h1
    simp only [Result.ok.injEq, Value.pointer.injEq, Option.some.injEq, Addr.mk.injEq] at h1
    obtain ⟨⟨rfl, h2, -⟩, -⟩ := h1
    have h3 := hc1' V (Chg.refl _ _) j x hj
    rwa [← h2] at h3)
  have HLN : Hid (l.length ≤ 5) := Lib.hid (by have := HLEN.out; omega)
  clear hx1 hc1 hrl hrl2 hob hown' hgrow e6 e7 hln hl hi0 hz0 hz1 hz2
  go_wp2_with fail
  go_loopw [17] (fun p wr => ∃ j : Nat, j ≤ l.length ∧ p = .int .i64 (j : Int) ∧ Hid (MapI wr mb j (metF l j)) ∧ Hid (Chg [mb] w2 wr)) (fun p _ => l.length - (intOf p).toNat)
  case atStart => exact ⟨0, Nat.zero_le _, rfl, Lib.hid (by have h := HM2.out; unfold metF; simpa using h), Lib.hid (Chg.refl _ _)⟩
  case round =>
    obtain ⟨j, hj, rfl, HMI, HJ⟩ := hrel
    by_cases hlt : j < l.length
    · have HLT := Lib.hid hlt
      have mm : (j : Int) < (l.length : Int) := by omega
      have g1 := HX1.out j hlt
      obtain ⟨x, hx⟩ : ∃ x, l[j]? = some x := ⟨_, List.getElem?_eq_getElem hlt⟩
      have q0 := HC3.out wr HJ.out j x hx wr (g1 wr)
      have hxr := HRG.out x (List.mem_of_getElem? hx)
      have HI : Hid (I64 x) := Lib.hid (i64_of (by omega) (by omega))
      have HI1 : Hid (I64 1) := Lib.hid (i64_of (by decide) (by decide))
      have HN0 : Hid (metF l j x = none) := Lib.hid (metF_not hx HND.out)
      have HMS : Hid (upd (metF l j) x (some 1) = metF l (j + 1)) := Lib.hid (metF_succ hx)
      have x0 : ¬ x < 0 := by omega
      have x8 : ¬ (8 : Int) ≤ x := by omega
      have k9 : IntKind.i64.wrap ((j : Int) + 1) = (j : Int) + 1 := by rw [IntKind.wrap_i64]; have := HLN.out; omega
      clear hlt hx hxr hj
      go_wp2_with (first
        | (at_lookup; refine wpList_look _ rfl (.tmp 21) (.tmp 22) rfl mb j (metF l j) rfl HMI.out x rfl HI.out 0 (by rw [HN0.out]; rfl) ?_)
        | (at_mapUpdate; refine wpList_put _ rfl (.tmp 21) (.tmp 22) (.tmp 24) rfl mb j (metF l j) rfl HMI.out (by have := HLN.out; have := HLT.out; omega) x rfl HI.out 1 rfl HI1.out ?_; intro w5 hm5 hc5; rw [HMS.out] at hm5; have HM5 := Lib.hid hm5; have HC5 := Lib.hid hc5; have hlk : (Instr.lookup 126 (.map (some mb)) (.int .i64 x) false).run Tryz.prog w5 = .ok (.int .i64 1) w5 := (by have h := hm5.look HI.out; rw [← HMS.out] at h; simpa [upd] using h); clear hm5 hc5))
      have hlt := HLT.out
      go_roundw
      case rel => exact ⟨j + 1, by omega, by go_num, HM5, Lib.hid (HJ.out.trans HC5.out)⟩
      case measure => (simp [intOf]) <;> omega
    · obtain rfl : l.length = j := by omega
      have mm : ¬ (l.length : Int) < (l.length : Int) := by omega
      clear hlt hj
      go_wp2
      go_ret
      exact ⟨rfl, HC2.out.into HJ.out (fun y hy => .inr (by have := HMB.out; simp at hy; omega))⟩
set_option maxHeartbeats 16000000 in
theorem sobjects_any (ta : Option Addr) (tc : Nat) (oa : Option Addr) (oc : Nat) (ts : List DT) (os : List DO) (W : World) (h : SysOK W ta tc oa oc ts os) :
    Calls Tryz.prog 63 #[.agg #[.slice ta ts.length tc, .slice oa os.length oc]] W fun e W' => e = .returned (.tuple #[.agg #[.int .i64 (-1), .int .i64 (-1), .int .i64 (-1)], .int .i64 0]) ∧ Chg [] W W' := by
  obtain ⟨-, b1, o1, hx1, hc1⟩ := objs_at h.O
  have HL := Lib.hid h.lens
  have HX := Lib.hid hx1
  have HQ := Lib.hid hc1
  have HD : Hid (∀ d ∈ os, (d.o.il = d.ini.length ∧ d.o.rl = d.rds.length) ∧ d.o.W ∧ rightB d.o.k d.o.w d.o.s d.o.c d.o.st d.ini.length d.rds.length = true ∧ (d.o.wr :: d.rds).Nodup ∧ ∀ x ∈ d.o.wr :: d.rds, 0 ≤ x ∧ x < 8 ∧ x < (ts.length : Int)) := Lib.hid (fun d hd => by
    have hm : d.p ∈ (sys ts os).os := List.mem_map.2 ⟨d, hd, rfl⟩
    have h1 := h.fine.who d.p hm
    simp only [sys, List.length_map, DO.p] at h1
    exact ⟨⟨(h.O.2 d hd).leni, (h.O.2 d hd).lenr⟩, h.w d hd, h.fine.right d.p hm, h1.1, h1.2⟩)
  have HR : Hid (∀ d ∈ os, ∀ V, Chg [] W V → ReadsN V (.slice d.o.ra d.o.rl d.o.rc) d.rds) := Lib.hid (fun d hd V hV => (h.O.2 d hd).2.chg hV)
  have HC2 : Hid (Chg [] W ((W.alloc (.cells #[.slice ta ts.length tc, .slice oa os.length oc] 25)).alloc (.cells #[.int .i64 0, .int .i64 0, .int .i64 0] 49))) := Lib.hid (((Chg.refl [] W).alloc _).alloc _)
  have HB0 : Hid (Blk ((W.alloc (.cells #[.slice ta ts.length tc, .slice oa os.length oc] 25)).alloc (.cells #[.int .i64 0, .int .i64 0, .int .i64 0] 49)) W.heap.size #[.slice ta ts.length tc, .slice oa os.length oc] 25) := Lib.hid ((Blk.new W _ _).alloc _)
  have HB1 : Hid (Blk ((W.alloc (.cells #[.slice ta ts.length tc, .slice oa os.length oc] 25)).alloc (.cells #[.int .i64 0, .int .i64 0, .int .i64 0] 49)) (W.heap.size + 1) #[.int .i64 0, .int .i64 0, .int .i64 0] 49) := Lib.hid (by
    have := Blk.new (W.alloc (.cells #[.slice ta ts.length tc, .slice oa os.length oc] 25)) #[.int .i64 0, .int .i64 0, .int .i64 0] 49
    rwa [show (W.alloc (.cells #[.slice ta ts.length tc, .slice oa os.length oc] 25)).heap.size = W.heap.size + 1 by simp] at this)
  obtain ⟨i0, hi0, hz0, hz1, hz2⟩ := info_parts infoInt
  clear h hx1 hc1
  go_enter Tryz.func63, Tryz.ntmps63
  go_upto_region 1 with fail
  obtain ⟨w2, hw2⟩ : ∃ x, x = (W.alloc (.cells #[.slice ta ts.length tc, .slice oa os.length oc] 25)).alloc (.cells #[.int .i64 0, .int .i64 0, .int .i64 0] 49) := ⟨_, rfl⟩
  rw [← hw2] at HC2 HB0 HB1
  try rw [← hw2]
  clear hw2
  go_upto_region 2 with (go_at_call 61; refine (nowhere_any _).mono ?_; rintro e w3 ⟨rfl, hc3⟩; have HC3 := Lib.hid hc3; clear hc3)
  obtain ⟨w4, hw4⟩ : ∃ x, x = w3.alloc (.cells #[.int .i64 (-1), .int .i64 (-1), .int .i64 (-1)] 49) := ⟨_, rfl⟩
  have HK4 : Hid (Chg [] w2 w4 ∧ Blk w4 w3.heap.size #[.int .i64 (-1), .int .i64 (-1), .int .i64 (-1)] 49) := Lib.hid (by rw [hw4]; exact ⟨HC3.out.alloc _, Blk.new w3 _ _⟩)
  rw [← hw4]
  clear hw4
  have s0 := (HB0.out.keep HK4.out.1 (by simp)).cell (o := 1) (v := .slice oa os.length oc) rfl
  go_wp2_with fail
  clear s0
  go_loopw [15] (fun q wr => ∃ m : Nat, m ≤ os.length ∧ q = .int .i64 (m : Int) ∧ Hid (Chg [] w4 wr)) (fun q _ => os.length - (intOf q).toNat)
  case atStart => exact ⟨0, Nat.zero_le _, rfl, Lib.hid (Chg.refl _ _)⟩
  case round =>
    obtain ⟨m, hm, rfl, HJ⟩ := hrel
    have HJW : Hid (Chg [] W wr) := Lib.hid ((HC2.out.trans HK4.out.1).trans HJ.out)
    by_cases hlm : m < os.length
    · have HLM := Lib.hid hlm
      have mm : (m : Int) < (os.length : Int) := by omega
      have g3 := HX.out m hlm
      obtain ⟨d, hd⟩ : ∃ d, os[m]? = some d := ⟨_, List.getElem?_eq_getElem hlm⟩
      obtain ⟨⟨q0, q1, q2, q3⟩, q4, q5, q6, q7⟩ := HQ.out wr HJW.out m d hd
      obtain ⟨⟨e1, e2⟩, e3, e4, e5, e6⟩ := HD.out d (List.mem_of_getElem? hd)
      have hr := HR.out d (List.mem_of_getElem? hd)
      obtain ⟨⟨k, w, s, c, st, ia, il, ic, wri, ra, rl, rc⟩, ini, rds⟩ := d
      simp only at q0 q1 q2 q3 q4 q5 q6 q7 e1 e2 e4 e5 e6 hr
      subst e1 e2
      have HA : Hid (Chg [] wr (wr.alloc (.cells #[.int .i64 k, .int .i64 w, .int .i64 s, .int .i64 c, .int .u32 st, .slice ia ini.length ic, .int .i64 wri, .slice ra rds.length rc] 46))) := Lib.hid ((Chg.refl _ _).alloc _)
      have HOR := Lib.hid (fun V (hV : Chg [] W V) => oright_any k w s c st ia ini.length ic wri ra rc rds V (hr V hV) e3 e4 e5 (fun x hx => ⟨(e6 x hx).1, (e6 x hx).2.1⟩))
      have k9 : IntKind.i64.wrap ((m : Int) + 1) = (m : Int) + 1 := by rw [IntKind.wrap_i64]; have := HL.out; omega
      clear hd hr e3 e4 e5 e6 hlm hm
      go_wp2_with (go_at_call 91; refine (HOR.out _ (HJW.out.trans HA.out)).mono ?_; rintro e w6 ⟨rfl, hc6⟩; have HC6 := Lib.hid (HA.out.trans hc6); clear hc6)
      have hlt := HLM.out
      go_roundw
      case rel => exact ⟨m + 1, by omega, by go_num, Lib.hid (HJ.out.trans HC6.out)⟩
      case measure => (simp [intOf]) <;> omega
    · obtain rfl : os.length = m := by omega
      clear hlm hm HJW
      have s1 := ((HB0.out.keep HK4.out.1 (by simp)).keep HJ.out (by simp)).cell (o := 1) (v := .slice oa os.length oc) rfl
      go_wp2_with fail
      clear s1
      go_loopw [30] (fun q wr => ∃ m : Nat, m ≤ os.length ∧ q = .int .i64 (m : Int) ∧ Hid (Chg [] w4 wr)) (fun q _ => os.length - (intOf q).toNat)
      case atStart => exact ⟨0, Nat.zero_le _, rfl, HJ⟩
      case round =>
        clear HJ
        obtain ⟨m, hm, rfl, HJ⟩ := hrel
        have HJW : Hid (Chg [] W wr) := Lib.hid ((HC2.out.trans HK4.out.1).trans HJ.out)
        by_cases hlm : m < os.length
        · have HLM := Lib.hid hlm
          have mm : (m : Int) < (os.length : Int) := by omega
          have g3 := HX.out m hlm
          obtain ⟨d, hd⟩ : ∃ d, os[m]? = some d := ⟨_, List.getElem?_eq_getElem hlm⟩
          obtain ⟨⟨q0, q1, q2, q3⟩, q4, q5, q6, q7⟩ := HQ.out wr HJW.out m d hd
          obtain ⟨⟨e1, e2⟩, e3, e4, e5, e6⟩ := HD.out d (List.mem_of_getElem? hd)
          have hr := HR.out d (List.mem_of_getElem? hd)
          have hbd := rightB_bd e4
          obtain ⟨⟨k, w, s, c, st, ia, il, ic, wri, ra, rl, rc⟩, ini, rds⟩ := d
          simp only at q0 q1 q2 q3 q4 q5 q6 q7 e1 e2 e4 e5 e6 hr hbd
          subst e1 e2
          have HLEN : Hid (rds.length ≤ 4) := Lib.hid (by omega)
          have HRG := Lib.hid e6
          have HRD := Lib.hid hr
          have k9 : IntKind.i64.wrap ((m : Int) + 1) = (m : Int) + 1 := by rw [IntKind.wrap_i64]; have := HL.out; omega
          have HA8 : Hid (Chg [] wr (wr.alloc (.cells #[.int .i64 k, .int .i64 w, .int .i64 s, .int .i64 c, .int .u32 st, .slice ia ini.length ic, .int .i64 wri, .slice ra rds.length rc] 46))) := Lib.hid ((Chg.refl _ _).alloc _)
          have HB8 := Lib.hid (Blk.new wr #[.int .i64 k, .int .i64 w, .int .i64 s, .int .i64 c, .int .u32 st, .slice ia ini.length ic, .int .i64 wri, .slice ra rds.length rc] 46)
          clear hd hr e3 e4 e5 e6 hbd hlm hm
          go_upto_region 12 with fail
          obtain ⟨w8, hw8⟩ : ∃ x, x = wr.alloc (.cells #[.int .i64 k, .int .i64 w, .int .i64 s, .int .i64 c, .int .u32 st, .slice ia ini.length ic, .int .i64 wri, .slice ra rds.length rc] 46) := ⟨_, rfl⟩
          rw [← hw8] at HA8 HB8
          try rw [← hw8]
          clear hw8 q0 q1 q2 q3 q4 q5 q6 q7 g3
          have HJ8 : Hid (Chg [] W w8) := Lib.hid (HJW.out.trans HA8.out)
          have e6 := HB8.out.cell (o := 6) (v := .int .i64 wri) rfl
          have e7 := (HB8.out.alloc (.cells #[.int .i64 wri] 3)).cell (o := 7) (v := .slice ra rds.length rc) rfl
          go_wp2_with (at_builtin; refine wpList_append_any _ rfl _ _ 33 rfl w8.heap.size 3 i0 (.int .i64 0) 1 8 Tryz.underlying33 hi0 hz0 hz1 hz2 rfl (by decide) (.slice (some ⟨w8.heap.size, 0, none⟩) 1 1) 1 _ rfl (own_lit1 w8 wri) (.slice ra rds.length rc) rds.length _ rfl (Reads.alloc (HRD.out _ HJ8.out) _) (ints_one _) ?c3 ?c4 ?c5 ?_)
          case c3 => have := HLEN.out; unfold maxLen; omega
          case c4 => have := HLEN.out; omega
          case c5 => simp
          intro v' w9 hown' hgrow
          obtain ⟨a2, c2, rfl⟩ := own_open hown'
          have HK9 : Hid (Chg [] w8 w9) := Lib.hid (((Chg.refl _ _).alloc _).grown hgrow (fun q hq => .inr (by simp [Value.ownBlock] at hq; omega)))
          obtain ⟨l, hl⟩ : ∃ l, wri :: rds = l := ⟨_, rfl⟩
          have hrl : ReadsN w9 (.slice a2 (1 + rds.length) c2) l := by
            have := Reads.of_own hown' (by decide)
            rw [← hl]
            unfold ReadsN
            rwa [List.length_cons, Nat.add_comm rds.length 1]
          obtain ⟨hln, -⟩ := ints_at hrl
          rw [hln] at hrl ⊢
          rw [hl] at HRG
          obtain ⟨-, b5, o5, hx5, hc5⟩ := ints_at hrl
          have HX5 := Lib.hid hx5
          have HC5 := Lib.hid hc5
          have HLN : Hid (l.length ≤ 5) := Lib.hid (by have := HLEN.out; omega)
          clear hx5 hc5 hrl hown' hgrow e6 e7 hln hl
          go_wp2_with fail
          go_loopw [42] (fun p wr => ∃ j : Nat, j ≤ l.length ∧ p = .int .i64 (j : Int) ∧ Hid (Chg [] w9 wr)) (fun p _ => l.length - (intOf p).toNat)
          case atStart => exact ⟨0, Nat.zero_le _, rfl, Lib.hid (Chg.refl _ _)⟩
          case round =>
            obtain ⟨j, hj, rfl, HI⟩ := hrel
            by_cases hlt : j < l.length
            · have HLT := Lib.hid hlt
              have m5 : (j : Int) < (l.length : Int) := by omega
              have g5 := HX5.out j hlt
              obtain ⟨x, hx⟩ : ∃ x, l[j]? = some x := ⟨_, List.getElem?_eq_getElem hlt⟩
              have q5 := HC5.out wr HI.out j x hx
              have hxr := HRG.out x (List.mem_of_getElem? hx)
              have x8 : ¬ (ts.length : Int) ≤ x := by omega
              have k5 : IntKind.i64.wrap ((j : Int) + 1) = (j : Int) + 1 := by rw [IntKind.wrap_i64]; have := HLN.out; omega
              have s5 := (((((HB0.out.keep HK4.out.1 (by simp)).keep HJ.out (by simp)).keep HA8.out (by simp)).keep HK9.out (by simp)).keep HI.out (by simp)).cell (o := 0) (v := .slice ta ts.length tc) rfl
              clear hx hxr hj hlt
              go_wp2
              have hlt := HLT.out
              go_roundw
              case rel => exact ⟨j + 1, by omega, by go_num, HI⟩
              case measure => (simp [intOf]) <;> omega
            · obtain rfl : l.length = j := by omega
              have m5 : ¬ (l.length : Int) < (l.length : Int) := by omega
              clear hlt hj
              go_wp2
              have hlt := HLM.out
              go_roundw
              case rel => exact ⟨m + 1, by omega, by go_num, Lib.hid (((HJ.out.trans HA8.out).trans HK9.out).trans HI.out)⟩
              case measure => (simp [intOf]) <;> omega
        · obtain rfl : os.length = m := by omega
          clear hlm hm
          have B4 := HK4.out.2.keep HJ.out (by simp)
          have t0 := B4.cell (o := 0) (v := .int .i64 (-1)) rfl
          have t1 := B4.cell (o := 1) (v := .int .i64 (-1)) rfl
          have t2 := B4.cell (o := 2) (v := .int .i64 (-1)) rfl
          have HR9 := Lib.hid ((HB1.out.keep HK4.out.1 (by simp)).keep HJ.out (by simp))
          clear B4
          go_wp2_with (refine Go.Proofs.YtkedegbpkkgeaaaGreat.blk.wpList_store_blk rfl 49 (.tmp 2) (.tmp 58) rfl (W.heap.size + 1) #[.int .i64 (-1), .int .i64 (-1), .int .i64 (-1)] rfl rfl HR9.out szSpot rfl (by simp [Value.oneCell']) ?_; intro w9 hb9 hc9; have HB9 := Lib.hid hb9; have HC9 := Lib.hid hc9; clear hb9 hc9)
          refine bodyPost_ret (results_row_tmpF rfl _ _ (W.heap.size + 1) 49 _ (0, 0) _ rfl HB9.out Tryz.underlying49 rfl szSpot) rfl ?_
          exact ⟨rfl, HJW.out.into HC9.out (by simp)⟩
end Go.Proofs.YtkedegbpkkgeaaaGreat.tf
