import Derived.Test.YtkedegbpkkgeaaaGreatTop16
import Derived.Test.YtkedegbpkkgeaaaGreatTop17
import Derived.Test.YtkedegbpkkgeaaaGreatTop18
import Derived.RegionTactic
import Derived.ChangeAlike
import Derived.BigRegion
/- TopFits: system.Role, task.Ahead. -/
namespace Go.Proofs.YtkedegbpkkgeaaaGreat.tf
open Go Go.RowKit Go.Proofs.YtkedegbpkkgeaaaGreat.kit Go.Proofs.YtkedegbpkkgeaaaGreat.obj Go.Proofs.YtkedegbpkkgeaaaGreat.mem Go.Proofs.YtkedegbpkkgeaaaGreat.lay Go.Proofs.YtkedegbpkkgeaaaGreat.isa
set_option linter.unusedVariables false
set_option linter.unusedSimpArgs false
set_option maxRecDepth 20000

/-- it returns a number, and something beside it -/
def FstI (r : Int) (e : Ending) : Prop := ∃ v, e = .returned (.tuple #[.int .i64 r, v])
theorem FstI.mk {r : Int} {e : Ending} (v : Value) (h : e = .returned (.tuple #[.int .i64 r, v])) : FstI r e := ⟨v, h⟩
set_option maxHeartbeats 4000000 in
theorem role_any (ta : Option Addr) (tc : Nat) (oa : Option Addr) (oc : Nat) (ts : List DT) (os : List DO) (i kk : Nat) (W : World) (hT : ReadsDT W (.slice ta ts.length tc) ts) (hO : ReadsDO W (.slice oa os.length oc) os) (hi : i < ts.length) (hk : kk < os.length) (hlen : ts.length ≤ 1000 ∧ os.length ≤ 1000) (hrd : ∀ d ∈ os, d.rds.length ≤ 1000) :
    Calls Tryz.prog 36 #[.agg #[.slice ta ts.length tc, .slice oa os.length oc], .int .i64 (i : Int), .int .i64 (kk : Int)] W fun e W' => FstI (roleM (sys ts os) i kk) e ∧ Chg [] W W' := by
  obtain ⟨-, b2, o2, hx2, hc2⟩ := objs_at hO
  obtain ⟨d, hd⟩ : ∃ d, os[kk]? = some d := ⟨_, List.getElem?_eq_getElem hk⟩
  have hdR := hO.2 d (List.mem_of_getElem? hd)
  have hdl := hrd d (List.mem_of_getElem? hd)
  have g1 := hx2 kk hk
  have hq := hc2 W (Chg.refl _ _) kk d hd
  obtain ⟨R, hR⟩ : ∃ R, roleM (sys ts os) i kk = R := ⟨_, rfl⟩
  have HR := Lib.hid hR
  rw [hR]
  unfold roleM at hR
  rw [sys_o ts hd] at hR
  obtain ⟨⟨k, w, s, c, st, ia, il, ic, wri, ra, rl, rc⟩, ini, rds⟩ := d
  obtain ⟨⟨q0, q1, q2, q3⟩, q4, q5, q6, q7⟩ := hq
  replace hR : (if kindB k = true then (if wri = (i : Int) then writesI k else if (i : Int) ∈ rds then readsI k else 0) else 0) = R := hR
  simp only at q0 q1 q2 q3 q4 q5 q6 q7 hdl
  have HRN := Lib.hid hdR.2
  simp only at HRN
  have HRD := Lib.hid (fun V (hV : Chg [] W V) => oReader_any k w s c st ia il ic wri ra rl rc rds (i : Int) V (ReadsN.chg HRN.out hV) hdl)
  have HE := Lib.hid hR
  have n1 : ¬ (i : Int) < 0 := by omega
  have n2 : ¬ (ts.length : Int) ≤ (i : Int) := by omega
  have n3 : ¬ (kk : Int) < 0 := by omega
  have n4 : ¬ (os.length : Int) ≤ (kk : Int) := by omega
  have HCS : Hid (Chg [] W (W.alloc (.cells #[.slice ta ts.length tc, .slice oa os.length oc] 25))) := Lib.hid ((Chg.refl [] W).alloc _)
  have a0 := HCS.out.keep q0 (by simp)
  have a1 := HCS.out.keep q1 (by simp)
  have a2 := HCS.out.keep q2 (by simp)
  have a3 := HCS.out.keep q3 (by simp)
  have a4 := HCS.out.keep q4 (by simp)
  have a5 := HCS.out.keep q5 (by simp)
  have a6 := HCS.out.keep q6 (by simp)
  have a7 := HCS.out.keep q7 (by simp)
  have HCO : Hid (Chg [] W ((W.alloc (.cells #[.slice ta ts.length tc, .slice oa os.length oc] 25)).alloc (.cells #[.int .i64 k, .int .i64 w, .int .i64 s, .int .i64 c, .int .u32 st, .slice ia il ic, .int .i64 wri, .slice ra rl rc] 46))) := Lib.hid (HCS.out.alloc _)
  have HBO : Hid (Blk ((W.alloc (.cells #[.slice ta ts.length tc, .slice oa os.length oc] 25)).alloc (.cells #[.int .i64 k, .int .i64 w, .int .i64 s, .int .i64 c, .int .u32 st, .slice ia il ic, .int .i64 wri, .slice ra rl rc] 46)) (W.heap.size + 1) #[.int .i64 k, .int .i64 w, .int .i64 s, .int .i64 c, .int .u32 st, .slice ia il ic, .int .i64 wri, .slice ra rl rc] 46) := Lib.hid (by
    have := Blk.new (W.alloc (.cells #[.slice ta ts.length tc, .slice oa os.length oc] 25)) #[.int .i64 k, .int .i64 w, .int .i64 s, .int .i64 c, .int .u32 st, .slice ia il ic, .int .i64 wri, .slice ra rl rc] 46
    rwa [show (W.alloc (.cells #[.slice ta ts.length tc, .slice oa os.length oc] 25)).heap.size = W.heap.size + 1 by simp] at this)
  clear hT hO hd hdR hx2 hc2 hi hk hlen hrd hR q0 q1 q2 q3 q4 q5 q6 q7 hdl
  have HOP := Lib.hid (fun V => ops_any k V)
  obtain ⟨kb, hkb⟩ : ∃ b, kindB k = b := ⟨_, rfl⟩
  rw [hkb] at HOP
  have HKB := Lib.hid hkb
  clear hkb
  cases kb
  · obtain rfl : 0 = R := by rw [← HE.out, HKB.out]; rfl
    rw [if_neg (by decide), if_neg (by decide)] at HOP
    go_enter Tryz.func36, Tryz.ntmps36
    go_wp2_with (go_at_call 72; refine (HOP.out _).mono ?_; rintro e w1 ⟨rfl, rfl⟩)
    go_ret2
    exact ⟨.mk _ rfl, HCO.out⟩
  rw [if_pos rfl, if_pos rfl] at HOP
  by_cases c3 : wri = (i : Int)
  · obtain rfl : writesI k = R := by rw [← HE.out, HKB.out, if_pos rfl, if_pos c3]
    have d3 : (wri == (i : Int)) = true := by simpa using c3
    clear c3
    go_enter Tryz.func36, Tryz.ntmps36
    go_wp2_with (go_at_call 72; refine (HOP.out _).mono ?_; rintro e w1 ⟨rfl, rfl⟩)
    go_ret2
    exact ⟨.mk _ rfl, HCO.out⟩
  have d3 : (wri == (i : Int)) = false := by simpa using c3
  have HFA := Lib.hid (HCO.out)
  by_cases c4 : (i : Int) ∈ rds
  · obtain rfl : readsI k = R := by rw [← HE.out, HKB.out, if_pos rfl, if_neg c3, if_pos c4]
    rw [decide_eq_true c4] at HRD
    clear c3 c4
    go_enter Tryz.func36, Tryz.ntmps36
    go_wp2_with (first
      | (go_at_call 72; refine (HOP.out _).mono ?_; rintro e w1 ⟨rfl, rfl⟩)
      | (go_at_call 73; refine (HRD.out _ HCO.out).mono ?_; rintro e w2 ⟨rfl, hc2⟩; have HC2 := Lib.hid (HCO.out.trans hc2); clear hc2))
    go_ret2
    exact ⟨.mk _ rfl, HC2.out⟩
  · obtain rfl : 0 = R := by rw [← HE.out, HKB.out, if_pos rfl, if_neg c3, if_neg c4]
    rw [decide_eq_false c4] at HRD
    clear c3 c4
    go_enter Tryz.func36, Tryz.ntmps36
    go_wp2_with (first
      | (go_at_call 72; refine (HOP.out _).mono ?_; rintro e w1 ⟨rfl, rfl⟩)
      | (go_at_call 73; refine (HRD.out _ HCO.out).mono ?_; rintro e w2 ⟨rfl, hc2⟩; have HC2 := Lib.hid (HCO.out.trans hc2); clear hc2))
    go_ret2
    exact ⟨.mk _ rfl, HC2.out⟩
theorem within_any (n lo hi : Int) (h : lo ≤ n ∧ n ≤ hi) (w : World) : Calls Tryz.prog 75 #[.int .i64 n, .int .i64 lo, .int .i64 hi] w fun e w' => e = .returned (.bool true) ∧ w = w' := by
  obtain ⟨h1, h2⟩ := h
  go_enter Tryz.func75, Tryz.ntmps75
  go_wp2
  go_ret
  exact ⟨by simp [h1, h2], rfl⟩
set_option maxHeartbeats 4000000 in
theorem ahead_any (ta : Option Addr) (tc : Nat) (ts : List DT) (os : List DO) (a b : Nat) (W : World) (hT : ReadsDT W (.slice ta ts.length tc) ts) (ha : a < ts.length) (hb : b < ts.length) (hl : ts.length ≤ 1000) :
    Calls Tryz.prog 38 #[.slice ta ts.length tc, .int .i64 (a : Int), .int .i64 (b : Int)] W fun e W' => e = .returned (.bool (aheadM (sys ts os) a b)) ∧ Chg [] W W' := by
  obtain ⟨-, b1, o1, hx1, hc1⟩ := tasks_at hT
  obtain ⟨da, hda⟩ : ∃ d, ts[a]? = some d := ⟨_, List.getElem?_eq_getElem ha⟩
  obtain ⟨db, hdb⟩ : ∃ d, ts[b]? = some d := ⟨_, List.getElem?_eq_getElem hb⟩
  have ga := hx1 a ha
  have gb := hx1 b hb
  have qa := (hc1 W (Chg.refl _ _) a da hda).1.2.1
  have qb := (hc1 W (Chg.refl _ _) b db hdb).1.2.1
  have HWA := Lib.hid (fun V => within_any (a : Int) 0 ((ts.length : Int) - 1) (by omega) V)
  have HWB := Lib.hid (fun V => within_any (b : Int) 0 ((ts.length : Int) - 1) (by omega) V)
  have kl : IntKind.i64.wrap ((ts.length : Int) - 1) = (ts.length : Int) - 1 := by rw [IntKind.wrap_i64]; omega
  obtain ⟨R, hR⟩ : ∃ R, aheadM (sys ts os) a b = R := ⟨_, rfl⟩
  rw [hR]
  unfold aheadM at hR
  rw [sys_t os hda, sys_t os hdb] at hR
  have h1 : inB (sys ts os) (a : Int) = true := by simp [inB, sys]; exact ha
  have h2 : inB (sys ts os) (b : Int) = true := by simp [inB, sys]; exact hb
  rw [h1, h2, Bool.true_and, Bool.true_and] at hR
  replace hR : (decide (db.t.prio < da.t.prio) || decide (da.t.prio = db.t.prio ∧ (a : Int) < (b : Int))) = R := hR
  obtain ⟨pa, hpa⟩ : ∃ x, da.t.prio = x := ⟨_, rfl⟩
  obtain ⟨pb, hpb⟩ : ∃ x, db.t.prio = x := ⟨_, rfl⟩
  rw [hpa] at qa hR
  rw [hpb] at qb hR
  clear hT ha hb hl hx1 hc1 hda hdb h1 h2 hpa hpb
  by_cases c1 : pb < pa
  · obtain rfl : true = R := by rw [← hR]; simp [c1]
    clear hR
    go_enter Tryz.func38, Tryz.ntmps38
    go_upto_region 3 with (first | (go_at_call 75; with_reducible refine (HWA.out _).mono ?_; rintro e w1 ⟨rfl, rfl⟩) | (go_at_call 75; with_reducible refine (HWB.out _).mono ?_; rintro e w1 ⟨rfl, rfl⟩))
    go_quiet (fail)
    go_wp2
    go_ret
    exact ⟨by first | rfl | (simp; omega), (Chg.refl _ _).drewN nq⟩
  · by_cases c2 : pa = pb
    · subst c2
      by_cases c3 : (a : Int) < (b : Int)
      · obtain rfl : true = R := by rw [← hR]; simp [c3]
        clear hR
        go_enter Tryz.func38, Tryz.ntmps38
        go_upto_region 3 with (first | (go_at_call 75; with_reducible refine (HWA.out _).mono ?_; rintro e w1 ⟨rfl, rfl⟩) | (go_at_call 75; with_reducible refine (HWB.out _).mono ?_; rintro e w1 ⟨rfl, rfl⟩))
        go_quiet (fail)
        go_wp2
        go_ret
        exact ⟨by first | rfl | (simp; omega), (Chg.refl _ _).drewN nq⟩
      · obtain rfl : false = R := by rw [← hR]; simp [c3]
        clear hR
        go_enter Tryz.func38, Tryz.ntmps38
        go_upto_region 3 with (first | (go_at_call 75; with_reducible refine (HWA.out _).mono ?_; rintro e w1 ⟨rfl, rfl⟩) | (go_at_call 75; with_reducible refine (HWB.out _).mono ?_; rintro e w1 ⟨rfl, rfl⟩))
        go_quiet (fail)
        go_wp2
        go_ret
        exact ⟨by first | rfl | (simp; omega), (Chg.refl _ _).drewN nq⟩
    · obtain rfl : false = R := by rw [← hR]; simp [c1, c2]
      have d2 : (pa == pb) = false := by simpa using c2
      clear hR c2
      go_enter Tryz.func38, Tryz.ntmps38
      go_upto_region 3 with (first | (go_at_call 75; with_reducible refine (HWA.out _).mono ?_; rintro e w1 ⟨rfl, rfl⟩) | (go_at_call 75; with_reducible refine (HWB.out _).mono ?_; rintro e w1 ⟨rfl, rfl⟩))
      go_quiet (fail)
      go_wp2
      go_ret
      exact ⟨by first | rfl | (simp; omega), (Chg.refl _ _).drewN nq⟩
end Go.Proofs.YtkedegbpkkgeaaaGreat.tf
/- TopFits: bound: weights. -/
namespace Go.Proofs.YtkedegbpkkgeaaaGreat.tf
open Go Go.RowKit Go.Proofs.YtkedegbpkkgeaaaGreat.kit Go.Proofs.YtkedegbpkkgeaaaGreat.obj Go.Proofs.YtkedegbpkkgeaaaGreat.mem Go.Proofs.YtkedegbpkkgeaaaGreat.lay Go.Proofs.YtkedegbpkkgeaaaGreat.isa
set_option linter.unusedVariables false
set_option linter.unusedSimpArgs false
set_option maxRecDepth 20000

set_option maxHeartbeats 4000000 in
theorem weight_any (ta : Option Addr) (tc : Nat) (oa : Option Addr) (oc : Nat) (ts : List DT) (os : List DO) (op ia ib ic nn : Int) (W : World) (hT : ReadsDT W (.slice ta ts.length tc) ts) (hO : ReadsDO W (.slice oa os.length oc) os) (hw : ∀ d ∈ os, d.o.W) (hu : (Lit.int .u32 nn).wf = true) :
    Calls Tryz.prog 129 #[.agg #[.slice ta ts.length tc, .slice oa os.length oc], .agg #[.int .i64 op, .int .i64 ia, .int .i64 ib, .int .i64 ic, .int .u32 nn], .int .i64 0] W fun e W' => e = .returned (.int .i64 (weightM (os.map DO.p) ⟨op, ia, ib, ic, nn⟩)) ∧ Chg [] W W' := by
  obtain ⟨-, b2, o2, hx2, hc2⟩ := objs_at hO
  have HC2 : Hid (Chg [] W ((W.alloc (.cells #[.slice ta ts.length tc, .slice oa os.length oc] 25)).alloc (.cells #[.int .i64 op, .int .i64 ia, .int .i64 ib, .int .i64 ic, .int .u32 nn] 53))) := Lib.hid (((Chg.refl [] W).alloc _).alloc _)
  have HBS : Hid (Blk ((W.alloc (.cells #[.slice ta ts.length tc, .slice oa os.length oc] 25)).alloc (.cells #[.int .i64 op, .int .i64 ia, .int .i64 ib, .int .i64 ic, .int .u32 nn] 53)) W.heap.size #[.slice ta ts.length tc, .slice oa os.length oc] 25) := Lib.hid ((Blk.new W _ _).alloc _)
  have hcl := fun V => Calls_any op ia ib ic nn hu V
  obtain ⟨R, hR⟩ : ∃ R, weightM (os.map DO.p) ⟨op, ia, ib, ic, nn⟩ = R := ⟨_, rfl⟩
  rw [hR]
  unfold weightM at hR
  cases hcb : callB ⟨op, ia, ib, ic, nn⟩
  · rw [hcb] at hR
    obtain rfl : 1 = R := by rw [← hR, if_pos (.inl rfl)]
    have hcb' : (rightI ⟨op, ia, ib, ic, nn⟩ && decide (0 < callI op)) = false := hcb
    rw [hcb'] at hcl
    obtain ⟨v1, hv1⟩ : ∃ x, (if false = true then ib else 0) = x := ⟨_, rfl⟩
    obtain ⟨v2, hv2⟩ : ∃ x, (if rightI ⟨op, ia, ib, ic, nn⟩ = true then callI op else 0) = x := ⟨_, rfl⟩
    rw [hv1, hv2] at hcl
    have HCL := Lib.hid hcl
    clear hT hO hw hu hx2 hc2 hcl hR hcb hcb' hv1 hv2
    go_enter Tryz.func129, Tryz.ntmps129
    go_wp2_with (go_at_call 102; refine (HCL.out _).mono ?_; rintro e w1 ⟨rfl, hc1⟩; have s1 := (HBS.out.keep hc1 (by simp)).cell (o := 1) (v := .slice oa os.length oc) rfl; have HC1 := Lib.hid (HC2.out.trans hc1); clear hc1)
    go_ret
    exact ⟨rfl, HC1.out⟩
  · have hcb' : (rightI ⟨op, ia, ib, ic, nn⟩ && decide (0 < callI op)) = true := hcb
    rw [hcb'] at hcl
    have hri : rightI ⟨op, ia, ib, ic, nn⟩ = true := by simp only [Bool.and_eq_true] at hcb'; exact hcb'.1
    have hci : 0 < callI op := by simp only [Bool.and_eq_true, decide_eq_true_eq] at hcb'; exact hcb'.2
    rw [hri, if_pos rfl, if_pos rfl] at hcl
    have HCL := Lib.hid hcl
    have hb := call_b hri (by simp only; omega)
    simp only at hb
    obtain ⟨kb, rfl⟩ := Int.eq_ofNat_of_zero_le hb.1
    rw [hcb] at hR
    by_cases hkb : kb < os.length
    rotate_left
    · obtain rfl : 1 = R := by rw [← hR, if_pos (.inr (by simp only [List.length_map]; omega))]
      have m1 : (os.length : Int) ≤ (kb : Int) := by omega
      clear hT hO hw hu hx2 hc2 hcl hR hcb hcb' hri hci hb hkb
      go_enter Tryz.func129, Tryz.ntmps129
      go_wp2_with (go_at_call 102; refine (HCL.out _).mono ?_; rintro e w1 ⟨rfl, hc1⟩; have s1 := (HBS.out.keep hc1 (by simp)).cell (o := 1) (v := .slice oa os.length oc) rfl; have HC1 := Lib.hid (HC2.out.trans hc1); clear hc1)
      go_ret
      exact ⟨rfl, HC1.out⟩
    · have m1 : ¬ (os.length : Int) ≤ (kb : Int) := by omega
      have g1 := hx2 kb hkb
      obtain ⟨d, hd⟩ : ∃ d, os[kb]? = some d := ⟨_, List.getElem?_eq_getElem hkb⟩
      have hdR := hO.2 d (List.mem_of_getElem? hd)
      have HQ : Hid (∀ V, Chg [] W V → OC V b2 (o2 + kb * 8) d.o) := Lib.hid (fun V hV => hc2 V hV kb d hd)
      have hAF := fun V => bAfter_any d.o.k d.o.w d.o.s d.o.c d.o.st d.o.ia d.o.il d.o.ic d.o.wr d.o.ra d.o.rl d.o.rc (callI op) 0 (hw d (List.mem_of_getElem? hd)) V
      obtain ⟨x, hx⟩ : ∃ x, afterI d.o.k d.o.w d.o.s d.o.c d.o.st d.o.il d.o.rl (callI op) 0 = x := ⟨_, rfl⟩
      rw [hx] at hAF
      have HAF := Lib.hid hAF
      have HRV : Hid (max 1 x = R) := Lib.hid (by
        rw [← hR, if_neg (by
          simp only [List.length_map]
          rintro (h | h)
          · cases h
          · omega)]
        have e1 : (List.map DO.p os).getD ((kb : Int)).toNat oD = d.p := by
          rw [List.getD_eq_getElem?_getD, Int.toNat_natCast, List.getElem?_map, hd]; rfl
        simp only [e1]
        unfold O.after DO.p
        simp only
        rw [← hx, hdR.leni, hdR.lenr])
      obtain ⟨⟨k, w, s, c, st, ja, il, jc, wri, ra, rl, rc⟩, ini, rds⟩ := d
      simp only at HAF HQ
      clear hT hO hw hu hx2 hc2 hcl hR hcb hcb' hri hci hb hkb hd hdR hAF hx
      go_enter Tryz.func129, Tryz.ntmps129
      go_upto_region 4 with (go_at_call 102; refine (HCL.out _).mono ?_; rintro e w1 ⟨rfl, hc1⟩; have s1 := (HBS.out.keep hc1 (by simp)).cell (o := 1) (v := .slice oa os.length oc) rfl; have HC1 := Lib.hid (HC2.out.trans hc1); clear hc1)
      obtain ⟨⟨q0, q1, q2, q3⟩, q4, q5, q6, q7⟩ := HQ.out w1 HC1.out
      simp only at q0 q1 q2 q3 q4 q5 q6 q7
      go_wp2_with (go_at_call 155; refine (HAF.out _).mono ?_; rintro e w3 ⟨rfl, hc3⟩; have HC3 := Lib.hid (HC1.out.trans hc3); clear hc3)
      all_goals (go_ret; exact ⟨by rw [← HRV.out]; refine ret_int ?_; omega, HC3.out⟩)
end Go.Proofs.YtkedegbpkkgeaaaGreat.tf
/- TopFits: bound.Weights, demand. -/
namespace Go.Proofs.YtkedegbpkkgeaaaGreat.tf
open Go Go.RowKit Go.Proofs.YtkedegbpkkgeaaaGreat.kit Go.Proofs.YtkedegbpkkgeaaaGreat.obj Go.Proofs.YtkedegbpkkgeaaaGreat.mem Go.Proofs.YtkedegbpkkgeaaaGreat.lay Go.Proofs.YtkedegbpkkgeaaaGreat.isa
set_option linter.unusedVariables false
set_option linter.unusedSimpArgs false
set_option maxRecDepth 20000

def OwnN (w : World) (B : Nat) (v : Value) (l : List Int) : Prop := w.ownsRow B 3 1 v l.length (l.map (Value.int .i64))
theorem OwnN.snoc {w : World} {B : Nat} {v : Value} {xs : List Int} {x : Int} (h : w.ownsRow B 3 1 v (xs.length + 1) (xs.map (Value.int .i64) ++ [.int .i64 x])) : OwnN w B v (xs ++ [x]) := by
  unfold OwnN
  rw [List.length_append, List.map_append]
  simpa using h
theorem OwnN.reads {w : World} {B : Nat} {v : Value} {l : List Int} (h : OwnN w B v l) : ReadsN w v l := Reads.of_own h (by decide)
set_option maxHeartbeats 4000000 in
theorem weights_any (ta : Option Addr) (tc : Nat) (oa : Option Addr) (oc : Nat) (ts : List DT) (os : List DO) (i : Nat) (W : World) (hT : ReadsDT W (.slice ta ts.length tc) ts) (hO : ReadsDO W (.slice oa os.length oc) os) (hw : ∀ d ∈ os, d.o.W) (d : DT) (hd : ts[i]? = some d) (hl : ts.length ≤ 1000 ∧ d.code.length ≤ 64) :
    Calls Tryz.prog 110 #[.agg #[.slice ta ts.length tc, .slice oa os.length oc], .int .i64 (i : Int), .int .i64 0] W fun e W' => RowN W.heap.size (d.code.map (weightM (os.map DO.p))) e W' ∧ Chg [] W W' := by
  have hi : i < ts.length := (List.getElem?_eq_some_iff.1 hd).1
  obtain ⟨-, b1, o1, hx1, hc1⟩ := tasks_at hT
  have g1 := hx1 i hi
  have HC1 : Hid (Chg [] W (W.alloc (.cells #[.slice ta ts.length tc, .slice oa os.length oc] 25))) := Lib.hid ((Chg.refl [] W).alloc _)
  have HBS : Hid (Blk (W.alloc (.cells #[.slice ta ts.length tc, .slice oa os.length oc] 25)) W.heap.size #[.slice ta ts.length tc, .slice oa os.length oc] 25) := Lib.hid (Blk.new W _ _)
  have q6 := (hc1 _ HC1.out i d hd).2.2.2
  have hdR : ReadsC W (.slice d.t.ca d.t.cl d.t.cc) d.code := hT.2 d (List.mem_of_getElem? hd)
  obtain ⟨⟨tk, tp, tpe, tof, td, tow, tca, tcl, tcc⟩, code⟩ := d
  simp only at q6 hdR hl
  obtain ⟨htcl, b3, o3, hx3, hc3⟩ := code_at hdR
  subst htcl
  have HX3 := Lib.hid hx3
  have HC3 := Lib.hid hc3
  have HU := Lib.hid hdR.2
  have HT := Lib.hid hT
  have HO := Lib.hid hO
  have HW := Lib.hid hw
  have HL := Lib.hid hl
  obtain ⟨wm, hwm⟩ : ∃ f, weightM (os.map DO.p) = f := ⟨_, rfl⟩
  have HWT := Lib.hid (fun op ia ib ic nn V (hV : Chg [] W V) (hu : (Lit.int .u32 nn).wf = true) => by
    have h := weight_any ta tc oa oc ts os op ia ib ic nn V (HT.out.chg hV) (HO.out.chg hV) HW.out hu
    rw [hwm] at h
    exact h)
  obtain ⟨i0, hi0, hz0, hz1, hz2⟩ := info_parts infoInt
  have n1 : ¬ (i : Int) < 0 := by omega
  have n2 : ¬ (ts.length : Int) ≤ (i : Int) := by omega
  rw [hwm]
  clear hT hO hw hd hl hi hx1 hc1 hx3 hc3 hdR hwm
  go_enter Tryz.func110, Tryz.ntmps110
  go_wp2_with fail
  obtain ⟨w1, hw1⟩ : ∃ x, x = (W.alloc (.cells #[.slice ta ts.length tc, .slice oa os.length oc] 25)) := ⟨_, rfl⟩
  rw [← hw1] at HC1 HBS
  try rw [← hw1]
  clear hw1 n1 n2 g1 q6
  go_loopw [7, 26] (fun o q wr => ∃ (m : Nat) (a : Option Addr) (c : Nat), m ≤ code.length ∧ q = .int .i64 m ∧ o = .slice a m c ∧ Hid (OwnN wr w1.heap.size (.slice a m c) ((code.take m).map wm)) ∧ Hid (Chg [] w1 wr)) (fun _ q _ => code.length - (intOf q).toNat)
  case atStart => exact ⟨0, none, 0, Nat.zero_le _, rfl, rfl, Lib.hid (World.ownsRow_nil ..), Lib.hid (Chg.refl _ _)⟩
  case round =>
    obtain ⟨m, a, c, hm, rfl, rfl, HOW, HJ⟩ := hrel
    by_cases hlm : m < code.length
    · have HLM := Lib.hid hlm
      have mm : (m : Int) < (code.length : Int) := by omega
      have g3 := HX3.out m hlm
      obtain ⟨⟨op, ia, ib, ic, nn⟩, hck⟩ : ∃ t, code[m]? = some t := ⟨_, List.getElem?_eq_getElem hlm⟩
      obtain ⟨q0, q1, q2, q3, q4⟩ := HC3.out wr (HC1.out.trans HJ.out) m _ hck
      simp only at q0 q1 q2 q3 q4
      have HTS : Hid ((code.take (m + 1)).map wm = (code.take m).map wm ++ [wm ⟨op, ia, ib, ic, nn⟩]) := Lib.hid (by rw [take_snoc hck, List.map_append]; rfl)
      have HXL : Hid (((code.take m).map wm).length = m) := Lib.hid (by rw [List.length_map, List.length_take]; omega)
      have hWT := fun V hV => HWT.out op ia ib ic nn V hV (HU.out _ (List.mem_of_getElem? hck))
      obtain ⟨x, hx⟩ : ∃ x, wm ⟨op, ia, ib, ic, nn⟩ = x := ⟨_, rfl⟩
      rw [hx] at hWT HTS
      obtain ⟨xs, hxs⟩ : ∃ xs, (code.take m).map wm = xs := ⟨_, rfl⟩
      rw [hxs] at HOW HTS HXL
      have HWX := Lib.hid hWT
      have k9 : IntKind.i64.wrap ((m : Int) + 1) = (m : Int) + 1 := by rw [IntKind.wrap_i64]; have := HL.out; omega
      have HAL : Hid (Chg [] w1 (wr.alloc (.cells #[.int .i64 op, .int .i64 ia, .int .i64 ib, .int .i64 ic, .int .u32 nn] 53))) := Lib.hid (HJ.out.alloc _)
      have s0 := (HBS.out.keep HAL.out (by simp)).cell (o := 0) (v := .slice ta ts.length tc) rfl
      have s1 := (HBS.out.keep HAL.out (by simp)).cell (o := 1) (v := .slice oa os.length oc) rfl
      clear hck hlm hm hWT hx hxs
      go_wp2_with (first
        | (go_at_call 129; refine (HWX.out _ (HC1.out.trans HAL.out)).mono ?_; rintro e w4 ⟨rfl, hc4⟩; have HJ4 := Lib.hid (HAL.out.trans hc4); have HOX : Hid ((w4.alloc (.cells #[.int .i64 x] 3)).ownsRow w1.heap.size 3 1 (.slice a m c) m (xs.map (Value.int .i64))) := Lib.hid (by have h : World.ownsRow wr w1.heap.size 3 1 (.slice a m c) xs.length (xs.map (Value.int .i64)) := HOW.out; rw [HXL.out] at h; exact own_keep h ((((Chg.refl [] wr).alloc _).trans hc4).alloc _) (by simp)); have HBN := Lib.hid (Blk.new w4 #[.int .i64 x] 3); clear hc4)
        | (at_builtin; refine wpList_append_row (o := ⟨some 36, _, _, _, _, _⟩) rfl (.tmp 30) (.tmp 35) 33 rfl w1.heap.size 3 i0 (.int .i64 0) 1 8 Tryz.underlying33 hi0 hz0 hz1 hz2 rfl (by decide) (.slice a m c) m (xs.map (Value.int .i64)) rfl HOX.out w4.heap.size [.int .i64 x] rfl rfl (fun j u hu => HBN.out.cell (by rw [← Array.getElem?_toList]; exact hu)) ?c2 ?c3 ?c4 ?c5 ?_))
      case c2 => simp [Value.oneCell']
      case c3 => have := HL.out; have := HLM.out; unfold maxLen; omega
      case c4 => have := HL.out; have := HLM.out; omega
      case c5 => have h2 := HJ4.out.size; simp; omega
      intro v' w5 hown' hgrow _
      have HON := Lib.hid (OwnN.snoc (by rw [HXL.out]; exact hown'))
      have HGR : Hid (Chg [] w1 w5) := Lib.hid ((HJ4.out.alloc _).grown hgrow (fun q hq => .inr (World.ownsRow.lt HOX.out q hq).1))
      obtain ⟨a2, c2, rfl⟩ := own_open hown'
      clear hown' hgrow
      go_wp2
      have hltj := HLM.out
      go_roundw
      case rel => exact ⟨m + 1, a2, c2, by omega, by go_num, rfl, Lib.hid (by rw [HTS.out]; exact HON.out), HGR⟩
      case measure => simp [intOf]; omega
    · obtain rfl : code.length = m := by omega
      clear hlm hm
      rw [List.take_length] at HOW
      go_wp2
      go_ret
      exact ⟨.mk a c (by rw [List.length_map]; rfl) (by have h := HOW.out.reads; rwa [← List.length_map (f := wm)] at h) (fun y hy => by rw [List.length_map] at hy; exact Nat.le_trans HC1.out.size (World.ownsRow.lt HOW.out y hy).1), HC1.out.trans HJ.out⟩
set_option maxHeartbeats 4000000 in
theorem dmost_any (ta : Option Addr) (tc : Nat) (oa : Option Addr) (oc : Nat) (ts : List DT) (os : List DO) (i : Nat) (W : World) (hT : ReadsDT W (.slice ta ts.length tc) ts) (hO : ReadsDO W (.slice oa os.length oc) os) (hw : ∀ d ∈ os, d.o.W) (d : DT) (hd : ts[i]? = some d) (hl : ts.length ≤ 1000) (hf : FineP d.code) :
    Calls Tryz.prog 79 #[.agg #[.slice ta ts.length tc, .slice oa os.length oc], .int .i64 (i : Int), .int .i64 0] W fun e W' => e = .returned (.tuple #[.int .i64 (mostM d.code (d.code.map (weightM (os.map DO.p)))), .int .i64 0]) ∧ Chg [] W W' := by
  have hi : i < ts.length := (List.getElem?_eq_some_iff.1 hd).1
  obtain ⟨-, b1, o1, hx1, hc1⟩ := tasks_at hT
  have g1 := hx1 i hi
  have HWS := Lib.hid (fun V (hV : Chg [] W V) => weights_any ta tc oa oc ts os i V (hT.chg hV) (hO.chg hV) hw d hd ⟨hl, hf.len.2⟩)
  have HQ6 : Hid (∀ V, Chg [] W V → V.cell? ⟨b1, o1 + i * 7 + 6, none⟩ = some (.slice d.t.ca d.t.cl d.t.cc)) := Lib.hid (fun V hV => (hc1 V hV i d hd).2.2.2)
  have hdR : ReadsC W (.slice d.t.ca d.t.cl d.t.cc) d.code := hT.2 d (List.mem_of_getElem? hd)
  have hcl : d.t.cl = d.code.length := (code_at hdR).1
  rw [hcl] at hdR HQ6
  have HDR := Lib.hid hdR
  have HF := Lib.hid hf
  obtain ⟨ws, hws⟩ : ∃ l, d.code.map (weightM (os.map DO.p)) = l := ⟨_, rfl⟩
  have HWL : Hid (ws.length = d.code.length) := Lib.hid (by rw [← hws, List.length_map])
  rw [hws] at HWS ⊢
  obtain ⟨code, hcode⟩ : ∃ l, d.code = l := ⟨_, rfl⟩
  rw [hcode] at HQ6 HDR HF HWL ⊢
  have HM := Lib.hid (fun V (wa : Option Addr) (wc : Nat) (hV : Chg [] W V) (h : ReadsN V (.slice wa code.length wc) ws) => most_any d.t.ca d.t.cc wa wc code ws V (HDR.out.chg hV) h HWL.out HF.out)
  obtain ⟨ca, hca⟩ : ∃ x, d.t.ca = x := ⟨_, rfl⟩
  obtain ⟨cc, hcc⟩ : ∃ x, d.t.cc = x := ⟨_, rfl⟩
  rw [hca, hcc] at HQ6 HM
  have n1 : ¬ (i : Int) < 0 := by omega
  have n2 : ¬ (ts.length : Int) ≤ (i : Int) := by omega
  have HC1 : Hid (Chg [] W (W.alloc (.cells #[.slice ta ts.length tc, .slice oa os.length oc] 25))) := Lib.hid ((Chg.refl [] W).alloc _)
  have HBS : Hid (Blk (W.alloc (.cells #[.slice ta ts.length tc, .slice oa os.length oc] 25)) W.heap.size #[.slice ta ts.length tc, .slice oa os.length oc] 25) := Lib.hid (Blk.new W _ _)
  clear hT hO hw hd hl hi hx1 hc1 hdR hf hcl hws hcode hca hcc
  go_enter Tryz.func79, Tryz.ntmps79
  go_upto_region 3 with fail
  obtain ⟨w1, hw1⟩ : ∃ x, x = (W.alloc (.cells #[.slice ta ts.length tc, .slice oa os.length oc] 25)) := ⟨_, rfl⟩
  rw [← hw1] at HC1 HBS
  try rw [← hw1]
  clear hw1 n1 n2
  have KEEP : Hid (∀ V, Chg [] w1 V → (fun V : World => (V.cell? ⟨W.heap.size, 0, none⟩ = some (.slice ta ts.length tc) ∧ V.cell? ⟨W.heap.size, 1, none⟩ = some (.slice oa os.length oc)) ∧ V.cell? ⟨b1, o1 + i * 7 + 6, none⟩ = some (.slice ca code.length cc) ∧ Hid (Chg [] w1 V)) V) := Lib.hid (fun V hV => ⟨⟨(HBS.out.keep hV (by simp)).cell rfl, (HBS.out.keep hV (by simp)).cell rfl⟩, HQ6.out V (HC1.out.trans hV), Lib.hid hV⟩)
  have hHeld : (fun V : World => (V.cell? ⟨W.heap.size, 0, none⟩ = some (.slice ta ts.length tc) ∧ V.cell? ⟨W.heap.size, 1, none⟩ = some (.slice oa os.length oc)) ∧ V.cell? ⟨b1, o1 + i * 7 + 6, none⟩ = some (.slice ca code.length cc) ∧ Hid (Chg [] w1 V)) (World.drew w1) := KEEP.out _ (Chg.refl _ _).drew
  refine wp_region_plan (fun V : World => (V.cell? ⟨W.heap.size, 0, none⟩ = some (.slice ta ts.length tc) ∧ V.cell? ⟨W.heap.size, 1, none⟩ = some (.slice oa os.length oc)) ∧ V.cell? ⟨b1, o1 + i * 7 + 6, none⟩ = some (.slice ca code.length cc) ∧ Hid (Chg [] w1 V)) [(0, true, some 17), (1, true, some 18), (2, true, some 19), (3, true, some 20), (4, true, some 21), (5, true, some 22), (6, true, some 23), (7, true, some 24), (8, true, some 25), (9, false, some 26), (10, false, some 27), (11, true, some 28), (12, true, some 29), (13, true, some 6), (14, true, some 7)] (by kernel_rfl) (by kernel_rfl) (by kernel_rfl) (by kernel_rfl) (fun d c a v w h => by cases d <;> exact h) hHeld ?_
  repeat (first
    | (refine planWp_read (v := ?_) rfl rfl ?_ ?_ ?_; rotate_left; (focus rfl); (focus (intro u hSw; (try dsimp only at hSw); obtain ⟨⟨u0, u1⟩, u2, -⟩ := hSw; go_simp; (try with_reducible rfl))); (try simp only [Act.put, List.setIfInBounds_toArray, List.set_cons_zero, List.set_cons_succ]))
    | (refine planWp_skip rfl rfl ?_ ?_; (focus rfl); (try simp only [Act.put, List.setIfInBounds_toArray, List.set_cons_zero, List.set_cons_succ]))
    | (refine planWp_leave rfl rfl ?_ hHeld ?_; (focus rfl); (try simp only [Act.put, List.setIfInBounds_toArray, List.set_cons_zero, List.set_cons_succ]))
    | (refine planWp_do rfl rfl ?_ (fun K hK => ?_); (focus rfl); go_simp; (try go_wp2_with (first | (go_at_call 110; refine (HWS.out _ (HC1.out.trans hHeld.2.2.out)).mono ?_; rintro e w4 ⟨⟨wa, wc, rfl, hrw, -⟩, hc4⟩; have HCX := Lib.hid hc4; have HRW := Lib.hid hrw; rw [HWL.out] at HRW; rw [HWL.out]; clear hc4 hrw) | (go_at_call 104; refine (HM.out _ _ _ (HC1.out.trans hHeld.2.2.out) HRW.out).mono ?_; rintro e w5 ⟨rfl, hc5⟩; have HCX := Lib.hid hc5; clear hc5))); refine hK.out _ _ ?_ (fun hHeld2 => ?_); (focus exact KEEP.out _ (hHeld.2.2.out.trans HCX.out)); clear hK K hHeld; have hHeld := hHeld2; clear hHeld2; (try simp only [Act.put, List.setIfInBounds_toArray, List.set_cons_zero, List.set_cons_succ])))
  refine planWp_nil ?_
  obtain ⟨-, -, hcz⟩ := hHeld
  clear KEEP
  go_wp2
  go_ret2
  exact ⟨rfl, HC1.out.trans hcz.out⟩
end Go.Proofs.YtkedegbpkkgeaaaGreat.tf
/- TopFits: demand: Clean, count. -/
namespace Go.Proofs.YtkedegbpkkgeaaaGreat.tf
open Go Go.RowKit Go.Proofs.YtkedegbpkkgeaaaGreat.kit Go.Proofs.YtkedegbpkkgeaaaGreat.obj Go.Proofs.YtkedegbpkkgeaaaGreat.mem Go.Proofs.YtkedegbpkkgeaaaGreat.lay Go.Proofs.YtkedegbpkkgeaaaGreat.isa
set_option linter.unusedVariables false
set_option linter.unusedSimpArgs false
set_option maxRecDepth 20000

theorem clean_any (ta : Option Addr) (tc : Nat) (oa : Option Addr) (oc : Nat) (ts : List DT) (os : List DO) (i : Nat) (W : World) (hT : ReadsDT W (.slice ta ts.length tc) ts) (hO : ReadsDO W (.slice oa os.length oc) os) (hw : ∀ d ∈ os, d.o.W) (d : DT) (hd : ts[i]? = some d) (hl : ts.length ≤ 1000) (hf : FineP d.code) :
    Calls Tryz.prog 42 #[.agg #[.slice ta ts.length tc, .slice oa os.length oc], .int .i64 (i : Int)] W fun e W' => e = .returned (.tuple #[.int .i64 (cleanM (sys ts os) i), .int .i64 0]) ∧ Chg [] W W' := by
  have HC1 : Hid (Chg [] W (W.alloc (.cells #[.slice ta ts.length tc, .slice oa os.length oc] 25))) := Lib.hid ((Chg.refl [] W).alloc _)
  have h := dmost_any ta tc oa oc ts os i (W.alloc (.cells #[.slice ta ts.length tc, .slice oa os.length oc] 25)) (hT.chg HC1.out) (hO.chg HC1.out) hw d hd hl hf
  obtain ⟨R, hR⟩ : ∃ R, cleanM (sys ts os) i = R := ⟨_, rfl⟩
  rw [hR]
  unfold cleanM at hR
  rw [sys_t os hd] at hR
  have h2 : mostM d.code (d.code.map (weightM (os.map DO.p))) = R := hR
  rw [h2] at h
  have HX := Lib.hid h
  clear hT hO hw hd hl hf h hR h2
  go_enter Tryz.func42, Tryz.ntmps42
  go_wp2_with (go_at_call 79; refine HX.out.mono ?_; rintro e w1 ⟨rfl, hc1⟩; have HC2 := Lib.hid (HC1.out.trans hc1); clear hc1)
  go_ret2
  exact ⟨rfl, HC2.out⟩
set_option maxHeartbeats 8000000 in
theorem count_any (ta : Option Addr) (tc : Nat) (oa : Option Addr) (oc : Nat) (ts : List DT) (os : List DO) (i kk : Nat) (ops : List Int) (ov : Value) (W : World) (hT : ReadsDT W (.slice ta ts.length tc) ts) (hO : ReadsDO W (.slice oa os.length oc) os) (hov : ReadsN W ov ops) (hol : ops.length ≤ 10) (d : DT) (hd : ts[i]? = some d) (hk : kk < os.length) (hl : ts.length ≤ 1000) (hf : FineP d.code) :
    Calls Tryz.prog 74 #[.agg #[.slice ta ts.length tc, .slice oa os.length oc], .int .i64 (i : Int), .int .i64 (kk : Int), ov] W fun e W' => e = .returned (.int .i64 (countM (sys ts os) i kk ops)) ∧ Chg [] W W' := by
  have hi : i < ts.length := (List.getElem?_eq_some_iff.1 hd).1
  obtain ⟨-, b1, o1, hx1, hc1⟩ := tasks_at hT
  have g1 := hx1 i hi
  have HC1 : Hid (Chg [] W (W.alloc (.cells #[.slice ta ts.length tc, .slice oa os.length oc] 25))) := Lib.hid ((Chg.refl [] W).alloc _)
  have HBS : Hid (Blk (W.alloc (.cells #[.slice ta ts.length tc, .slice oa os.length oc] 25)) W.heap.size #[.slice ta ts.length tc, .slice oa os.length oc] 25) := Lib.hid (Blk.new W _ _)
  have HQ6 : Hid (∀ V, Chg [] W V → V.cell? ⟨b1, o1 + i * 7 + 6, none⟩ = some (.slice d.t.ca d.t.cl d.t.cc)) := Lib.hid (fun V hV => (hc1 V hV i d hd).2.2.2)
  have hdR : ReadsC W (.slice d.t.ca d.t.cl d.t.cc) d.code := hT.2 d (List.mem_of_getElem? hd)
  obtain ⟨R, hR⟩ : ∃ R, countM (sys ts os) i kk ops = R := ⟨_, rfl⟩
  rw [hR]
  unfold countM at hR
  rw [sys_t os hd] at hR
  replace hR : mostM d.code (d.code.map (hitM kk ops)) = R := hR
  obtain ⟨⟨tk, tp, tpe, tof, td, tow, tca, tcl, tcc⟩, code⟩ := d
  simp only at HQ6 hdR hR hf
  obtain ⟨htcl, b3, o3, hx3, hc3⟩ := code_at hdR
  subst htcl
  have HX3 := Lib.hid hx3
  have HC3 := Lib.hid hc3
  have HU := Lib.hid hdR.2
  have HF := Lib.hid hf
  have HL : Hid (code.length ≤ 64) := Lib.hid hf.len.2
  have HOV := Lib.hid hov
  have HOL := Lib.hid hol
  have HR := Lib.hid hR
  have HDR := Lib.hid hdR
  obtain ⟨oa', oc', rfl, -⟩ := reads_slice hov
  obtain ⟨wm, hwm⟩ : ∃ f, hitM (kk : Int) ops = f := ⟨_, rfl⟩
  have HWM := Lib.hid hwm
  obtain ⟨i0, hi0, hz0, hz1, hz2⟩ := info_parts infoInt
  have n1 : ¬ (i : Int) < 0 := by omega
  have n2 : ¬ (ts.length : Int) ≤ (i : Int) := by omega
  have n3 : ¬ (kk : Int) < 0 := by omega
  have n4 : ¬ (os.length : Int) ≤ (kk : Int) := by omega
  have q6 := HQ6.out _ HC1.out
  have G1 := Lib.hid g1
  clear hT hO hov hol hd hk hl hi hx1 hc1 hx3 hc3 hdR hf hwm hR
  go_enter Tryz.func74, Tryz.ntmps74
  go_wp2_with fail
  obtain ⟨w1, hw1⟩ : ∃ x, x = (W.alloc (.cells #[.slice ta ts.length tc, .slice oa os.length oc] 25)) := ⟨_, rfl⟩
  rw [← hw1] at HC1 HBS
  try rw [← hw1]
  clear hw1 n1 n2 n3 n4 g1 q6
  go_loopw [9, 45] (fun o q wr => ∃ (m : Nat) (a : Option Addr) (c : Nat), m ≤ code.length ∧ q = .int .i64 m ∧ o = .slice a m c ∧ Hid (OwnN wr w1.heap.size (.slice a m c) ((code.take m).map wm)) ∧ Hid (Chg [] w1 wr)) (fun _ q _ => code.length - (intOf q).toNat)
  case atStart => exact ⟨0, none, 0, Nat.zero_le _, rfl, rfl, Lib.hid (World.ownsRow_nil ..), Lib.hid (Chg.refl _ _)⟩
  case round =>
    obtain ⟨m, a, c, hm, rfl, rfl, HOW, HJ⟩ := hrel
    by_cases hlm : m < code.length
    · have HLM := Lib.hid hlm
      have mm : (m : Int) < (code.length : Int) := by omega
      have g3 := HX3.out m hlm
      obtain ⟨⟨op, ia, ib, ic, nn⟩, hck⟩ : ∃ t, code[m]? = some t := ⟨_, List.getElem?_eq_getElem hlm⟩
      obtain ⟨q0, q1, q2, q3, q4⟩ := HC3.out wr (HC1.out.trans HJ.out) m _ hck
      simp only at q0 q1 q2 q3 q4
      have HTS : Hid ((code.take (m + 1)).map wm = (code.take m).map wm ++ [wm ⟨op, ia, ib, ic, nn⟩]) := Lib.hid (by rw [take_snoc hck, List.map_append]; rfl)
      have HXL : Hid (((code.take m).map wm).length = m) := Lib.hid (by rw [List.length_map, List.length_take]; omega)
      have hri : rightI ⟨op, ia, ib, ic, nn⟩ = true := HF.out.at hck
      have hcl := fun V => Calls_any op ia ib ic nn (HU.out _ (List.mem_of_getElem? hck)) V
      simp only [hri, Bool.true_and, if_true] at hcl
      have hwv : wm ⟨op, ia, ib, ic, nn⟩ = if decide (0 < callI op) = true ∧ ib = (kk : Int) ∧ op ∈ ops then 1 else 0 := by
        rw [← HWM.out]; unfold hitM callB; rw [hri, Bool.true_and]
      obtain ⟨x, hx⟩ : ∃ x, wm ⟨op, ia, ib, ic, nn⟩ = x := ⟨_, rfl⟩
      rw [hx] at HTS hwv
      obtain ⟨xs, hxs⟩ : ∃ xs, (code.take m).map wm = xs := ⟨_, rfl⟩
      rw [hxs] at HOW HTS HXL
      have k9 : IntKind.i64.wrap ((m : Int) + 1) = (m : Int) + 1 := by rw [IntKind.wrap_i64]; have := HL.out; omega
      have HAL : Hid (Chg [] w1 (wr.alloc (.cells #[.int .i64 op, .int .i64 ia, .int .i64 ib, .int .i64 ic, .int .u32 nn] 53))) := Lib.hid (HJ.out.alloc _)
      have HBI := Lib.hid (Blk.new wr #[.int .i64 op, .int .i64 ia, .int .i64 ib, .int .i64 ic, .int .u32 nn] 53)
      have HCT := Lib.hid (fun V (hV : Chg [] w1 V) => contains_any _ ops op V (ReadsN.chg HOV.out (HC1.out.trans hV)) (by have := HOL.out; omega))
      clear hck hlm hm hri hx hxs
      cases hd0 : decide (0 < callI op)
      · rw [hd0] at hcl hwv
        obtain rfl : 0 = x := by rw [hwv, if_neg (fun h => by cases h.1)]
        obtain ⟨v1, hv1⟩ : ∃ y, (if false = true then ib else 0) = y := ⟨_, rfl⟩
        obtain ⟨v2, hv2⟩ : ∃ y, callI op = y := ⟨_, rfl⟩
        rw [hv1, hv2] at hcl
        have HCL := Lib.hid hcl
        clear hcl hwv hd0 hv1 hv2
        go_wp2_with (first | (go_at_call 102; refine (HCL.out _).mono ?_; rintro e w4 ⟨rfl, hc4⟩; have HJ4 := Lib.hid (HAL.out.trans hc4); have p0 := (HBI.out.keep hc4 (by simp)).cell (o := 0) (v := .int .i64 op) rfl; have HWL : Hid (Chg [] wr w4) := Lib.hid (((Chg.refl [] wr).alloc _).trans hc4); clear hc4; have HOX : Hid ((w4.alloc (.cells #[.int .i64 0] 3)).ownsRow w1.heap.size 3 1 (.slice a m c) m (xs.map (Value.int .i64))) := Lib.hid (by have h : World.ownsRow wr w1.heap.size 3 1 (.slice a m c) xs.length (xs.map (Value.int .i64)) := HOW.out; rw [HXL.out] at h; exact own_keep h (HWL.out.alloc _) (by simp)); have HBN := Lib.hid (Blk.new w4 #[.int .i64 0] 3)) | (at_builtin; refine wpList_append_row (o := ⟨some 70, _, _, _, _, _⟩) rfl (.tmp 67) (.tmp 69) 33 rfl w1.heap.size 3 i0 (.int .i64 0) 1 8 Tryz.underlying33 hi0 hz0 hz1 hz2 rfl (by decide) (.slice a m c) m (xs.map (Value.int .i64)) rfl HOX.out w4.heap.size [.int .i64 0] rfl rfl (fun j u hu => HBN.out.cell (by rw [← Array.getElem?_toList]; exact hu)) ?c2 ?c3 ?c4 ?c5 ?_))
        case c2 => simp [Value.oneCell']
        case c3 => have := HL.out; have := HLM.out; unfold maxLen; omega
        case c4 => have := HL.out; have := HLM.out; omega
        case c5 => have h2 := HJ4.out.size; simp; omega
        intro v' w6 hown' hgrow _
        have HON := Lib.hid (OwnN.snoc (by rw [HXL.out]; exact hown'))
        have HGR : Hid (Chg [] w1 w6) := Lib.hid ((HJ4.out.alloc _).grown hgrow (fun q hq => .inr (World.ownsRow.lt HOX.out q hq).1))
        obtain ⟨a2, c2, rfl⟩ := own_open hown'
        clear hown' hgrow
        go_wp2
        have hltj := HLM.out
        go_roundw
        case rel => exact ⟨m + 1, a2, c2, by omega, by go_num, rfl, Lib.hid (by rw [HTS.out]; exact HON.out), HGR⟩
        case measure => simp [intOf]; omega
      · rw [hd0] at hcl hwv
        rw [if_pos rfl] at hcl
        obtain ⟨v2, hv2⟩ : ∃ y, callI op = y := ⟨_, rfl⟩
        rw [hv2] at hcl
        have HCL := Lib.hid hcl
        by_cases hib : ib = (kk : Int)
        rotate_left
        · obtain rfl : 0 = x := by rw [hwv, if_neg (fun h => hib h.2.1)]
          have d1 : (ib == (kk : Int)) = false := by simpa using hib
          clear hcl hwv hd0 hv2 hib
          go_wp2_with (first | (go_at_call 102; refine (HCL.out _).mono ?_; rintro e w4 ⟨rfl, hc4⟩; have HJ4 := Lib.hid (HAL.out.trans hc4); have p0 := (HBI.out.keep hc4 (by simp)).cell (o := 0) (v := .int .i64 op) rfl; have HWL : Hid (Chg [] wr w4) := Lib.hid (((Chg.refl [] wr).alloc _).trans hc4); clear hc4; have HOX : Hid ((w4.alloc (.cells #[.int .i64 0] 3)).ownsRow w1.heap.size 3 1 (.slice a m c) m (xs.map (Value.int .i64))) := Lib.hid (by have h : World.ownsRow wr w1.heap.size 3 1 (.slice a m c) xs.length (xs.map (Value.int .i64)) := HOW.out; rw [HXL.out] at h; exact own_keep h (HWL.out.alloc _) (by simp)); have HBN := Lib.hid (Blk.new w4 #[.int .i64 0] 3)) | (at_builtin; refine wpList_append_row (o := ⟨some 70, _, _, _, _, _⟩) rfl (.tmp 67) (.tmp 69) 33 rfl w1.heap.size 3 i0 (.int .i64 0) 1 8 Tryz.underlying33 hi0 hz0 hz1 hz2 rfl (by decide) (.slice a m c) m (xs.map (Value.int .i64)) rfl HOX.out w4.heap.size [.int .i64 0] rfl rfl (fun j u hu => HBN.out.cell (by rw [← Array.getElem?_toList]; exact hu)) ?c2 ?c3 ?c4 ?c5 ?_))
          case c2 => simp [Value.oneCell']
          case c3 => have := HL.out; have := HLM.out; unfold maxLen; omega
          case c4 => have := HL.out; have := HLM.out; omega
          case c5 => have h2 := HJ4.out.size; simp; omega
          intro v' w6 hown' hgrow _
          have HON := Lib.hid (OwnN.snoc (by rw [HXL.out]; exact hown'))
          have HGR : Hid (Chg [] w1 w6) := Lib.hid ((HJ4.out.alloc _).grown hgrow (fun q hq => .inr (World.ownsRow.lt HOX.out q hq).1))
          obtain ⟨a2, c2, rfl⟩ := own_open hown'
          clear hown' hgrow
          go_wp2
          have hltj := HLM.out
          go_roundw
          case rel => exact ⟨m + 1, a2, c2, by omega, by go_num, rfl, Lib.hid (by rw [HTS.out]; exact HON.out), HGR⟩
          case measure => simp [intOf]; omega
        · by_cases hop : op ∈ ops
          · obtain rfl : 1 = x := by rw [hwv, if_pos ⟨rfl, hib, hop⟩]
            rw [decide_eq_true hop] at HCT
            subst hib
            clear hcl hwv hd0 hv2 hop
            go_wp2_with (first | (go_at_call 102; refine (HCL.out _).mono ?_; rintro e w4 ⟨rfl, hc4⟩; have HJ4 := Lib.hid (HAL.out.trans hc4); have p0 := (HBI.out.keep hc4 (by simp)).cell (o := 0) (v := .int .i64 op) rfl; have HWL : Hid (Chg [] wr w4) := Lib.hid (((Chg.refl [] wr).alloc _).trans hc4); clear hc4) | (go_at_call 103; refine (HCT.out _ HJ4.out).mono ?_; rintro e w5 ⟨rfl, hc5⟩; have HJ5 := Lib.hid (HJ4.out.trans hc5); have HWL : Hid (Chg [] wr w5) := Lib.hid (HWL.out.trans hc5); clear hc5; have HOX : Hid ((w5.alloc (.cells #[.int .i64 1] 3)).ownsRow w1.heap.size 3 1 (.slice a m c) m (xs.map (Value.int .i64))) := Lib.hid (by have h : World.ownsRow wr w1.heap.size 3 1 (.slice a m c) xs.length (xs.map (Value.int .i64)) := HOW.out; rw [HXL.out] at h; exact own_keep h (HWL.out.alloc _) (by simp)); have HBN := Lib.hid (Blk.new w5 #[.int .i64 1] 3)) | (at_builtin; refine wpList_append_row (o := ⟨some 70, _, _, _, _, _⟩) rfl (.tmp 67) (.tmp 69) 33 rfl w1.heap.size 3 i0 (.int .i64 0) 1 8 Tryz.underlying33 hi0 hz0 hz1 hz2 rfl (by decide) (.slice a m c) m (xs.map (Value.int .i64)) rfl HOX.out w5.heap.size [.int .i64 1] rfl rfl (fun j u hu => HBN.out.cell (by rw [← Array.getElem?_toList]; exact hu)) ?c2 ?c3 ?c4 ?c5 ?_))
            case c2 => simp [Value.oneCell']
            case c3 => have := HL.out; have := HLM.out; unfold maxLen; omega
            case c4 => have := HL.out; have := HLM.out; omega
            case c5 => have h2 := HJ5.out.size; simp; omega
            intro v' w6 hown' hgrow _
            have HON := Lib.hid (OwnN.snoc (by rw [HXL.out]; exact hown'))
            have HGR : Hid (Chg [] w1 w6) := Lib.hid ((HJ5.out.alloc _).grown hgrow (fun q hq => .inr (World.ownsRow.lt HOX.out q hq).1))
            obtain ⟨a2, c2, rfl⟩ := own_open hown'
            clear hown' hgrow
            go_wp2
            have hltj := HLM.out
            go_roundw
            case rel => exact ⟨m + 1, a2, c2, by omega, by go_num, rfl, Lib.hid (by rw [HTS.out]; exact HON.out), HGR⟩
            case measure => simp [intOf]; omega
          · obtain rfl : 0 = x := by rw [hwv, if_neg (fun h => hop h.2.2)]
            rw [decide_eq_false hop] at HCT
            subst hib
            clear hcl hwv hd0 hv2 hop
            go_wp2_with (first | (go_at_call 102; refine (HCL.out _).mono ?_; rintro e w4 ⟨rfl, hc4⟩; have HJ4 := Lib.hid (HAL.out.trans hc4); have p0 := (HBI.out.keep hc4 (by simp)).cell (o := 0) (v := .int .i64 op) rfl; have HWL : Hid (Chg [] wr w4) := Lib.hid (((Chg.refl [] wr).alloc _).trans hc4); clear hc4) | (go_at_call 103; refine (HCT.out _ HJ4.out).mono ?_; rintro e w5 ⟨rfl, hc5⟩; have HJ5 := Lib.hid (HJ4.out.trans hc5); have HWL : Hid (Chg [] wr w5) := Lib.hid (HWL.out.trans hc5); clear hc5; have HOX : Hid ((w5.alloc (.cells #[.int .i64 0] 3)).ownsRow w1.heap.size 3 1 (.slice a m c) m (xs.map (Value.int .i64))) := Lib.hid (by have h : World.ownsRow wr w1.heap.size 3 1 (.slice a m c) xs.length (xs.map (Value.int .i64)) := HOW.out; rw [HXL.out] at h; exact own_keep h (HWL.out.alloc _) (by simp)); have HBN := Lib.hid (Blk.new w5 #[.int .i64 0] 3)) | (at_builtin; refine wpList_append_row (o := ⟨some 70, _, _, _, _, _⟩) rfl (.tmp 67) (.tmp 69) 33 rfl w1.heap.size 3 i0 (.int .i64 0) 1 8 Tryz.underlying33 hi0 hz0 hz1 hz2 rfl (by decide) (.slice a m c) m (xs.map (Value.int .i64)) rfl HOX.out w5.heap.size [.int .i64 0] rfl rfl (fun j u hu => HBN.out.cell (by rw [← Array.getElem?_toList]; exact hu)) ?c2 ?c3 ?c4 ?c5 ?_))
            case c2 => simp [Value.oneCell']
            case c3 => have := HL.out; have := HLM.out; unfold maxLen; omega
            case c4 => have := HL.out; have := HLM.out; omega
            case c5 => have h2 := HJ5.out.size; simp; omega
            intro v' w6 hown' hgrow _
            have HON := Lib.hid (OwnN.snoc (by rw [HXL.out]; exact hown'))
            have HGR : Hid (Chg [] w1 w6) := Lib.hid ((HJ5.out.alloc _).grown hgrow (fun q hq => .inr (World.ownsRow.lt HOX.out q hq).1))
            obtain ⟨a2, c2, rfl⟩ := own_open hown'
            clear hown' hgrow
            go_wp2
            have hltj := HLM.out
            go_roundw
            case rel => exact ⟨m + 1, a2, c2, by omega, by go_num, rfl, Lib.hid (by rw [HTS.out]; exact HON.out), HGR⟩
            case measure => simp [intOf]; omega
    · obtain rfl : code.length = m := by omega
      clear hlm hm
      rw [List.take_length] at HOW
      have HMO := Lib.hid (most_any tca tcc a c code (code.map wm) wr (HDR.out.chg (HC1.out.trans HJ.out)) (by have h := HOW.out.reads; exact h) (by rw [List.length_map]) HF.out)
      have HRV : Hid (mostM code (code.map wm) = R) := Lib.hid (by rw [← HWM.out]; exact HR.out)
      rw [HRV.out] at HMO
      have s0 := (HBS.out.keep HJ.out (by simp)).cell (o := 0) (v := .slice ta ts.length tc) rfl
      have g1 := G1.out
      have q6 := HQ6.out wr (HC1.out.trans HJ.out)
      go_wp2_with (go_at_call 104; refine HMO.out.mono ?_; rintro e w7 ⟨rfl, hc7⟩; have HC7 := Lib.hid (HC1.out.trans (HJ.out.trans hc7)); clear hc7)
      go_ret
      exact ⟨rfl, HC7.out⟩
end Go.Proofs.YtkedegbpkkgeaaaGreat.tf
/- TopFits: task: Above, prios. -/
namespace Go.Proofs.YtkedegbpkkgeaaaGreat.tf
open Go Go.RowKit Go.Proofs.YtkedegbpkkgeaaaGreat.kit Go.Proofs.YtkedegbpkkgeaaaGreat.obj Go.Proofs.YtkedegbpkkgeaaaGreat.mem Go.Proofs.YtkedegbpkkgeaaaGreat.lay Go.Proofs.YtkedegbpkkgeaaaGreat.isa
set_option linter.unusedVariables false
set_option linter.unusedSimpArgs false
set_option maxRecDepth 20000

/-- who goes ahead, of the first so many -/
def abT (s : S) (i : Int) (n : Nat) : List Int := ((List.range n).map Int.ofNat).filter (fun k => aheadM s k i)
theorem abT_succ (s : S) (i : Int) (n : Nat) : abT s i (n + 1) = if aheadM s (n : Int) i = true then abT s i n ++ [(n : Int)] else abT s i n := by
  unfold abT
  rw [List.range_succ, List.map_append, List.filter_append]
  cases h : aheadM s (n : Int) i
  · simp [h]
  · simp [h]
theorem abT_le (s : S) (i : Int) (n : Nat) : (abT s i n).length ≤ n := by
  unfold abT
  refine Nat.le_trans (List.length_filter_le _ _) ?_
  simp
set_option maxHeartbeats 4000000 in
theorem above_any (ta : Option Addr) (tc : Nat) (ts : List DT) (os : List DO) (i : Nat) (W : World) (hT : ReadsDT W (.slice ta ts.length tc) ts) (hi : i < ts.length) (hl : ts.length ≤ 1000) :
    Calls Tryz.prog 108 #[.slice ta ts.length tc, .int .i64 (i : Int)] W fun e W' => RowN W.heap.size (aboveM (sys ts os) i) e W' ∧ Chg [] W W' := by
  have HAH := Lib.hid (fun (m : Nat) (hm : m < ts.length) V (hV : Chg [] W V) => ahead_any ta tc ts os m i V (hT.chg hV) hm hi hl)
  have HL := Lib.hid hl
  obtain ⟨R, hR⟩ : ∃ R, aboveM (sys ts os) i = R := ⟨_, rfl⟩
  rw [hR]
  have hE : abT (sys ts os) i ts.length = R := by
    rw [← hR]; unfold abT aboveM; simp only [sys, List.length_map]
  have h0 : abT (sys ts os) i 0 = [] := rfl
  have hS := fun n => abT_succ (sys ts os) i n
  have hLE := fun n => abT_le (sys ts os) i n
  obtain ⟨F, hF⟩ : ∃ f, abT (sys ts os) i = f := ⟨_, rfl⟩
  rw [hF] at hE h0
  simp only [hF] at hS hLE
  have HE := Lib.hid hE
  have H0 := Lib.hid h0
  have HS := Lib.hid hS
  have HLE := Lib.hid hLE
  obtain ⟨i0, hi0, hz0, hz1, hz2⟩ := info_parts infoInt
  clear hT hi hl hR hE h0 hS hLE hF
  go_enter Tryz.func108, Tryz.ntmps108
  go_wp2_with fail
  go_loopw [5, 9] (fun o q wr => ∃ (m : Nat) (a : Option Addr) (l c : Nat), m ≤ ts.length ∧ q = .int .i64 m ∧ o = .slice a l c ∧ l = (F m).length ∧ Hid (OwnN wr W.heap.size (.slice a l c) (F m)) ∧ Hid (Chg [] W wr)) (fun _ q _ => ts.length - (intOf q).toNat)
  case atStart => exact ⟨0, none, 0, 0, Nat.zero_le _, rfl, rfl, by rw [H0.out]; rfl, Lib.hid (by rw [H0.out]; exact World.ownsRow_nil ..), Lib.hid (Chg.refl _ _)⟩
  case round =>
    obtain ⟨m, a, l, c, hm, rfl, rfl, hll, HOW, HJ⟩ := hrel
    by_cases hlm : m < ts.length
    · have HLM := Lib.hid hlm
      have mm : (m : Int) < (ts.length : Int) := by omega
      have hah := HAH.out m hlm
      have hS := HS.out m
      have k9 : IntKind.i64.wrap ((m : Int) + 1) = (m : Int) + 1 := by rw [IntKind.wrap_i64]; have := HL.out; omega
      have HLN : Hid (l ≤ m) := Lib.hid (by have := HLE.out m; omega)
      obtain ⟨xs, hxs⟩ : ∃ x, F m = x := ⟨_, rfl⟩
      rw [hxs] at HOW hS hll
      clear hxs
      cases hb : aheadM (sys ts os) (m : Int) i
      · rw [hb] at hah hS
        have HAX := Lib.hid hah
        have HFN : Hid (F (m + 1) = xs) := Lib.hid hS
        clear hah hS hb hlm hm
        have HLL := Lib.hid hll
        clear hll
        go_wp2_with (go_at_call 38; refine (HAX.out _ HJ.out).mono ?_; rintro e w4 ⟨rfl, hc4⟩; have HC4 := Lib.hid hc4; have HOX : Hid (OwnN w4 W.heap.size (.slice a l c) xs) := Lib.hid (own_keep HOW.out hc4 (by simp)); clear hc4)
        have hltj := HLM.out
        go_roundw
        case rel => exact ⟨m + 1, a, l, c, by omega, by go_num, rfl, by rw [HFN.out]; exact HLL.out, by rw [HFN.out]; exact HOX, Lib.hid (HJ.out.trans HC4.out)⟩
        case measure => simp [intOf]; omega
      · rw [hb] at hah hS
        have HAX := Lib.hid hah
        have HFN : Hid (F (m + 1) = xs ++ [(m : Int)]) := Lib.hid hS
        subst hll
        clear hah hS hb hlm hm
        go_wp2_with (first
          | (go_at_call 38; refine (HAX.out _ HJ.out).mono ?_; rintro e w4 ⟨rfl, hc4⟩; have HC4 := Lib.hid (HJ.out.trans hc4); have HOX : Hid ((w4.alloc (.cells #[.int .i64 (m : Int)] 3)).ownsRow W.heap.size 3 1 (.slice a xs.length c) xs.length (xs.map (Value.int .i64))) := Lib.hid (own_keep HOW.out (hc4.alloc _) (by simp)); have HBN := Lib.hid (Blk.new w4 #[.int .i64 (m : Int)] 3); clear hc4)
          | (at_builtin; refine wpList_append_row (o := ⟨some 19, _, _, _, _, _⟩) rfl (.tmp 16) (.tmp 18) 33 rfl W.heap.size 3 i0 (.int .i64 0) 1 8 Tryz.underlying33 hi0 hz0 hz1 hz2 rfl (by decide) (.slice a xs.length c) xs.length (xs.map (Value.int .i64)) rfl HOX.out w4.heap.size [.int .i64 (m : Int)] rfl rfl (fun j u hu => HBN.out.cell (by rw [← Array.getElem?_toList]; exact hu)) ?c2 ?c3 ?c4 ?c5 ?_))
        case c2 => simp [Value.oneCell']
        case c3 => have := HL.out; have := HLM.out; have := HLN.out; unfold maxLen; omega
        case c4 => have := HL.out; have := HLM.out; have := HLN.out; omega
        case c5 => have h2 := HC4.out.size; simp; omega
        intro v' w5 hown' hgrow _
        have HON := Lib.hid (OwnN.snoc hown')
        have HGR : Hid (Chg [] W w5) := Lib.hid ((HC4.out.alloc _).grown hgrow (fun q hq => .inr (World.ownsRow.lt HOX.out q hq).1))
        obtain ⟨a2, c2, rfl⟩ := own_open hown'
        clear hown' hgrow
        go_wp2
        have hltj := HLM.out
        go_roundw
        case rel => exact ⟨m + 1, a2, xs.length + 1, c2, by omega, by go_num, rfl, by rw [HFN.out]; simp, Lib.hid (by rw [HFN.out]; exact HON.out), HGR⟩
        case measure => simp [intOf]; omega
    · obtain rfl : ts.length = m := by omega
      clear hlm hm
      rw [HE.out] at HOW hll
      subst hll
      go_wp2
      go_ret
      exact ⟨.mk a c rfl HOW.out.reads (fun y hy => (World.ownsRow.lt HOW.out y hy).1), HJ.out⟩
set_option maxHeartbeats 4000000 in
theorem prios_any (ta : Option Addr) (tc : Nat) (ts : List DT) (W : World) (hT : ReadsDT W (.slice ta ts.length tc) ts) (hl : ts.length ≤ 1000) :
    Calls Tryz.prog 40 #[.slice ta ts.length tc] W fun e W' => RowN W.heap.size (ts.map (fun d => d.t.prio)) e W' ∧ Chg [] W W' := by
  obtain ⟨-, b1, o1, hx1, hc1⟩ := tasks_at hT
  have HL := Lib.hid hl
  have HX := Lib.hid hx1
  have HQ := Lib.hid hc1
  obtain ⟨i0, hi0, hz0, hz1, hz2⟩ := info_parts infoInt
  clear hT hl hx1 hc1
  go_enter Tryz.func40, Tryz.ntmps40
  go_wp2_with fail
  go_loopw [3, 8] (fun o q wr => ∃ (m : Nat) (a : Option Addr) (c : Nat), m ≤ ts.length ∧ q = .int .i64 m ∧ o = .slice a m c ∧ Hid (OwnN wr W.heap.size (.slice a m c) ((ts.take m).map (fun d => d.t.prio))) ∧ Hid (Chg [] W wr)) (fun _ q _ => ts.length - (intOf q).toNat)
  case atStart => exact ⟨0, none, 0, Nat.zero_le _, rfl, rfl, Lib.hid (World.ownsRow_nil ..), Lib.hid (Chg.refl _ _)⟩
  case round =>
    obtain ⟨m, a, c, hm, rfl, rfl, HOW, HJ⟩ := hrel
    by_cases hlm : m < ts.length
    · have HLM := Lib.hid hlm
      have mm : (m : Int) < (ts.length : Int) := by omega
      have g3 := HX.out m hlm
      obtain ⟨d, hd⟩ : ∃ d, ts[m]? = some d := ⟨_, List.getElem?_eq_getElem hlm⟩
      obtain ⟨⟨q0, q1, q2, q3⟩, q4, q5, q6⟩ := HQ.out wr HJ.out m d hd
      have HTS : Hid ((ts.take (m + 1)).map (fun d => d.t.prio) = (ts.take m).map (fun d => d.t.prio) ++ [d.t.prio]) := Lib.hid (by rw [take_snoc hd, List.map_append]; rfl)
      have HXL : Hid (((ts.take m).map (fun d => d.t.prio)).length = m) := Lib.hid (by rw [List.length_map, List.length_take]; omega)
      obtain ⟨xs, hxs⟩ : ∃ xs, (ts.take m).map (fun d => d.t.prio) = xs := ⟨_, rfl⟩
      rw [hxs] at HOW HTS HXL
      obtain ⟨⟨tk, tp, tpe, tof, td, tow, tca, tcl, tcc⟩, code⟩ := d
      simp only at q0 q1 q2 q3 q4 q5 q6 HTS
      have k9 : IntKind.i64.wrap ((m : Int) + 1) = (m : Int) + 1 := by rw [IntKind.wrap_i64]; have := HL.out; omega
      have HAL : Hid (Chg [] wr (wr.alloc (.cells #[.int .i64 tk, .int .i64 tp, .int .i64 tpe, .int .i64 tof, .int .i64 td, .int .i64 tow, .slice tca tcl tcc] 31))) := Lib.hid ((Chg.refl _ _).alloc _)
      have HBT := Lib.hid (Blk.new wr #[.int .i64 tk, .int .i64 tp, .int .i64 tpe, .int .i64 tof, .int .i64 td, .int .i64 tow, .slice tca tcl tcc] 31)
      have HOX0 := Lib.hid (show World.ownsRow wr W.heap.size 3 1 (.slice a m c) m (xs.map (Value.int .i64)) from by have h : World.ownsRow wr W.heap.size 3 1 (.slice a m c) xs.length (xs.map (Value.int .i64)) := HOW.out; rwa [HXL.out] at h)
      clear hd hlm hm hxs
      go_upto_region 5 with fail
      obtain ⟨w4, hw4⟩ : ∃ x, x = wr.alloc (.cells #[.int .i64 tk, .int .i64 tp, .int .i64 tpe, .int .i64 tof, .int .i64 td, .int .i64 tow, .slice tca tcl tcc] 31) := ⟨_, rfl⟩
      rw [← hw4] at HAL HBT
      try rw [← hw4]
      clear hw4
      have c1 := HBT.out.cell (o := 1) (v := .int .i64 tp) rfl
      have HOX := Lib.hid (own_keep HOX0.out (HAL.out.alloc (.cells #[.int .i64 tp] 3)) (by simp))
      have HBN := Lib.hid (Blk.new w4 #[.int .i64 tp] 3)
      go_wp2_with (at_builtin; refine wpList_append_row (o := ⟨some 16, _, _, _, _, _⟩) rfl (.tmp 12) (.tmp 15) 33 rfl W.heap.size 3 i0 (.int .i64 0) 1 8 Tryz.underlying33 hi0 hz0 hz1 hz2 rfl (by decide) (.slice a m c) m (xs.map (Value.int .i64)) rfl HOX.out w4.heap.size [.int .i64 tp] rfl rfl (fun j u hu => HBN.out.cell (by rw [← Array.getElem?_toList]; exact hu)) ?c2 ?c3 ?c4 ?c5 ?_)
      case c2 => simp [Value.oneCell']
      case c3 => have := HL.out; have := HLM.out; unfold maxLen; omega
      case c4 => have := HL.out; have := HLM.out; omega
      case c5 => have h2 := (HJ.out.trans HAL.out).size; simp; omega
      intro v' w5 hown' hgrow _
      have HON := Lib.hid (OwnN.snoc (by rw [HXL.out]; exact hown'))
      have HGR : Hid (Chg [] W w5) := Lib.hid (((HJ.out.trans HAL.out).alloc _).grown hgrow (fun q hq => .inr (World.ownsRow.lt HOX.out q hq).1))
      obtain ⟨a2, c2, rfl⟩ := own_open hown'
      clear hown' hgrow
      go_wp2
      have hltj := HLM.out
      go_roundw
      case rel => exact ⟨m + 1, a2, c2, by omega, by go_num, rfl, Lib.hid (by rw [HTS.out]; exact HON.out), HGR⟩
      case measure => simp [intOf]; omega
    · obtain rfl : ts.length = m := by omega
      clear hlm hm
      rw [List.take_length] at HOW
      go_wp2
      go_ret
      exact ⟨.mk a c (by rw [List.length_map]; rfl) (by have h := HOW.out.reads; rwa [← List.length_map (f := fun d : DT => d.t.prio)] at h) (fun y hy => by rw [List.length_map] at hy; exact (World.ownsRow.lt HOW.out y hy).1), HJ.out⟩
end Go.Proofs.YtkedegbpkkgeaaaGreat.tf
/- TopFits: the order of tasks: the plain sort; Compare, the order of two. -/
namespace Go.Proofs.YtkedegbpkkgeaaaGreat.tf
open Go Go.RowKit Go.Proofs.YtkedegbpkkgeaaaGreat.kit Go.Proofs.YtkedegbpkkgeaaaGreat.obj Go.Proofs.YtkedegbpkkgeaaaGreat.mem Go.Proofs.YtkedegbpkkgeaaaGreat.lay Go.Proofs.YtkedegbpkkgeaaaGreat.isa
set_option linter.unusedVariables false
set_option linter.unusedSimpArgs false
set_option maxRecDepth 20000

/-- a row of numbers, in a block of its own -/
def InB (W : World) (b : Nat) (l : List Int) : Prop := Blk W b (l.map (Value.int .i64)).toArray 3
theorem idxN (g n j : Nat) (hj : j < n) (u : World) : (Instr.indexAt 33 (.slice (some ⟨g, 0, none⟩) n n) (.int .i64 (j : Int))).run Tryz.prog u = .ok (.pointer (some ⟨g, j, none⟩)) u := by
  have h := index_at Tryz.underlying33 szI g n n j hj u
  rwa [Nat.mul_one] at h
theorem InB.at {W : World} {b : Nat} {l : List Int} (h : InB W b l) {j : Nat} {x : Int} (hj : l[j]? = some x) : W.cell? ⟨b, j, none⟩ = some (.int .i64 x) := Blk.cell h (by rw [List.getElem?_toArray, List.getElem?_map, hj]; rfl)
theorem InB.put {W : World} {b : Nat} {l : List Int} (h : InB W b l) (j : Nat) (x : Int) : InB (W.setCell ⟨b, j, none⟩ (.int .i64 x)) b (l.set j x) := by
  have h1 := Blk.set h j (.int .i64 x)
  unfold InB
  rwa [List.setIfInBounds_toArray, ← List.map_set] at h1
theorem InB.own {W : World} {b : Nat} {l : List Int} (h : InB W b l) (hl : l.length ≤ 1000) {B : Nat} (hB : B ≤ b) : OwnN W B (.slice (some ⟨b, 0, none⟩) l.length l.length) l :=
  ⟨by simp, .inr ⟨b, l.length, _, rfl, hB, h, Nat.le_refl _, by unfold maxLen; omega, by simp, List.take_of_length_le (by simp)⟩⟩
theorem InB.reads {W : World} {b : Nat} {l : List Int} (h : InB W b l) (hl : l.length ≤ 1000) : ReadsN W (.slice (some ⟨b, 0, none⟩) l.length l.length) l := (h.own hl (Nat.zero_le _)).reads
theorem InB.keep {W V : World} {b : Nat} {l : List Int} {L : List Nat} (h : InB W b l) (k : Chg L W V) (hn : b ∉ L) : InB V b l := Blk.keep h k hn
theorem made1 (z : Value) (n : Nat) : madeCells #[z] n = (List.replicate n z).toArray := by
  unfold madeCells
  apply Array.ext
  · simp
  · intro i h1 h2
    simp [Nat.mod_one]
theorem make_ints (n : Nat) (hn : n ≤ 1000) (w : World) : (Instr.makeSlice 33 (.int .i64 (n : Int)) (.int .i64 (n : Int))).run Tryz.prog w = .ok (.slice (some ⟨w.heap.size, 0, none⟩) n n) (w.alloc (.cells ((List.replicate n (0 : Int)).map (Value.int .i64)).toArray 3)) := by
  obtain ⟨i0, hi0, hz0, hz1, hz2⟩ := info_parts infoInt
  have h := run_make (P := Tryz.prog) w 33 3 i0 _ Tryz.underlying33 hi0 hz0 .i64 .i64 n n (by omega) (by omega) (by rw [hz2]; omega) (by omega)
  simp only [Int.toNat_natCast, hz1, Nat.mul_one] at h
  rw [List.map_replicate, ← made1]
  exact h
-- the order of tasks: a plain insertion sort
def swapL (l : List Int) (j : Nat) : List Int := (l.set (j + 1) (l.getD j 0)).set j (l.getD (j + 1) 0)
def downM (ps : List Int) : Nat → List Int → List Int
  | 0, l => l
  | j + 1, l => if ps.getD (l.getD j 0).toNat 0 < ps.getD (l.getD (j + 1) 0).toNat 0 then downM ps j (swapL l j) else l
def sortM (ps : List Int) (l : List Int) : Nat → List Int
  | 0 => l
  | i + 1 => downM ps i (sortM ps l i)
def orderM (ps : List Int) : List Int := sortM ps ((List.range ps.length).map Int.ofNat) ps.length
def ranksM (ps : List Int) : List Int := (List.range ps.length).foldl (fun r (k : Nat) => r.set ((orderM ps).getD k 0).toNat (k : Int)) (List.replicate ps.length 0)
theorem swap_len (l : List Int) (j : Nat) : (swapL l j).length = l.length := by simp [swapL]
theorem down_len (ps : List Int) : ∀ (j : Nat) (l : List Int), (downM ps j l).length = l.length
  | 0, _ => rfl
  | j + 1, l => by
    unfold downM
    split
    · rw [down_len ps j, swap_len]
    · rfl
theorem sort_len (ps : List Int) (l : List Int) : ∀ i, (sortM ps l i).length = l.length
  | 0 => rfl
  | i + 1 => by unfold sortM; rw [down_len, sort_len ps l i]
/-- numbers of places -/
def Places (l : List Int) (n : Nat) : Prop := ∀ x ∈ l, 0 ≤ x ∧ x < n
theorem set_places {l : List Int} {n j : Nat} {x : Int} (h : Places l n) (hx : 0 ≤ x ∧ x < n) : Places (l.set j x) n := fun y hy => by
  rcases List.mem_or_eq_of_mem_set hy with h1 | h1
  · exact h y h1
  · rw [h1]; exact hx
theorem Places.at {l : List Int} {n j : Nat} (h : Places l n) (hj : j < l.length) : ∃ x : Nat, l[j]? = some (x : Int) ∧ x < n := by
  have h1 := h _ (List.getElem_mem hj)
  obtain ⟨x, hx⟩ := Int.eq_ofNat_of_zero_le h1.1
  exact ⟨x, by rw [List.getElem?_eq_getElem hj, hx], by omega⟩
theorem swap_places {l : List Int} {n j : Nat} (h : Places l n) (hj : j + 1 < l.length) : Places (swapL l j) n := by
  unfold swapL
  obtain ⟨x, hx, hx2⟩ := h.at (j := j) (by omega)
  obtain ⟨y, hy, hy2⟩ := h.at (j := j + 1) hj
  refine set_places (set_places h ?_) ?_
  · rw [List.getD_eq_getElem?_getD, hx]; simp; omega
  · rw [List.getD_eq_getElem?_getD, hy]; simp; omega
theorem down_places (ps : List Int) : ∀ (j : Nat) (l : List Int) (n : Nat), Places l n → j < l.length ∨ j = 0 → Places (downM ps j l) n
  | 0, _, _, h, _ => h
  | j + 1, l, n, h, hj => by
    unfold downM
    split
    · exact down_places ps j _ n (swap_places h (by omega)) (by rw [swap_len]; omega)
    · exact h
theorem sort_places (ps l : List Int) (n : Nat) (h : Places l n) : ∀ i, i ≤ l.length → Places (sortM ps l i) n
  | 0, _ => h
  | i + 1, hi => by unfold sortM; exact down_places ps i _ n (sort_places ps l n h i (by omega)) (by rw [sort_len]; omega)
theorem order_len (ps : List Int) : (orderM ps).length = ps.length := by unfold orderM; rw [sort_len]; simp
theorem order_places (ps : List Int) : Places (orderM ps) ps.length := by
  unfold orderM
  refine sort_places ps _ _ (fun x hx => ?_) _ (by simp)
  simp at hx
  obtain ⟨k, hk, rfl⟩ := hx
  show 0 ≤ (k : Int) ∧ (k : Int) < _
  omega
def cmpI (a b : Int) : Int := if a < b then -1 else if b < a then 1 else 0
theorem isNaN_any (a : Int) (W : World) : Calls Tryz.prog 128 #[.int .i64 a] W fun e W' => e = .returned (.bool false) ∧ W = W' := by
  go_enter Tryz.func128, Tryz.ntmps128
  go_wp2
  go_ret
  exact ⟨by simp, rfl⟩
theorem Compare_any (a b : Int) (W : World) : Calls Tryz.prog 107 #[.int .i64 a, .int .i64 b] W fun e W' => e = .returned (.int .i64 (cmpI a b)) ∧ W = W' := by
  unfold cmpI
  by_cases h1 : a < b
  · rw [if_pos h1]
    go_enter Tryz.func107, Tryz.ntmps107
    go_wp2_with (go_at_call 128; refine (isNaN_any _ _).mono ?_; rintro e w1 ⟨rfl, rfl⟩)
    go_ret
    exact ⟨rfl, rfl⟩
  · rw [if_neg h1]
    by_cases h2 : b < a
    · rw [if_pos h2]
      go_enter Tryz.func107, Tryz.ntmps107
      go_wp2_with (go_at_call 128; refine (isNaN_any _ _).mono ?_; rintro e w1 ⟨rfl, rfl⟩)
      go_ret
      exact ⟨rfl, rfl⟩
    · rw [if_neg h2]
      go_enter Tryz.func107, Tryz.ntmps107
      go_wp2_with (go_at_call 128; refine (isNaN_any _ _).mono ?_; rintro e w1 ⟨rfl, rfl⟩)
      go_ret
      exact ⟨rfl, rfl⟩
set_option maxHeartbeats 4000000 in
theorem less_any (g : Nat) (pa : Option Addr) (pc : Nat) (ps : List Int) (x y : Nat) (a b : Int) (hx : ps[x]? = some a) (hy : ps[y]? = some b) (W : World) (hg : W.cell? ⟨g, 0, none⟩ = some (.slice pa ps.length pc)) (hp : ReadsN W (.slice pa ps.length pc) ps) :
    Calls Tryz.prog 106 #[.int .i64 (x : Int), .int .i64 (y : Int), .pointer (some ⟨g, 0, none⟩)] W fun e W' => e = .returned (.int .i64 (cmpI b a)) ∧ Chg [] W W' := by
  obtain ⟨-, b1, o1, hx1, hc1⟩ := ints_at hp
  have g1 := hx1 x (List.getElem?_eq_some_iff.1 hx).1
  have g2 := hx1 y (List.getElem?_eq_some_iff.1 hy).1
  have KEEP : Hid (∀ V, Chg [] W V → (fun V : World => V.cell? ⟨g, 0, none⟩ = some (.slice pa ps.length pc) ∧ V.cell? ⟨b1, o1 + x, none⟩ = some (.int .i64 a) ∧ V.cell? ⟨b1, o1 + y, none⟩ = some (.int .i64 b) ∧ Hid (Chg [] W V)) V) := Lib.hid (fun V hV => ⟨hV.keep hg (by simp), hc1 V hV x a hx, hc1 V hV y b hy, Lib.hid hV⟩)
  have HCM := Lib.hid (fun V => Compare_any b a V)
  obtain ⟨R, hR⟩ : ∃ R, cmpI b a = R := ⟨_, rfl⟩
  rw [hR] at HCM ⊢
  clear hx1 hc1 hx hy hg hp hR
  go_enter Tryz.func106, Tryz.ntmps106
  go_upto_region 1 with fail
  have hHeld : (fun V : World => V.cell? ⟨g, 0, none⟩ = some (.slice pa ps.length pc) ∧ V.cell? ⟨b1, o1 + x, none⟩ = some (.int .i64 a) ∧ V.cell? ⟨b1, o1 + y, none⟩ = some (.int .i64 b) ∧ Hid (Chg [] W V)) (World.drew W) := KEEP.out _ (Chg.refl _ _).drew
  refine wp_region_plan (fun V : World => V.cell? ⟨g, 0, none⟩ = some (.slice pa ps.length pc) ∧ V.cell? ⟨b1, o1 + x, none⟩ = some (.int .i64 a) ∧ V.cell? ⟨b1, o1 + y, none⟩ = some (.int .i64 b) ∧ Hid (Chg [] W V)) [(0, true, some 6), (1, true, some 7), (2, true, some 8), (3, true, some 9), (4, true, some 10), (5, true, some 11), (6, true, some 12), (7, true, some 13), (8, false, some 14), (9, true, some 5)] (by kernel_rfl) (by kernel_rfl) (by kernel_rfl) (by kernel_rfl) (fun d c a v w h => by cases d <;> exact h) hHeld ?_
  repeat (first
    | (refine planWp_read (v := ?_) rfl rfl ?_ ?_ ?_; rotate_left; (focus rfl); (focus (intro u hSw; (try dsimp only at hSw); obtain ⟨u0, u1, u2, -⟩ := hSw; go_simp; (try with_reducible rfl))); (try simp only [Act.put, List.setIfInBounds_toArray, List.set_cons_zero, List.set_cons_succ]))
    | (refine planWp_skip rfl rfl ?_ ?_; (focus rfl); (try simp only [Act.put, List.setIfInBounds_toArray, List.set_cons_zero, List.set_cons_succ]))
    | (refine planWp_leave rfl rfl ?_ hHeld ?_; (focus rfl); (try simp only [Act.put, List.setIfInBounds_toArray, List.set_cons_zero, List.set_cons_succ]))
    | (refine planWp_do rfl rfl ?_ (fun K hK => ?_); (focus rfl); go_simp; (try go_wp2_with (go_at_call 107; refine (HCM.out _).mono ?_; rintro e w5 ⟨rfl, rfl⟩)); refine hK.out _ _ ?_ (fun hHeld2 => ?_); (focus exact hHeld); clear hK K hHeld; have hHeld := hHeld2; clear hHeld2; (try simp only [Act.put, List.setIfInBounds_toArray, List.set_cons_zero, List.set_cons_succ])))
  refine planWp_nil ?_
  obtain ⟨-, -, -, hcz⟩ := hHeld
  clear KEEP
  go_wp2
  go_ret
  exact ⟨rfl, hcz.out⟩
end Go.Proofs.YtkedegbpkkgeaaaGreat.tf
/- TopFits: insertionSortCmpFunc. -/
namespace Go.Proofs.YtkedegbpkkgeaaaGreat.tf
open Go Go.RowKit Go.Proofs.YtkedegbpkkgeaaaGreat.kit Go.Proofs.YtkedegbpkkgeaaaGreat.obj Go.Proofs.YtkedegbpkkgeaaaGreat.mem Go.Proofs.YtkedegbpkkgeaaaGreat.lay Go.Proofs.YtkedegbpkkgeaaaGreat.isa
set_option linter.unusedVariables false
set_option linter.unusedSimpArgs false
set_option maxRecDepth 20000

set_option maxHeartbeats 16000000 in
theorem isort_any (A g : Nat) (pa : Option Addr) (pc : Nat) (ps l : List Int) (n : Nat) (W : World) (hn : l.length = n) (hl : n ≤ 1000) (hpl : Places l ps.length) (hb : InB W A l)
    (hk : ∀ V, Chg [A] W V → V.cell? ⟨g, 0, none⟩ = some (.slice pa ps.length pc) ∧ ReadsN V (.slice pa ps.length pc) ps) :
    Calls Tryz.prog 153 #[.slice (some ⟨A, 0, none⟩) n n, .int .i64 0, .int .i64 (n : Int), (.func (.func 106) #[] #[.pointer (some ⟨g, 0, none⟩)])] W fun e W' => e = .returned (.tuple #[]) ∧ InB W' A (sortM ps l n) ∧ Chg [A] W W' := by
  have HN := Lib.hid (⟨hn, hl⟩ : _ ∧ _)
  have HPL := Lib.hid hpl
  have HK := Lib.hid hk
  have HB0 : Hid (InB W A (sortM ps l 1)) := Lib.hid hb
  have HS1 : Hid (sortM ps l n = sortM ps l (max n 1)) := Lib.hid (by
    by_cases h : n = 0
    · subst h; rfl
    · rw [Nat.max_eq_left (by omega)])
  clear hn hl hpl hk hb
  go_enter Tryz.func153, Tryz.ntmps153
  go_wp2
  go_loopw [8] (fun p wr => ∃ i : Nat, p = .int .i64 (i : Int) ∧ Hid (1 ≤ i ∧ i ≤ max n 1) ∧ Hid (InB wr A (sortM ps l i)) ∧ Hid (Chg [A] W wr)) (fun p _ => n + 1 - (intOf p).toNat)
  case atStart => exact ⟨1, by simp, Lib.hid ⟨Nat.le_refl _, by omega⟩, HB0, Lib.hid (Chg.refl _ _)⟩
  case round =>
    obtain ⟨i, rfl, HI, HB, HW⟩ := hrel
    by_cases hib : i < n
    · have HIB := Lib.hid hib
      have m1 : (i : Int) < (n : Int) := by omega
      have hw3 : IntKind.i64.wrap ((i : Int) + 1) = (i : Int) + 1 := by have := HN.out; rw [IntKind.wrap_i64]; omega
      clear hib
      go_wp2
      go_loopw [9] (fun p wr => ∃ (j : Nat) (L : List Int), p = .int .i64 (j : Int) ∧ Hid (j ≤ i ∧ L.length = n ∧ Places L ps.length ∧ downM ps j L = sortM ps l (i + 1)) ∧ Hid (InB wr A L) ∧ Hid (Chg [A] W wr)) (fun p _ => (intOf p).toNat)
      case atStart => exact ⟨i, sortM ps l i, rfl, Lib.hid ⟨Nat.le_refl _, by rw [sort_len]; exact HN.out.1, sort_places ps l _ HPL.out i (by have := HN.out; have := HIB.out; omega), rfl⟩, HB, HW⟩
      case round =>
        clear HB HW
        obtain ⟨j, L, rfl, HJ, HB, HW⟩ := hrel
        cases j with
        | zero =>
          have HE : Hid (InB wr A (sortM ps l (i + 1))) := Lib.hid (by rw [← HJ.out.2.2.2]; exact HB.out)
          go_upto_region 4 with fail
          have hHeld : (fun V : World => Hid (Chg [] wr V)) (World.drew wr) := Lib.hid (Chg.refl _ _).drew
          refine wp_region_plan (fun V : World => Hid (Chg [] wr V)) [(0, true, some 18), (1, true, some 19), (2, true, some 20), (3, true, some 21), (4, true, some 22), (5, true, some 23), (6, true, some 24), (7, true, some 25), (8, true, some 26), (9, true, some 27), (10, true, some 28), (11, true, some 29), (12, true, some 30), (13, true, some 31), (14, false, some 32), (15, true, some 33), (16, true, some 34)] (by kernel_rfl) (by kernel_rfl) (by kernel_rfl) (by kernel_rfl) (fun d c a v w h => by cases d <;> exact h) hHeld ?_
          repeat (first
            | (refine planWp_read (v := ?_) rfl rfl ?_ ?_ ?_; rotate_left; (focus rfl); (focus (intro u hSw; (try dsimp only at hSw); go_simp; (try with_reducible rfl))); (try simp only [Act.put, List.setIfInBounds_toArray, List.set_cons_zero, List.set_cons_succ]))
            | (refine planWp_skip rfl rfl ?_ ?_; (focus rfl); (try simp only [Act.put, List.setIfInBounds_toArray, List.set_cons_zero, List.set_cons_succ]))
            | (refine planWp_leave rfl rfl ?_ hHeld ?_; (focus rfl); (try simp only [Act.put, List.setIfInBounds_toArray, List.set_cons_zero, List.set_cons_succ]))
            | (refine planWp_do rfl rfl ?_ (fun K hK => ?_); (focus rfl); go_simp; (try go_wp2_with fail); refine hK.out _ _ ?_ (fun hHeld2 => ?_); (focus exact hHeld); clear hK K hHeld; have hHeld := hHeld2; clear hHeld2; (try simp only [Act.put, List.setIfInBounds_toArray, List.set_cons_zero, List.set_cons_succ])))
          refine planWp_nil ?_
          go_wp2
          have hib := HIB.out
          go_roundw
          case rel => exact ⟨i + 1, by simp, Lib.hid ⟨by omega, by omega⟩, Lib.hid (HE.out.keep hHeld.out (by simp)), Lib.hid (HW.out.trans (hHeld.out.mono (by simp)))⟩
          case measure => simp [intOf]; omega
        | succ j =>
          have hjL : j + 1 < n := by have := HJ.out; have := HIB.out; omega
          obtain ⟨x, hx, hxl⟩ := HJ.out.2.2.1.at (j := j + 1) (by rw [HJ.out.2.1]; exact hjL)
          obtain ⟨y, hy, hyl⟩ := HJ.out.2.2.1.at (j := j) (by rw [HJ.out.2.1]; omega)
          have ix1 := idxN A n (j + 1) hjL
          have ix2 := idxN A n j (by omega)
          rw [show ((j + 1 : Nat) : Int) = (j : Int) + 1 by omega] at ix1 ⊢
          obtain ⟨a, ha⟩ : ∃ a, ps[x]? = some a := ⟨_, List.getElem?_eq_getElem hxl⟩
          obtain ⟨b, hb⟩ : ∃ b, ps[y]? = some b := ⟨_, List.getElem?_eq_getElem hyl⟩
          have hd := HJ.out.2.2.2
          unfold downM at hd
          rw [show L.getD j 0 = (y : Int) by rw [List.getD_eq_getElem?_getD, hy]; rfl, show L.getD (j + 1) 0 = (x : Int) by rw [List.getD_eq_getElem?_getD, hx]; rfl, Int.toNat_natCast, Int.toNat_natCast, show ps.getD y 0 = b by rw [List.getD_eq_getElem?_getD, hb]; rfl, show ps.getD x 0 = a by rw [List.getD_eq_getElem?_getD, ha]; rfl] at hd
          have hw2 : IntKind.i64.wrap ((j : Int) + 1 - 1) = (j : Int) := by have := HN.out; rw [IntKind.wrap_i64]; omega
          have hw4 : IntKind.i64.wrap (j : Int) = (j : Int) := by have := HN.out; rw [IntKind.wrap_i64]; omega
          have m2 : (0 : Int) < (j : Int) + 1 := by omega
          have KEEP : Hid (∀ V, Chg [] wr V → (fun V : World => V.cell? ⟨A, j + 1, none⟩ = some (.int .i64 (x : Int)) ∧ V.cell? ⟨A, j, none⟩ = some (.int .i64 (y : Int)) ∧ Hid (Chg [] wr V)) V) := Lib.hid (fun V hV => ⟨hV.keep (HB.out.at hx) (by simp), hV.keep (HB.out.at hy) (by simp), Lib.hid hV⟩)
          have HLS := Lib.hid (fun V (hV : Chg [] wr V) => by
            obtain ⟨h1, h2⟩ := HK.out V (HW.out.trans (hV.mono (by simp)))
            exact less_any g pa pc ps x y a b ha hb V h1 h2)
          by_cases hab : b < a
          · rw [if_pos hab] at hd
            rw [show cmpI b a = -1 by unfold cmpI; rw [if_pos hab]] at HLS
            have HD := Lib.hid hd
            have HX := Lib.hid hx
            have HY := Lib.hid hy
            clear hd hab ha hb hx hy hxl hyl
            go_upto_region 4 with fail
            have hHeld : (fun V : World => V.cell? ⟨A, j + 1, none⟩ = some (.int .i64 (x : Int)) ∧ V.cell? ⟨A, j, none⟩ = some (.int .i64 (y : Int)) ∧ Hid (Chg [] wr V)) (World.drew wr) := KEEP.out _ (Chg.refl _ _).drew
            refine wp_region_plan (fun V : World => V.cell? ⟨A, j + 1, none⟩ = some (.int .i64 (x : Int)) ∧ V.cell? ⟨A, j, none⟩ = some (.int .i64 (y : Int)) ∧ Hid (Chg [] wr V)) [(0, true, some 18), (1, true, some 19), (2, true, some 20), (3, true, some 21), (4, true, some 22), (5, true, some 23), (6, true, some 24), (7, true, some 25), (8, true, some 26), (9, true, some 27), (10, true, some 28), (11, true, some 29), (12, true, some 30), (13, true, some 31), (14, false, some 32), (15, true, some 33), (16, true, some 34)] (by kernel_rfl) (by kernel_rfl) (by kernel_rfl) (by kernel_rfl) (fun d c a v w h => by cases d <;> exact h) hHeld ?_
            repeat (first
              | (refine planWp_read (v := ?_) rfl rfl ?_ ?_ ?_; rotate_left; (focus rfl); (focus (intro u hSw; (try dsimp only at hSw); obtain ⟨u0, u1, -⟩ := hSw; go_simp; (try with_reducible rfl))); (try simp only [Act.put, List.setIfInBounds_toArray, List.set_cons_zero, List.set_cons_succ]))
              | (refine planWp_skip rfl rfl ?_ ?_; (focus rfl); (try simp only [Act.put, List.setIfInBounds_toArray, List.set_cons_zero, List.set_cons_succ]))
              | (refine planWp_leave rfl rfl ?_ hHeld ?_; (focus rfl); (try simp only [Act.put, List.setIfInBounds_toArray, List.set_cons_zero, List.set_cons_succ]))
              | (refine planWp_do rfl rfl ?_ (fun K hK => ?_); (focus rfl); go_simp; (try go_wp2_with (go_at_call 106; refine (HLS.out _ hHeld.2.2.out).mono ?_; rintro e w5 ⟨rfl, hc5⟩; have HCX := Lib.hid hc5; clear hc5)); refine hK.out _ _ ?_ (fun hHeld2 => ?_); (focus exact KEEP.out _ (hHeld.2.2.out.trans HCX.out)); clear hK K hHeld; have hHeld := hHeld2; clear hHeld2; (try simp only [Act.put, List.setIfInBounds_toArray, List.set_cons_zero, List.set_cons_succ])))
            refine planWp_nil ?_
            obtain ⟨-, -, hcz⟩ := hHeld
            clear KEEP
            have HB5 := Lib.hid (HB.out.keep hcz.out (by simp))
            have c1 := HB5.out.at HX.out
            have c2 := HB5.out.at HY.out
            have f1 := Blk.free HB5.out (j + 1)
            have f2 := Blk.free HB5.out j
            have HSW : Hid (∀ V, V = (w5.setCell ⟨A, j + 1, none⟩ (.int .i64 (y : Int))).setCell ⟨A, j, none⟩ (.int .i64 (x : Int)) ∨ V = ((w5.setCell ⟨A, j + 1, none⟩ (.int .i64 (y : Int))).setCell ⟨A, j, none⟩ (.int .i64 (x : Int))).drew → InB V A (swapL L j) ∧ Chg [A] W V) := Lib.hid (by
              have h1 := (HB5.out.put (j + 1) (y : Int)).put j (x : Int)
              rw [show (L.set (j + 1) (y : Int)).set j (x : Int) = swapL L j by unfold swapL; rw [List.getD_eq_getElem?_getD, HY.out, List.getD_eq_getElem?_getD, HX.out]; rfl] at h1
              have h2 : Chg [A] W ((w5.setCell ⟨A, j + 1, none⟩ (.int .i64 (y : Int))).setCell ⟨A, j, none⟩ (.int .i64 (x : Int))) := (((HW.out.trans (hcz.out.mono (by simp))).setCell (.inl (by simp)) _).setCell (.inl (by simp)) _)
              rintro V (rfl | rfl)
              · exact ⟨h1, h2⟩
              · exact ⟨h1.keep (Chg.refl [] _).drew (by simp), h2.drew⟩)
            go_wp2
            go_region
            go_wp2
            have hj := HJ.out
            go_roundw
            case rel => exact ⟨j, swapL L j, by go_num, Lib.hid ⟨by omega, by rw [swap_len]; exact hj.2.1, swap_places hj.2.2.1 (by have := HIB.out; omega), HD.out⟩, Lib.hid (HSW.out _ (by first | exact .inl rfl | exact .inr rfl)).1, Lib.hid (HSW.out _ (by first | exact .inl rfl | exact .inr rfl)).2⟩
            case measure => (simp [intOf]) <;> omega
          · rw [if_neg hab] at hd
            have HD := Lib.hid hd
            obtain ⟨z, hz⟩ : ∃ z, cmpI b a = z := ⟨_, rfl⟩
            have hz0 : ¬ z < 0 := by rw [← hz]; unfold cmpI; rw [if_neg hab]; split <;> omega
            rw [hz] at HLS
            clear hd hab ha hb hx hy hxl hyl hz
            go_upto_region 4 with fail
            have hHeld : (fun V : World => V.cell? ⟨A, j + 1, none⟩ = some (.int .i64 (x : Int)) ∧ V.cell? ⟨A, j, none⟩ = some (.int .i64 (y : Int)) ∧ Hid (Chg [] wr V)) (World.drew wr) := KEEP.out _ (Chg.refl _ _).drew
            refine wp_region_plan (fun V : World => V.cell? ⟨A, j + 1, none⟩ = some (.int .i64 (x : Int)) ∧ V.cell? ⟨A, j, none⟩ = some (.int .i64 (y : Int)) ∧ Hid (Chg [] wr V)) [(0, true, some 18), (1, true, some 19), (2, true, some 20), (3, true, some 21), (4, true, some 22), (5, true, some 23), (6, true, some 24), (7, true, some 25), (8, true, some 26), (9, true, some 27), (10, true, some 28), (11, true, some 29), (12, true, some 30), (13, true, some 31), (14, false, some 32), (15, true, some 33), (16, true, some 34)] (by kernel_rfl) (by kernel_rfl) (by kernel_rfl) (by kernel_rfl) (fun d c a v w h => by cases d <;> exact h) hHeld ?_
            repeat (first
              | (refine planWp_read (v := ?_) rfl rfl ?_ ?_ ?_; rotate_left; (focus rfl); (focus (intro u hSw; (try dsimp only at hSw); obtain ⟨u0, u1, -⟩ := hSw; go_simp; (try with_reducible rfl))); (try simp only [Act.put, List.setIfInBounds_toArray, List.set_cons_zero, List.set_cons_succ]))
              | (refine planWp_skip rfl rfl ?_ ?_; (focus rfl); (try simp only [Act.put, List.setIfInBounds_toArray, List.set_cons_zero, List.set_cons_succ]))
              | (refine planWp_leave rfl rfl ?_ hHeld ?_; (focus rfl); (try simp only [Act.put, List.setIfInBounds_toArray, List.set_cons_zero, List.set_cons_succ]))
              | (refine planWp_do rfl rfl ?_ (fun K hK => ?_); (focus rfl); go_simp; (try go_wp2_with (go_at_call 106; refine (HLS.out _ hHeld.2.2.out).mono ?_; rintro e w5 ⟨rfl, hc5⟩; have HCX := Lib.hid hc5; clear hc5)); refine hK.out _ _ ?_ (fun hHeld2 => ?_); (focus exact KEEP.out _ (hHeld.2.2.out.trans HCX.out)); clear hK K hHeld; have hHeld := hHeld2; clear hHeld2; (try simp only [Act.put, List.setIfInBounds_toArray, List.set_cons_zero, List.set_cons_succ])))
            refine planWp_nil ?_
            obtain ⟨-, -, hcz⟩ := hHeld
            clear KEEP
            go_wp2
            have hib := HIB.out
            go_roundw
            case rel => exact ⟨i + 1, by simp, Lib.hid ⟨by omega, by omega⟩, Lib.hid (by rw [← HD.out]; exact HB.out.keep hcz.out (by simp)), Lib.hid (HW.out.trans (hcz.out.mono (by simp)))⟩
            case measure => simp [intOf]; omega
    · obtain rfl : i = max n 1 := by have := HI.out; omega
      have m1 : ¬ ((max n 1 : Nat) : Int) < (n : Int) := by omega
      clear hib
      go_wp2
      go_end0
      exact ⟨rfl, by rw [HS1.out]; exact HB.out, HW.out⟩
end Go.Proofs.YtkedegbpkkgeaaaGreat.tf
/- TopFits: demand: Reads, Writes. -/
namespace Go.Proofs.YtkedegbpkkgeaaaGreat.tf
open Go Go.RowKit Go.Proofs.YtkedegbpkkgeaaaGreat.kit Go.Proofs.YtkedegbpkkgeaaaGreat.obj Go.Proofs.YtkedegbpkkgeaaaGreat.mem Go.Proofs.YtkedegbpkkgeaaaGreat.lay Go.Proofs.YtkedegbpkkgeaaaGreat.isa
set_option linter.unusedVariables false
set_option linter.unusedSimpArgs false
set_option maxRecDepth 20000

theorem dreads_any (ta : Option Addr) (tc : Nat) (oa : Option Addr) (oc : Nat) (ts : List DT) (os : List DO) (i kk : Nat) (W : World) (hT : ReadsDT W (.slice ta ts.length tc) ts) (hO : ReadsDO W (.slice oa os.length oc) os) (d : DT) (hd : ts[i]? = some d) (hk : kk < os.length) (hl : ts.length ≤ 1000) (hf : FineP d.code) :
    Calls Tryz.prog 37 #[.agg #[.slice ta ts.length tc, .slice oa os.length oc], .int .i64 (i : Int), .int .i64 (kk : Int)] W fun e W' => e = .returned (.int .i64 (countM (sys ts os) i kk [17, 20])) ∧ Chg [] W W' := by
  have HC2 : Hid (Chg [] W ((W.alloc (.cells #[.slice ta ts.length tc, .slice oa os.length oc] 25)).alloc (.cells #[.int .i64 17, .int .i64 20] 3))) := Lib.hid (((Chg.refl [] W).alloc _).alloc _)
  have hr : ReadsN ((W.alloc (.cells #[.slice ta ts.length tc, .slice oa os.length oc] 25)).alloc (.cells #[.int .i64 17, .int .i64 20] 3)) (.slice (some ⟨W.heap.size + 1, 0, none⟩) 2 2) [17, 20] := by
    have := reads2 (W.alloc (.cells #[.slice ta ts.length tc, .slice oa os.length oc] 25)) 17 20
    rwa [show (W.alloc (.cells #[.slice ta ts.length tc, .slice oa os.length oc] 25)).heap.size = W.heap.size + 1 by simp] at this
  have HX := Lib.hid (count_any ta tc oa oc ts os i kk [17, 20] _ _ (hT.chg HC2.out) (hO.chg HC2.out) hr (by decide) d hd hk hl hf)
  clear hT hO hd hk hl hf hr
  go_enter Tryz.func37, Tryz.ntmps37
  go_wp2_with (go_at_call 74; refine HX.out.mono ?_; rintro e w1 ⟨rfl, hc1⟩; have HC3 := Lib.hid (HC2.out.trans hc1); clear hc1)
  go_ret
  exact ⟨rfl, HC3.out⟩
theorem dwrites_any (ta : Option Addr) (tc : Nat) (oa : Option Addr) (oc : Nat) (ts : List DT) (os : List DO) (i kk : Nat) (W : World) (hT : ReadsDT W (.slice ta ts.length tc) ts) (hO : ReadsDO W (.slice oa os.length oc) os) (d : DT) (hd : ts[i]? = some d) (hk : kk < os.length) (hl : ts.length ≤ 1000) (hf : FineP d.code) :
    Calls Tryz.prog 85 #[.agg #[.slice ta ts.length tc, .slice oa os.length oc], .int .i64 (i : Int), .int .i64 (kk : Int)] W fun e W' => e = .returned (.int .i64 (countM (sys ts os) i kk [18, 19])) ∧ Chg [] W W' := by
  have HC2 : Hid (Chg [] W ((W.alloc (.cells #[.slice ta ts.length tc, .slice oa os.length oc] 25)).alloc (.cells #[.int .i64 18, .int .i64 19] 3))) := Lib.hid (((Chg.refl [] W).alloc _).alloc _)
  have hr : ReadsN ((W.alloc (.cells #[.slice ta ts.length tc, .slice oa os.length oc] 25)).alloc (.cells #[.int .i64 18, .int .i64 19] 3)) (.slice (some ⟨W.heap.size + 1, 0, none⟩) 2 2) [18, 19] := by
    have := reads2 (W.alloc (.cells #[.slice ta ts.length tc, .slice oa os.length oc] 25)) 18 19
    rwa [show (W.alloc (.cells #[.slice ta ts.length tc, .slice oa os.length oc] 25)).heap.size = W.heap.size + 1 by simp] at this
  have HX := Lib.hid (count_any ta tc oa oc ts os i kk [18, 19] _ _ (hT.chg HC2.out) (hO.chg HC2.out) hr (by decide) d hd hk hl hf)
  clear hT hO hd hk hl hf hr
  go_enter Tryz.func85, Tryz.ntmps85
  go_wp2_with (go_at_call 74; refine HX.out.mono ?_; rintro e w1 ⟨rfl, hc1⟩; have HC3 := Lib.hid (HC2.out.trans hc1); clear hc1)
  go_ret
  exact ⟨rfl, HC3.out⟩
end Go.Proofs.YtkedegbpkkgeaaaGreat.tf
/- TopFits: interfere: reads. -/
namespace Go.Proofs.YtkedegbpkkgeaaaGreat.tf
open Go Go.RowKit Go.Proofs.YtkedegbpkkgeaaaGreat.kit Go.Proofs.YtkedegbpkkgeaaaGreat.obj Go.Proofs.YtkedegbpkkgeaaaGreat.mem Go.Proofs.YtkedegbpkkgeaaaGreat.lay Go.Proofs.YtkedegbpkkgeaaaGreat.isa
set_option linter.unusedVariables false
set_option linter.unusedSimpArgs false
set_option maxRecDepth 20000

/-- a system that may be, as it lies -/
structure SysOK (W : World) (ta : Option Addr) (tc : Nat) (oa : Option Addr) (oc : Nat) (ts : List DT) (os : List DO) : Prop where
  T : ReadsDT W (.slice ta ts.length tc) ts
  O : ReadsDO W (.slice oa os.length oc) os
  w : ∀ d ∈ os, d.o.W
  fine : FineS (sys ts os)
theorem SysOK.chg {W V : World} {ta : Option Addr} {tc : Nat} {oa : Option Addr} {oc : Nat} {ts : List DT} {os : List DO} (h : SysOK W ta tc oa oc ts os) (k : Chg [] W V) : SysOK V ta tc oa oc ts os := ⟨h.T.chg k, h.O.chg k, h.w, h.fine⟩
theorem SysOK.lens {W : World} {ta : Option Addr} {tc : Nat} {oa : Option Addr} {oc : Nat} {ts : List DT} {os : List DO} (h : SysOK W ta tc oa oc ts os) : (1 ≤ ts.length ∧ ts.length ≤ 8) ∧ os.length ≤ 8 := by
  have h1 := h.fine.nt
  have h2 := h.fine.no
  simp only [sys, List.length_map] at h1 h2
  exact ⟨h1, h2⟩
theorem SysOK.code {W : World} {ta : Option Addr} {tc : Nat} {oa : Option Addr} {oc : Nat} {ts : List DT} {os : List DO} (h : SysOK W ta tc oa oc ts os) {i : Nat} {d : DT} (hd : ts[i]? = some d) : FineP d.code :=
  h.fine.code d.p (List.mem_map.2 ⟨d, List.mem_of_getElem? hd, rfl⟩)
theorem SysOK.rds {W : World} {ta : Option Addr} {tc : Nat} {oa : Option Addr} {oc : Nat} {ts : List DT} {os : List DO} (h : SysOK W ta tc oa oc ts os) : ∀ d ∈ os, d.rds.length ≤ 1000 := fun d hd => by
  have := h.fine.right d.p (List.mem_map.2 ⟨d, hd, rfl⟩)
  unfold O.right rightB at this
  rw [decide_eq_true_eq] at this
  have h2 : ((d.rds.length : Nat) : Int) ≤ 4 := this.1.2.2.2.1
  omega
theorem SysOK.wr {W : World} {ta : Option Addr} {tc : Nat} {oa : Option Addr} {oc : Nat} {ts : List DT} {os : List DO} (h : SysOK W ta tc oa oc ts os) {k : Nat} {d : DO} (hd : os[k]? = some d) : ∃ a : Nat, d.o.wr = (a : Int) ∧ a < ts.length := by
  have h1 := (h.fine.who d.p (List.mem_map.2 ⟨d, List.mem_of_getElem? hd, rfl⟩)).2 d.o.wr (by simp [DO.p])
  simp only [sys, List.length_map] at h1
  exact ⟨d.o.wr.toNat, by omega, by omega⟩
set_option maxHeartbeats 2000000 in
theorem reads_any (ta : Option Addr) (tc : Nat) (oa : Option Addr) (oc : Nat) (ts : List DT) (os : List DO) (i kk : Nat) (W : World) (h : SysOK W ta tc oa oc ts os) (hi : i < ts.length) (hk : kk < os.length) :
    Calls Tryz.prog 14 #[.agg #[.slice ta ts.length tc, .slice oa os.length oc], .int .i64 (i : Int), .int .i64 (kk : Int)] W fun e W' => e = .returned (.bool (readsM (sys ts os) i kk)) ∧ Chg [] W W' := by
  obtain ⟨d, hd⟩ : ∃ d, ts[i]? = some d := ⟨_, List.getElem?_eq_getElem hi⟩
  have hl := h.lens
  have HC1 : Hid (Chg [] W (W.alloc (.cells #[.slice ta ts.length tc, .slice oa os.length oc] 25))) := Lib.hid ((Chg.refl [] W).alloc _)
  have HBS : Hid (Blk (W.alloc (.cells #[.slice ta ts.length tc, .slice oa os.length oc] 25)) W.heap.size #[.slice ta ts.length tc, .slice oa os.length oc] 25) := Lib.hid (Blk.new W _ _)
  have hro := fun V (hV : Chg [] W V) => role_any ta tc oa oc ts os i kk V (h.T.chg hV) (h.O.chg hV) hi hk ⟨by omega, by omega⟩ h.rds
  have hrd := fun V (hV : Chg [] W V) => dreads_any ta tc oa oc ts os i kk V (h.T.chg hV) (h.O.chg hV) d hd hk (by omega) (h.code hd)
  obtain ⟨R, hR⟩ : ∃ R, readsM (sys ts os) i kk = R := ⟨_, rfl⟩
  rw [hR]
  unfold readsM at hR
  obtain ⟨r, hr⟩ : ∃ r, roleM (sys ts os) i kk = r := ⟨_, rfl⟩
  obtain ⟨x, hx⟩ : ∃ x, countM (sys ts os) i kk [17, 20] = x := ⟨_, rfl⟩
  rw [hr] at hro hR
  rw [hx] at hrd hR
  have HRO := Lib.hid hro
  have HRD := Lib.hid hrd
  clear hro hrd hr hx h hi hk hd hl
  have AR : True := trivial
  by_cases c1 : r = 1
  · subst c1
    rw [decide_eq_true rfl, Bool.true_and] at hR
    subst hR
    go_enter Tryz.func14, Tryz.ntmps14
    go_wp2_with (first
      | (go_at_call 36; refine (HRO.out _ HC1.out).mono ?_; rintro e w1 ⟨⟨v, rfl⟩, hc1⟩; have s0 := (HBS.out.keep hc1 (by simp)).cell (o := 0) (v := .slice ta ts.length tc) rfl; have s1 := (HBS.out.keep hc1 (by simp)).cell (o := 1) (v := .slice oa os.length oc) rfl; have HC2 := Lib.hid (HC1.out.trans hc1); clear hc1)
      | (go_at_call 37; refine (HRD.out _ HC2.out).mono ?_; rintro e w2 ⟨rfl, hc2⟩; have HC3 := Lib.hid (HC2.out.trans hc2); clear hc2))
    go_ret
    exact ⟨by first | rfl | simp, HC3.out⟩
  · rw [decide_eq_false c1, Bool.false_and] at hR
    subst hR
    have d1 : (r == 1) = false := by simpa using c1
    clear c1
    go_enter Tryz.func14, Tryz.ntmps14
    go_wp2_with (go_at_call 36; refine (HRO.out _ HC1.out).mono ?_; rintro e w1 ⟨⟨v, rfl⟩, hc1⟩; have HC2 := Lib.hid (HC1.out.trans hc1); clear hc1)
    go_ret
    exact ⟨by first | rfl | simp [d1], HC2.out⟩
end Go.Proofs.YtkedegbpkkgeaaaGreat.tf
