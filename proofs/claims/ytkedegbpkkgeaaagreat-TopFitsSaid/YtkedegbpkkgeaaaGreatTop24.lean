import Derived.Test.YtkedegbpkkgeaaaGreatTop23
import Derived.Test.YtkedegbpkkgeaaaGreatTop20
import Derived.Test.YtkedegbpkkgeaaaGreatTop14
/- TopFits: system: call, code. -/
namespace Go.Proofs.YtkedegbpkkgeaaaGreat.tf
open Go Go.RowKit Go.Proofs.YtkedegbpkkgeaaaGreat.kit Go.Proofs.YtkedegbpkkgeaaaGreat.obj Go.Proofs.YtkedegbpkkgeaaaGreat.mem Go.Proofs.YtkedegbpkkgeaaaGreat.lay Go.Proofs.YtkedegbpkkgeaaaGreat.isa
set_option linter.unusedVariables false
set_option linter.unusedSimpArgs false
set_option maxRecDepth 20000

set_option maxHeartbeats 8000000 in
theorem scall_any (ta : Option Addr) (tc : Nat) (oa : Option Addr) (oc : Nat) (ts : List DT) (os : List DO) (i : Nat) (op ja ib jc nn : Int) (W : World) (h : SysOK W ta tc oa oc ts os) (dt : DT) (hdt : ts[i]? = some dt) (hc : (⟨op, ja, ib, jc, nn⟩ : Ins) ∈ dt.code) :
    Calls Tryz.prog 92 #[.agg #[.slice ta ts.length tc, .slice oa os.length oc], .int .i64 (i : Int), .agg #[.int .i64 op, .int .i64 ja, .int .i64 ib, .int .i64 jc, .int .u32 nn]] W fun e W' => e = .returned (.int .i64 0) ∧ Chg [] W W' := by
  have hi : i < ts.length := (List.getElem?_eq_some_iff.1 hdt).1
  have hl := h.lens
  obtain ⟨-, b1, o1, hx1, hc1⟩ := tasks_at h.T
  obtain ⟨-, b2, o2, hx2, hc2⟩ := objs_at h.O
  have gt1 := hx1 i hi
  have hri : rightI ⟨op, ja, ib, jc, nn⟩ = true := (h.code hdt).right _ hc
  have hu : (Lit.int .u32 nn).wf = true := (h.T.2 dt (List.mem_of_getElem? hdt)).2 _ hc
  have hub := u32_bd hu
  have hcl := fun V => Calls_any op ja ib jc nn hu V
  have hfc := h.fine.call i dt.p (by simp [sys, hdt]) ⟨op, ja, ib, jc, nn⟩ hc
  simp only [sys, List.length_map] at hfc
  simp only [hri, Bool.true_and, if_true] at hcl
  have HC2 : Hid (Chg [] W ((W.alloc (.cells #[.slice ta ts.length tc, .slice oa os.length oc] 25)).alloc (.cells #[.int .i64 op, .int .i64 ja, .int .i64 ib, .int .i64 jc, .int .u32 nn] 53))) := Lib.hid (((Chg.refl [] W).alloc _).alloc _)
  have HB0 : Hid (Blk ((W.alloc (.cells #[.slice ta ts.length tc, .slice oa os.length oc] 25)).alloc (.cells #[.int .i64 op, .int .i64 ja, .int .i64 ib, .int .i64 jc, .int .u32 nn] 53)) W.heap.size #[.slice ta ts.length tc, .slice oa os.length oc] 25) := Lib.hid ((Blk.new W _ _).alloc _)
  have HB1 : Hid (Blk ((W.alloc (.cells #[.slice ta ts.length tc, .slice oa os.length oc] 25)).alloc (.cells #[.int .i64 op, .int .i64 ja, .int .i64 ib, .int .i64 jc, .int .u32 nn] 53)) (W.heap.size + 1) #[.int .i64 op, .int .i64 ja, .int .i64 ib, .int .i64 jc, .int .u32 nn] 53) := Lib.hid (by
    have := Blk.new (W.alloc (.cells #[.slice ta ts.length tc, .slice oa os.length oc] 25)) #[.int .i64 op, .int .i64 ja, .int .i64 ib, .int .i64 jc, .int .u32 nn] 53
    rwa [show (W.alloc (.cells #[.slice ta ts.length tc, .slice oa os.length oc] 25)).heap.size = W.heap.size + 1 by simp] at this)
  by_cases hz : 0 < callI op
  rotate_left
  · rw [decide_eq_false hz] at hcl
    obtain ⟨v1, hv1⟩ : ∃ x, (if false = true then ib else 0) = x := ⟨_, rfl⟩
    obtain ⟨v2, hv2⟩ : ∃ x, callI op = x := ⟨_, rfl⟩
    rw [hv1, hv2] at hcl
    have HCL := Lib.hid hcl
    clear h hdt hc hi hl hx1 hc1 hx2 hc2 gt1 hri hu hub hfc hcl hz hv1 hv2 HB0 HB1
    go_enter Tryz.func92, Tryz.ntmps92
    go_wp2_with (go_at_call 102; refine (HCL.out _).mono ?_; rintro e w3 ⟨rfl, hc3⟩; have HC3 := Lib.hid (HC2.out.trans hc3); clear hc3)
    go_ret
    exact ⟨rfl, HC3.out⟩
  · rw [decide_eq_true hz, if_pos rfl] at hcl
    obtain ⟨⟨hb0, hbl⟩, hwr, hrole, how⟩ := hfc (by omega)
    obtain ⟨kb, rfl⟩ := Int.eq_ofNat_of_zero_le hb0
    have hkb : kb < os.length := by omega
    obtain ⟨d, hd⟩ : ∃ d, os[kb]? = some d := ⟨_, List.getElem?_eq_getElem hkb⟩
    have hro := fun V (hV : Chg [] W V) => role_any ta tc oa oc ts os i kb V (h.T.chg hV) (h.O.chg hV) hi hkb ⟨by omega, by omega⟩ h.rds
    have ho1 : ((sys ts os).o (kb : Int)).k = d.o.k := by rw [sys_o ts hd]; rfl
    have ho2 : ((sys ts os).o (kb : Int)).w = d.o.w := by rw [sys_o ts hd]; rfl
    change callI op = writesI ((sys ts os).o (kb : Int)).k ∨ callI op = readsI ((sys ts os).o (kb : Int)).k at hwr
    change nn + ((sys ts os).o (kb : Int)).w ≤ dt.t.own at how
    change callI op = roleM (sys ts os) i kb at hrole
    rw [ho1] at hwr
    rw [ho2] at how
    rw [← hrole] at hro
    have hrb := rightB_bd (h.fine.right d.p (List.mem_map.2 ⟨d, List.mem_of_getElem? hd, rfl⟩))
    simp only [DO.p] at hrb
    have hkB : kindB d.o.k = true := by unfold kindB; rw [decide_eq_true]; omega
    have hop := fun V => ops_any d.o.k V
    simp only [hkB, if_true] at hop
    have hob : dt.t.own ≤ 64 := by have := h.fine.nums dt.p (List.mem_map.2 ⟨dt, List.mem_of_getElem? hdt, rfl⟩); simp only [DT.p] at this; omega
    have g2 := hx2 kb hkb
    have HQ2 : Hid (∀ V, Chg [] W V → OC V b2 (o2 + kb * 8) d.o) := Lib.hid (fun V hV => hc2 V hV kb d hd)
    obtain ⟨ow, how2⟩ : ∃ x, dt.t.own = x := ⟨_, rfl⟩
    have HQ5 : Hid (∀ V, Chg [] W V → V.cell? ⟨b1, o1 + i * 7 + 5, none⟩ = some (.int .i64 ow)) := Lib.hid (fun V hV => by have := (hc1 V hV i dt hdt).2.2.1; rwa [how2] at this)
    rw [how2] at how hob
    obtain ⟨⟨k, w, s, cp, st, ia, il, ic, wri, ra, rl, rc⟩, ini, rds⟩ := d
    simp only at how hop hwr HQ2 hrb
    obtain ⟨z, hzz⟩ : ∃ x, callI op = x := ⟨_, rfl⟩
    obtain ⟨wI, hwI⟩ : ∃ x, writesI k = x := ⟨_, rfl⟩
    obtain ⟨rI, hrI⟩ : ∃ x, readsI k = x := ⟨_, rfl⟩
    rw [hzz] at hcl hro hwr
    rw [hwI, hrI] at hop hwr
    have HCL := Lib.hid hcl
    have HRO := Lib.hid hro
    have HOP := Lib.hid hop
    have kn : IntKind.i64.wrap nn = nn := by rw [IntKind.wrap_i64]; omega
    have ks : IntKind.i64.wrap (nn + w) = nn + w := by rw [IntKind.wrap_i64]; omega
    have kg : ¬ ow < nn + w := by omega
    have m1 : ¬ (os.length : Int) ≤ (kb : Int) := by omega
    have HB01 := Lib.hid hub
    have HWR := Lib.hid hwr
    clear h hdt hc hi hl hx1 hc1 hx2 hc2 hri hu hfc hcl hz hb0 hbl hwr hrole how hkb hd hro ho1 ho2 hrb hkB hop hob how2 hzz hwI hrI hub
    go_enter Tryz.func92, Tryz.ntmps92
    go_upto_region 6 with (go_at_call 102; refine (HCL.out _).mono ?_; rintro e w3 ⟨rfl, hc3⟩; have s1 := (HB0.out.keep hc3 (by simp)).cell (o := 1) (v := .slice oa os.length oc) rfl; have HC3 := Lib.hid (HC2.out.trans hc3); have HBS := Lib.hid (HB0.out.keep hc3 (by simp)); have HBI := Lib.hid (HB1.out.keep hc3 (by simp)); clear hc3)
    obtain ⟨⟨q0, q1, q2, q3⟩, q4, q5, q6, q7⟩ := HQ2.out w3 HC3.out
    simp only at q0 q1 q2 q3 q4 q5 q6 q7
    go_upto_region 7 with fail
    obtain ⟨w4, hw4⟩ : ∃ x, x = w3.alloc (.cells #[.int .i64 k, .int .i64 w, .int .i64 s, .int .i64 cp, .int .u32 st, .slice ia il ic, .int .i64 wri, .slice ra rl rc] 46) := ⟨_, rfl⟩
    have HBO : Hid (Blk w4 w3.heap.size #[.int .i64 k, .int .i64 w, .int .i64 s, .int .i64 cp, .int .u32 st, .slice ia il ic, .int .i64 wri, .slice ra rl rc] 46) := Lib.hid (by rw [hw4]; exact Blk.new w3 _ _)
    have HK4 : Hid (Chg [] w3 w4) := Lib.hid (by rw [hw4]; exact (Chg.refl _ _).alloc _)
    rw [← hw4]
    clear hw4 q0 q1 q2 q3 q4 q5 q6 q7 s1
    have HCW4 : Hid (Chg [] W w4) := Lib.hid (HC3.out.trans HK4.out)
    have z0 := HBO.out.cell (o := 0) (v := .int .i64 k) rfl
    have z1 := (HBS.out.keep HK4.out (by simp)).cell (o := 0) (v := .slice ta ts.length tc) rfl
    have z2 := (HBS.out.keep HK4.out (by simp)).cell (o := 1) (v := .slice oa os.length oc) rfl
    by_cases c1 : z = wI
    · subst c1
      go_upto_region 13 with (first
        | (go_at_call 72; refine (HOP.out _).mono ?_; rintro e w5 ⟨rfl, rfl⟩)
        | (go_at_call 36; refine (HRO.out _ HCW4.out).mono ?_; rintro e w7 ⟨⟨rv, rfl⟩, hc7⟩; have HC7 := Lib.hid hc7; clear hc7))
      have hB7 := HBO.out.keep HC7.out (by simp)
      have KS : (fun V : World => V.cell? ⟨W.heap.size, 0, none⟩ = some (.slice ta ts.length tc) ∧ V.cell? ⟨W.heap.size + 1, 4, none⟩ = some (.int .u32 nn) ∧ V.cell? ⟨w3.heap.size, 1, none⟩ = some (.int .i64 w) ∧ V.cell? ⟨b1, o1 + i * 7 + 5, none⟩ = some (.int .i64 ow)) (World.drew w7) := ⟨((HBS.out.keep HK4.out (by simp)).keep HC7.out (by simp)).cell rfl, ((HBI.out.keep HK4.out (by simp)).keep HC7.out (by simp)).cell rfl, hB7.cell rfl, HQ5.out _ (HCW4.out.trans HC7.out).drew⟩
      clear hB7
      have hHeld : (fun V : World => V.cell? ⟨W.heap.size, 0, none⟩ = some (.slice ta ts.length tc) ∧ V.cell? ⟨W.heap.size + 1, 4, none⟩ = some (.int .u32 nn) ∧ V.cell? ⟨w3.heap.size, 1, none⟩ = some (.int .i64 w) ∧ V.cell? ⟨b1, o1 + i * 7 + 5, none⟩ = some (.int .i64 ow)) (World.drew w7) := KS
      refine wp_region_plan (fun V : World => V.cell? ⟨W.heap.size, 0, none⟩ = some (.slice ta ts.length tc) ∧ V.cell? ⟨W.heap.size + 1, 4, none⟩ = some (.int .u32 nn) ∧ V.cell? ⟨w3.heap.size, 1, none⟩ = some (.int .i64 w) ∧ V.cell? ⟨b1, o1 + i * 7 + 5, none⟩ = some (.int .i64 ow)) [(0, true, some 62), (1, true, some 63), (2, true, some 64), (3, true, some 65), (4, true, some 66), (5, true, some 67), (6, true, some 68), (7, true, some 69), (8, true, some 70), (9, true, some 71), (10, true, some 72), (11, true, some 73), (12, true, some 74), (13, true, some 61)] (by kernel_rfl) (by kernel_rfl) (by kernel_rfl) (by kernel_rfl) (fun d c a v w h => by cases d <;> exact h) hHeld ?_
      repeat (first
        | (refine planWp_read (v := ?_) rfl rfl ?_ ?_ ?_; rotate_left; (focus rfl); (focus (intro u hSw; (try dsimp only at hSw); obtain ⟨u0, u1, u2, u3⟩ := hSw; go_simp; (try with_reducible rfl))); (try simp only [Act.put, List.setIfInBounds_toArray, List.set_cons_zero, List.set_cons_succ]))
        | (refine planWp_skip rfl rfl ?_ ?_; (focus rfl); (try simp only [Act.put, List.setIfInBounds_toArray, List.set_cons_zero, List.set_cons_succ]))
        | (refine planWp_leave rfl rfl ?_ hHeld ?_; (focus rfl); (try simp only [Act.put, List.setIfInBounds_toArray, List.set_cons_zero, List.set_cons_succ]))
        | (refine planWp_do rfl rfl ?_ (fun K hK => ?_); (focus rfl); go_simp; (try go_wp2_with fail); refine hK.out _ _ ?_ (fun hHeld2 => ?_); (focus exact hHeld); clear hK K hHeld; have hHeld := hHeld2; clear hHeld2; (try simp only [Act.put, List.setIfInBounds_toArray, List.set_cons_zero, List.set_cons_succ])))
      refine planWp_nil ?_
      go_wp2
      go_ret
      exact ⟨rfl, (HCW4.out.trans HC7.out).drew⟩
    · obtain rfl : z = rI := by have := HWR.out; omega
      have d1 : (z != wI) = true := by simpa using c1
      clear c1
      go_upto_region 13 with (first
        | (go_at_call 72; refine (HOP.out _).mono ?_; rintro e w5 ⟨rfl, rfl⟩)
        | (go_at_call 36; refine (HRO.out _ HCW4.out).mono ?_; rintro e w7 ⟨⟨rv, rfl⟩, hc7⟩; have HC7 := Lib.hid hc7; clear hc7))
      have hB7 := HBO.out.keep HC7.out (by simp)
      have KS : (fun V : World => V.cell? ⟨W.heap.size, 0, none⟩ = some (.slice ta ts.length tc) ∧ V.cell? ⟨W.heap.size + 1, 4, none⟩ = some (.int .u32 nn) ∧ V.cell? ⟨w3.heap.size, 1, none⟩ = some (.int .i64 w) ∧ V.cell? ⟨b1, o1 + i * 7 + 5, none⟩ = some (.int .i64 ow)) (World.drew w7) := ⟨((HBS.out.keep HK4.out (by simp)).keep HC7.out (by simp)).cell rfl, ((HBI.out.keep HK4.out (by simp)).keep HC7.out (by simp)).cell rfl, hB7.cell rfl, HQ5.out _ (HCW4.out.trans HC7.out).drew⟩
      clear hB7
      have hHeld : (fun V : World => V.cell? ⟨W.heap.size, 0, none⟩ = some (.slice ta ts.length tc) ∧ V.cell? ⟨W.heap.size + 1, 4, none⟩ = some (.int .u32 nn) ∧ V.cell? ⟨w3.heap.size, 1, none⟩ = some (.int .i64 w) ∧ V.cell? ⟨b1, o1 + i * 7 + 5, none⟩ = some (.int .i64 ow)) (World.drew w7) := KS
      refine wp_region_plan (fun V : World => V.cell? ⟨W.heap.size, 0, none⟩ = some (.slice ta ts.length tc) ∧ V.cell? ⟨W.heap.size + 1, 4, none⟩ = some (.int .u32 nn) ∧ V.cell? ⟨w3.heap.size, 1, none⟩ = some (.int .i64 w) ∧ V.cell? ⟨b1, o1 + i * 7 + 5, none⟩ = some (.int .i64 ow)) [(0, true, some 62), (1, true, some 63), (2, true, some 64), (3, true, some 65), (4, true, some 66), (5, true, some 67), (6, true, some 68), (7, true, some 69), (8, true, some 70), (9, true, some 71), (10, true, some 72), (11, true, some 73), (12, true, some 74), (13, true, some 61)] (by kernel_rfl) (by kernel_rfl) (by kernel_rfl) (by kernel_rfl) (fun d c a v w h => by cases d <;> exact h) hHeld ?_
      repeat (first
        | (refine planWp_read (v := ?_) rfl rfl ?_ ?_ ?_; rotate_left; (focus rfl); (focus (intro u hSw; (try dsimp only at hSw); obtain ⟨u0, u1, u2, u3⟩ := hSw; go_simp; (try with_reducible rfl))); (try simp only [Act.put, List.setIfInBounds_toArray, List.set_cons_zero, List.set_cons_succ]))
        | (refine planWp_skip rfl rfl ?_ ?_; (focus rfl); (try simp only [Act.put, List.setIfInBounds_toArray, List.set_cons_zero, List.set_cons_succ]))
        | (refine planWp_leave rfl rfl ?_ hHeld ?_; (focus rfl); (try simp only [Act.put, List.setIfInBounds_toArray, List.set_cons_zero, List.set_cons_succ]))
        | (refine planWp_do rfl rfl ?_ (fun K hK => ?_); (focus rfl); go_simp; (try go_wp2_with fail); refine hK.out _ _ ?_ (fun hHeld2 => ?_); (focus exact hHeld); clear hK K hHeld; have hHeld := hHeld2; clear hHeld2; (try simp only [Act.put, List.setIfInBounds_toArray, List.set_cons_zero, List.set_cons_succ])))
      refine planWp_nil ?_
      go_wp2
      go_ret
      exact ⟨rfl, (HCW4.out.trans HC7.out).drew⟩
set_option maxHeartbeats 16000000 in
theorem scode_any (ta : Option Addr) (tc : Nat) (oa : Option Addr) (oc : Nat) (ts : List DT) (os : List DO) (W : World) (h : SysOK W ta tc oa oc ts os) :
    Calls Tryz.prog 64 #[.agg #[.slice ta ts.length tc, .slice oa os.length oc]] W fun e W' => e = .returned (.tuple #[.agg #[.int .i64 (-1), .int .i64 (-1), .int .i64 (-1)], .int .i64 0]) ∧ Chg [] W W' := by
  obtain ⟨-, b1, o1, hx1, hc1⟩ := tasks_at h.T
  have HL := Lib.hid h.lens
  have HX := Lib.hid hx1
  have HQ := Lib.hid hc1
  have HCD : Hid (∀ (m : Nat) (d : DT), ts[m]? = some d → ReadsC W (.slice d.t.ca d.t.cl d.t.cc) d.code ∧ d.t.cl = d.code.length ∧ d.code.length ≤ 64) := Lib.hid (fun m d hd => ⟨h.T.2 d (List.mem_of_getElem? hd), (h.T.2 d (List.mem_of_getElem? hd)).len, (h.code hd).len.2⟩)
  have HCL := Lib.hid (fun (m : Nat) (dt : DT) (hdt : ts[m]? = some dt) (op ja ib jc nn : Int) (hc : (⟨op, ja, ib, jc, nn⟩ : Ins) ∈ dt.code) V (hV : Chg [] W V) => scall_any ta tc oa oc ts os m op ja ib jc nn V (h.chg hV) dt hdt hc)
  have HC2 : Hid (Chg [] W ((W.alloc (.cells #[.slice ta ts.length tc, .slice oa os.length oc] 25)).alloc (.cells #[.int .i64 0, .int .i64 0, .int .i64 0] 49))) := Lib.hid (((Chg.refl [] W).alloc _).alloc _)
  have HB0 : Hid (Blk ((W.alloc (.cells #[.slice ta ts.length tc, .slice oa os.length oc] 25)).alloc (.cells #[.int .i64 0, .int .i64 0, .int .i64 0] 49)) W.heap.size #[.slice ta ts.length tc, .slice oa os.length oc] 25) := Lib.hid ((Blk.new W _ _).alloc _)
  have HB1 : Hid (Blk ((W.alloc (.cells #[.slice ta ts.length tc, .slice oa os.length oc] 25)).alloc (.cells #[.int .i64 0, .int .i64 0, .int .i64 0] 49)) (W.heap.size + 1) #[.int .i64 0, .int .i64 0, .int .i64 0] 49) := Lib.hid (by
    have := Blk.new (W.alloc (.cells #[.slice ta ts.length tc, .slice oa os.length oc] 25)) #[.int .i64 0, .int .i64 0, .int .i64 0] 49
    rwa [show (W.alloc (.cells #[.slice ta ts.length tc, .slice oa os.length oc] 25)).heap.size = W.heap.size + 1 by simp] at this)
  clear h hx1 hc1
  go_enter Tryz.func64, Tryz.ntmps64
  go_upto_region 1 with fail
  obtain ⟨w2, hw2⟩ : ∃ x, x = (W.alloc (.cells #[.slice ta ts.length tc, .slice oa os.length oc] 25)).alloc (.cells #[.int .i64 0, .int .i64 0, .int .i64 0] 49) := ⟨_, rfl⟩
  rw [← hw2] at HC2 HB0 HB1
  try rw [← hw2]
  clear hw2
  have s0 := HB0.out.cell (o := 0) (v := .slice ta ts.length tc) rfl
  go_wp2_with fail
  clear s0
  go_loopw [12] (fun q wr => ∃ m : Nat, m ≤ ts.length ∧ q = .int .i64 (m : Int) ∧ Hid (Chg [] w2 wr)) (fun q _ => ts.length - (intOf q).toNat)
  case atStart => exact ⟨0, Nat.zero_le _, rfl, Lib.hid (Chg.refl _ _)⟩
  case round =>
    obtain ⟨m, hm, rfl, HJ⟩ := hrel
    have HJW : Hid (Chg [] W wr) := Lib.hid (HC2.out.trans HJ.out)
    by_cases hlm : m < ts.length
    · have HLM := Lib.hid hlm
      have mm : (m : Int) < (ts.length : Int) := by omega
      have g3 := HX.out m hlm
      obtain ⟨d, hd⟩ : ∃ d, ts[m]? = some d := ⟨_, List.getElem?_eq_getElem hlm⟩
      obtain ⟨⟨q0, q1, q2, q3⟩, q4, q5, q6⟩ := HQ.out wr HJW.out m d hd
      obtain ⟨hrc, hcl, hc64⟩ := HCD.out m d hd
      have hca := HCL.out m d hd
      obtain ⟨⟨tk, tp, tpe, tof, td, tow, tca, tcl, tcc⟩, code⟩ := d
      simp only at q0 q1 q2 q3 q4 q5 q6 hrc hcl hc64 hca
      subst hcl
      obtain ⟨-, b3, o3, hx3, hc3⟩ := code_at hrc
      have HX3 := Lib.hid hx3
      have HQ3 := Lib.hid hc3
      have HCA := Lib.hid hca
      have HC64 := Lib.hid hc64
      have HA : Hid (Chg [] wr (wr.alloc (.cells #[.int .i64 tk, .int .i64 tp, .int .i64 tpe, .int .i64 tof, .int .i64 td, .int .i64 tow, .slice tca code.length tcc] 31))) := Lib.hid ((Chg.refl _ _).alloc _)
      have k9 : IntKind.i64.wrap ((m : Int) + 1) = (m : Int) + 1 := by rw [IntKind.wrap_i64]; have := HL.out; omega
      clear hd hrc hc64 hca hx3 hc3 hlm hm
      go_wp2_with fail
      obtain ⟨w5, hw5⟩ : ∃ x, x = wr.alloc (.cells #[.int .i64 tk, .int .i64 tp, .int .i64 tpe, .int .i64 tof, .int .i64 td, .int .i64 tow, .slice tca code.length tcc] 31) := ⟨_, rfl⟩
      rw [← hw5] at HA
      try rw [← hw5]
      clear hw5 q0 q1 q2 q3 q4 q5 q6 g3
      have HW5 : Hid (Chg [] W w5) := Lib.hid (HJW.out.trans HA.out)
      go_loopw [20] (fun p wr => ∃ j : Nat, j ≤ code.length ∧ p = .int .i64 (j : Int) ∧ Hid (Chg [] w5 wr)) (fun p _ => code.length - (intOf p).toNat)
      case atStart => exact ⟨0, Nat.zero_le _, rfl, Lib.hid (Chg.refl _ _)⟩
      case round =>
        obtain ⟨j, hj, rfl, HI⟩ := hrel
        have HIW : Hid (Chg [] W wr) := Lib.hid (HW5.out.trans HI.out)
        by_cases hlt : j < code.length
        · have HLT := Lib.hid hlt
          have m5 : (j : Int) < (code.length : Int) := by omega
          have g5 := HX3.out j hlt
          obtain ⟨⟨op, ja, ib, jc, nn⟩, hck⟩ : ∃ t, code[j]? = some t := ⟨_, List.getElem?_eq_getElem hlt⟩
          obtain ⟨q0, q1, q2, q3, q4⟩ := HQ3.out wr HIW.out j _ hck
          simp only at q0 q1 q2 q3 q4
          have HCX := Lib.hid (HCA.out op ja ib jc nn (List.mem_of_getElem? hck))
          have HA2 : Hid (Chg [] wr (wr.alloc (.cells #[.int .i64 op, .int .i64 ja, .int .i64 ib, .int .i64 jc, .int .u32 nn] 53))) := Lib.hid ((Chg.refl _ _).alloc _)
          have k5 : IntKind.i64.wrap ((j : Int) + 1) = (j : Int) + 1 := by rw [IntKind.wrap_i64]; have := HC64.out; omega
          have HS := (((HB0.out.keep HJ.out (by simp)).keep HA.out (by simp)).keep HI.out (by simp)).keep HA2.out (by simp)
          have s0 := HS.cell (o := 0) (v := .slice ta ts.length tc) rfl
          have s1 := HS.cell (o := 1) (v := .slice oa os.length oc) rfl
          clear HS hck hj hlt
          go_wp2_with (go_at_call 92; refine (HCX.out _ (HIW.out.trans HA2.out)).mono ?_; rintro e w6 ⟨rfl, hc6⟩; have HC6 := Lib.hid (HA2.out.trans hc6); clear hc6)
          have hlt := HLT.out
          go_roundw
          case rel => exact ⟨j + 1, by omega, by go_num, Lib.hid (HI.out.trans HC6.out)⟩
          case measure => (simp [intOf]) <;> omega
        · obtain rfl : code.length = j := by omega
          have m5 : ¬ (code.length : Int) < (code.length : Int) := by omega
          clear hlt hj
          go_wp2
          have hlt := HLM.out
          go_roundw
          case rel => exact ⟨m + 1, by omega, by go_num, Lib.hid ((HJ.out.trans HA.out).trans HI.out)⟩
          case measure => (simp [intOf]) <;> omega
    · obtain rfl : ts.length = m := by omega
      clear hlm hm
      have HR9 := Lib.hid (HB1.out.keep HJ.out (by simp))
      go_wp2_with (first
        | (go_at_call 61; refine (nowhere_any _).mono ?_; rintro e w8 ⟨rfl, hc8⟩; have HC8 := Lib.hid hc8; have HR8 := Lib.hid (HR9.out.keep hc8 (by simp)); clear hc8)
        | (refine Go.Proofs.YtkedegbpkkgeaaaGreat.blk.wpList_store_blk rfl 49 (.tmp 2) (.tmp 39) rfl (W.heap.size + 1) #[.int .i64 (-1), .int .i64 (-1), .int .i64 (-1)] rfl rfl HR8.out szSpot rfl (by simp [Value.oneCell']) ?_; intro w9 hb9 hc9; have HB9 := Lib.hid hb9; have HC9 := Lib.hid hc9; clear hb9 hc9))
      refine bodyPost_ret (results_row_tmpF rfl _ _ (W.heap.size + 1) 49 _ (0, 0) _ rfl HB9.out Tryz.underlying49 rfl szSpot) rfl ?_
      exact ⟨rfl, (HJW.out.trans HC8.out).into HC9.out (by simp)⟩
end Go.Proofs.YtkedegbpkkgeaaaGreat.tf
/- TopFits: system.Check. -/
namespace Go.Proofs.YtkedegbpkkgeaaaGreat.tf
open Go Go.RowKit Go.Proofs.YtkedegbpkkgeaaaGreat.kit Go.Proofs.YtkedegbpkkgeaaaGreat.obj Go.Proofs.YtkedegbpkkgeaaaGreat.mem Go.Proofs.YtkedegbpkkgeaaaGreat.lay Go.Proofs.YtkedegbpkkgeaaaGreat.isa
set_option linter.unusedVariables false
set_option linter.unusedSimpArgs false
set_option maxRecDepth 20000

set_option maxHeartbeats 8000000 in
theorem scheck_any (ta : Option Addr) (tc : Nat) (oa : Option Addr) (oc : Nat) (ts : List DT) (os : List DO) (W : World) (h : SysOK W ta tc oa oc ts os) (hof : ofCode (ts.map DT.t) (os.map DO.o) = 0) :
    Calls Tryz.prog 25 #[.agg #[.slice ta ts.length tc, .slice oa os.length oc]] W fun e W' => e = .returned (.tuple #[.agg #[.int .i64 (-1), .int .i64 (-1), .int .i64 (-1)], .int .i64 0]) ∧ Chg [] W W' := by
  have hl := h.lens
  have HC2 : Hid (Chg [] W ((W.alloc (.cells #[.slice ta ts.length tc, .slice oa os.length oc] 25)).alloc (.cells #[.int .i64 0, .int .i64 0, .int .i64 0] 49))) := Lib.hid (((Chg.refl [] W).alloc _).alloc _)
  have HB0 : Hid (Blk ((W.alloc (.cells #[.slice ta ts.length tc, .slice oa os.length oc] 25)).alloc (.cells #[.int .i64 0, .int .i64 0, .int .i64 0] 49)) W.heap.size #[.slice ta ts.length tc, .slice oa os.length oc] 25) := Lib.hid ((Blk.new W _ _).alloc _)
  have HB1 : Hid (Blk ((W.alloc (.cells #[.slice ta ts.length tc, .slice oa os.length oc] 25)).alloc (.cells #[.int .i64 0, .int .i64 0, .int .i64 0] 49)) (W.heap.size + 1) #[.int .i64 0, .int .i64 0, .int .i64 0] 49) := Lib.hid (by
    have := Blk.new (W.alloc (.cells #[.slice ta ts.length tc, .slice oa os.length oc] 25)) #[.int .i64 0, .int .i64 0, .int .i64 0] 49
    rwa [show (W.alloc (.cells #[.slice ta ts.length tc, .slice oa os.length oc] 25)).heap.size = W.heap.size + 1 by simp] at this)
  have HT := Lib.hid (fun V (hV : Chg [] W V) => stasks_any ta tc oa oc ts os V (h.chg hV))
  have HO := Lib.hid (fun V (hV : Chg [] W V) => sobjects_any ta tc oa oc ts os V (h.chg hV))
  have HD := Lib.hid (fun V (hV : Chg [] W V) => scode_any ta tc oa oc ts os V (h.chg hV))
  have hok : lensOk (ts.map DT.t) (os.map DO.o) = true ∧ sumI (lensL (ts.map DT.t) (os.map DO.o)) ≤ 4096 := by
    unfold ofCode at hof
    by_cases h1 : lensOk (ts.map DT.t) (os.map DO.o) = true
    · rw [if_pos h1] at hof
      by_cases h2 : sumI (lensL (ts.map DT.t) (os.map DO.o)) ≤ 4096
      · exact ⟨h1, h2⟩
      · rw [if_neg h2] at hof; exact absurd hof (by decide)
    · rw [if_neg h1] at hof; exact absurd hof (by decide)
  have HF := Lib.hid (fun V (hV : Chg [] W V) => Of_ok ta ts.length tc oa os.length oc (ts.map DT.t) (os.map DO.o) V (h.chg hV).T.1 (h.chg hV).O.1 (by intro o ho; obtain ⟨d, hd, rfl⟩ := List.mem_map.1 ho; exact h.w d hd) (by simp only [List.length_map]; omega) hok.1 hok.2)
  have n0 : ((ts.length : Int) == 0) = false := beq_eq_false_iff_ne.2 (by omega)
  have n1 : ¬ (8 : Int) < (ts.length : Int) := by omega
  have n2 : ¬ (8 : Int) < (os.length : Int) := by omega
  have n3 : ¬ (ts.length : Int) = 0 := by omega
  obtain ⟨ssz, hss⟩ : ∃ x, sumI (lensL (ts.map DT.t) (os.map DO.o)) = x := ⟨_, rfl⟩
  rw [hss] at HF
  clear h hl hof hok hss
  go_enter Tryz.func25, Tryz.ntmps25
  go_upto_region 1 with fail
  obtain ⟨w2, hw2⟩ : ∃ x, x = (W.alloc (.cells #[.slice ta ts.length tc, .slice oa os.length oc] 25)).alloc (.cells #[.int .i64 0, .int .i64 0, .int .i64 0] 49) := ⟨_, rfl⟩
  rw [← hw2] at HC2 HB0 HB1
  try rw [← hw2]
  clear hw2
  have s0 := HB0.out.cell (o := 0) (v := .slice ta ts.length tc) rfl
  have s1 := HB0.out.cell (o := 1) (v := .slice oa os.length oc) rfl
  go_upto_region 6 with (go_at_call 62; refine (HT.out _ HC2.out).mono ?_; rintro e w3 ⟨rfl, hc3⟩; have HK3 := Lib.hid (hc3.alloc (.cells #[.int .i64 (-1), .int .i64 (-1), .int .i64 (-1)] 49)); clear hc3)
  clear s0 s1
  obtain ⟨w4, hw4⟩ : ∃ x, x = w3.alloc (.cells #[.int .i64 (-1), .int .i64 (-1), .int .i64 (-1)] 49) := ⟨_, rfl⟩
  rw [← hw4] at HK3
  try rw [← hw4]
  clear hw4
  have s0 := (HB0.out.keep HK3.out (by simp)).cell (o := 0) (v := .slice ta ts.length tc) rfl
  have s1 := (HB0.out.keep HK3.out (by simp)).cell (o := 1) (v := .slice oa os.length oc) rfl
  go_upto_region 9 with (go_at_call 63; refine (HO.out _ (HC2.out.trans HK3.out)).mono ?_; rintro e w5 ⟨rfl, hc5⟩; have HK5 := Lib.hid ((HK3.out.trans hc5).alloc (.cells #[.int .i64 (-1), .int .i64 (-1), .int .i64 (-1)] 49)); clear hc5)
  clear s0 s1
  obtain ⟨w6, hw6⟩ : ∃ x, x = w5.alloc (.cells #[.int .i64 (-1), .int .i64 (-1), .int .i64 (-1)] 49) := ⟨_, rfl⟩
  rw [← hw6] at HK5
  try rw [← hw6]
  clear hw6
  have s0 := (HB0.out.keep HK5.out (by simp)).cell (o := 0) (v := .slice ta ts.length tc) rfl
  have s1 := (HB0.out.keep HK5.out (by simp)).cell (o := 1) (v := .slice oa os.length oc) rfl
  go_upto_region 12 with (go_at_call 64; refine (HD.out _ (HC2.out.trans HK5.out)).mono ?_; rintro e w7 ⟨rfl, hc7⟩; have HK7 := Lib.hid ((HK5.out.trans hc7).alloc (.cells #[.int .i64 (-1), .int .i64 (-1), .int .i64 (-1)] 49)); clear hc7)
  clear s0 s1
  obtain ⟨w8, hw8⟩ : ∃ x, x = w7.alloc (.cells #[.int .i64 (-1), .int .i64 (-1), .int .i64 (-1)] 49) := ⟨_, rfl⟩
  rw [← hw8] at HK7
  try rw [← hw8]
  clear hw8
  have s0 := (HB0.out.keep HK7.out (by simp)).cell (o := 0) (v := .slice ta ts.length tc) rfl
  have s1 := (HB0.out.keep HK7.out (by simp)).cell (o := 1) (v := .slice oa os.length oc) rfl
  go_upto_region 13 with (go_at_call 65; refine (HF.out _ (HC2.out.trans HK7.out)).mono ?_; rintro e w9 ⟨v1, v2, rfl, ho1, ho2, hc9⟩; obtain ⟨a1, d1, rfl⟩ := own_open ho1; obtain ⟨a2, d2, rfl⟩ := own_open ho2; have HK9 := Lib.hid (HK7.out.trans hc9); clear hc9 ho1 ho2)
  clear s0 s1
  have HLX : Hid (∀ o, Chg [] w2 (w9.alloc o)) := Lib.hid (fun o => HK9.out.alloc o)
  go_wp2_with (first
    | (go_at_call 61; refine (nowhere_any _).mono ?_; rintro e wx ⟨rfl, hcx⟩; have HCX := Lib.hid ((HLX.out _).trans hcx); have HRX := Lib.hid (HB1.out.keep HCX.out (by simp)); clear hcx)
    | (refine Go.Proofs.YtkedegbpkkgeaaaGreat.blk.wpList_store_blk rfl 49 (.tmp 2) (.tmp 61) rfl (W.heap.size + 1) #[.int .i64 (-1), .int .i64 (-1), .int .i64 (-1)] rfl rfl HRX.out szSpot rfl (by simp [Value.oneCell']) ?_; intro wy hby hcy; have HBY := Lib.hid hby; have HCY := Lib.hid hcy; clear hby hcy))
  refine bodyPost_ret (results_row_tmpF rfl _ _ (W.heap.size + 1) 49 _ (0, 0) _ rfl HBY.out Tryz.underlying49 rfl szSpot) rfl ?_
  exact ⟨rfl, (HC2.out.trans HCX.out).into HCY.out (by simp)⟩
end Go.Proofs.YtkedegbpkkgeaaaGreat.tf
/- TopFits: admit: verdict, hopeless, spoilt. -/
namespace Go.Proofs.YtkedegbpkkgeaaaGreat.tf
open Go Go.RowKit Go.Proofs.YtkedegbpkkgeaaaGreat.kit Go.Proofs.YtkedegbpkkgeaaaGreat.obj Go.Proofs.YtkedegbpkkgeaaaGreat.mem Go.Proofs.YtkedegbpkkgeaaaGreat.lay Go.Proofs.YtkedegbpkkgeaaaGreat.isa
set_option linter.unusedVariables false
set_option linter.unusedSimpArgs false
set_option maxRecDepth 20000

open Go.Proofs.YtkedegbpkkgeaaaGreat.word
theorem szVerdict : (Tryz.prog.info? 40).map (·.size) = some 4 := by kernel_rfl
theorem verdict_any (e i k : Int) (W : World) : Calls Tryz.prog 26 #[.int .i64 e, .int .i64 i, .int .i64 k] W fun r W' => r = .returned (.agg #[.int .i64 e, .int .i64 i, .int .i64 k, .slice none 0 0]) ∧ Chg [] W W' := by
  have HB : Hid (Blk (W.alloc (.cells #[.int .i64 0, .int .i64 0, .int .i64 0, .slice none 0 0] 40)) W.heap.size #[.int .i64 0, .int .i64 0, .int .i64 0, .slice none 0 0] 40) := Lib.hid (Blk.new W _ _)
  have HC : Hid (Chg [] W (W.alloc (.cells #[.int .i64 0, .int .i64 0, .int .i64 0, .slice none 0 0] 40))) := Lib.hid ((Chg.refl [] W).alloc _)
  go_enter Tryz.func26, Tryz.ntmps26
  go_upto_region 1 with fail
  go_wp2_with (refine Go.Proofs.YtkedegbpkkgeaaaGreat.blk.wpList_store_blk rfl 40 (.tmp 6) (.tmp 10) rfl W.heap.size #[.int .i64 e, .int .i64 i, .int .i64 k, .slice none 0 0] rfl rfl HB.out szVerdict rfl (by simp [Value.oneCell']) ?_; intro w9 hb9 hc9; have HB9 := Lib.hid hb9; have HC9 := Lib.hid hc9; clear hb9 hc9)
  refine bodyPost_ret (results_row_one rfl _ _ W.heap.size 40 _ (0, 0) _ rfl HB9.out Tryz.underlying40 rfl szVerdict) rfl ?_
  exact ⟨rfl, HC.out.into HC9.out (by simp)⟩
set_option maxHeartbeats 8000000 in
theorem ahopeless_any (ta : Option Addr) (tc : Nat) (oa : Option Addr) (oc : Nat) (ts : List DT) (os : List DO) (W : World) (h : SysOK W ta tc oa oc ts os) (hh : ∀ i k : Nat, i < ts.length → k < os.length → hopeM (sys ts os) i k = false) :
    Calls Tryz.prog 27 #[.agg #[.slice ta ts.length tc, .slice oa os.length oc]] W fun r W' => r = .returned (.tuple #[.int .i64 0, .int .i64 0, .bool false]) ∧ Chg [] W W' := by
  have HL := Lib.hid h.lens
  have HH := Lib.hid (fun (i k : Nat) (hi : i < ts.length) (hk : k < os.length) V (hV : Chg [] W V) => by
    have h2 := hopeless_any ta tc oa oc ts os i k V (h.chg hV) hi hk
    rw [hh i k hi hk] at h2
    exact h2)
  have HC1 : Hid (Chg [] W (W.alloc (.cells #[.slice ta ts.length tc, .slice oa os.length oc] 25))) := Lib.hid ((Chg.refl [] W).alloc _)
  have HB0 : Hid (Blk (W.alloc (.cells #[.slice ta ts.length tc, .slice oa os.length oc] 25)) W.heap.size #[.slice ta ts.length tc, .slice oa os.length oc] 25) := Lib.hid (Blk.new W _ _)
  clear h hh
  go_enter Tryz.func27, Tryz.ntmps27
  go_upto_region 1 with fail
  obtain ⟨w1, hw1⟩ : ∃ x, x = W.alloc (.cells #[.slice ta ts.length tc, .slice oa os.length oc] 25) := ⟨_, rfl⟩
  rw [← hw1] at HC1 HB0
  try rw [← hw1]
  clear hw1
  have s0 := HB0.out.cell (o := 0) (v := .slice ta ts.length tc) rfl
  go_wp2_with fail
  clear s0
  go_loopw [10] (fun q wr => ∃ m : Nat, m ≤ ts.length ∧ q = .int .i64 (m : Int) ∧ Hid (Chg [] w1 wr)) (fun q _ => ts.length - (intOf q).toNat)
  case atStart => exact ⟨0, Nat.zero_le _, rfl, Lib.hid (Chg.refl _ _)⟩
  case round =>
    obtain ⟨m, hm, rfl, HJ⟩ := hrel
    by_cases hlm : m < ts.length
    · have HLM := Lib.hid hlm
      have mm : (m : Int) < (ts.length : Int) := by omega
      have k9 : IntKind.i64.wrap ((m : Int) + 1) = (m : Int) + 1 := by rw [IntKind.wrap_i64]; have := HL.out; omega
      have s1 := (HB0.out.keep HJ.out (by simp)).cell (o := 1) (v := .slice oa os.length oc) rfl
      clear hlm hm
      go_wp2_with fail
      clear s1
      go_loopw [16] (fun p wx => ∃ j : Nat, j ≤ os.length ∧ p = .int .i64 (j : Int) ∧ Hid (Chg [] w1 wx)) (fun p _ => os.length - (intOf p).toNat)
      case atStart => exact ⟨0, Nat.zero_le _, rfl, HJ⟩
      case round =>
        clear HJ
        obtain ⟨j, hj, rfl, HI⟩ := hrel
        by_cases hlt : j < os.length
        · have HLT := Lib.hid hlt
          have m5 : (j : Int) < (os.length : Int) := by omega
          have HHX := Lib.hid (HH.out m j HLM.out hlt)
          have k5 : IntKind.i64.wrap ((j : Int) + 1) = (j : Int) + 1 := by rw [IntKind.wrap_i64]; have := HL.out; omega
          have B := HB0.out.keep HI.out (by simp)
          have s0 := B.cell (o := 0) (v := .slice ta ts.length tc) rfl
          have s1 := B.cell (o := 1) (v := .slice oa os.length oc) rfl
          clear B hlt hj
          go_wp2_with (go_at_call 7; refine (HHX.out _ (HC1.out.trans HI.out)).mono ?_; rintro e w6 ⟨rfl, hc6⟩; have HC6 := Lib.hid (HI.out.trans hc6); clear hc6)
          have hlt := HLT.out
          go_roundw
          case rel => exact ⟨j + 1, by omega, by go_num, HC6⟩
          case measure => (simp [intOf]) <;> omega
        · obtain rfl : os.length = j := by omega
          have m5 : ¬ (os.length : Int) < (os.length : Int) := by omega
          clear hlt hj
          go_wp2
          have hlt := HLM.out
          go_roundw
          case rel => exact ⟨m + 1, by omega, by go_num, HI⟩
          case measure => (simp [intOf]) <;> omega
    · obtain rfl : ts.length = m := by omega
      clear hlm hm
      go_wp2
      go_ret3
      exact ⟨rfl, HC1.out.trans HJ.out⟩
set_option maxHeartbeats 8000000 in
theorem spoilt_any (ta : Option Addr) (tc : Nat) (oa : Option Addr) (oc : Nat) (ts : List DT) (os : List DO) (i kk : Nat) (r : Int) (W : World) (h : SysOK W ta tc oa oc ts os) (hi : i < ts.length) (hk : kk < os.length) (hr : r ≤ 9223372036854775807) (hs : spoiltM (sys ts os) i kk r = 0) :
    Calls Tryz.prog 66 #[.agg #[.slice ta ts.length tc, .slice oa os.length oc], .int .i64 (i : Int), .int .i64 (kk : Int), .int .i64 r] W fun e W' => e = .returned (.int .i64 0) ∧ Chg [] W W' := by
  obtain ⟨-, b2, o2, hx2, hc2⟩ := objs_at h.O
  obtain ⟨d, hd⟩ : ∃ d, os[kk]? = some d := ⟨_, List.getElem?_eq_getElem hk⟩
  have g1 := hx2 kk hk
  have hwx := fun V (hV : Chg [] W V) => iwrites_any ta tc oa oc ts os i kk r V (h.chg hV) hi hk hr
  have hfx := fun V (hV : Chg [] W V) => ifails_any ta tc oa oc ts os i kk r V (h.chg hV) hi hk hr
  have hw0 := wrM_nn (sys ts os) i kk r
  have hw1 := wrM_le (sys ts os) i kk r
  unfold spoiltM at hs
  rw [sys_o ts hd] at hs
  obtain ⟨x, hx⟩ : ∃ x, wrM (sys ts os) i kk r = x := ⟨_, rfl⟩
  obtain ⟨y, hy⟩ : ∃ y, failsM (sys ts os) i kk r = y := ⟨_, rfl⟩
  rw [hx] at hwx hs hw0 hw1
  rw [hy] at hfx hs
  have HC1 : Hid (Chg [] W (W.alloc (.cells #[.slice ta ts.length tc, .slice oa os.length oc] 25))) := Lib.hid ((Chg.refl [] W).alloc _)
  have HB0 : Hid (Blk (W.alloc (.cells #[.slice ta ts.length tc, .slice oa os.length oc] 25)) W.heap.size #[.slice ta ts.length tc, .slice oa os.length oc] 25) := Lib.hid (Blk.new W _ _)
  obtain ⟨⟨q0, q1, q2, q3⟩, q4, q5, q6, q7⟩ := hc2 _ HC1.out kk d hd
  obtain ⟨⟨k, w, s, c, st, ia, il, ic, wri, ra, rl, rc⟩, ini, rds⟩ := d
  simp only [DO.p] at q0 q1 q2 q3 q4 q5 q6 q7 hs
  have kx : IntKind.i64.wrap (2 + x) = 2 + x := by rw [IntKind.wrap_i64]; omega
  have HS := Lib.hid hs
  have HWR := Lib.hid hwx
  have HFR := Lib.hid hfx
  clear h hi hk hr hs hx2 hc2 hd hwx hfx hw0 hw1 hx hy
  go_enter Tryz.func66, Tryz.ntmps66
  go_upto_region 2 with fail
  obtain ⟨w1, hw1⟩ : ∃ x, x = (W.alloc (.cells #[.slice ta ts.length tc, .slice oa os.length oc] 25)) := ⟨_, rfl⟩
  rw [← hw1] at HC1 HB0
  try rw [← hw1]
  have HSZ : Hid (w1.heap.size = W.heap.size + 1) := Lib.hid (by rw [hw1]; simp)
  clear hw1 q0 q1 q2 q3 q4 q5 q6 q7 g1
  try rw [← HSZ.out]
  obtain ⟨w2, hw2⟩ : ∃ x, x = w1.alloc (.cells #[.int .i64 k, .int .i64 w, .int .i64 s, .int .i64 c, .int .u32 st, .slice ia il ic, .int .i64 wri, .slice ra rl rc] 46) := ⟨_, rfl⟩
  have HBO : Hid (Blk w2 w1.heap.size #[.int .i64 k, .int .i64 w, .int .i64 s, .int .i64 c, .int .u32 st, .slice ia il ic, .int .i64 wri, .slice ra rl rc] 46) := Lib.hid (by rw [hw2]; exact Blk.new w1 _ _)
  have HK2 : Hid (Chg [] w1 w2) := Lib.hid (by rw [hw2]; exact (Chg.refl _ _).alloc _)
  rw [← hw2]
  clear hw2
  have HC2 : Hid (Chg [] W w2) := Lib.hid (HC1.out.trans HK2.out)
  have z0 := HBO.out.cell (o := 0) (v := .int .i64 k) rfl
  by_cases h4 : k = 4
  · subst h4
    have HWX := HWR
    have m1 : ¬ s < 2 + x := by intro h5; have h := HS.out; simp [h5] at h
    go_upto_region 4 with fail
    have KEEP : Hid (∀ V, Chg [] w2 V → (fun V : World => (V.cell? ⟨W.heap.size, 0, none⟩ = some (.slice ta ts.length tc) ∧ V.cell? ⟨W.heap.size, 1, none⟩ = some (.slice oa os.length oc)) ∧ V.cell? ⟨w1.heap.size, 2, none⟩ = some (.int .i64 s) ∧ Hid (Chg [] w2 V)) V) := Lib.hid (fun V hV => ⟨⟨(HB0.out.keep (HK2.out.trans hV) (by simp)).cell rfl, (HB0.out.keep (HK2.out.trans hV) (by simp)).cell rfl⟩, (HBO.out.keep hV (by simp)).cell rfl, Lib.hid hV⟩)
    have hHeld : (fun V : World => (V.cell? ⟨W.heap.size, 0, none⟩ = some (.slice ta ts.length tc) ∧ V.cell? ⟨W.heap.size, 1, none⟩ = some (.slice oa os.length oc)) ∧ V.cell? ⟨w1.heap.size, 2, none⟩ = some (.int .i64 s) ∧ Hid (Chg [] w2 V)) (World.drew w2) := KEEP.out _ (Chg.refl _ _).drew
    refine wp_region_plan (fun V : World => (V.cell? ⟨W.heap.size, 0, none⟩ = some (.slice ta ts.length tc) ∧ V.cell? ⟨W.heap.size, 1, none⟩ = some (.slice oa os.length oc)) ∧ V.cell? ⟨w1.heap.size, 2, none⟩ = some (.int .i64 s) ∧ Hid (Chg [] w2 V)) [(0, true, some 19), (1, true, some 20), (2, true, some 21), (3, true, some 22), (4, true, some 23), (5, true, some 24), (6, false, some 25), (7, true, some 26), (8, true, some 27)] (by kernel_rfl) (by kernel_rfl) (by kernel_rfl) (by kernel_rfl) (fun d c a v w h => by cases d <;> exact h) hHeld ?_
    repeat (first
      | (refine planWp_read (v := ?_) rfl rfl ?_ ?_ ?_; rotate_left; (focus rfl); (focus (intro u hSw; (try dsimp only at hSw); obtain ⟨⟨u0, u1⟩, u2, -⟩ := hSw; go_simp; (try with_reducible rfl))); (try simp only [Act.put, List.setIfInBounds_toArray, List.set_cons_zero, List.set_cons_succ]))
      | (refine planWp_skip rfl rfl ?_ ?_; (focus rfl); (try simp only [Act.put, List.setIfInBounds_toArray, List.set_cons_zero, List.set_cons_succ]))
      | (refine planWp_leave rfl rfl ?_ hHeld ?_; (focus rfl); (try simp only [Act.put, List.setIfInBounds_toArray, List.set_cons_zero, List.set_cons_succ]))
      | (refine planWp_do rfl rfl ?_ (fun K hK => ?_); (focus rfl); go_simp; (try go_wp2_with (go_at_call 52; refine (HWX.out _ (HC2.out.trans hHeld.2.2.out)).mono ?_; rintro e w5 ⟨rfl, hc5⟩; have HCX := Lib.hid hc5; clear hc5)); refine hK.out _ _ ?_ (fun hHeld2 => ?_); (focus exact KEEP.out _ (hHeld.2.2.out.trans HCX.out)); clear hK K hHeld; have hHeld := hHeld2; clear hHeld2; (try simp only [Act.put, List.setIfInBounds_toArray, List.set_cons_zero, List.set_cons_succ])))
    refine planWp_nil ?_
    obtain ⟨-, -, hcz⟩ := hHeld
    clear KEEP
    go_wp2
    go_ret
    exact ⟨rfl, HC2.out.trans hcz.out⟩
  have d4 : (k == 4) = false := by simpa using h4
  by_cases h3 : k = 3
  · subst h3
    have HWX := HFR
    have m1 : ¬ c ≤ y := by intro h5; have h := HS.out; simp [h5] at h
    clear d4 h4
    go_upto_region 8 with fail
    have KEEP : Hid (∀ V, Chg [] w2 V → (fun V : World => (V.cell? ⟨W.heap.size, 0, none⟩ = some (.slice ta ts.length tc) ∧ V.cell? ⟨W.heap.size, 1, none⟩ = some (.slice oa os.length oc)) ∧ V.cell? ⟨w1.heap.size, 3, none⟩ = some (.int .i64 c) ∧ Hid (Chg [] w2 V)) V) := Lib.hid (fun V hV => ⟨⟨(HB0.out.keep (HK2.out.trans hV) (by simp)).cell rfl, (HB0.out.keep (HK2.out.trans hV) (by simp)).cell rfl⟩, (HBO.out.keep hV (by simp)).cell rfl, Lib.hid hV⟩)
    have hHeld : (fun V : World => (V.cell? ⟨W.heap.size, 0, none⟩ = some (.slice ta ts.length tc) ∧ V.cell? ⟨W.heap.size, 1, none⟩ = some (.slice oa os.length oc)) ∧ V.cell? ⟨w1.heap.size, 3, none⟩ = some (.int .i64 c) ∧ Hid (Chg [] w2 V)) (World.drew w2) := KEEP.out _ (Chg.refl _ _).drew
    refine wp_region_plan (fun V : World => (V.cell? ⟨W.heap.size, 0, none⟩ = some (.slice ta ts.length tc) ∧ V.cell? ⟨W.heap.size, 1, none⟩ = some (.slice oa os.length oc)) ∧ V.cell? ⟨w1.heap.size, 3, none⟩ = some (.int .i64 c) ∧ Hid (Chg [] w2 V)) [(0, true, some 31), (1, true, some 32), (2, true, some 33), (3, true, some 34), (4, true, some 35), (5, true, some 36), (6, false, some 37), (7, true, some 38)] (by kernel_rfl) (by kernel_rfl) (by kernel_rfl) (by kernel_rfl) (fun d c a v w h => by cases d <;> exact h) hHeld ?_
    repeat (first
      | (refine planWp_read (v := ?_) rfl rfl ?_ ?_ ?_; rotate_left; (focus rfl); (focus (intro u hSw; (try dsimp only at hSw); obtain ⟨⟨u0, u1⟩, u2, -⟩ := hSw; go_simp; (try with_reducible rfl))); (try simp only [Act.put, List.setIfInBounds_toArray, List.set_cons_zero, List.set_cons_succ]))
      | (refine planWp_skip rfl rfl ?_ ?_; (focus rfl); (try simp only [Act.put, List.setIfInBounds_toArray, List.set_cons_zero, List.set_cons_succ]))
      | (refine planWp_leave rfl rfl ?_ hHeld ?_; (focus rfl); (try simp only [Act.put, List.setIfInBounds_toArray, List.set_cons_zero, List.set_cons_succ]))
      | (refine planWp_do rfl rfl ?_ (fun K hK => ?_); (focus rfl); go_simp; (try go_wp2_with (go_at_call 45; refine (HWX.out _ (HC2.out.trans hHeld.2.2.out)).mono ?_; rintro e w5 ⟨rfl, hc5⟩; have HCX := Lib.hid hc5; clear hc5)); refine hK.out _ _ ?_ (fun hHeld2 => ?_); (focus exact KEEP.out _ (hHeld.2.2.out.trans HCX.out)); clear hK K hHeld; have hHeld := hHeld2; clear hHeld2; (try simp only [Act.put, List.setIfInBounds_toArray, List.set_cons_zero, List.set_cons_succ])))
    refine planWp_nil ?_
    obtain ⟨-, -, hcz⟩ := hHeld
    clear KEEP
    go_wp2
    go_ret
    exact ⟨rfl, HC2.out.trans hcz.out⟩
  by_cases h5 : k = 5
  · subst h5
    have HWX := HFR
    have m1 : ¬ c ≤ y := by intro h5; have h := HS.out; simp [h5] at h
    clear d4 h4 h3
    go_upto_region 8 with fail
    have KEEP : Hid (∀ V, Chg [] w2 V → (fun V : World => (V.cell? ⟨W.heap.size, 0, none⟩ = some (.slice ta ts.length tc) ∧ V.cell? ⟨W.heap.size, 1, none⟩ = some (.slice oa os.length oc)) ∧ V.cell? ⟨w1.heap.size, 3, none⟩ = some (.int .i64 c) ∧ Hid (Chg [] w2 V)) V) := Lib.hid (fun V hV => ⟨⟨(HB0.out.keep (HK2.out.trans hV) (by simp)).cell rfl, (HB0.out.keep (HK2.out.trans hV) (by simp)).cell rfl⟩, (HBO.out.keep hV (by simp)).cell rfl, Lib.hid hV⟩)
    have hHeld : (fun V : World => (V.cell? ⟨W.heap.size, 0, none⟩ = some (.slice ta ts.length tc) ∧ V.cell? ⟨W.heap.size, 1, none⟩ = some (.slice oa os.length oc)) ∧ V.cell? ⟨w1.heap.size, 3, none⟩ = some (.int .i64 c) ∧ Hid (Chg [] w2 V)) (World.drew w2) := KEEP.out _ (Chg.refl _ _).drew
    refine wp_region_plan (fun V : World => (V.cell? ⟨W.heap.size, 0, none⟩ = some (.slice ta ts.length tc) ∧ V.cell? ⟨W.heap.size, 1, none⟩ = some (.slice oa os.length oc)) ∧ V.cell? ⟨w1.heap.size, 3, none⟩ = some (.int .i64 c) ∧ Hid (Chg [] w2 V)) [(0, true, some 31), (1, true, some 32), (2, true, some 33), (3, true, some 34), (4, true, some 35), (5, true, some 36), (6, false, some 37), (7, true, some 38)] (by kernel_rfl) (by kernel_rfl) (by kernel_rfl) (by kernel_rfl) (fun d c a v w h => by cases d <;> exact h) hHeld ?_
    repeat (first
      | (refine planWp_read (v := ?_) rfl rfl ?_ ?_ ?_; rotate_left; (focus rfl); (focus (intro u hSw; (try dsimp only at hSw); obtain ⟨⟨u0, u1⟩, u2, -⟩ := hSw; go_simp; (try with_reducible rfl))); (try simp only [Act.put, List.setIfInBounds_toArray, List.set_cons_zero, List.set_cons_succ]))
      | (refine planWp_skip rfl rfl ?_ ?_; (focus rfl); (try simp only [Act.put, List.setIfInBounds_toArray, List.set_cons_zero, List.set_cons_succ]))
      | (refine planWp_leave rfl rfl ?_ hHeld ?_; (focus rfl); (try simp only [Act.put, List.setIfInBounds_toArray, List.set_cons_zero, List.set_cons_succ]))
      | (refine planWp_do rfl rfl ?_ (fun K hK => ?_); (focus rfl); go_simp; (try go_wp2_with (go_at_call 45; refine (HWX.out _ (HC2.out.trans hHeld.2.2.out)).mono ?_; rintro e w5 ⟨rfl, hc5⟩; have HCX := Lib.hid hc5; clear hc5)); refine hK.out _ _ ?_ (fun hHeld2 => ?_); (focus exact KEEP.out _ (hHeld.2.2.out.trans HCX.out)); clear hK K hHeld; have hHeld := hHeld2; clear hHeld2; (try simp only [Act.put, List.setIfInBounds_toArray, List.set_cons_zero, List.set_cons_succ])))
    refine planWp_nil ?_
    obtain ⟨-, -, hcz⟩ := hHeld
    clear KEEP
    go_wp2
    go_ret
    exact ⟨rfl, HC2.out.trans hcz.out⟩
  have d3 : (k == 3) = false := by simpa using h3
  have d5 : (k == 5) = false := by simpa using h5
  go_wp2
  go_ret
  exact ⟨rfl, HC2.out⟩
end Go.Proofs.YtkedegbpkkgeaaaGreat.tf
/- TopFits: admit: reads, Check. -/
namespace Go.Proofs.YtkedegbpkkgeaaaGreat.tf
open Go Go.RowKit Go.Proofs.YtkedegbpkkgeaaaGreat.kit Go.Proofs.YtkedegbpkkgeaaaGreat.obj Go.Proofs.YtkedegbpkkgeaaaGreat.mem Go.Proofs.YtkedegbpkkgeaaaGreat.lay Go.Proofs.YtkedegbpkkgeaaaGreat.isa
set_option linter.unusedVariables false
set_option linter.unusedSimpArgs false
set_option maxRecDepth 20000

theorem blk_far_ne {w w' : World} {A g : Nat} {l : List Int} {c : Array Value} {T : TypeId} (h : InB w A l) (k : Blk w g c T) (hc : Chg [g] w w') (hT : T ≠ 3) : InB w' A l := blk_far h hc (far_blk k hT)
set_option maxHeartbeats 16000000 in
theorem areads_any (ta : Option Addr) (tc : Nat) (oa : Option Addr) (oc : Nat) (ts : List DT) (os : List DO) (xa : Option Addr) (xc : Nat) (rs : List Int) (W : World) (h : SysOK W ta tc oa oc ts os) (hr : ReadsN W (.slice xa ts.length xc) rs) (hrl : rs.length = ts.length) (hrb : ∀ x ∈ rs, x ≤ 9223372036854775807)
    (hs : ∀ k : Nat, k < os.length → ∀ i ∈ ((sys ts os).o k).rds, spoiltM (sys ts os) i k (rs.getD i.toNat 0) = 0) :
    Calls Tryz.prog 28 #[.agg #[.slice ta ts.length tc, .slice oa os.length oc], .slice xa ts.length xc] W fun r W' => r = .returned (.agg #[.int .i64 0, .int .i64 (-1), .int .i64 (-1), .slice xa ts.length xc]) ∧ Chg [] W W' := by
  obtain ⟨-, b2, o2, hx2, hc2⟩ := objs_at h.O
  obtain ⟨-, b6, o6, hx6, hc6⟩ := ints_at hr
  have HX := Lib.hid hx2
  have HQ := Lib.hid hc2
  have HX6 := Lib.hid hx6
  have HQ6 := Lib.hid hc6
  have HL := Lib.hid h.lens
  have HRL := Lib.hid hrl
  have HD : Hid (∀ d ∈ os, d.o.rl = d.rds.length ∧ d.rds.length ≤ 4 ∧ ∀ x ∈ d.rds, 0 ≤ x ∧ x < (ts.length : Int)) := Lib.hid (fun d hd => by
    have hm : d.p ∈ (sys ts os).os := List.mem_map.2 ⟨d, hd, rfl⟩
    have h1 := (h.fine.who d.p hm).2
    simp only [sys, List.length_map, DO.p] at h1
    have h2 := rightB_bd (h.fine.right d.p hm)
    simp only [DO.p] at h2
    exact ⟨(h.O.2 d hd).lenr, by omega, fun x hx => ⟨(h1 x (List.mem_cons_of_mem _ hx)).1, (h1 x (List.mem_cons_of_mem _ hx)).2.2⟩⟩)
  have HRD : Hid (∀ d ∈ os, ∀ V, Chg [] W V → ReadsN V (.slice d.o.ra d.o.rl d.o.rc) d.rds) := Lib.hid (fun d hd V hV => (h.O.2 d hd).2.chg hV)
  have HSP := Lib.hid (fun (m : Nat) (d : DO) (hd : os[m]? = some d) (i : Nat) (hi : (i : Int) ∈ d.rds) (hil : i < ts.length) (r : Int) (hri : rs[i]? = some r) V (hV : Chg [] W V) => by
    have hm : m < os.length := (List.getElem?_eq_some_iff.1 hd).1
    have h1 := hs m hm i (by rw [sys_o ts hd]; exact hi)
    rw [Int.toNat_natCast, List.getD_eq_getElem?_getD, hri] at h1
    exact spoilt_any ta tc oa oc ts os i m r V (h.chg hV) hil hm (hrb r (List.mem_of_getElem? hri)) h1)
  have HC2 : Hid (Chg [] W ((W.alloc (.cells #[.slice ta ts.length tc, .slice oa os.length oc] 25)).alloc (.cells #[.int .i64 0, .int .i64 0, .int .i64 0, .slice none 0 0] 40))) := Lib.hid (((Chg.refl [] W).alloc _).alloc _)
  have HB0 : Hid (Blk ((W.alloc (.cells #[.slice ta ts.length tc, .slice oa os.length oc] 25)).alloc (.cells #[.int .i64 0, .int .i64 0, .int .i64 0, .slice none 0 0] 40)) W.heap.size #[.slice ta ts.length tc, .slice oa os.length oc] 25) := Lib.hid ((Blk.new W _ _).alloc _)
  have HB1 : Hid (Blk ((W.alloc (.cells #[.slice ta ts.length tc, .slice oa os.length oc] 25)).alloc (.cells #[.int .i64 0, .int .i64 0, .int .i64 0, .slice none 0 0] 40)) (W.heap.size + 1) #[.int .i64 0, .int .i64 0, .int .i64 0, .slice none 0 0] 40) := Lib.hid (by
    have := Blk.new (W.alloc (.cells #[.slice ta ts.length tc, .slice oa os.length oc] 25)) #[.int .i64 0, .int .i64 0, .int .i64 0, .slice none 0 0] 40
    rwa [show (W.alloc (.cells #[.slice ta ts.length tc, .slice oa os.length oc] 25)).heap.size = W.heap.size + 1 by simp] at this)
  clear h hx2 hc2 hx6 hc6 hr hrl hrb hs
  go_enter Tryz.func28, Tryz.ntmps28
  go_upto_region 1 with fail
  obtain ⟨w2, hw2⟩ : ∃ x, x = ((W.alloc (.cells #[.slice ta ts.length tc, .slice oa os.length oc] 25)).alloc (.cells #[.int .i64 0, .int .i64 0, .int .i64 0, .slice none 0 0] 40)) := ⟨_, rfl⟩
  rw [← hw2] at HC2 HB0 HB1
  try rw [← hw2]
  clear hw2
  have s1 := HB0.out.cell (o := 1) (v := .slice oa os.length oc) rfl
  go_wp2_with fail
  clear s1
  go_loopw [14] (fun q wr => ∃ m : Nat, m ≤ os.length ∧ q = .int .i64 (m : Int) ∧ Hid (Chg [] w2 wr)) (fun q _ => os.length - (intOf q).toNat)
  case atStart => exact ⟨0, Nat.zero_le _, rfl, Lib.hid (Chg.refl _ _)⟩
  case round =>
    obtain ⟨m, hm, rfl, HJ⟩ := hrel
    have HJW : Hid (Chg [] W wr) := Lib.hid (HC2.out.trans HJ.out)
    by_cases hlm : m < os.length
    · have HLM := Lib.hid hlm
      have mm : (m : Int) < (os.length : Int) := by omega
      have g3 := HX.out m hlm
      obtain ⟨d, hd⟩ : ∃ d, os[m]? = some d := ⟨_, List.getElem?_eq_getElem hlm⟩
      obtain ⟨⟨q0, q1, q2, q3⟩, q4, q5, q6, q7⟩ := HQ.out wr HJW.out m d hd
      obtain ⟨hrl, hr4, hrg⟩ := HD.out d (List.mem_of_getElem? hd)
      have hrd := HRD.out d (List.mem_of_getElem? hd) W (Chg.refl _ _)
      have hsp := HSP.out m d hd
      obtain ⟨⟨k, w, s, c, st, ia, il, ic, wri, ra, rl, rc⟩, ini, rds⟩ := d
      simp only at q0 q1 q2 q3 q4 q5 q6 q7 hrl hr4 hrg hrd hsp
      subst hrl
      obtain ⟨-, b3, o3, hx3, hc3⟩ := ints_at hrd
      have HX3 := Lib.hid hx3
      have HQ3 := Lib.hid hc3
      have HSX0 := Lib.hid hsp
      have HR4 := Lib.hid hr4
      have HRG := Lib.hid hrg
      have HA : Hid (Chg [] wr (wr.alloc (.cells #[.int .i64 k, .int .i64 w, .int .i64 s, .int .i64 c, .int .u32 st, .slice ia il ic, .int .i64 wri, .slice ra rds.length rc] 46))) := Lib.hid ((Chg.refl _ _).alloc _)
      have k9 : IntKind.i64.wrap ((m : Int) + 1) = (m : Int) + 1 := by rw [IntKind.wrap_i64]; have := HL.out; omega
      clear hd hr4 hrg hrd hsp hx3 hc3 hlm hm
      go_wp2_with fail
      obtain ⟨w5, hw5⟩ : ∃ x, x = wr.alloc (.cells #[.int .i64 k, .int .i64 w, .int .i64 s, .int .i64 c, .int .u32 st, .slice ia il ic, .int .i64 wri, .slice ra rds.length rc] 46) := ⟨_, rfl⟩
      rw [← hw5] at HA
      try rw [← hw5]
      clear hw5 q0 q1 q2 q3 q4 q5 q6 q7 g3
      have HW5 : Hid (Chg [] W w5) := Lib.hid (HJW.out.trans HA.out)
      go_loopw [22] (fun p wr => ∃ j : Nat, j ≤ rds.length ∧ p = .int .i64 (j : Int) ∧ Hid (Chg [] w5 wr)) (fun p _ => rds.length - (intOf p).toNat)
      case atStart => exact ⟨0, Nat.zero_le _, rfl, Lib.hid (Chg.refl _ _)⟩
      case round =>
        obtain ⟨j, hj, rfl, HI⟩ := hrel
        have HIW : Hid (Chg [] W wr) := Lib.hid (HW5.out.trans HI.out)
        by_cases hlt : j < rds.length
        · have HLT := Lib.hid hlt
          have m5 : (j : Int) < (rds.length : Int) := by omega
          have g5 := HX3.out j hlt
          obtain ⟨x, hx⟩ : ∃ x, rds[j]? = some x := ⟨_, List.getElem?_eq_getElem hlt⟩
          have q5 := HQ3.out wr HIW.out j x hx
          have hxr := HRG.out x (List.mem_of_getElem? hx)
          obtain ⟨i, rfl⟩ := Int.eq_ofNat_of_zero_le hxr.1
          have hil : i < ts.length := by omega
          have g6 := HX6.out i (by rw [HRL.out]; exact hil)
          obtain ⟨r, hri⟩ : ∃ r, rs[i]? = some r := ⟨_, List.getElem?_eq_getElem (by rw [HRL.out]; exact hil)⟩
          have HSX := Lib.hid (HSX0.out i (List.mem_of_getElem? hx) hil r hri)
          have KEEP : Hid (∀ V, Chg [] wr V → (fun V : World => (V.cell? ⟨W.heap.size, 0, none⟩ = some (.slice ta ts.length tc) ∧ V.cell? ⟨W.heap.size, 1, none⟩ = some (.slice oa os.length oc)) ∧ V.cell? ⟨b6, o6 + i, none⟩ = some (.int .i64 r) ∧ Hid (Chg [] wr V)) V) := Lib.hid (fun V hV => by
            have B := (((HB0.out.keep HJ.out (by simp)).keep HA.out (by simp)).keep HI.out (by simp)).keep hV (by simp)
            exact ⟨⟨B.cell rfl, B.cell rfl⟩, HQ6.out V (HIW.out.trans hV) i r hri, Lib.hid hV⟩)
          have k5 : IntKind.i64.wrap ((j : Int) + 1) = (j : Int) + 1 := by rw [IntKind.wrap_i64]; have := HR4.out; omega
          clear hx hxr hil hri hj hlt
          go_upto_region 7 with fail
          have hHeld : (fun V : World => (V.cell? ⟨W.heap.size, 0, none⟩ = some (.slice ta ts.length tc) ∧ V.cell? ⟨W.heap.size, 1, none⟩ = some (.slice oa os.length oc)) ∧ V.cell? ⟨b6, o6 + i, none⟩ = some (.int .i64 r) ∧ Hid (Chg [] wr V)) (World.drew wr) := KEEP.out _ (Chg.refl _ _).drew
          refine wp_region_plan (fun V : World => (V.cell? ⟨W.heap.size, 0, none⟩ = some (.slice ta ts.length tc) ∧ V.cell? ⟨W.heap.size, 1, none⟩ = some (.slice oa os.length oc)) ∧ V.cell? ⟨b6, o6 + i, none⟩ = some (.int .i64 r) ∧ Hid (Chg [] wr V)) [(0, true, some 26), (1, true, some 27), (2, true, some 28), (3, true, some 29), (4, true, some 30), (5, true, some 31), (6, true, some 32), (7, false, some 33), (8, true, some 9)] (by kernel_rfl) (by kernel_rfl) (by kernel_rfl) (by kernel_rfl) (fun d c a v w h => by cases d <;> exact h) hHeld ?_
          repeat (first
            | (refine planWp_read (v := ?_) rfl rfl ?_ ?_ ?_; rotate_left; (focus rfl); (focus (intro u hSw; (try dsimp only at hSw); obtain ⟨⟨u0, u1⟩, u2, -⟩ := hSw; go_simp; (try with_reducible rfl))); (try simp only [Act.put, List.setIfInBounds_toArray, List.set_cons_zero, List.set_cons_succ]))
            | (refine planWp_skip rfl rfl ?_ ?_; (focus rfl); (try simp only [Act.put, List.setIfInBounds_toArray, List.set_cons_zero, List.set_cons_succ]))
            | (refine planWp_leave rfl rfl ?_ hHeld ?_; (focus rfl); (try simp only [Act.put, List.setIfInBounds_toArray, List.set_cons_zero, List.set_cons_succ]))
            | (refine planWp_do rfl rfl ?_ (fun K hK => ?_); (focus rfl); go_simp; (try go_wp2_with (go_at_call 66; refine (HSX.out _ (HIW.out.trans hHeld.2.2.out)).mono ?_; rintro e w7 ⟨rfl, hc7⟩; have HCX := Lib.hid hc7; clear hc7)); refine hK.out _ _ ?_ (fun hHeld2 => ?_); (focus exact KEEP.out _ (hHeld.2.2.out.trans HCX.out)); clear hK K hHeld; have hHeld := hHeld2; clear hHeld2; (try simp only [Act.put, List.setIfInBounds_toArray, List.set_cons_zero, List.set_cons_succ])))
          refine planWp_nil ?_
          obtain ⟨-, -, hcz⟩ := hHeld
          clear KEEP
          go_wp2
          have hlt := HLT.out
          go_roundw
          case rel => exact ⟨j + 1, by omega, by go_num, Lib.hid (HI.out.trans hcz.out)⟩
          case measure => (simp [intOf]) <;> omega
        · obtain rfl : rds.length = j := by omega
          have m5 : ¬ (rds.length : Int) < (rds.length : Int) := by omega
          clear hlt hj
          go_wp2
          have hlt := HLM.out
          go_roundw
          case rel => exact ⟨m + 1, by omega, by go_num, Lib.hid ((HJ.out.trans HA.out).trans HI.out)⟩
          case measure => (simp [intOf]) <;> omega
    · obtain rfl : os.length = m := by omega
      clear hlm hm
      have HR9 := Lib.hid (HB1.out.keep HJ.out (by simp))
      go_upto_region 13 with (go_at_call 26; refine (verdict_any _ _ _ _).mono ?_; rintro e w8 ⟨rfl, hc8⟩; have HC8 := Lib.hid hc8; clear hc8)
      obtain ⟨w9, hw9⟩ : ∃ x, x = w8.alloc (.cells #[.int .i64 0, .int .i64 (-1), .int .i64 (-1), .slice none 0 0] 40) := ⟨_, rfl⟩
      have HB9 : Hid (Blk w9 w8.heap.size #[.int .i64 0, .int .i64 (-1), .int .i64 (-1), .slice none 0 0] 40 ∧ Chg [] wr w9) := Lib.hid (by rw [hw9]; exact ⟨Blk.new w8 _ _, HC8.out.alloc _⟩)
      rw [← hw9]
      clear hw9
      have HRA := Lib.hid (HR9.out.keep HB9.out.2 (by simp))
      have c3 := HB9.out.1.cell (o := 3) (v := .slice none 0 0) rfl
      have f3 := HB9.out.1.free 3
      have HNE : Hid (W.heap.size + 1 ≠ w8.heap.size) := Lib.hid (by have h1 := HR9.out.lt; have h2 := HC8.out.size; omega)
      have HBA : Hid (Blk (w9.setCell ⟨w8.heap.size, 3, none⟩ (.slice xa ts.length xc)) w8.heap.size #[.int .i64 0, .int .i64 (-1), .int .i64 (-1), .slice xa ts.length xc] 40 ∧ Blk (w9.setCell ⟨w8.heap.size, 3, none⟩ (.slice xa ts.length xc)) (W.heap.size + 1) #[.int .i64 0, .int .i64 0, .int .i64 0, .slice none 0 0] 40 ∧ Chg [w8.heap.size] w9 (w9.setCell ⟨w8.heap.size, 3, none⟩ (.slice xa ts.length xc))) := Lib.hid ⟨HB9.out.1.set 3 _, HRA.out.set_ne (b' := w8.heap.size) HNE.out _ _ _, (Chg.refl _ _).setCell (.inl (by simp)) _⟩
      go_upto_region 14 with fail
      obtain ⟨wa, hwa⟩ : ∃ x, x = w9.setCell ⟨w8.heap.size, 3, none⟩ (.slice xa ts.length xc) := ⟨_, rfl⟩
      rw [← hwa] at HBA
      try rw [← hwa]
      clear hwa c3 f3
      have d0 := HBA.out.1.cell (o := 0) rfl
      have d1 := HBA.out.1.cell (o := 1) rfl
      have d2 := HBA.out.1.cell (o := 2) rfl
      have d3 := HBA.out.1.cell (o := 3) rfl
      go_wp2_with (refine Go.Proofs.YtkedegbpkkgeaaaGreat.blk.wpList_store_blk rfl 40 (.tmp 4) (.tmp 45) rfl (W.heap.size + 1) #[.int .i64 0, .int .i64 (-1), .int .i64 (-1), .slice xa ts.length xc] rfl rfl HBA.out.2.1 szVerdict rfl (by simp [Value.oneCell']) ?_; intro wz hbz hcz; have HBZ := Lib.hid hbz; have HCZ := Lib.hid hcz; clear hbz hcz)
      refine bodyPost_ret (results_row_one rfl _ _ (W.heap.size + 1) 40 _ (0, 0) _ rfl HBZ.out Tryz.underlying40 rfl szVerdict) rfl ?_
      have h8 : W.heap.size ≤ w8.heap.size := by have h1 := HR9.out.lt; have h2 := HC8.out.size; omega
      exact ⟨rfl, ((HJW.out.trans HB9.out.2).into HBA.out.2.2 (by simp; omega)).into HCZ.out (by simp)⟩
/-- what admit.Check tells -/
def AdmP (n : Nat) (a : Rt) (e : Ending) (w : World) : Prop :=
  (a.e ≠ 0 ∧ e = .returned (.agg #[.int .i64 a.e, .int .i64 a.at_, .int .i64 (-1), .slice none 0 0])) ∨
  (a.e = 0 ∧ ∃ A, e = .returned (.agg #[.int .i64 0, .int .i64 (-1), .int .i64 (-1), .slice (some ⟨A, 0, none⟩) n n]) ∧ InB w A a.rs)
set_option maxHeartbeats 16000000 in
theorem acheck_any (ta : Option Addr) (tc : Nat) (oa : Option Addr) (oc : Nat) (ts : List DT) (os : List DO) (W : World) (h : SysOK W ta tc oa oc ts os) (hof : ofCode (ts.map DT.t) (os.map DO.o) = 0) (hh : ∀ i k : Nat, i < ts.length → k < os.length → hopeM (sys ts os) i k = false)
    (hs : (allM (sys ts os) (ranksM (ts.map (fun d => d.t.prio))) ts.length).e = 0 → ∀ k : Nat, k < os.length → ∀ i ∈ ((sys ts os).o k).rds, spoiltM (sys ts os) i k ((allM (sys ts os) (ranksM (ts.map (fun d => d.t.prio))) ts.length).rs.getD i.toNat 0) = 0) :
    Calls Tryz.prog 10 #[.agg #[.slice ta ts.length tc, .slice oa os.length oc]] W fun r W' => AdmP ts.length (allM (sys ts os) (ranksM (ts.map (fun d => d.t.prio))) ts.length) r W' ∧ Chg [] W W' := by
  have HSC := Lib.hid (fun V (hV : Chg [] W V) => scheck_any ta tc oa oc ts os V (h.chg hV) hof)
  have HHO := Lib.hid (fun V (hV : Chg [] W V) => ahopeless_any ta tc oa oc ts os V (h.chg hV) hh)
  have HOK := Lib.hid h
  obtain ⟨AM, hAM⟩ : ∃ a, allM (sys ts os) (ranksM (ts.map (fun d => d.t.prio))) ts.length = a := ⟨_, rfl⟩
  have hAL := fun V (hV : Chg [] W V) => all_any ta tc oa oc ts os V (h.chg hV)
  have hrb : ∀ x ∈ AM.rs, x ≤ 9223372036854775807 := fun x hx => by
    have h1 := all_bd (s := sys ts os) (fine_dl h.fine) (ranksM (ts.map (fun d => d.t.prio))) ts.length x (by rw [hAM]; exact hx)
    omega
  rw [hAM] at hs
  simp only [hAM] at hAL
  rw [hAM]
  have HC2 : Hid (Chg [] W ((W.alloc (.cells #[.slice ta ts.length tc, .slice oa os.length oc] 25)).alloc (.cells #[.int .i64 0, .int .i64 0, .int .i64 0, .slice none 0 0] 40))) := Lib.hid (((Chg.refl [] W).alloc _).alloc _)
  have HB0 : Hid (Blk ((W.alloc (.cells #[.slice ta ts.length tc, .slice oa os.length oc] 25)).alloc (.cells #[.int .i64 0, .int .i64 0, .int .i64 0, .slice none 0 0] 40)) W.heap.size #[.slice ta ts.length tc, .slice oa os.length oc] 25) := Lib.hid ((Blk.new W _ _).alloc _)
  have HB1 : Hid (Blk ((W.alloc (.cells #[.slice ta ts.length tc, .slice oa os.length oc] 25)).alloc (.cells #[.int .i64 0, .int .i64 0, .int .i64 0, .slice none 0 0] 40)) (W.heap.size + 1) #[.int .i64 0, .int .i64 0, .int .i64 0, .slice none 0 0] 40) := Lib.hid (by
    have := Blk.new (W.alloc (.cells #[.slice ta ts.length tc, .slice oa os.length oc] 25)) #[.int .i64 0, .int .i64 0, .int .i64 0, .slice none 0 0] 40
    rwa [show (W.alloc (.cells #[.slice ta ts.length tc, .slice oa os.length oc] 25)).heap.size = W.heap.size + 1 by simp] at this)
  clear hof hh hAM
  by_cases he : AM.e = 0
  rotate_left
  · have HAB : Hid (∀ V, Chg [] W V → Calls Tryz.prog 8 #[.agg #[.slice ta ts.length tc, .slice oa os.length oc]] V fun e W' => e = .returned (.tuple #[.slice none 0 0, .slice none 0 0, .int .i64 AM.at_, .int .i64 AM.e]) ∧ Chg [] V W') := Lib.hid (fun V hV => (hAL V hV).mono fun e W' ⟨h1, h2⟩ => ⟨by
      rcases h1 with ⟨h0, -⟩ | ⟨-, h0⟩
      · exact absurd h0 he
      · exact h0, h2⟩)
    obtain ⟨ee, hee⟩ : ∃ x, AM.e = x := ⟨_, rfl⟩
    obtain ⟨att, hat⟩ : ∃ x, AM.at_ = x := ⟨_, rfl⟩
    have d1 : (ee != 0) = true := by rw [← hee]; simpa using he
    have HE : Hid (AM.e ≠ 0 ∧ AM.e = ee ∧ AM.at_ = att) := Lib.hid ⟨he, hee, hat⟩
    rw [hee, hat] at HAB
    clear hAL he hee hat hs hrb h
    go_enter Tryz.func10, Tryz.ntmps10
    go_upto_region 1 with fail
    obtain ⟨w2, hw2⟩ : ∃ x, x = ((W.alloc (.cells #[.slice ta ts.length tc, .slice oa os.length oc] 25)).alloc (.cells #[.int .i64 0, .int .i64 0, .int .i64 0, .slice none 0 0] 40)) := ⟨_, rfl⟩
    rw [← hw2] at HC2 HB0 HB1
    try rw [← hw2]
    clear hw2
    have s0 := HB0.out.cell (o := 0) (v := .slice ta ts.length tc) rfl
    have s1 := HB0.out.cell (o := 1) (v := .slice oa os.length oc) rfl
    go_upto_region 4 with (go_at_call 25; refine (HSC.out _ HC2.out).mono ?_; rintro e w3 ⟨rfl, hc3⟩; have HK4 := Lib.hid (hc3.alloc (.cells #[.int .i64 (-1), .int .i64 (-1), .int .i64 (-1)] 49)); clear hc3)
    clear s0 s1
    obtain ⟨w4, hw4⟩ : ∃ x, x = w3.alloc (.cells #[.int .i64 (-1), .int .i64 (-1), .int .i64 (-1)] 49) := ⟨_, rfl⟩
    rw [← hw4] at HK4
    try rw [← hw4]
    clear hw4
    have s0 := (HB0.out.keep HK4.out (by simp)).cell (o := 0) (v := .slice ta ts.length tc) rfl
    have s1 := (HB0.out.keep HK4.out (by simp)).cell (o := 1) (v := .slice oa os.length oc) rfl
    go_upto_region 9 with (first
      | (go_at_call 27; refine (HHO.out _ (HC2.out.trans HK4.out)).mono ?_; rintro e w5 ⟨rfl, hc5⟩; have HK5 := Lib.hid (HK4.out.trans hc5); have s2 := (HB0.out.keep HK5.out (by simp)).cell (o := 0) (v := .slice ta ts.length tc) rfl; have s3 := (HB0.out.keep HK5.out (by simp)).cell (o := 1) (v := .slice oa os.length oc) rfl; clear hc5)
      | (go_at_call 8; refine (HAB.out _ (HC2.out.trans HK5.out)).mono ?_; rintro e w6 ⟨rfl, hc6⟩; have HK6 := Lib.hid (HK5.out.trans hc6); clear hc6))
    go_wp2_with (first
      | (go_at_call 26; refine (verdict_any _ _ _ _).mono ?_; rintro e w8 ⟨rfl, hc8⟩; have HK8 := Lib.hid (HK6.out.trans hc8); have HR8 := Lib.hid (HB1.out.keep HK8.out (by simp)); clear hc8)
      | (refine Go.Proofs.YtkedegbpkkgeaaaGreat.blk.wpList_store_blk rfl 40 (.tmp 2) (.tmp 46) rfl (W.heap.size + 1) #[.int .i64 ee, .int .i64 att, .int .i64 (-1), .slice none 0 0] rfl rfl HR8.out szVerdict rfl (by simp [Value.oneCell']) ?_; intro wz hbz hcz; have HBZ := Lib.hid hbz; have HCZ := Lib.hid hcz; clear hbz hcz))
    refine bodyPost_ret (results_row_one rfl _ _ (W.heap.size + 1) 40 _ (0, 0) _ rfl HBZ.out Tryz.underlying40 rfl szVerdict) rfl ?_
    exact ⟨.inl ⟨HE.out.1, by rw [HE.out.2.1, HE.out.2.2]⟩, (HC2.out.trans HK8.out).into HCZ.out (by simp)⟩
  · have HAB : Hid (∀ V, Chg [] W V → Calls Tryz.prog 8 #[.agg #[.slice ta ts.length tc, .slice oa os.length oc]] V fun e W' => (∃ A C, e = .returned (.tuple #[.slice (some ⟨A, 0, none⟩) ts.length ts.length, .slice (some ⟨C, 0, none⟩) ts.length ts.length, .int .i64 (-1), .int .i64 0]) ∧ InB W' A AM.rs ∧ AM.rs.length = ts.length) ∧ Chg [] V W') := Lib.hid (fun V hV => (hAL V hV).mono fun e W' ⟨h1, h2⟩ => ⟨by
      rcases h1 with ⟨-, A, C, h0, h3, h4, -⟩ | ⟨h0, -⟩
      · exact ⟨A, C, h0, h3, h4⟩
      · exact absurd he h0, h2⟩)
    have HRE := Lib.hid (fun V (hV : Chg [] W V) (A : Nat) (hA : InB V A AM.rs) (hAl : AM.rs.length = ts.length) => areads_any ta tc oa oc ts os (some ⟨A, 0, none⟩) ts.length AM.rs V (h.chg hV) (by have h1 := hA.reads (by have := h.lens; omega); rwa [hAl] at h1) hAl hrb (hs he))
    have HE := Lib.hid he
    clear hAL he hs hrb h
    go_enter Tryz.func10, Tryz.ntmps10
    go_upto_region 1 with fail
    obtain ⟨w2, hw2⟩ : ∃ x, x = ((W.alloc (.cells #[.slice ta ts.length tc, .slice oa os.length oc] 25)).alloc (.cells #[.int .i64 0, .int .i64 0, .int .i64 0, .slice none 0 0] 40)) := ⟨_, rfl⟩
    rw [← hw2] at HC2 HB0 HB1
    try rw [← hw2]
    clear hw2
    have s0 := HB0.out.cell (o := 0) (v := .slice ta ts.length tc) rfl
    have s1 := HB0.out.cell (o := 1) (v := .slice oa os.length oc) rfl
    go_upto_region 4 with (go_at_call 25; refine (HSC.out _ HC2.out).mono ?_; rintro e w3 ⟨rfl, hc3⟩; have HK4 := Lib.hid (hc3.alloc (.cells #[.int .i64 (-1), .int .i64 (-1), .int .i64 (-1)] 49)); clear hc3)
    clear s0 s1
    obtain ⟨w4, hw4⟩ : ∃ x, x = w3.alloc (.cells #[.int .i64 (-1), .int .i64 (-1), .int .i64 (-1)] 49) := ⟨_, rfl⟩
    rw [← hw4] at HK4
    try rw [← hw4]
    clear hw4
    have s0 := (HB0.out.keep HK4.out (by simp)).cell (o := 0) (v := .slice ta ts.length tc) rfl
    have s1 := (HB0.out.keep HK4.out (by simp)).cell (o := 1) (v := .slice oa os.length oc) rfl
    go_upto_region 10 with (first
      | (go_at_call 27; refine (HHO.out _ (HC2.out.trans HK4.out)).mono ?_; rintro e w5 ⟨rfl, hc5⟩; have HK5 := Lib.hid (HK4.out.trans hc5); have s2 := (HB0.out.keep HK5.out (by simp)).cell (o := 0) (v := .slice ta ts.length tc) rfl; have s3 := (HB0.out.keep HK5.out (by simp)).cell (o := 1) (v := .slice oa os.length oc) rfl; clear hc5)
      | (go_at_call 8; refine (HAB.out _ (HC2.out.trans HK5.out)).mono ?_; rintro e w6 ⟨⟨A, C, rfl, hA, hAl⟩, hc6⟩; have HK6 := Lib.hid (HK5.out.trans hc6); have HA := Lib.hid hA; have HAL := Lib.hid hAl; have s4 := (HB0.out.keep HK6.out (by simp)).cell (o := 0) (v := .slice ta ts.length tc) rfl; have s5 := (HB0.out.keep HK6.out (by simp)).cell (o := 1) (v := .slice oa os.length oc) rfl; clear hc6 hA hAl))
    go_wp2_with (first
      | (go_at_call 28; refine (HRE.out _ (HC2.out.trans HK6.out) A HA.out HAL.out).mono ?_; rintro e w8 ⟨rfl, hc8⟩; have HK8 := Lib.hid (HK6.out.trans hc8); have HA8 := Lib.hid (HA.out.keep hc8 (by simp)); have HR8 := Lib.hid (HB1.out.keep HK8.out (by simp)); clear hc8)
      | (refine Go.Proofs.YtkedegbpkkgeaaaGreat.blk.wpList_store_blk rfl 40 (.tmp 2) (.tmp 49) rfl (W.heap.size + 1) #[.int .i64 0, .int .i64 (-1), .int .i64 (-1), .slice (some ⟨A, 0, none⟩) ts.length ts.length] rfl rfl HR8.out szVerdict rfl (by simp [Value.oneCell']) ?_; intro wz hbz hcz; have HBZ := Lib.hid hbz; have HCZ := Lib.hid hcz; clear hbz hcz))
    refine bodyPost_ret (results_row_one rfl _ _ (W.heap.size + 1) 40 _ (0, 0) _ rfl HBZ.out Tryz.underlying40 rfl szVerdict) rfl ?_
    exact ⟨.inr ⟨HE.out, A, rfl, blk_far_ne HA8.out HR8.out HCZ.out (by decide)⟩, (HC2.out.trans HK8.out).into HCZ.out (by simp)⟩
end Go.Proofs.YtkedegbpkkgeaaaGreat.tf
/- TopFits: the judges. -/
namespace Go.Proofs.YtkedegbpkkgeaaaGreat.tf
open Go Go.RowKit Go.Proofs.YtkedegbpkkgeaaaGreat.kit Go.Proofs.YtkedegbpkkgeaaaGreat.obj Go.Proofs.YtkedegbpkkgeaaaGreat.mem Go.Proofs.YtkedegbpkkgeaaaGreat.lay Go.Proofs.YtkedegbpkkgeaaaGreat.isa
set_option linter.unusedVariables false
set_option linter.unusedSimpArgs false
set_option maxRecDepth 20000

open Go.Proofs.YtkedegbpkkgeaaaGreat.word
/-- the judges' job -/
def codJ : List Ins := [⟨0, 0, 0, 0, 0⟩, ⟨21, 0, 0, 0, 0⟩]
def sJ : S := ⟨[⟨1, 0, 9, 0, 1, 1, codJ⟩], []⟩
def dJ (g : Nat) : DT := ⟨⟨1, 0, 9, 0, 1, 1, some ⟨g, 0, none⟩, 2, 2⟩, codJ⟩
theorem sysJ (g : Nat) : sys [dJ g] [] = sJ := rfl
theorem codJ_fine : FineP codJ := by
  refine ⟨⟨by decide, by decide⟩, fun i hi => ?_, fun j i hj => ?_, fun a b s t _ h => ?_, fun j i hj h => ?_, ⟨⟨21, 0, 0, 0, 0⟩, rfl, rfl⟩⟩
  · simp only [codJ, List.mem_cons, List.not_mem_nil, or_false] at hi
    rcases hi with rfl | rfl <;> kernel_rfl
  · match j, hj with
    | 0, hj => obtain rfl := Option.some.inj hj; exact ⟨fun h => absurd h (by decide), fun h => absurd h (by decide)⟩
    | 1, hj => obtain rfl := Option.some.inj hj; exact ⟨fun h => absurd h (by decide), fun h => absurd h (by decide)⟩
    | j + 2, hj => simp [codJ] at hj
  · rw [show loopsF 0 codJ = [] from rfl] at h; simp at h
  · match j, hj with
    | 0, hj => obtain rfl := Option.some.inj hj; exact absurd h (by decide)
    | 1, hj => obtain rfl := Option.some.inj hj; exact absurd h (by decide)
    | j + 2, hj => simp [codJ] at hj
theorem sJ_fine : FineS sJ := by
  refine ⟨⟨by decide, by decide⟩, by decide, fun t ht => ?_, fun t ht => ?_, fun o ho => ?_, fun o ho => ?_, fun i t ht c hc h => ?_⟩
  · obtain rfl : t = ⟨1, 0, 9, 0, 1, 1, codJ⟩ := by simpa [sJ] using ht
    decide
  · obtain rfl : t = ⟨1, 0, 9, 0, 1, 1, codJ⟩ := by simpa [sJ] using ht
    exact codJ_fine
  · cases ho
  · cases ho
  · match i, ht with
    | 0, ht =>
      obtain rfl := Option.some.inj ht
      simp only [codJ, List.mem_cons, List.not_mem_nil, or_false] at hc
      rcases hc with rfl | rfl
      · exact absurd (show callI 0 = 0 by kernel_rfl) h
      · exact absurd (show callI 21 = 0 by kernel_rfl) h
    | i + 1, ht => simp [sJ] at ht
theorem goR_succ (f : Int → Int) (d : Int) (n : Nat) (r : Int) : goR f d (n + 1) r = if d < r then (0, 13) else if r = f r then (r, 0) else goR f d n (f r) := rfl
theorem loadJ : loadM sJ 0 1 [0] = 2 := by kernel_rfl
theorem respJ : respM sJ 0 [0] = (0, 13) := by
  unfold respM
  rw [if_pos (show inB sJ 0 = true by rfl), show (10001 : Nat) = 9999 + 1 + 1 from rfl, goR_succ, if_neg (show ¬ (sJ.t 0).deadline < 1 by decide), loadJ, if_neg (by decide), goR_succ, if_pos (show (sJ.t 0).deadline < 2 by decide)]
theorem allJ : (allM sJ (ranksM [0]) 1).e = 13 := by
  show (rtStep sJ (ranksM [0]) (rt0 sJ) 0).e = 13
  have hi : idxM (ranksM [0]) ((0 : Nat) : Int) = 0 := by kernel_rfl
  have hc : (rt0 sJ).cs = [0] := rfl
  unfold rtStep
  rw [if_neg (show ¬ (rt0 sJ).e ≠ 0 by decide)]
  simp only [hi, hc, respJ]
  rfl
theorem okJ (W : World) (ga gb : Nat) (hA : Blk W ga #[.int .i64 0, .int .i64 0, .int .i64 0, .int .i64 0, .int .u32 0, .int .i64 21, .int .i64 0, .int .i64 0, .int .i64 0, .int .u32 0] 53) (hB : Blk W gb #[.int .i64 1, .int .i64 0, .int .i64 9, .int .i64 0, .int .i64 1, .int .i64 1, .slice (some ⟨ga, 0, none⟩) 2 2] 31) : SysOK W (some ⟨gb, 0, none⟩) 1 none 0 [dJ ga] [] := by
  have o1 : W.ownsRow 0 31 7 (.slice (some ⟨gb, 0, none⟩) 1 1) 1 ([dJ ga].flatMap (fun d => d.t.cells)) := ⟨rfl, .inr ⟨gb, 1, _, rfl, Nat.zero_le _, hB, Nat.le_refl _, by decide, rfl, rfl⟩⟩
  have o2 : W.ownsRow 0 53 5 (.slice (some ⟨ga, 0, none⟩) 2 2) 2 (codJ.flatMap Ins.cells) := ⟨rfl, .inr ⟨ga, 2, _, rfl, Nat.zero_le _, hA, Nat.le_refl _, by decide, rfl, rfl⟩⟩
  refine ⟨⟨⟨Reads.of_own o1 (by decide), fun t ht => ?_⟩, fun d hd => ?_⟩, ⟨?_, fun d hd => (by cases hd)⟩, fun d hd => (by cases hd), sJ_fine⟩
  · obtain rfl : t = (dJ ga).t := by simpa using ht
    show i64B 1
    exact ⟨by decide, by decide⟩
  · obtain rfl : d = dJ ga := by simpa using hd
    refine ⟨Reads.of_own o2 (by decide), fun i hi => ?_⟩
    have hi' : i ∈ codJ := hi
    simp only [codJ, List.mem_cons, List.not_mem_nil, or_false] at hi'
    rcases hi' with rfl | rfl <;> rfl
  · exact ⟨rfl, Nat.zero_le _, .inl ⟨rfl, none, 0, rfl, fun _ => rfl, Nat.zero_le _⟩⟩
set_option maxHeartbeats 4000000 in
theorem judges_any (W : World) : Calls Tryz.prog 6 #[] W fun e W' => e = .returned (.bool true) ∧ Chg [] W W' := by
  have HC3 : Hid (Chg [] W (((W.alloc (.cells #[.int .i64 0, .int .i64 0, .int .i64 0, .int .i64 0, .int .u32 0, .int .i64 21, .int .i64 0, .int .i64 0, .int .i64 0, .int .u32 0] 53)).alloc (.cells #[.int .i64 1, .int .i64 0, .int .i64 9, .int .i64 0, .int .i64 1, .int .i64 1, .slice (some ⟨W.heap.size, 0, none⟩) 2 2] 31)).alloc (.cells #[.int .i64 1, .int .i64 0, .int .i64 9, .int .i64 0, .int .i64 1, .int .i64 1, .slice (some ⟨W.heap.size, 0, none⟩) 2 2] 31))) := Lib.hid ((((Chg.refl [] W).alloc _).alloc _).alloc _)
  have HA : Hid (Blk (((W.alloc (.cells #[.int .i64 0, .int .i64 0, .int .i64 0, .int .i64 0, .int .u32 0, .int .i64 21, .int .i64 0, .int .i64 0, .int .i64 0, .int .u32 0] 53)).alloc (.cells #[.int .i64 1, .int .i64 0, .int .i64 9, .int .i64 0, .int .i64 1, .int .i64 1, .slice (some ⟨W.heap.size, 0, none⟩) 2 2] 31)).alloc (.cells #[.int .i64 1, .int .i64 0, .int .i64 9, .int .i64 0, .int .i64 1, .int .i64 1, .slice (some ⟨W.heap.size, 0, none⟩) 2 2] 31)) W.heap.size #[.int .i64 0, .int .i64 0, .int .i64 0, .int .i64 0, .int .u32 0, .int .i64 21, .int .i64 0, .int .i64 0, .int .i64 0, .int .u32 0] 53) := Lib.hid (((Blk.new W _ _).alloc _).alloc _)
  have HB : Hid (Blk (((W.alloc (.cells #[.int .i64 0, .int .i64 0, .int .i64 0, .int .i64 0, .int .u32 0, .int .i64 21, .int .i64 0, .int .i64 0, .int .i64 0, .int .u32 0] 53)).alloc (.cells #[.int .i64 1, .int .i64 0, .int .i64 9, .int .i64 0, .int .i64 1, .int .i64 1, .slice (some ⟨W.heap.size, 0, none⟩) 2 2] 31)).alloc (.cells #[.int .i64 1, .int .i64 0, .int .i64 9, .int .i64 0, .int .i64 1, .int .i64 1, .slice (some ⟨W.heap.size, 0, none⟩) 2 2] 31)) (W.heap.size + 1 + 1) #[.int .i64 1, .int .i64 0, .int .i64 9, .int .i64 0, .int .i64 1, .int .i64 1, .slice (some ⟨W.heap.size, 0, none⟩) 2 2] 31) := Lib.hid (by
    have := Blk.new ((W.alloc (.cells #[.int .i64 0, .int .i64 0, .int .i64 0, .int .i64 0, .int .u32 0, .int .i64 21, .int .i64 0, .int .i64 0, .int .i64 0, .int .u32 0] 53)).alloc (.cells #[.int .i64 1, .int .i64 0, .int .i64 9, .int .i64 0, .int .i64 1, .int .i64 1, .slice (some ⟨W.heap.size, 0, none⟩) 2 2] 31)) #[.int .i64 1, .int .i64 0, .int .i64 9, .int .i64 0, .int .i64 1, .int .i64 1, .slice (some ⟨W.heap.size, 0, none⟩) 2 2] 31
    rwa [show ((W.alloc (.cells #[.int .i64 0, .int .i64 0, .int .i64 0, .int .i64 0, .int .u32 0, .int .i64 21, .int .i64 0, .int .i64 0, .int .i64 0, .int .u32 0] 53)).alloc (.cells #[.int .i64 1, .int .i64 0, .int .i64 9, .int .i64 0, .int .i64 1, .int .i64 1, .slice (some ⟨W.heap.size, 0, none⟩) 2 2] 31)).heap.size = W.heap.size + 1 + 1 by simp] at this)
  have hck := acheck_any (some ⟨W.heap.size + 1 + 1, 0, none⟩) 1 none 0 [dJ W.heap.size] [] (((W.alloc (.cells #[.int .i64 0, .int .i64 0, .int .i64 0, .int .i64 0, .int .u32 0, .int .i64 21, .int .i64 0, .int .i64 0, .int .i64 0, .int .u32 0] 53)).alloc (.cells #[.int .i64 1, .int .i64 0, .int .i64 9, .int .i64 0, .int .i64 1, .int .i64 1, .slice (some ⟨W.heap.size, 0, none⟩) 2 2] 31)).alloc (.cells #[.int .i64 1, .int .i64 0, .int .i64 9, .int .i64 0, .int .i64 1, .int .i64 1, .slice (some ⟨W.heap.size, 0, none⟩) 2 2] 31)) (okJ _ _ _ HA.out HB.out) (by rfl) (fun i k _ hk => absurd hk (by simp)) (fun _ k hk => absurd hk (by simp))
  rw [sysJ] at hck
  have HCK : Hid (Calls Tryz.prog 10 #[.agg #[.slice (some ⟨W.heap.size + 1 + 1, 0, none⟩) 1 1, .slice none 0 0]] (((W.alloc (.cells #[.int .i64 0, .int .i64 0, .int .i64 0, .int .i64 0, .int .u32 0, .int .i64 21, .int .i64 0, .int .i64 0, .int .i64 0, .int .u32 0] 53)).alloc (.cells #[.int .i64 1, .int .i64 0, .int .i64 9, .int .i64 0, .int .i64 1, .int .i64 1, .slice (some ⟨W.heap.size, 0, none⟩) 2 2] 31)).alloc (.cells #[.int .i64 1, .int .i64 0, .int .i64 9, .int .i64 0, .int .i64 1, .int .i64 1, .slice (some ⟨W.heap.size, 0, none⟩) 2 2] 31)) fun e W' => (∃ x, e = .returned (.agg #[.int .i64 13, .int .i64 x, .int .i64 (-1), .slice none 0 0])) ∧ Chg [] (((W.alloc (.cells #[.int .i64 0, .int .i64 0, .int .i64 0, .int .i64 0, .int .u32 0, .int .i64 21, .int .i64 0, .int .i64 0, .int .i64 0, .int .u32 0] 53)).alloc (.cells #[.int .i64 1, .int .i64 0, .int .i64 9, .int .i64 0, .int .i64 1, .int .i64 1, .slice (some ⟨W.heap.size, 0, none⟩) 2 2] 31)).alloc (.cells #[.int .i64 1, .int .i64 0, .int .i64 9, .int .i64 0, .int .i64 1, .int .i64 1, .slice (some ⟨W.heap.size, 0, none⟩) 2 2] 31)) W') := Lib.hid (hck.mono fun e W' ⟨h1, h2⟩ => ⟨by
    have hj : (allM sJ (ranksM ([dJ W.heap.size].map (fun d => d.t.prio))) [dJ W.heap.size].length).e = 13 := allJ
    rcases h1 with ⟨-, h3⟩ | ⟨h3, -⟩
    · rw [hj] at h3
      exact ⟨_, h3⟩
    · rw [hj] at h3
      exact absurd h3 (by decide), h2⟩)
  clear hck
  go_enter Tryz.func6, Tryz.ntmps6
  go_wp2_with (go_at_call 10; refine HCK.out.mono ?_; rintro e w4 ⟨⟨x, rfl⟩, hc4⟩; have HC4 := Lib.hid hc4; have hfd : ∀ u, (Instr.field 40 (.agg #[.int .i64 13, .int .i64 x, .int .i64 (-1), .slice none 0 0]) 0).run Tryz.prog u = .ok (.int .i64 13) u := (fun u => by first | kernel_rfl | simp [Instr.field, go_sem, asAgg]); clear hc4)
  go_ret
  exact ⟨by first | rfl | simp, HC3.out.trans HC4.out⟩
end Go.Proofs.YtkedegbpkkgeaaaGreat.tf
