/- Images: two systems: are they the same. -/
import Derived.Test.YtkmalnojkjmjiaaImgL
import Derived.Test.YtkmalnojkjmjiaaPlans
namespace Go.Proofs.Ytkmalnojkjmjiaa.img
open Go Go.RowKit Go.Proofs.Ytkmalnojkjmjiaa.kit Go.Proofs.Ytkmalnojkjmjiaa.obj Go.Proofs.Ytkmalnojkjmjiaa.mem Go.Proofs.Ytkmalnojkjmjiaa.lay Go.Proofs.Ytkmalnojkjmjiaa.codec
set_option linter.unusedVariables false
set_option linter.unusedSimpArgs false
set_option maxRecDepth 20000
theorem take_snocR {R : Type} {l : List R} {j : Nat} {t : R} (h : l[j]? = some t) : l.take (j + 1) = l.take j ++ [t] := by
  have hj := List.getElem?_eq_some_iff.1 h
  rw [List.take_succ_eq_append_getElem hj.1, hj.2]
def sameS (ts us : List DT) (os ps : List DO) : Bool := decide (ts.map DT.p = us.map DT.p) && decide (os.map DO.p = ps.map DO.p)
set_option maxHeartbeats 16000000 in
theorem plSystem_any (ta : Option Addr) (tc : Nat) (oa : Option Addr) (oc : Nat) (ts : List DT) (os : List DO) (ua : Option Addr) (uc : Nat) (pa : Option Addr) (pc : Nat) (us : List DT) (ps : List DO) (W : World) (hT : ReadsDT W (.slice ta ts.length tc) ts) (hO : ReadsDO W (.slice oa os.length oc) os) (hU : ReadsDT W (.slice ua us.length uc) us) (hP : ReadsDO W (.slice pa ps.length pc) ps)
    (hl : (ts.length ≤ 900 ∧ os.length ≤ 900) ∧ us.length ≤ 900 ∧ ps.length ≤ 900) (hb1 : (∀ d ∈ ts, d.code.length ≤ 1000) ∧ ∀ d ∈ os, d.ini.length ≤ 1000 ∧ d.rds.length ≤ 1000) (hb2 : (∀ d ∈ us, d.code.length ≤ 1000) ∧ ∀ d ∈ ps, d.ini.length ≤ 1000 ∧ d.rds.length ≤ 1000) :
    Calls Try.prog 10 #[.agg #[.slice ta ts.length tc, .slice oa os.length oc], .agg #[.slice ua us.length uc, .slice pa ps.length pc]] W fun e W' => e = .returned (.bool (sameS ts us os ps)) ∧ Chg [] W W' := by
  obtain ⟨R, hR⟩ : ∃ R, sameS ts us os ps = R := ⟨_, rfl⟩
  rw [hR]
  unfold sameS at hR
  have HR := Lib.hid hR
  have hT1 := hT.1.1
  have hO1 := hO.1
  have hT2 := hU.1.1
  have hO2 := hP.1
  unfold ReadsO at hO1 hO2
  rw [rowsT_map, List.length_map] at hT1 hT2
  rw [rowsO_map, List.length_map] at hO1 hO2
  obtain ⟨b1, o1, hx1, hc1, -⟩ := reads_index (P := Try.prog) Try.underlying24 szTask hT1
  have HX1 := Lib.hid hx1
  have HE1 := Lib.hid hc1
  obtain ⟨b2, o2, hx2, hc2, -⟩ := reads_index (P := Try.prog) Try.underlying25 szObj hO1
  have HX2 := Lib.hid hx2
  have HE2 := Lib.hid hc2
  obtain ⟨b3, o3, hx3, hc3, -⟩ := reads_index (P := Try.prog) Try.underlying24 szTask hT2
  have HX3 := Lib.hid hx3
  have HE3 := Lib.hid hc3
  obtain ⟨b4, o4, hx4, hc4, -⟩ := reads_index (P := Try.prog) Try.underlying25 szObj hO2
  have HX4 := Lib.hid hx4
  have HE4 := Lib.hid hc4
  have HR1 := Lib.hid (fun d hd => (⟨hT.2 d hd, hb1.1 d hd⟩ : d.R W ∧ d.code.length ≤ 1000))
  have HR2 := Lib.hid (fun d hd => (⟨hO.2 d hd, hb1.2 d hd⟩ : d.R W ∧ d.ini.length ≤ 1000 ∧ d.rds.length ≤ 1000))
  have HR3 := Lib.hid (fun d hd => (⟨hU.2 d hd, hb2.1 d hd⟩ : d.R W ∧ d.code.length ≤ 1000))
  have HR4 := Lib.hid (fun d hd => (⟨hP.2 d hd, hb2.2 d hd⟩ : d.R W ∧ d.ini.length ≤ 1000 ∧ d.rds.length ≤ 1000))
  have HCA : Hid (Chg [] W ((W.alloc (.cells #[.slice ta ts.length tc, .slice oa os.length oc] 27)).alloc (.cells #[.slice ua us.length uc, .slice pa ps.length pc] 27))) := Lib.hid (((Chg.refl _ _).alloc _).alloc _)
  have HBX : Hid (Blk ((W.alloc (.cells #[.slice ta ts.length tc, .slice oa os.length oc] 27)).alloc (.cells #[.slice ua us.length uc, .slice pa ps.length pc] 27)) W.heap.size #[.slice ta ts.length tc, .slice oa os.length oc] 27) := Lib.hid ((Blk.new W _ _).alloc _)
  have HBY : Hid (Blk ((W.alloc (.cells #[.slice ta ts.length tc, .slice oa os.length oc] 27)).alloc (.cells #[.slice ua us.length uc, .slice pa ps.length pc] 27)) (W.heap.size + 1) #[.slice ua us.length uc, .slice pa ps.length pc] 27) := Lib.hid (by have := Blk.new (W.alloc (.cells #[.slice ta ts.length tc, .slice oa os.length oc] 27)) #[.slice ua us.length uc, .slice pa ps.length pc] 27; rwa [show (W.alloc (.cells #[.slice ta ts.length tc, .slice oa os.length oc] 27)).heap.size = W.heap.size + 1 by simp] at this)
  clear hT hO hU hP hT1 hO1 hT2 hO2 hx1 hx2 hx3 hx4 hc1 hc2 hc3 hc4 hb1 hb2 hR
  by_cases hlt : ts.length = us.length
  rotate_left
  · obtain rfl : false = R := by
      rw [← HR.out, decide_eq_false (fun he => hlt (by have := congrArg List.length he; simpa using this))]; rfl
    have h9 : ((ts.length : Int) == (us.length : Int)) = false := by simp; omega
    have h8 : ¬ (ts.length : Int) = (us.length : Int) := by omega
    clear hlt hl
    go_enter Try.func10, Try.ntmps10
    go_wp2_with fail
    go_ret
    exact ⟨rfl, HCA.out⟩
  by_cases hlo : os.length = ps.length
  rotate_left
  · obtain rfl : false = R := by
      rw [← HR.out, decide_eq_false (p := os.map DO.p = ps.map DO.p) (fun he => hlo (by have := congrArg List.length he; simpa using this))]; simp
    have h9 : ((os.length : Int) == (ps.length : Int)) = false := by simp; omega
    have h8 : ¬ (os.length : Int) = (ps.length : Int) := by omega
    have h7 : ((ts.length : Int) == (us.length : Int)) = true := by simp; omega
    have h6 : ((ts.length : Int) != (us.length : Int)) = false := by simp; omega
    clear hlt hl hlo
    go_enter Try.func10, Try.ntmps10
    go_wp2_with fail
    go_ret
    exact ⟨rfl, HCA.out⟩
  have HLL : Hid (ts.length = us.length ∧ os.length = ps.length ∧ ts.length ≤ 900 ∧ os.length ≤ 900) := Lib.hid ⟨hlt, hlo, hl.1.1, hl.1.2⟩
  have h7 : ((ts.length : Int) == (us.length : Int)) = true := by simp; omega
  have h6 : ((ts.length : Int) != (us.length : Int)) = false := by simp; omega
  have h5 : ((os.length : Int) == (ps.length : Int)) = true := by simp; omega
  have h4 : ((os.length : Int) != (ps.length : Int)) = false := by simp; omega
  clear hlt hl hlo
  go_enter Try.func10, Try.ntmps10
  go_wp2_with fail
  clear h7 h6 h5 h4
  go_loopw [26] (fun i wr => ∃ j : Nat, j ≤ ts.length ∧ i = .int .i64 j ∧ Hid ((ts.take j).map DT.p = (us.take j).map DT.p) ∧ Hid (Chg [] ((W.alloc (.cells #[.slice ta ts.length tc, .slice oa os.length oc] 27)).alloc (.cells #[.slice ua us.length uc, .slice pa ps.length pc] 27)) wr)) (fun i _ => ts.length - (intOf i).toNat)
  case atStart => exact ⟨0, Nat.zero_le _, rfl, Lib.hid (by simp), Lib.hid (Chg.refl _ _)⟩
  case round =>
    obtain ⟨j, hj, rfl, HEQ, HJ⟩ := hrel
    obtain ⟨wo, rfl⟩ : ∃ wo : World, wo = wr := ⟨_, rfl⟩
    by_cases hlt : j < ts.length
    · have HLT := Lib.hid hlt
      have hlt2 : j < us.length := by have := HLL.out; omega
      have g1 := HX1.out j hlt
      have g2 := HX3.out j hlt2
      have zX := (HBX.out.keep HJ.out (by simp)).cell (o := 0) rfl
      have zY := (HBY.out.keep HJ.out (by simp)).cell (o := 0) rfl
      obtain ⟨⟨⟨kind1, prio1, period1, offset1, deadline1, own1, ca1, cl1, cc1⟩, code1⟩, h1⟩ : ∃ t, ts[j]? = some t := ⟨_, List.getElem?_eq_getElem hlt⟩
      obtain ⟨⟨⟨kind2, prio2, period2, offset2, deadline2, own2, ca2, cl2, cc2⟩, code2⟩, h2⟩ : ∃ t, us[j]? = some t := ⟨_, List.getElem?_eq_getElem hlt2⟩
      have q0 := (HCA.out.trans HJ.out).keep (HE1.out (j * 7 + 0) _ (by rw [flatMap_get (fun d : DT => d.t.cells) 7 (fun _ => rfl) ts j 0 (by decide) _ h1]; rfl)) (by simp)
      have r0 := (HCA.out.trans HJ.out).keep (HE3.out (j * 7 + 0) _ (by rw [flatMap_get (fun d : DT => d.t.cells) 7 (fun _ => rfl) us j 0 (by decide) _ h2]; rfl)) (by simp)
      have q1 := (HCA.out.trans HJ.out).keep (HE1.out (j * 7 + 1) _ (by rw [flatMap_get (fun d : DT => d.t.cells) 7 (fun _ => rfl) ts j 1 (by decide) _ h1]; rfl)) (by simp)
      have r1 := (HCA.out.trans HJ.out).keep (HE3.out (j * 7 + 1) _ (by rw [flatMap_get (fun d : DT => d.t.cells) 7 (fun _ => rfl) us j 1 (by decide) _ h2]; rfl)) (by simp)
      have q2 := (HCA.out.trans HJ.out).keep (HE1.out (j * 7 + 2) _ (by rw [flatMap_get (fun d : DT => d.t.cells) 7 (fun _ => rfl) ts j 2 (by decide) _ h1]; rfl)) (by simp)
      have r2 := (HCA.out.trans HJ.out).keep (HE3.out (j * 7 + 2) _ (by rw [flatMap_get (fun d : DT => d.t.cells) 7 (fun _ => rfl) us j 2 (by decide) _ h2]; rfl)) (by simp)
      have q3 := (HCA.out.trans HJ.out).keep (HE1.out (j * 7 + 3) _ (by rw [flatMap_get (fun d : DT => d.t.cells) 7 (fun _ => rfl) ts j 3 (by decide) _ h1]; rfl)) (by simp)
      have r3 := (HCA.out.trans HJ.out).keep (HE3.out (j * 7 + 3) _ (by rw [flatMap_get (fun d : DT => d.t.cells) 7 (fun _ => rfl) us j 3 (by decide) _ h2]; rfl)) (by simp)
      have q4 := (HCA.out.trans HJ.out).keep (HE1.out (j * 7 + 4) _ (by rw [flatMap_get (fun d : DT => d.t.cells) 7 (fun _ => rfl) ts j 4 (by decide) _ h1]; rfl)) (by simp)
      have r4 := (HCA.out.trans HJ.out).keep (HE3.out (j * 7 + 4) _ (by rw [flatMap_get (fun d : DT => d.t.cells) 7 (fun _ => rfl) us j 4 (by decide) _ h2]; rfl)) (by simp)
      have q5 := (HCA.out.trans HJ.out).keep (HE1.out (j * 7 + 5) _ (by rw [flatMap_get (fun d : DT => d.t.cells) 7 (fun _ => rfl) ts j 5 (by decide) _ h1]; rfl)) (by simp)
      have r5 := (HCA.out.trans HJ.out).keep (HE3.out (j * 7 + 5) _ (by rw [flatMap_get (fun d : DT => d.t.cells) 7 (fun _ => rfl) us j 5 (by decide) _ h2]; rfl)) (by simp)
      have q6 := (HCA.out.trans HJ.out).keep (HE1.out (j * 7 + 6) _ (by rw [flatMap_get (fun d : DT => d.t.cells) 7 (fun _ => rfl) ts j 6 (by decide) _ h1]; rfl)) (by simp)
      have r6 := (HCA.out.trans HJ.out).keep (HE3.out (j * 7 + 6) _ (by rw [flatMap_get (fun d : DT => d.t.cells) 7 (fun _ => rfl) us j 6 (by decide) _ h2]; rfl)) (by simp)
      rw [Nat.add_zero] at q0 r0
      rw [← Nat.add_assoc] at q1 r1 q2 r2 q3 r3 q4 r4 q5 r5 q6 r6
      have hd1 := HR1.out _ (List.mem_of_getElem? h1)
      have hd2 := HR3.out _ (List.mem_of_getElem? h2)
      obtain rfl : cl1 = code1.length := hd1.1.len
      obtain rfl : cl2 = code2.length := hd2.1.len
      have HD1 := Lib.hid hd1.1
      have HD2 := Lib.hid hd2.1
      have HN1 := Lib.hid hd1.2
      have HN2 := Lib.hid hd2.2
      have HK1 := Lib.hid h1
      have HK2 := Lib.hid h2
      have HPL := Lib.hid (fun V (h : Chg [] W V) => plTask_any kind1 prio1 period1 offset1 deadline1 own1 ca1 cc1 code1 kind2 prio2 period2 offset2 deadline2 own2 ca2 cc2 code2 V ((HD1.out).chg h) ((HD2.out).chg h) ⟨HN1.out, HN2.out⟩)
      obtain ⟨B, hB⟩ : ∃ B, decide ((⟨kind1, prio1, period1, offset1, deadline1, own1, code1⟩ : PTk) = (⟨kind2, prio2, period2, offset2, deadline2, own2, code2⟩ : PTk)) = B := ⟨_, rfl⟩
      rw [hB] at HPL
      have HB := Lib.hid hB
      have KEEP := Lib.hid (fun (V : World) (h : Chg [] wo V) => (⟨h.keep zX (by simp), h.keep zY (by simp), h.keep q0 (by simp), h.keep q1 (by simp), h.keep q2 (by simp), h.keep q3 (by simp), h.keep q4 (by simp), h.keep q5 (by simp), h.keep q6 (by simp), h.keep r0 (by simp), h.keep r1 (by simp), h.keep r2 (by simp), h.keep r3 (by simp), h.keep r4 (by simp), h.keep r5 (by simp), h.keep r6 (by simp), Lib.hid h⟩ : (fun V : World => V.cell? ⟨W.heap.size, 0, none⟩ = some (.slice ta ts.length tc) ∧ V.cell? ⟨W.heap.size + 1, 0, none⟩ = some (.slice ua us.length uc) ∧ V.cell? ⟨b1, o1 + j * 7, none⟩ = some (.int .i64 kind1) ∧ V.cell? ⟨b1, o1 + j * 7 + 1, none⟩ = some (.int .i64 prio1) ∧ V.cell? ⟨b1, o1 + j * 7 + 2, none⟩ = some (.int .i64 period1) ∧ V.cell? ⟨b1, o1 + j * 7 + 3, none⟩ = some (.int .i64 offset1) ∧ V.cell? ⟨b1, o1 + j * 7 + 4, none⟩ = some (.int .i64 deadline1) ∧ V.cell? ⟨b1, o1 + j * 7 + 5, none⟩ = some (.int .i64 own1) ∧ V.cell? ⟨b1, o1 + j * 7 + 6, none⟩ = some (.slice ca1 code1.length cc1) ∧ V.cell? ⟨b3, o3 + j * 7, none⟩ = some (.int .i64 kind2) ∧ V.cell? ⟨b3, o3 + j * 7 + 1, none⟩ = some (.int .i64 prio2) ∧ V.cell? ⟨b3, o3 + j * 7 + 2, none⟩ = some (.int .i64 period2) ∧ V.cell? ⟨b3, o3 + j * 7 + 3, none⟩ = some (.int .i64 offset2) ∧ V.cell? ⟨b3, o3 + j * 7 + 4, none⟩ = some (.int .i64 deadline2) ∧ V.cell? ⟨b3, o3 + j * 7 + 5, none⟩ = some (.int .i64 own2) ∧ V.cell? ⟨b3, o3 + j * 7 + 6, none⟩ = some (.slice ca2 code2.length cc2) ∧ Hid (Chg [] wo V)) V))
      have hj0 : (0 : Int) ≤ (j : Int) := by omega
      have hj1000 : (j : Int) < 1000 := by have := HLL.out; omega
      have k8 : IntKind.i64.wrap ((j : Int) + 1) = (j : Int) + 1 := by rw [IntKind.wrap_i64]; omega
      clear hj hlt hlt2 h1 h2 hd1 hd2 hB zX zY q0 r0 q1 r1 q2 r2 q3 r3 q4 r4 q5 r5 q6 r6
      cases B
      · obtain rfl : false = R := by
          rw [← HR.out]
          have hne : ¬ ts.map DT.p = us.map DT.p := fun he => by
            have h9 := congrArg (fun l => l[j]?) he
            simp only [List.getElem?_map, HK1.out, HK2.out, Option.map_some, Option.some.injEq] at h9
            exact of_decide_eq_false HB.out h9
          rw [decide_eq_false hne]; simp
        go_upto_region 6 with fail
        have HDD : Hid (Chg [] wo wo.drew) := Lib.hid (Chg.refl _ _).drew
        have hHeld : (fun V : World => V.cell? ⟨W.heap.size, 0, none⟩ = some (.slice ta ts.length tc) ∧ V.cell? ⟨W.heap.size + 1, 0, none⟩ = some (.slice ua us.length uc) ∧ V.cell? ⟨b1, o1 + j * 7, none⟩ = some (.int .i64 kind1) ∧ V.cell? ⟨b1, o1 + j * 7 + 1, none⟩ = some (.int .i64 prio1) ∧ V.cell? ⟨b1, o1 + j * 7 + 2, none⟩ = some (.int .i64 period1) ∧ V.cell? ⟨b1, o1 + j * 7 + 3, none⟩ = some (.int .i64 offset1) ∧ V.cell? ⟨b1, o1 + j * 7 + 4, none⟩ = some (.int .i64 deadline1) ∧ V.cell? ⟨b1, o1 + j * 7 + 5, none⟩ = some (.int .i64 own1) ∧ V.cell? ⟨b1, o1 + j * 7 + 6, none⟩ = some (.slice ca1 code1.length cc1) ∧ V.cell? ⟨b3, o3 + j * 7, none⟩ = some (.int .i64 kind2) ∧ V.cell? ⟨b3, o3 + j * 7 + 1, none⟩ = some (.int .i64 prio2) ∧ V.cell? ⟨b3, o3 + j * 7 + 2, none⟩ = some (.int .i64 period2) ∧ V.cell? ⟨b3, o3 + j * 7 + 3, none⟩ = some (.int .i64 offset2) ∧ V.cell? ⟨b3, o3 + j * 7 + 4, none⟩ = some (.int .i64 deadline2) ∧ V.cell? ⟨b3, o3 + j * 7 + 5, none⟩ = some (.int .i64 own2) ∧ V.cell? ⟨b3, o3 + j * 7 + 6, none⟩ = some (.slice ca2 code2.length cc2) ∧ Hid (Chg [] wo V)) wo.drew := KEEP.out _ HDD.out
        refine wp_region_plan (fun V : World => V.cell? ⟨W.heap.size, 0, none⟩ = some (.slice ta ts.length tc) ∧ V.cell? ⟨W.heap.size + 1, 0, none⟩ = some (.slice ua us.length uc) ∧ V.cell? ⟨b1, o1 + j * 7, none⟩ = some (.int .i64 kind1) ∧ V.cell? ⟨b1, o1 + j * 7 + 1, none⟩ = some (.int .i64 prio1) ∧ V.cell? ⟨b1, o1 + j * 7 + 2, none⟩ = some (.int .i64 period1) ∧ V.cell? ⟨b1, o1 + j * 7 + 3, none⟩ = some (.int .i64 offset1) ∧ V.cell? ⟨b1, o1 + j * 7 + 4, none⟩ = some (.int .i64 deadline1) ∧ V.cell? ⟨b1, o1 + j * 7 + 5, none⟩ = some (.int .i64 own1) ∧ V.cell? ⟨b1, o1 + j * 7 + 6, none⟩ = some (.slice ca1 code1.length cc1) ∧ V.cell? ⟨b3, o3 + j * 7, none⟩ = some (.int .i64 kind2) ∧ V.cell? ⟨b3, o3 + j * 7 + 1, none⟩ = some (.int .i64 prio2) ∧ V.cell? ⟨b3, o3 + j * 7 + 2, none⟩ = some (.int .i64 period2) ∧ V.cell? ⟨b3, o3 + j * 7 + 3, none⟩ = some (.int .i64 offset2) ∧ V.cell? ⟨b3, o3 + j * 7 + 4, none⟩ = some (.int .i64 deadline2) ∧ V.cell? ⟨b3, o3 + j * 7 + 5, none⟩ = some (.int .i64 own2) ∧ V.cell? ⟨b3, o3 + j * 7 + 6, none⟩ = some (.slice ca2 code2.length cc2) ∧ Hid (Chg [] wo V)) [(0, true, some 29), (1, true, some 30), (2, true, some 31), (3, true, some 32), (4, true, some 33), (5, true, some 34), (6, true, some 35), (7, true, some 36), (8, true, some 37), (9, true, some 38), (10, false, some 39), (11, true, some 40)] (by kernel_rfl) (by kernel_rfl) (by kernel_rfl) (by kernel_rfl) (fun d c a v w h => by cases d <;> exact h) hHeld ?_
        clear hHeld
        (repeat (refine planWp_read (v := ?_) rfl rfl ?_ ?_ ?_; rotate_left; (focus rfl); (focus (intro u hSw; (try dsimp only at hSw); go_simp; (try with_reducible rfl); done)); ((try dsimp only); (try simp only [Act.put, List.setIfInBounds_toArray, List.set_cons_zero, List.set_cons_succ]))))
        refine planWp_do rfl rfl ?_ (fun K hK => ?_)
        · rfl
        go_simp
        go_wp2_with (go_at_call 26; refine (HPL.out _ ((HCA.out.trans HJ.out).trans HDD.out)).mono ?_; rintro e wa ⟨rfl, hc⟩; have HCY := Lib.hid (HDD.out.trans hc); clear hc)
        refine hK.out _ _ (KEEP.out _ HCY.out) (fun _ => ?_)
        clear hK K
        ((try dsimp only); (try simp only [Act.put, List.setIfInBounds_toArray, List.set_cons_zero, List.set_cons_succ]))
        (repeat (refine planWp_read (v := ?_) rfl rfl ?_ ?_ ?_; rotate_left; (focus rfl); (focus (intro u hSw; (try dsimp only at hSw); go_simp; (try with_reducible rfl); done)); ((try dsimp only); (try simp only [Act.put, List.setIfInBounds_toArray, List.set_cons_zero, List.set_cons_succ]))))
        refine planWp_nil ?_
        go_wp2_with fail
        go_ret
        exact ⟨rfl, HCA.out.trans (HJ.out.trans HCY.out)⟩
      · skip
        go_upto_region 6 with fail
        have HDD : Hid (Chg [] wo wo.drew) := Lib.hid (Chg.refl _ _).drew
        have hHeld : (fun V : World => V.cell? ⟨W.heap.size, 0, none⟩ = some (.slice ta ts.length tc) ∧ V.cell? ⟨W.heap.size + 1, 0, none⟩ = some (.slice ua us.length uc) ∧ V.cell? ⟨b1, o1 + j * 7, none⟩ = some (.int .i64 kind1) ∧ V.cell? ⟨b1, o1 + j * 7 + 1, none⟩ = some (.int .i64 prio1) ∧ V.cell? ⟨b1, o1 + j * 7 + 2, none⟩ = some (.int .i64 period1) ∧ V.cell? ⟨b1, o1 + j * 7 + 3, none⟩ = some (.int .i64 offset1) ∧ V.cell? ⟨b1, o1 + j * 7 + 4, none⟩ = some (.int .i64 deadline1) ∧ V.cell? ⟨b1, o1 + j * 7 + 5, none⟩ = some (.int .i64 own1) ∧ V.cell? ⟨b1, o1 + j * 7 + 6, none⟩ = some (.slice ca1 code1.length cc1) ∧ V.cell? ⟨b3, o3 + j * 7, none⟩ = some (.int .i64 kind2) ∧ V.cell? ⟨b3, o3 + j * 7 + 1, none⟩ = some (.int .i64 prio2) ∧ V.cell? ⟨b3, o3 + j * 7 + 2, none⟩ = some (.int .i64 period2) ∧ V.cell? ⟨b3, o3 + j * 7 + 3, none⟩ = some (.int .i64 offset2) ∧ V.cell? ⟨b3, o3 + j * 7 + 4, none⟩ = some (.int .i64 deadline2) ∧ V.cell? ⟨b3, o3 + j * 7 + 5, none⟩ = some (.int .i64 own2) ∧ V.cell? ⟨b3, o3 + j * 7 + 6, none⟩ = some (.slice ca2 code2.length cc2) ∧ Hid (Chg [] wo V)) wo.drew := KEEP.out _ HDD.out
        refine wp_region_plan (fun V : World => V.cell? ⟨W.heap.size, 0, none⟩ = some (.slice ta ts.length tc) ∧ V.cell? ⟨W.heap.size + 1, 0, none⟩ = some (.slice ua us.length uc) ∧ V.cell? ⟨b1, o1 + j * 7, none⟩ = some (.int .i64 kind1) ∧ V.cell? ⟨b1, o1 + j * 7 + 1, none⟩ = some (.int .i64 prio1) ∧ V.cell? ⟨b1, o1 + j * 7 + 2, none⟩ = some (.int .i64 period1) ∧ V.cell? ⟨b1, o1 + j * 7 + 3, none⟩ = some (.int .i64 offset1) ∧ V.cell? ⟨b1, o1 + j * 7 + 4, none⟩ = some (.int .i64 deadline1) ∧ V.cell? ⟨b1, o1 + j * 7 + 5, none⟩ = some (.int .i64 own1) ∧ V.cell? ⟨b1, o1 + j * 7 + 6, none⟩ = some (.slice ca1 code1.length cc1) ∧ V.cell? ⟨b3, o3 + j * 7, none⟩ = some (.int .i64 kind2) ∧ V.cell? ⟨b3, o3 + j * 7 + 1, none⟩ = some (.int .i64 prio2) ∧ V.cell? ⟨b3, o3 + j * 7 + 2, none⟩ = some (.int .i64 period2) ∧ V.cell? ⟨b3, o3 + j * 7 + 3, none⟩ = some (.int .i64 offset2) ∧ V.cell? ⟨b3, o3 + j * 7 + 4, none⟩ = some (.int .i64 deadline2) ∧ V.cell? ⟨b3, o3 + j * 7 + 5, none⟩ = some (.int .i64 own2) ∧ V.cell? ⟨b3, o3 + j * 7 + 6, none⟩ = some (.slice ca2 code2.length cc2) ∧ Hid (Chg [] wo V)) [(0, true, some 29), (1, true, some 30), (2, true, some 31), (3, true, some 32), (4, true, some 33), (5, true, some 34), (6, true, some 35), (7, true, some 36), (8, true, some 37), (9, true, some 38), (10, false, some 39), (11, true, some 40)] (by kernel_rfl) (by kernel_rfl) (by kernel_rfl) (by kernel_rfl) (fun d c a v w h => by cases d <;> exact h) hHeld ?_
        clear hHeld
        (repeat (refine planWp_read (v := ?_) rfl rfl ?_ ?_ ?_; rotate_left; (focus rfl); (focus (intro u hSw; (try dsimp only at hSw); go_simp; (try with_reducible rfl); done)); ((try dsimp only); (try simp only [Act.put, List.setIfInBounds_toArray, List.set_cons_zero, List.set_cons_succ]))))
        refine planWp_do rfl rfl ?_ (fun K hK => ?_)
        · rfl
        go_simp
        go_wp2_with (go_at_call 26; refine (HPL.out _ ((HCA.out.trans HJ.out).trans HDD.out)).mono ?_; rintro e wa ⟨rfl, hc⟩; have HCY := Lib.hid (HDD.out.trans hc); clear hc)
        refine hK.out _ _ (KEEP.out _ HCY.out) (fun _ => ?_)
        clear hK K
        ((try dsimp only); (try simp only [Act.put, List.setIfInBounds_toArray, List.set_cons_zero, List.set_cons_succ]))
        (repeat (refine planWp_read (v := ?_) rfl rfl ?_ ?_ ?_; rotate_left; (focus rfl); (focus (intro u hSw; (try dsimp only at hSw); go_simp; (try with_reducible rfl); done)); ((try dsimp only); (try simp only [Act.put, List.setIfInBounds_toArray, List.set_cons_zero, List.set_cons_succ]))))
        refine planWp_nil ?_
        go_wp2_with fail
        have hltj := HLT.out
        go_roundw
        case rel => exact ⟨j + 1, by omega, by go_num, Lib.hid (by have h9 := of_decide_eq_true HB.out; rw [take_snocR HK1.out, take_snocR HK2.out, List.map_append, List.map_append, HEQ.out]; congr 1; exact congrArg (fun z => [z]) h9), Lib.hid (HJ.out.trans HCY.out)⟩
        case measure => simp [intOf]; omega
    · obtain rfl : ts.length = j := by omega
      clear hlt hj
      have HET : Hid (ts.map DT.p = us.map DT.p) := Lib.hid (by
        have h9 := HEQ.out
        rw [List.take_length, show ts.length = us.length from HLL.out.1, List.take_length] at h9
        exact h9)
      have z1 := (HBX.out.keep HJ.out (by simp)).cell (o := 1) rfl
      obtain ⟨wp, rfl⟩ : ∃ wp : World, wp = wo := ⟨_, rfl⟩
      clear HEQ
      go_wp2_with fail
      clear z1
      go_loopw [45] (fun i wr => ∃ j : Nat, j ≤ os.length ∧ i = .int .i64 j ∧ Hid ((os.take j).map DO.p = (ps.take j).map DO.p) ∧ Hid (Chg [] ((W.alloc (.cells #[.slice ta ts.length tc, .slice oa os.length oc] 27)).alloc (.cells #[.slice ua us.length uc, .slice pa ps.length pc] 27)) wr)) (fun i _ => os.length - (intOf i).toNat)
      case atStart => exact ⟨0, Nat.zero_le _, rfl, Lib.hid (by simp), HJ⟩
      case round =>
        obtain ⟨j, hj, rfl, HEQ, HJ⟩ := hrel
        obtain ⟨wo, rfl⟩ : ∃ wo : World, wo = wr := ⟨_, rfl⟩
        by_cases hlt : j < os.length
        · have HLT := Lib.hid hlt
          have hlt2 : j < ps.length := by have := HLL.out; omega
          have g1 := HX2.out j hlt
          have g2 := HX4.out j hlt2
          have zX := (HBX.out.keep HJ.out (by simp)).cell (o := 1) rfl
          have zY := (HBY.out.keep HJ.out (by simp)).cell (o := 1) rfl
          obtain ⟨⟨⟨k1, w1, s1, c1, st1, ia1, il1, ic1, wri1, ra1, rl1, rc1⟩, ini1, rds1⟩, h1⟩ : ∃ t, os[j]? = some t := ⟨_, List.getElem?_eq_getElem hlt⟩
          obtain ⟨⟨⟨k2, w2, s2, c2, st2, ia2, il2, ic2, wri2, ra2, rl2, rc2⟩, ini2, rds2⟩, h2⟩ : ∃ t, ps[j]? = some t := ⟨_, List.getElem?_eq_getElem hlt2⟩
          have q0 := (HCA.out.trans HJ.out).keep (HE2.out (j * 8 + 0) _ (by rw [flatMap_get (fun d : DO => d.o.cells) 8 (fun _ => rfl) os j 0 (by decide) _ h1]; rfl)) (by simp)
          have r0 := (HCA.out.trans HJ.out).keep (HE4.out (j * 8 + 0) _ (by rw [flatMap_get (fun d : DO => d.o.cells) 8 (fun _ => rfl) ps j 0 (by decide) _ h2]; rfl)) (by simp)
          have q1 := (HCA.out.trans HJ.out).keep (HE2.out (j * 8 + 1) _ (by rw [flatMap_get (fun d : DO => d.o.cells) 8 (fun _ => rfl) os j 1 (by decide) _ h1]; rfl)) (by simp)
          have r1 := (HCA.out.trans HJ.out).keep (HE4.out (j * 8 + 1) _ (by rw [flatMap_get (fun d : DO => d.o.cells) 8 (fun _ => rfl) ps j 1 (by decide) _ h2]; rfl)) (by simp)
          have q2 := (HCA.out.trans HJ.out).keep (HE2.out (j * 8 + 2) _ (by rw [flatMap_get (fun d : DO => d.o.cells) 8 (fun _ => rfl) os j 2 (by decide) _ h1]; rfl)) (by simp)
          have r2 := (HCA.out.trans HJ.out).keep (HE4.out (j * 8 + 2) _ (by rw [flatMap_get (fun d : DO => d.o.cells) 8 (fun _ => rfl) ps j 2 (by decide) _ h2]; rfl)) (by simp)
          have q3 := (HCA.out.trans HJ.out).keep (HE2.out (j * 8 + 3) _ (by rw [flatMap_get (fun d : DO => d.o.cells) 8 (fun _ => rfl) os j 3 (by decide) _ h1]; rfl)) (by simp)
          have r3 := (HCA.out.trans HJ.out).keep (HE4.out (j * 8 + 3) _ (by rw [flatMap_get (fun d : DO => d.o.cells) 8 (fun _ => rfl) ps j 3 (by decide) _ h2]; rfl)) (by simp)
          have q4 := (HCA.out.trans HJ.out).keep (HE2.out (j * 8 + 4) _ (by rw [flatMap_get (fun d : DO => d.o.cells) 8 (fun _ => rfl) os j 4 (by decide) _ h1]; rfl)) (by simp)
          have r4 := (HCA.out.trans HJ.out).keep (HE4.out (j * 8 + 4) _ (by rw [flatMap_get (fun d : DO => d.o.cells) 8 (fun _ => rfl) ps j 4 (by decide) _ h2]; rfl)) (by simp)
          have q5 := (HCA.out.trans HJ.out).keep (HE2.out (j * 8 + 5) _ (by rw [flatMap_get (fun d : DO => d.o.cells) 8 (fun _ => rfl) os j 5 (by decide) _ h1]; rfl)) (by simp)
          have r5 := (HCA.out.trans HJ.out).keep (HE4.out (j * 8 + 5) _ (by rw [flatMap_get (fun d : DO => d.o.cells) 8 (fun _ => rfl) ps j 5 (by decide) _ h2]; rfl)) (by simp)
          have q6 := (HCA.out.trans HJ.out).keep (HE2.out (j * 8 + 6) _ (by rw [flatMap_get (fun d : DO => d.o.cells) 8 (fun _ => rfl) os j 6 (by decide) _ h1]; rfl)) (by simp)
          have r6 := (HCA.out.trans HJ.out).keep (HE4.out (j * 8 + 6) _ (by rw [flatMap_get (fun d : DO => d.o.cells) 8 (fun _ => rfl) ps j 6 (by decide) _ h2]; rfl)) (by simp)
          have q7 := (HCA.out.trans HJ.out).keep (HE2.out (j * 8 + 7) _ (by rw [flatMap_get (fun d : DO => d.o.cells) 8 (fun _ => rfl) os j 7 (by decide) _ h1]; rfl)) (by simp)
          have r7 := (HCA.out.trans HJ.out).keep (HE4.out (j * 8 + 7) _ (by rw [flatMap_get (fun d : DO => d.o.cells) 8 (fun _ => rfl) ps j 7 (by decide) _ h2]; rfl)) (by simp)
          rw [Nat.add_zero] at q0 r0
          rw [← Nat.add_assoc] at q1 r1 q2 r2 q3 r3 q4 r4 q5 r5 q6 r6 q7 r7
          have hd1 := HR2.out _ (List.mem_of_getElem? h1)
          have hd2 := HR4.out _ (List.mem_of_getElem? h2)
          obtain rfl : il1 = ini1.length := hd1.1.leni
          obtain rfl : rl1 = rds1.length := hd1.1.lenr
          obtain rfl : il2 = ini2.length := hd2.1.leni
          obtain rfl : rl2 = rds2.length := hd2.1.lenr
          have HD1 := Lib.hid hd1.1
          have HD2 := Lib.hid hd2.1
          have HN1 := Lib.hid hd1.2
          have HN2 := Lib.hid hd2.2
          have HK1 := Lib.hid h1
          have HK2 := Lib.hid h2
          have HPL := Lib.hid (fun V (h : Chg [] W V) => plObject_any k1 w1 s1 c1 st1 wri1 ia1 ic1 ini1 ra1 rc1 rds1 k2 w2 s2 c2 st2 wri2 ia2 ic2 ini2 ra2 rc2 rds2 V (HD1.out.1.2.chg h) (HD2.out.1.2.chg h) (HD1.out.2.chg h) (HD2.out.2.chg h) ⟨⟨HN1.out.1, HN2.out.1⟩, HN1.out.2, HN2.out.2⟩)
          obtain ⟨B, hB⟩ : ∃ B, decide ((⟨k1, w1, s1, c1, st1, wri1, ini1, rds1⟩ : POb) = (⟨k2, w2, s2, c2, st2, wri2, ini2, rds2⟩ : POb)) = B := ⟨_, rfl⟩
          rw [hB] at HPL
          have HB := Lib.hid hB
          have KEEP := Lib.hid (fun (V : World) (h : Chg [] wo V) => (⟨h.keep zX (by simp), h.keep zY (by simp), h.keep q0 (by simp), h.keep q1 (by simp), h.keep q2 (by simp), h.keep q3 (by simp), h.keep q4 (by simp), h.keep q5 (by simp), h.keep q6 (by simp), h.keep q7 (by simp), h.keep r0 (by simp), h.keep r1 (by simp), h.keep r2 (by simp), h.keep r3 (by simp), h.keep r4 (by simp), h.keep r5 (by simp), h.keep r6 (by simp), h.keep r7 (by simp), Lib.hid h⟩ : (fun V : World => V.cell? ⟨W.heap.size, 1, none⟩ = some (.slice oa os.length oc) ∧ V.cell? ⟨W.heap.size + 1, 1, none⟩ = some (.slice pa ps.length pc) ∧ V.cell? ⟨b2, o2 + j * 8, none⟩ = some (.int .i64 k1) ∧ V.cell? ⟨b2, o2 + j * 8 + 1, none⟩ = some (.int .i64 w1) ∧ V.cell? ⟨b2, o2 + j * 8 + 2, none⟩ = some (.int .i64 s1) ∧ V.cell? ⟨b2, o2 + j * 8 + 3, none⟩ = some (.int .i64 c1) ∧ V.cell? ⟨b2, o2 + j * 8 + 4, none⟩ = some (.int .u32 st1) ∧ V.cell? ⟨b2, o2 + j * 8 + 5, none⟩ = some (.slice ia1 ini1.length ic1) ∧ V.cell? ⟨b2, o2 + j * 8 + 6, none⟩ = some (.int .i64 wri1) ∧ V.cell? ⟨b2, o2 + j * 8 + 7, none⟩ = some (.slice ra1 rds1.length rc1) ∧ V.cell? ⟨b4, o4 + j * 8, none⟩ = some (.int .i64 k2) ∧ V.cell? ⟨b4, o4 + j * 8 + 1, none⟩ = some (.int .i64 w2) ∧ V.cell? ⟨b4, o4 + j * 8 + 2, none⟩ = some (.int .i64 s2) ∧ V.cell? ⟨b4, o4 + j * 8 + 3, none⟩ = some (.int .i64 c2) ∧ V.cell? ⟨b4, o4 + j * 8 + 4, none⟩ = some (.int .u32 st2) ∧ V.cell? ⟨b4, o4 + j * 8 + 5, none⟩ = some (.slice ia2 ini2.length ic2) ∧ V.cell? ⟨b4, o4 + j * 8 + 6, none⟩ = some (.int .i64 wri2) ∧ V.cell? ⟨b4, o4 + j * 8 + 7, none⟩ = some (.slice ra2 rds2.length rc2) ∧ Hid (Chg [] wo V)) V))
          have hj0 : (0 : Int) ≤ (j : Int) := by omega
          have hj1000 : (j : Int) < 1000 := by have := HLL.out; omega
          have k8 : IntKind.i64.wrap ((j : Int) + 1) = (j : Int) + 1 := by rw [IntKind.wrap_i64]; omega
          clear hj hlt hlt2 h1 h2 hd1 hd2 hB zX zY q0 r0 q1 r1 q2 r2 q3 r3 q4 r4 q5 r5 q6 r6 q7 r7
          cases B
          · obtain rfl : false = R := by
              rw [← HR.out]
              have hne : ¬ os.map DO.p = ps.map DO.p := fun he => by
                have h9 := congrArg (fun l => l[j]?) he
                simp only [List.getElem?_map, HK1.out, HK2.out, Option.map_some, Option.some.injEq] at h9
                exact of_decide_eq_false HB.out h9
              rw [decide_eq_false hne]; simp
            go_upto_region 12 with fail
            have HDD : Hid (Chg [] wo wo.drew) := Lib.hid (Chg.refl _ _).drew
            have hHeld : (fun V : World => V.cell? ⟨W.heap.size, 1, none⟩ = some (.slice oa os.length oc) ∧ V.cell? ⟨W.heap.size + 1, 1, none⟩ = some (.slice pa ps.length pc) ∧ V.cell? ⟨b2, o2 + j * 8, none⟩ = some (.int .i64 k1) ∧ V.cell? ⟨b2, o2 + j * 8 + 1, none⟩ = some (.int .i64 w1) ∧ V.cell? ⟨b2, o2 + j * 8 + 2, none⟩ = some (.int .i64 s1) ∧ V.cell? ⟨b2, o2 + j * 8 + 3, none⟩ = some (.int .i64 c1) ∧ V.cell? ⟨b2, o2 + j * 8 + 4, none⟩ = some (.int .u32 st1) ∧ V.cell? ⟨b2, o2 + j * 8 + 5, none⟩ = some (.slice ia1 ini1.length ic1) ∧ V.cell? ⟨b2, o2 + j * 8 + 6, none⟩ = some (.int .i64 wri1) ∧ V.cell? ⟨b2, o2 + j * 8 + 7, none⟩ = some (.slice ra1 rds1.length rc1) ∧ V.cell? ⟨b4, o4 + j * 8, none⟩ = some (.int .i64 k2) ∧ V.cell? ⟨b4, o4 + j * 8 + 1, none⟩ = some (.int .i64 w2) ∧ V.cell? ⟨b4, o4 + j * 8 + 2, none⟩ = some (.int .i64 s2) ∧ V.cell? ⟨b4, o4 + j * 8 + 3, none⟩ = some (.int .i64 c2) ∧ V.cell? ⟨b4, o4 + j * 8 + 4, none⟩ = some (.int .u32 st2) ∧ V.cell? ⟨b4, o4 + j * 8 + 5, none⟩ = some (.slice ia2 ini2.length ic2) ∧ V.cell? ⟨b4, o4 + j * 8 + 6, none⟩ = some (.int .i64 wri2) ∧ V.cell? ⟨b4, o4 + j * 8 + 7, none⟩ = some (.slice ra2 rds2.length rc2) ∧ Hid (Chg [] wo V)) wo.drew := KEEP.out _ HDD.out
            refine wp_region_plan (fun V : World => V.cell? ⟨W.heap.size, 1, none⟩ = some (.slice oa os.length oc) ∧ V.cell? ⟨W.heap.size + 1, 1, none⟩ = some (.slice pa ps.length pc) ∧ V.cell? ⟨b2, o2 + j * 8, none⟩ = some (.int .i64 k1) ∧ V.cell? ⟨b2, o2 + j * 8 + 1, none⟩ = some (.int .i64 w1) ∧ V.cell? ⟨b2, o2 + j * 8 + 2, none⟩ = some (.int .i64 s1) ∧ V.cell? ⟨b2, o2 + j * 8 + 3, none⟩ = some (.int .i64 c1) ∧ V.cell? ⟨b2, o2 + j * 8 + 4, none⟩ = some (.int .u32 st1) ∧ V.cell? ⟨b2, o2 + j * 8 + 5, none⟩ = some (.slice ia1 ini1.length ic1) ∧ V.cell? ⟨b2, o2 + j * 8 + 6, none⟩ = some (.int .i64 wri1) ∧ V.cell? ⟨b2, o2 + j * 8 + 7, none⟩ = some (.slice ra1 rds1.length rc1) ∧ V.cell? ⟨b4, o4 + j * 8, none⟩ = some (.int .i64 k2) ∧ V.cell? ⟨b4, o4 + j * 8 + 1, none⟩ = some (.int .i64 w2) ∧ V.cell? ⟨b4, o4 + j * 8 + 2, none⟩ = some (.int .i64 s2) ∧ V.cell? ⟨b4, o4 + j * 8 + 3, none⟩ = some (.int .i64 c2) ∧ V.cell? ⟨b4, o4 + j * 8 + 4, none⟩ = some (.int .u32 st2) ∧ V.cell? ⟨b4, o4 + j * 8 + 5, none⟩ = some (.slice ia2 ini2.length ic2) ∧ V.cell? ⟨b4, o4 + j * 8 + 6, none⟩ = some (.int .i64 wri2) ∧ V.cell? ⟨b4, o4 + j * 8 + 7, none⟩ = some (.slice ra2 rds2.length rc2) ∧ Hid (Chg [] wo V)) [(0, true, some 48), (1, true, some 49), (2, true, some 50), (3, true, some 51), (4, true, some 52), (5, true, some 53), (6, true, some 54), (7, true, some 55), (8, true, some 56), (9, true, some 57), (10, false, some 58), (11, true, some 59)] (by kernel_rfl) (by kernel_rfl) (by kernel_rfl) (by kernel_rfl) (fun d c a v w h => by cases d <;> exact h) hHeld ?_
            clear hHeld
            (repeat (refine planWp_read (v := ?_) rfl rfl ?_ ?_ ?_; rotate_left; (focus rfl); (focus (intro u hSw; (try dsimp only at hSw); go_simp; (try with_reducible rfl); done)); ((try dsimp only); (try simp only [Act.put, List.setIfInBounds_toArray, List.set_cons_zero, List.set_cons_succ]))))
            refine planWp_do rfl rfl ?_ (fun K hK => ?_)
            · rfl
            go_simp
            go_wp2_with (go_at_call 27; refine (HPL.out _ ((HCA.out.trans HJ.out).trans HDD.out)).mono ?_; rintro e wa ⟨rfl, hc⟩; have HCY := Lib.hid (HDD.out.trans hc); clear hc)
            refine hK.out _ _ (KEEP.out _ HCY.out) (fun _ => ?_)
            clear hK K
            ((try dsimp only); (try simp only [Act.put, List.setIfInBounds_toArray, List.set_cons_zero, List.set_cons_succ]))
            (repeat (refine planWp_read (v := ?_) rfl rfl ?_ ?_ ?_; rotate_left; (focus rfl); (focus (intro u hSw; (try dsimp only at hSw); go_simp; (try with_reducible rfl); done)); ((try dsimp only); (try simp only [Act.put, List.setIfInBounds_toArray, List.set_cons_zero, List.set_cons_succ]))))
            refine planWp_nil ?_
            go_wp2_with fail
            go_ret
            exact ⟨rfl, HCA.out.trans (HJ.out.trans HCY.out)⟩
          · skip
            go_upto_region 12 with fail
            have HDD : Hid (Chg [] wo wo.drew) := Lib.hid (Chg.refl _ _).drew
            have hHeld : (fun V : World => V.cell? ⟨W.heap.size, 1, none⟩ = some (.slice oa os.length oc) ∧ V.cell? ⟨W.heap.size + 1, 1, none⟩ = some (.slice pa ps.length pc) ∧ V.cell? ⟨b2, o2 + j * 8, none⟩ = some (.int .i64 k1) ∧ V.cell? ⟨b2, o2 + j * 8 + 1, none⟩ = some (.int .i64 w1) ∧ V.cell? ⟨b2, o2 + j * 8 + 2, none⟩ = some (.int .i64 s1) ∧ V.cell? ⟨b2, o2 + j * 8 + 3, none⟩ = some (.int .i64 c1) ∧ V.cell? ⟨b2, o2 + j * 8 + 4, none⟩ = some (.int .u32 st1) ∧ V.cell? ⟨b2, o2 + j * 8 + 5, none⟩ = some (.slice ia1 ini1.length ic1) ∧ V.cell? ⟨b2, o2 + j * 8 + 6, none⟩ = some (.int .i64 wri1) ∧ V.cell? ⟨b2, o2 + j * 8 + 7, none⟩ = some (.slice ra1 rds1.length rc1) ∧ V.cell? ⟨b4, o4 + j * 8, none⟩ = some (.int .i64 k2) ∧ V.cell? ⟨b4, o4 + j * 8 + 1, none⟩ = some (.int .i64 w2) ∧ V.cell? ⟨b4, o4 + j * 8 + 2, none⟩ = some (.int .i64 s2) ∧ V.cell? ⟨b4, o4 + j * 8 + 3, none⟩ = some (.int .i64 c2) ∧ V.cell? ⟨b4, o4 + j * 8 + 4, none⟩ = some (.int .u32 st2) ∧ V.cell? ⟨b4, o4 + j * 8 + 5, none⟩ = some (.slice ia2 ini2.length ic2) ∧ V.cell? ⟨b4, o4 + j * 8 + 6, none⟩ = some (.int .i64 wri2) ∧ V.cell? ⟨b4, o4 + j * 8 + 7, none⟩ = some (.slice ra2 rds2.length rc2) ∧ Hid (Chg [] wo V)) wo.drew := KEEP.out _ HDD.out
            refine wp_region_plan (fun V : World => V.cell? ⟨W.heap.size, 1, none⟩ = some (.slice oa os.length oc) ∧ V.cell? ⟨W.heap.size + 1, 1, none⟩ = some (.slice pa ps.length pc) ∧ V.cell? ⟨b2, o2 + j * 8, none⟩ = some (.int .i64 k1) ∧ V.cell? ⟨b2, o2 + j * 8 + 1, none⟩ = some (.int .i64 w1) ∧ V.cell? ⟨b2, o2 + j * 8 + 2, none⟩ = some (.int .i64 s1) ∧ V.cell? ⟨b2, o2 + j * 8 + 3, none⟩ = some (.int .i64 c1) ∧ V.cell? ⟨b2, o2 + j * 8 + 4, none⟩ = some (.int .u32 st1) ∧ V.cell? ⟨b2, o2 + j * 8 + 5, none⟩ = some (.slice ia1 ini1.length ic1) ∧ V.cell? ⟨b2, o2 + j * 8 + 6, none⟩ = some (.int .i64 wri1) ∧ V.cell? ⟨b2, o2 + j * 8 + 7, none⟩ = some (.slice ra1 rds1.length rc1) ∧ V.cell? ⟨b4, o4 + j * 8, none⟩ = some (.int .i64 k2) ∧ V.cell? ⟨b4, o4 + j * 8 + 1, none⟩ = some (.int .i64 w2) ∧ V.cell? ⟨b4, o4 + j * 8 + 2, none⟩ = some (.int .i64 s2) ∧ V.cell? ⟨b4, o4 + j * 8 + 3, none⟩ = some (.int .i64 c2) ∧ V.cell? ⟨b4, o4 + j * 8 + 4, none⟩ = some (.int .u32 st2) ∧ V.cell? ⟨b4, o4 + j * 8 + 5, none⟩ = some (.slice ia2 ini2.length ic2) ∧ V.cell? ⟨b4, o4 + j * 8 + 6, none⟩ = some (.int .i64 wri2) ∧ V.cell? ⟨b4, o4 + j * 8 + 7, none⟩ = some (.slice ra2 rds2.length rc2) ∧ Hid (Chg [] wo V)) [(0, true, some 48), (1, true, some 49), (2, true, some 50), (3, true, some 51), (4, true, some 52), (5, true, some 53), (6, true, some 54), (7, true, some 55), (8, true, some 56), (9, true, some 57), (10, false, some 58), (11, true, some 59)] (by kernel_rfl) (by kernel_rfl) (by kernel_rfl) (by kernel_rfl) (fun d c a v w h => by cases d <;> exact h) hHeld ?_
            clear hHeld
            (repeat (refine planWp_read (v := ?_) rfl rfl ?_ ?_ ?_; rotate_left; (focus rfl); (focus (intro u hSw; (try dsimp only at hSw); go_simp; (try with_reducible rfl); done)); ((try dsimp only); (try simp only [Act.put, List.setIfInBounds_toArray, List.set_cons_zero, List.set_cons_succ]))))
            refine planWp_do rfl rfl ?_ (fun K hK => ?_)
            · rfl
            go_simp
            go_wp2_with (go_at_call 27; refine (HPL.out _ ((HCA.out.trans HJ.out).trans HDD.out)).mono ?_; rintro e wa ⟨rfl, hc⟩; have HCY := Lib.hid (HDD.out.trans hc); clear hc)
            refine hK.out _ _ (KEEP.out _ HCY.out) (fun _ => ?_)
            clear hK K
            ((try dsimp only); (try simp only [Act.put, List.setIfInBounds_toArray, List.set_cons_zero, List.set_cons_succ]))
            (repeat (refine planWp_read (v := ?_) rfl rfl ?_ ?_ ?_; rotate_left; (focus rfl); (focus (intro u hSw; (try dsimp only at hSw); go_simp; (try with_reducible rfl); done)); ((try dsimp only); (try simp only [Act.put, List.setIfInBounds_toArray, List.set_cons_zero, List.set_cons_succ]))))
            refine planWp_nil ?_
            go_wp2_with fail
            have hltj := HLT.out
            go_roundw
            case rel => exact ⟨j + 1, by omega, by go_num, Lib.hid (by have h9 := of_decide_eq_true HB.out; rw [take_snocR HK1.out, take_snocR HK2.out, List.map_append, List.map_append, HEQ.out]; congr 1; exact congrArg (fun z => [z]) h9), Lib.hid (HJ.out.trans HCY.out)⟩
            case measure => simp [intOf]; omega
        · obtain rfl : os.length = j := by omega
          clear hlt hj
          have hgood : R = true := by
            rw [← HR.out]
            have h9 := HEQ.out
            rw [List.take_length, show os.length = ps.length from HLL.out.2.1, List.take_length] at h9
            rw [decide_eq_true HET.out, decide_eq_true h9]; rfl
          subst hgood
          go_wp2_with fail
          go_ret
          exact ⟨rfl, HCA.out.trans HJ.out⟩
end Go.Proofs.Ytkmalnojkjmjiaa.img
