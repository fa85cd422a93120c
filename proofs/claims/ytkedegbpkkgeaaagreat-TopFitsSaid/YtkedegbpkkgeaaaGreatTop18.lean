import Derived.Test.YtkedegbpkkgeaaaGreatTop17
import Derived.Test.YtkedegbpkkgeaaaGreatTop1
/- TopFits: the reference: Check of a system. -/
namespace Go.Proofs.YtkedegbpkkgeaaaGreat.tf
open Go Go.RowKit Go.Proofs.YtkedegbpkkgeaaaGreat.kit Go.Proofs.YtkedegbpkkgeaaaGreat.obj Go.Proofs.YtkedegbpkkgeaaaGreat.mem Go.Proofs.YtkedegbpkkgeaaaGreat.lay Go.Proofs.YtkedegbpkkgeaaaGreat.isa
set_option linter.unusedVariables false
set_option linter.unusedSimpArgs false
set_option maxRecDepth 20000

theorem szSpot : (Tryz.prog.info? 49).map (·.size) = some 3 := by kernel_rfl
theorem u32_bd {n : Int} (h : (Lit.int .u32 n).wf = true) : 0 ≤ n ∧ n ≤ 4294967295 := by
  simp [Lit.wf, IntKind.min, IntKind.max, IntKind.signed, IntKind.bits] at h
  omega
theorem call_b {i : Ins} (h : rightI i = true) (hc : callI i.op ≠ 0) : 0 ≤ i.b ∧ i.b < 8 := by
  obtain ⟨op, a, b, c, n⟩ := i
  simp only at hc ⊢
  have h4 : op = 17 ∨ op = 18 ∨ op = 19 ∨ op = 20 := by
    unfold callI at hc
    split at hc
    · omega
    · omega
  rcases h4 with rfl | rfl | rfl | rfl
  · rw [show rightI ⟨17, a, b, c, n⟩ = _ from rightI_in 17 (by decide)] at h
    simp only [Bool.and_eq_true] at h
    have := h.2.1
    rw [show (shapeAt 17).b = 2 from by kernel_rfl] at this
    simpa [fitsI] using this
  · rw [show rightI ⟨18, a, b, c, n⟩ = _ from rightI_in 18 (by decide)] at h
    simp only [Bool.and_eq_true] at h
    have := h.2.1
    rw [show (shapeAt 18).b = 2 from by kernel_rfl] at this
    simpa [fitsI] using this
  · rw [show rightI ⟨19, a, b, c, n⟩ = _ from rightI_in 19 (by decide)] at h
    simp only [Bool.and_eq_true] at h
    have := h.2.1
    rw [show (shapeAt 19).b = 2 from by kernel_rfl] at this
    simpa [fitsI] using this
  · rw [show rightI ⟨20, a, b, c, n⟩ = _ from rightI_in 20 (by decide)] at h
    simp only [Bool.and_eq_true] at h
    have := h.2.1
    rw [show (shapeAt 20).b = 2 from by kernel_rfl] at this
    simpa [fitsI] using this
theorem right_op {i : Ins} (h : rightI i = true) : 0 ≤ i.op ∧ i.op < 22 := by
  unfold rightI at h
  split at h
  · assumption
  · cases h
def callP (x : S) (no : Nat) (i : Nat) (t : T) (c : Ins) : Prop := callI c.op ≠ 0 → (0 ≤ c.b ∧ c.b < no) ∧ (callI c.op = writesI (x.o c.b).k ∨ callI c.op = readsI (x.o c.b).k) ∧ callI c.op = roleM x i c.b ∧ c.n + (x.o c.b).w ≤ t.own
def taskP (d : DT) : Prop := plainP d.t.kind d.t.prio d.t.period d.t.offset d.t.deadline d.t.own ∧ FineP d.code
def objP (d : DO) : Prop := rightB d.o.k d.o.w d.o.s d.o.c d.o.st d.o.il d.o.rl = true ∧ WhoP (d.o.wr :: d.rds)
def uptoL {α : Type} (l : List α) (P : Nat → α → Prop) (j : Nat) : Prop := ∀ (k : Nat) (i : α), k < j → l[k]? = some i → P k i
theorem uptoL.zero {α : Type} (l : List α) (P : Nat → α → Prop) : uptoL l P 0 := fun k i h => by omega
theorem uptoL.succ {α : Type} {l : List α} {P : Nat → α → Prop} {j : Nat} {x : α} (h : uptoL l P j) (hx : l[j]? = some x) (hP : P j x) : uptoL l P (j + 1) := fun k i hk hi => by
  by_cases e : k = j
  · subst e; rw [hx] at hi; cases hi; exact hP
  · exact h k i (by omega) hi
theorem uptoL.all {α : Type} {l : List α} {P : Nat → α → Prop} (h : uptoL l P l.length) {k : Nat} {i : α} (hi : l[k]? = some i) : P k i := h k i (List.getElem?_eq_some_iff.1 hi).1 hi
theorem fineS_of {ts : List DT} {os : List DO} (h1 : 1 ≤ ts.length ∧ ts.length ≤ 8 ∧ os.length ≤ 8) (hl : ∀ d ∈ os, d.o.il = d.ini.length ∧ d.o.rl = d.rds.length) (h2 : uptoL ts (fun _ d => taskP d) ts.length) (h3 : uptoL os (fun _ d => objP d) os.length)
    (h4 : uptoL os (fun _ d => ∀ x ∈ d.o.wr :: d.rds, x < ts.length) os.length) (h5 : uptoL ts (fun i d => uptoL d.code (fun _ c => callP (sys ts os) os.length i d.p c) d.code.length) ts.length) : FineS (sys ts os) := by
  have ht : ∀ t ∈ (sys ts os).ts, ∃ d, t = d.p ∧ taskP d := fun t h => by
    obtain ⟨d, hd, rfl⟩ := List.mem_map.1 h
    obtain ⟨k, hk⟩ := List.mem_iff_getElem?.1 hd
    exact ⟨d, rfl, h2.all hk⟩
  have ho : ∀ t ∈ (sys ts os).os, ∃ d, t = d.p ∧ objP d ∧ (∀ x ∈ d.o.wr :: d.rds, x < ts.length) ∧ d ∈ os := fun t h => by
    obtain ⟨d, hd, rfl⟩ := List.mem_map.1 h
    obtain ⟨k, hk⟩ := List.mem_iff_getElem?.1 hd
    exact ⟨d, rfl, h3.all hk, h4.all hk, hd⟩
  refine ⟨by simpa [sys] using ⟨h1.1, h1.2.1⟩, by simpa [sys] using h1.2.2, fun t h => ?_, fun t h => ?_, fun t h => ?_, fun t h => ?_, fun i t h => ?_⟩
  · obtain ⟨d, rfl, hd, -⟩ := ht t h
    exact hd
  · obtain ⟨d, rfl, -, hd⟩ := ht t h
    exact hd
  · obtain ⟨d, rfl, hd, -, hm⟩ := ho t h
    have := hd.1
    have e := hl d hm
    rw [e.1, e.2] at this
    exact this
  · obtain ⟨d, rfl, hd, hx, -⟩ := ho t h
    refine ⟨hd.2.nd, fun x hm => ?_⟩
    have h1' := hd.2.rg x hm
    have h2' := hx x hm
    simp only [sys, List.length_map]
    omega
  · unfold sys at h
    rw [List.getElem?_map] at h
    cases hd : ts[i]? with
    | none => rw [hd] at h; simp at h
    | some d =>
      rw [hd] at h
      simp at h
      subst h
      intro c hc hne
      obtain ⟨k, hk⟩ := List.mem_iff_getElem?.1 hc
      have := (h5.all hd).all hk hne
      simpa [sys] using this
set_option maxHeartbeats 64000000 in
theorem r32Check_any (ta : Option Addr) (tc : Nat) (oa : Option Addr) (oc : Nat) (ts : List DT) (os : List DO) (W : World) (hT : ReadsDT W (.slice ta ts.length tc) ts) (hO : ReadsDO W (.slice oa os.length oc) os) (hw : ∀ d ∈ os, d.o.W) (hlen : ts.length ≤ 1000 ∧ os.length ≤ 1000) (hrd : ∀ d ∈ os, d.rds.length ≤ 1000) :
    Calls Tryz.prog 13 #[.agg #[.slice ta ts.length tc, .slice oa os.length oc]] W fun e W' => CodeP (fun x => x = 0 → FineS (sys ts os) ∧ ofCode (ts.map DT.t) (os.map DO.o) = 0) e ∧ Chg [] W W' := by
  obtain ⟨-, b1, o1, hx1, hc1⟩ := tasks_at hT
  obtain ⟨-, b2, o2, hx2, hc2⟩ := objs_at hO
  have HX1 := Lib.hid hx1
  have HC1 := Lib.hid hc1
  have HX2 := Lib.hid hx2
  have HC2 := Lib.hid hc2
  have HT := Lib.hid hT
  have HO := Lib.hid hO
  have HWO := Lib.hid hw
  have HLEN := Lib.hid hlen
  have HRDS := Lib.hid hrd
  have HC3 : Hid (Chg [] W (((W.alloc (.cells #[.slice ta ts.length tc, .slice oa os.length oc] 25)).alloc (.cells #[.int .i64 0, .int .i64 0, .int .i64 0] 49)).alloc (.cells #[.int .i64 (-1), .int .i64 (-1), .int .i64 (-1)] 49))) := Lib.hid ((((Chg.refl [] W).alloc _).alloc _).alloc _)
  have HBS : Hid (Blk (((W.alloc (.cells #[.slice ta ts.length tc, .slice oa os.length oc] 25)).alloc (.cells #[.int .i64 0, .int .i64 0, .int .i64 0] 49)).alloc (.cells #[.int .i64 (-1), .int .i64 (-1), .int .i64 (-1)] 49)) W.heap.size #[.slice ta ts.length tc, .slice oa os.length oc] 25) := Lib.hid (((Blk.new W _ _).alloc _).alloc _)
  have HB2 : Hid (Blk (((W.alloc (.cells #[.slice ta ts.length tc, .slice oa os.length oc] 25)).alloc (.cells #[.int .i64 0, .int .i64 0, .int .i64 0] 49)).alloc (.cells #[.int .i64 (-1), .int .i64 (-1), .int .i64 (-1)] 49)) (W.heap.size + 1) #[.int .i64 0, .int .i64 0, .int .i64 0] 49) := Lib.hid (by
    have := (Blk.new (W.alloc (.cells #[.slice ta ts.length tc, .slice oa os.length oc] 25)) #[.int .i64 0, .int .i64 0, .int .i64 0] 49).alloc (.cells #[.int .i64 (-1), .int .i64 (-1), .int .i64 (-1)] 49)
    rwa [show (W.alloc (.cells #[.slice ta ts.length tc, .slice oa os.length oc] 25)).heap.size = W.heap.size + 1 by simp] at this)
  have HB4 : Hid (Blk (((W.alloc (.cells #[.slice ta ts.length tc, .slice oa os.length oc] 25)).alloc (.cells #[.int .i64 0, .int .i64 0, .int .i64 0] 49)).alloc (.cells #[.int .i64 (-1), .int .i64 (-1), .int .i64 (-1)] 49)) (W.heap.size + 1 + 1) #[.int .i64 (-1), .int .i64 (-1), .int .i64 (-1)] 49) := Lib.hid (by
    have := Blk.new ((W.alloc (.cells #[.slice ta ts.length tc, .slice oa os.length oc] 25)).alloc (.cells #[.int .i64 0, .int .i64 0, .int .i64 0] 49)) #[.int .i64 (-1), .int .i64 (-1), .int .i64 (-1)] 49
    rwa [show ((W.alloc (.cells #[.slice ta ts.length tc, .slice oa os.length oc] 25)).alloc (.cells #[.int .i64 0, .int .i64 0, .int .i64 0] 49)).heap.size = W.heap.size + 1 + 1 by simp] at this)
  clear hT hO hw hlen hrd hx1 hx2 hc1 hc2
  go_enter Tryz.func13, Tryz.ntmps13
  go_upto_region 2 with fail
  obtain ⟨w3, hw3⟩ : ∃ w3, w3 = (((W.alloc (.cells #[.slice ta ts.length tc, .slice oa os.length oc] 25)).alloc (.cells #[.int .i64 0, .int .i64 0, .int .i64 0] 49)).alloc (.cells #[.int .i64 (-1), .int .i64 (-1), .int .i64 (-1)] 49)) := ⟨_, rfl⟩
  rw [← hw3] at HC3 HBS HB2 HB4 ⊢
  clear hw3
  have SYS : Hid (∀ V, Chg [] w3 V → V.cell? ⟨W.heap.size, 0, none⟩ = some (.slice ta ts.length tc) ∧ V.cell? ⟨W.heap.size, 1, none⟩ = some (.slice oa os.length oc)) :=
    Lib.hid (fun V hV => ⟨(HBS.out.keep hV (by simp)).cell rfl, (HBS.out.keep hV (by simp)).cell rfl⟩)
  have HR3 := Lib.hid (Chg.refl [] w3)
  obtain ⟨s0, s1⟩ := SYS.out _ HR3.out
  have r0 : w3.cell? ⟨W.heap.size + 1 + 1, 0, none⟩ = some (.int .i64 (-1)) := HB4.out.cell rfl
  have r1 : w3.cell? ⟨W.heap.size + 1 + 1, 1, none⟩ = some (.int .i64 (-1)) := HB4.out.cell rfl
  have r2 : w3.cell? ⟨W.heap.size + 1 + 1, 2, none⟩ = some (.int .i64 (-1)) := HB4.out.cell rfl
  have HJE := HR3
  by_cases h0 : ts.length < 1
  · have m0 : (ts.length : Int) < 1 := by omega
    go_wp2_with (refine Go.Proofs.YtkedegbpkkgeaaaGreat.blk.wpList_store_blk rfl 49 (.tmp 2) (.tmp 40) rfl (W.heap.size + 1) _ rfl rfl (HB2.out.keep HJE.out (by simp)) szSpot rfl (by simp [Value.oneCell']) ?_; intro w9 hb9 hc9; have HB9 := Lib.hid hb9; have HC9 := Lib.hid hc9; clear hb9 hc9)
    refine bodyPost_ret (results_row_tmp1 rfl _ _ (W.heap.size + 1) 49 _ (0, 0) _ rfl HB9.out Tryz.underlying49 rfl szSpot) rfl ?_
    exact ⟨.mk _ _ _ _ rfl (fun h => absurd h (by decide)), (HC3.out.trans HJE.out).into HC9.out (fun y hy => .inr (by simp at hy; omega))⟩
  by_cases h8 : 8 < ts.length
  · have m0 : ¬ (ts.length : Int) < 1 := by omega
    have m1 : (8 : Int) < (ts.length : Int) := by omega
    go_wp2_with (refine Go.Proofs.YtkedegbpkkgeaaaGreat.blk.wpList_store_blk rfl 49 (.tmp 2) (.tmp 40) rfl (W.heap.size + 1) _ rfl rfl (HB2.out.keep HJE.out (by simp)) szSpot rfl (by simp [Value.oneCell']) ?_; intro w9 hb9 hc9; have HB9 := Lib.hid hb9; have HC9 := Lib.hid hc9; clear hb9 hc9)
    refine bodyPost_ret (results_row_tmp1 rfl _ _ (W.heap.size + 1) 49 _ (0, 0) _ rfl HB9.out Tryz.underlying49 rfl szSpot) rfl ?_
    exact ⟨.mk _ _ _ _ rfl (fun h => absurd h (by decide)), (HC3.out.trans HJE.out).into HC9.out (fun y hy => .inr (by simp at hy; omega))⟩
  by_cases ho8 : 8 < os.length
  · have m0 : ¬ (ts.length : Int) < 1 := by omega
    have m1 : ¬ (8 : Int) < (ts.length : Int) := by omega
    have m2 : (8 : Int) < (os.length : Int) := by omega
    go_wp2_with (refine Go.Proofs.YtkedegbpkkgeaaaGreat.blk.wpList_store_blk rfl 49 (.tmp 2) (.tmp 40) rfl (W.heap.size + 1) _ rfl rfl (HB2.out.keep HJE.out (by simp)) szSpot rfl (by simp [Value.oneCell']) ?_; intro w9 hb9 hc9; have HB9 := Lib.hid hb9; have HC9 := Lib.hid hc9; clear hb9 hc9)
    refine bodyPost_ret (results_row_tmp1 rfl _ _ (W.heap.size + 1) 49 _ (0, 0) _ rfl HB9.out Tryz.underlying49 rfl szSpot) rfl ?_
    exact ⟨.mk _ _ _ _ rfl (fun h => absurd h (by decide)), (HC3.out.trans HJE.out).into HC9.out (fun y hy => .inr (by simp at hy; omega))⟩
  have m0 : ¬ (ts.length : Int) < 1 := by omega
  have m1 : ¬ (8 : Int) < (ts.length : Int) := by omega
  have m2 : ¬ (8 : Int) < (os.length : Int) := by omega
  have HL8 : Hid (1 ≤ ts.length ∧ ts.length ≤ 8 ∧ os.length ≤ 8) := Lib.hid (by omega)
  clear h0 h8 ho8 HJE
  go_wp2_with fail
  clear m0 m1 m2 s0 s1 r0 r1 r2
  go_loopw [44] (fun i wr => ∃ j : Nat, j ≤ ts.length ∧ i = .int .i64 j ∧ Hid (uptoL ts (fun _ d => taskP d) j) ∧ Hid (Chg [] w3 wr)) (fun i _ => ts.length - (intOf i).toNat)
  case atStart => exact ⟨0, Nat.zero_le _, rfl, Lib.hid (uptoL.zero _ _), HR3⟩
  case round =>
    obtain ⟨j, hj, rfl, HG, HJ⟩ := hrel
    by_cases hlt : j < ts.length
    · have HLT := Lib.hid hlt
      have mj : (j : Int) < (ts.length : Int) := by omega
      have g1 := HX1.out j hlt
      obtain ⟨d, htk⟩ : ∃ t, ts[j]? = some t := ⟨_, List.getElem?_eq_getElem hlt⟩
      have hq := HC1.out wr (HC3.out.trans HJ.out) j _ htk
      have hdR := HT.out.2 d (List.mem_of_getElem? htk)
      have HK := Lib.hid htk
      obtain ⟨⟨tk, tp, tpe, tof, td, tow, tca, tcl, tcc⟩, code⟩ := d
      obtain ⟨⟨q0, q1, q2, q3⟩, q4, q5, q6⟩ := hq
      simp only at q0 q1 q2 q3 q4 q5 q6
      have HF := Lib.hid (fun V (hV : Chg [] W V) => r26Fault_any tk tp tpe tof td tow tca tcl tcc code V (ReadsC.chg hdR hV))
      have HAL : Hid (Chg [] w3 (wr.alloc (.cells #[.int .i64 tk, .int .i64 tp, .int .i64 tpe, .int .i64 tof, .int .i64 td, .int .i64 tow, .slice tca tcl tcc] 31))) := Lib.hid (HJ.out.alloc _)
      have k8 : IntKind.i64.wrap ((j : Int) + 1) = (j : Int) + 1 := by rw [IntKind.wrap_i64]; have := HL8.out; omega
      clear htk hj hlt hdR
      go_wp2_with (first
        | (go_at_call 29; refine (HF.out _ (HC3.out.trans HAL.out)).mono ?_; rintro e w4 ⟨⟨v, x, rfl, hx⟩, hc4⟩; have HJE := Lib.hid (HAL.out.trans hc4); have HXX := Lib.hid hx; clear hc4 hx; rcases (show x = 0 ∨ (x == 0) = false from by by_cases h : x = 0; exact .inl h; exact .inr (by simpa using h)) with rfl | d0)
        | (refine Go.Proofs.YtkedegbpkkgeaaaGreat.blk.wpList_store_blk rfl 49 (.tmp 2) (.tmp 58) rfl (W.heap.size + 1) _ rfl rfl (HB2.out.keep HJE.out (by simp)) szSpot rfl (by simp [Value.oneCell']) ?_; intro w9 hb9 hc9; have HB9 := Lib.hid hb9; have HC9 := Lib.hid hc9; clear hb9 hc9))
      · have hltj := HLT.out
        go_roundw
        case rel => exact ⟨j + 1, by omega, by go_num, Lib.hid (HG.out.succ HK.out (HXX.out (by first | rfl | trivial))), HJE⟩
        case measure => simp [intOf]; omega
      · refine bodyPost_ret (results_row_tmp1 rfl _ _ (W.heap.size + 1) 49 _ (0, 0) _ rfl HB9.out Tryz.underlying49 rfl szSpot) rfl ?_
        exact ⟨.mk _ _ _ _ rfl (fun h => by subst h; simp at d0), (HC3.out.trans HJE.out).into HC9.out (fun y hy => .inr (by simp at hy; omega))⟩
    · obtain rfl : ts.length = j := by omega
      have HG1 := HG
      clear hlt hj HG HR3
      obtain ⟨s0, s1⟩ := SYS.out _ HJ.out
      go_wp2_with fail
      clear s0 s1
      go_loopw [64] (fun i wr => ∃ j : Nat, j ≤ os.length ∧ i = .int .i64 j ∧ Hid (uptoL os (fun _ d => objP d) j) ∧ Hid (Chg [] w3 wr)) (fun i _ => os.length - (intOf i).toNat)
      case atStart => exact ⟨0, Nat.zero_le _, rfl, Lib.hid (uptoL.zero _ _), HJ⟩
      case round =>
        clear HJ
        obtain ⟨j, hj, rfl, HG, HJ⟩ := hrel
        by_cases hlt : j < os.length
        · have HLT := Lib.hid hlt
          have mj : (j : Int) < (os.length : Int) := by omega
          have g1 := HX2.out j hlt
          obtain ⟨d, htk⟩ : ∃ t, os[j]? = some t := ⟨_, List.getElem?_eq_getElem hlt⟩
          have hq := HC2.out wr (HC3.out.trans HJ.out) j _ htk
          have hdR := HO.out.2 d (List.mem_of_getElem? htk)
          have hdl := HRDS.out d (List.mem_of_getElem? htk)
          have hdw := HWO.out d (List.mem_of_getElem? htk)
          have HK := Lib.hid htk
          obtain ⟨⟨k, w, s, c, st, ia, il, ic, wri, ra, rl, rc⟩, ini, rds⟩ := d
          obtain ⟨⟨q0, q1, q2, q3⟩, q4, q5, q6, q7⟩ := hq
          simp only at q0 q1 q2 q3 q4 q5 q6 q7 hdl
          have HF := Lib.hid (fun V (hV : Chg [] W V) => r20Right_any k w s c st ia il ic wri ra rl rc rds V (ReadsN.chg hdR.2 hV) hdl hdw)
          have HAL : Hid (Chg [] w3 (wr.alloc (.cells #[.int .i64 k, .int .i64 w, .int .i64 s, .int .i64 c, .int .u32 st, .slice ia il ic, .int .i64 wri, .slice ra rl rc] 46))) := Lib.hid (HJ.out.alloc _)
          have k8 : IntKind.i64.wrap ((j : Int) + 1) = (j : Int) + 1 := by rw [IntKind.wrap_i64]; have := HL8.out; omega
          clear htk hj hlt hdR hdl hdw
          go_wp2_with (first
            | (go_at_call 30; refine (HF.out _ (HC3.out.trans HAL.out)).mono ?_; rintro e w4 ⟨⟨x, rfl, hx⟩, hc4⟩; have HJE := Lib.hid (HAL.out.trans hc4); have HXX := Lib.hid hx; clear hc4 hx; cases x)
            | (refine Go.Proofs.YtkedegbpkkgeaaaGreat.blk.wpList_store_blk rfl 49 (.tmp 2) (.tmp 73) rfl (W.heap.size + 1) _ rfl rfl (HB2.out.keep HJE.out (by simp)) szSpot rfl (by simp [Value.oneCell']) ?_; intro w9 hb9 hc9; have HB9 := Lib.hid hb9; have HC9 := Lib.hid hc9; clear hb9 hc9))
          · refine bodyPost_ret (results_row_tmp1 rfl _ _ (W.heap.size + 1) 49 _ (0, 0) _ rfl HB9.out Tryz.underlying49 rfl szSpot) rfl ?_
            exact ⟨.mk _ _ _ _ rfl (fun h => absurd h (by decide)), (HC3.out.trans HJE.out).into HC9.out (fun y hy => .inr (by simp at hy; omega))⟩
          · have hltj := HLT.out
            go_roundw
            case rel => exact ⟨j + 1, by omega, by go_num, Lib.hid (HG.out.succ HK.out (HXX.out (by first | rfl | trivial))), HJE⟩
            case measure => simp [intOf]; omega
        · obtain rfl : os.length = j := by omega
          have HG2 := HG
          clear hlt hj HG
          obtain ⟨s0, s1⟩ := SYS.out _ HJ.out
          go_wp2_with fail
          clear s0 s1
          go_loopw [78] (fun i wr => ∃ j : Nat, j ≤ os.length ∧ i = .int .i64 j ∧ Hid (uptoL os (fun _ d => ∀ x ∈ d.o.wr :: d.rds, x < ts.length) j) ∧ Hid (Chg [] w3 wr)) (fun i _ => os.length - (intOf i).toNat)
          case atStart => exact ⟨0, Nat.zero_le _, rfl, Lib.hid (uptoL.zero _ _), HJ⟩
          case round =>
            clear HJ
            obtain ⟨j, hj, rfl, HG, HJ⟩ := hrel
            by_cases hlt : j < os.length
            · have HLT := Lib.hid hlt
              have mj : (j : Int) < (os.length : Int) := by omega
              have g1 := HX2.out j hlt
              obtain ⟨d, htk⟩ : ∃ t, os[j]? = some t := ⟨_, List.getElem?_eq_getElem hlt⟩
              have hq := HC2.out wr (HC3.out.trans HJ.out) j _ htk
              have hdR := HO.out.2 d (List.mem_of_getElem? htk)
              have hdl := HRDS.out d (List.mem_of_getElem? htk)
              have HK := Lib.hid htk
              obtain ⟨⟨k, w, s, c, st, ia, il, ic, wri, ra, rl, rc⟩, ini, rds⟩ := d
              obtain ⟨⟨q0, q1, q2, q3⟩, q4, q5, q6, q7⟩ := hq
              simp only at q0 q1 q2 q3 q4 q5 q6 q7 hdl
              obtain ⟨hrl, b3, o3, hx3, hc3⟩ := ints_at hdR.2
              simp only at hrl
              subst hrl
              have HX3 := Lib.hid hx3
              have HC3' := Lib.hid hc3
              have HRL := Lib.hid hdl
              have HJE : Hid (Chg [] w3 (wr.alloc (.cells #[.int .i64 k, .int .i64 w, .int .i64 s, .int .i64 c, .int .u32 st, .slice ia il ic, .int .i64 wri, .slice ra rds.length rc] 46))) := Lib.hid (HJ.out.alloc _)
              obtain ⟨s0, s1⟩ := SYS.out _ HJE.out
              have k8 : IntKind.i64.wrap ((j : Int) + 1) = (j : Int) + 1 := by rw [IntKind.wrap_i64]; have := HL8.out; omega
              clear htk hj hlt hdR hdl hx3 hc3
              by_cases c1 : (ts.length : Int) ≤ wri
              · go_wp2_with (refine Go.Proofs.YtkedegbpkkgeaaaGreat.blk.wpList_store_blk rfl 49 (.tmp 2) (.tmp 92) rfl (W.heap.size + 1) _ rfl rfl (HB2.out.keep HJE.out (by simp)) szSpot rfl (by simp [Value.oneCell']) ?_; intro w9 hb9 hc9; have HB9 := Lib.hid hb9; have HC9 := Lib.hid hc9; clear hb9 hc9)
                refine bodyPost_ret (results_row_tmp1 rfl _ _ (W.heap.size + 1) 49 _ (0, 0) _ rfl HB9.out Tryz.underlying49 rfl szSpot) rfl ?_
                exact ⟨.mk _ _ _ _ rfl (fun h => absurd h (by decide)), (HC3.out.trans HJE.out).into HC9.out (fun y hy => .inr (by simp at hy; omega))⟩
              · have HWL : Hid (wri < (ts.length : Int)) := Lib.hid (by omega)
                go_wp2_with fail
                obtain ⟨wO, hwO⟩ : ∃ x, x = wr.alloc (.cells #[.int .i64 k, .int .i64 w, .int .i64 s, .int .i64 c, .int .u32 st, .slice ia il ic, .int .i64 wri, .slice ra rds.length rc] 46) := ⟨_, rfl⟩
                rw [← hwO] at HJE
                try rw [← hwO]
                clear hwO c1 mj g1 q0 q1 q2 q3 q4 q5 q6 q7 s0 s1
                go_loopw [96] (fun i wr => ∃ m : Nat, m ≤ rds.length ∧ i = .int .i64 m ∧ Hid (∀ x ∈ rds.take m, x < (ts.length : Int)) ∧ Hid (Chg [] w3 wr)) (fun i _ => rds.length - (intOf i).toNat)
                case atStart => exact ⟨0, Nat.zero_le _, rfl, Lib.hid (by simp), HJE⟩
                case round =>
                  clear HJE
                  obtain ⟨m, hm, rfl, HGI, HJE⟩ := hrel
                  by_cases hlm : m < rds.length
                  · have HLM := Lib.hid hlm
                    have mm : (m : Int) < (rds.length : Int) := by omega
                    have g3 := HX3.out m hlm
                    obtain ⟨x, hxk⟩ : ∃ t, rds[m]? = some t := ⟨_, List.getElem?_eq_getElem hlm⟩
                    have q0 := HC3'.out wr (HC3.out.trans HJE.out) m _ hxk
                    obtain ⟨s0, s1⟩ := SYS.out _ HJE.out
                    have HXK := Lib.hid hxk
                    have k9 : IntKind.i64.wrap ((m : Int) + 1) = (m : Int) + 1 := by rw [IntKind.wrap_i64]; have := HRL.out; omega
                    clear hxk hlm hm
                    by_cases c2 : (ts.length : Int) ≤ x
                    · go_wp2_with (refine Go.Proofs.YtkedegbpkkgeaaaGreat.blk.wpList_store_blk rfl 49 (.tmp 2) (.tmp 107) rfl (W.heap.size + 1) _ rfl rfl (HB2.out.keep HJE.out (by simp)) szSpot rfl (by simp [Value.oneCell']) ?_; intro w9 hb9 hc9; have HB9 := Lib.hid hb9; have HC9 := Lib.hid hc9; clear hb9 hc9)
                      refine bodyPost_ret (results_row_tmp1 rfl _ _ (W.heap.size + 1) 49 _ (0, 0) _ rfl HB9.out Tryz.underlying49 rfl szSpot) rfl ?_
                      exact ⟨.mk _ _ _ _ rfl (fun h => absurd h (by decide)), (HC3.out.trans HJE.out).into HC9.out (fun y hy => .inr (by simp at hy; omega))⟩
                    · have HXL : Hid (x < (ts.length : Int)) := Lib.hid (by omega)
                      go_wp2_with fail
                      have hlm := HLM.out
                      go_roundw
                      case rel => exact ⟨m + 1, by omega, by go_num, Lib.hid (by
                        rw [take_snoc HXK.out]
                        intro z hz
                        rcases List.mem_append.1 hz with hz | hz
                        · exact HGI.out z hz
                        · simp at hz; subst hz; exact HXL.out), HJE⟩
                      case measure => simp [intOf]; omega
                  · obtain rfl : rds.length = m := by omega
                    have mm : ¬ (rds.length : Int) < (rds.length : Int) := by omega
                    clear hlm hm
                    rw [List.take_length] at HGI
                    go_wp2_with fail
                    have hltj := HLT.out
                    go_roundw
                    case rel => exact ⟨j + 1, by omega, by go_num, Lib.hid (HG.out.succ HK.out (fun x hx => by
                      rcases List.mem_cons.1 hx with rfl | hx
                      · exact HWL.out
                      · exact HGI.out x hx)), HJE⟩
                    case measure => simp [intOf]; omega
            · obtain rfl : os.length = j := by omega
              have HG3 := HG
              clear hlt hj HG
              obtain ⟨s0, s1⟩ := SYS.out _ HJ.out
              go_wp2_with fail
              clear s0 s1
              go_loopw [113] (fun i wr => ∃ j : Nat, j ≤ ts.length ∧ i = .int .i64 j ∧ Hid (uptoL ts (fun i d => uptoL d.code (fun _ c => callP (sys ts os) os.length i d.p c) d.code.length) j) ∧ Hid (Chg [] w3 wr)) (fun i _ => ts.length - (intOf i).toNat)
              case atStart => exact ⟨0, Nat.zero_le _, rfl, Lib.hid (uptoL.zero _ _), HJ⟩
              case round =>
                clear HJ
                obtain ⟨j, hj, rfl, HG, HJ⟩ := hrel
                by_cases hlt : j < ts.length
                · have HLT := Lib.hid hlt
                  have mj : (j : Int) < (ts.length : Int) := by omega
                  have g1 := HX1.out j hlt
                  obtain ⟨d, htk⟩ : ∃ t, ts[j]? = some t := ⟨_, List.getElem?_eq_getElem hlt⟩
                  have hq := HC1.out wr (HC3.out.trans HJ.out) j _ htk
                  have hdR : ReadsC W (.slice d.t.ca d.t.cl d.t.cc) d.code := HT.out.2 d (List.mem_of_getElem? htk)
                  have HK := Lib.hid htk
                  have HTP : Hid (taskP d) := Lib.hid (HG1.out.all htk)
                  obtain ⟨⟨tk, tp, tpe, tof, td, tow, tca, tcl, tcc⟩, code⟩ := d
                  obtain ⟨⟨q0, q1, q2, q3⟩, q4, q5, q6⟩ := hq
                  simp only at q0 q1 q2 q3 q4 q5 q6 hdR
                  obtain ⟨htcl, b3, o3, hx3, hc3⟩ := code_at hdR
                  subst htcl
                  have HX3 := Lib.hid hx3
                  have HC3' := Lib.hid hc3
                  have HUW := Lib.hid hdR.2
                  have HCL : Hid (code.length ≤ 64) := Lib.hid HTP.out.2.len.2
                  have k8 : IntKind.i64.wrap ((j : Int) + 1) = (j : Int) + 1 := by rw [IntKind.wrap_i64]; have := HL8.out; omega
                  have HAL : Hid (Chg [] w3 (wr.alloc (.cells #[.int .i64 tk, .int .i64 tp, .int .i64 tpe, .int .i64 tof, .int .i64 td, .int .i64 tow, .slice tca code.length tcc] 31))) := Lib.hid (HJ.out.alloc _)
                  have HBT0 : Hid (Blk (wr.alloc (.cells #[.int .i64 tk, .int .i64 tp, .int .i64 tpe, .int .i64 tof, .int .i64 td, .int .i64 tow, .slice tca code.length tcc] 31)) wr.heap.size #[.int .i64 tk, .int .i64 tp, .int .i64 tpe, .int .i64 tof, .int .i64 td, .int .i64 tow, .slice tca code.length tcc] 31) := Lib.hid (Blk.new _ _ _)
                  clear htk hj hdR hx3 hc3
                  go_wp2_with fail
                  obtain ⟨wT, hwT⟩ : ∃ x, x = wr.alloc (.cells #[.int .i64 tk, .int .i64 tp, .int .i64 tpe, .int .i64 tof, .int .i64 td, .int .i64 tow, .slice tca code.length tcc] 31) := ⟨_, rfl⟩
                  obtain ⟨bt, hbt⟩ : ∃ x, x = wr.heap.size := ⟨_, rfl⟩
                  rw [← hwT] at HAL
                  rw [← hwT, ← hbt] at HBT0
                  try rw [← hwT]
                  try rw [← hbt]
                  clear hwT hbt mj g1 q0 q1 q2 q3 q4 q5 q6 hlt
                  go_loopw [121] (fun i wr => ∃ m : Nat, m ≤ code.length ∧ i = .int .i64 m ∧ Hid (uptoL code (fun _ c => callP (sys ts os) os.length j (DT.p ⟨⟨tk, tp, tpe, tof, td, tow, tca, code.length, tcc⟩, code⟩) c) m) ∧ Hid (Chg [] wT wr)) (fun i _ => code.length - (intOf i).toNat)
                  case atStart => exact ⟨0, Nat.zero_le _, rfl, Lib.hid (uptoL.zero _ _), Lib.hid (Chg.refl _ _)⟩
                  case round =>
                    obtain ⟨m, hm, rfl, HGI, HJX⟩ := hrel
                    by_cases hlm : m < code.length
                    · have HLM := Lib.hid hlm
                      have mm : (m : Int) < (code.length : Int) := by omega
                      have g3 := HX3.out m hlm
                      obtain ⟨⟨op, ia, ib, ic, nn⟩, hck⟩ : ∃ t, code[m]? = some t := ⟨_, List.getElem?_eq_getElem hlm⟩
                      obtain ⟨q0, q1, q2, q3, q4⟩ := HC3'.out wr (HC3.out.trans (HAL.out.trans HJX.out)) m _ hck
                      have hright : rightI ⟨op, ia, ib, ic, nn⟩ = true := HTP.out.2.right _ (List.mem_of_getElem? hck)
                      have hop := right_op hright
                      have hun := u32_bd (HUW.out _ (List.mem_of_getElem? hck))
                      have kn := wrapI_u32 (HUW.out _ (List.mem_of_getElem? hck))
                      simp only at q0 q1 q2 q3 q4 hop hun kn
                      have HCS := Lib.hid (fun V => rCalls_any op (by omega) V)
                      obtain ⟨cp, hcp⟩ : ∃ x, callI op = x := ⟨_, rfl⟩
                      rw [hcp] at HCS
                      have HCP := Lib.hid hcp
                      have HRT := Lib.hid hright
                      have HCK := Lib.hid hck
                      have HUN := Lib.hid hun
                      have k9 : IntKind.i64.wrap ((m : Int) + 1) = (m : Int) + 1 := by rw [IntKind.wrap_i64]; have := HCL.out; omega
                      clear hck hright hop hun hcp hlm hm
                      by_cases c0 : cp = 0
                      · subst c0
                        go_wp2_with (go_at_call 31; refine (HCS.out _).mono ?_; rintro e w5 ⟨rfl, rfl⟩)
                        have hlmm := HLM.out
                        go_roundw
                        case rel => exact ⟨m + 1, by omega, by go_num, Lib.hid (HGI.out.succ HCK.out (fun hne => absurd HCP.out hne)), Lib.hid (HJX.out.alloc _)⟩
                        case measure => simp [intOf]; omega
                      · have d0 : (cp == 0) = false := by simpa using c0
                        have hb := call_b HRT.out (by simp only; rw [HCP.out]; exact c0)
                        simp only at hb
                        obtain ⟨kb, rfl⟩ := Int.eq_ofNat_of_zero_le hb.1
                        clear c0 hb
                        have HCT0 : Hid (Chg [] wT ((wr.alloc (.cells #[.int .i64 op, .int .i64 ia, .int .i64 (kb : Int), .int .i64 ic, .int .u32 nn] 53)).alloc (.cells #[.int .i64 (j : Int), .int .i64 (kb : Int), .int .i64 (m : Int)] 49))) := Lib.hid ((HJX.out.alloc _).alloc _)
                        have HBC0 : Hid (Blk ((wr.alloc (.cells #[.int .i64 op, .int .i64 ia, .int .i64 (kb : Int), .int .i64 ic, .int .u32 nn] 53)).alloc (.cells #[.int .i64 (j : Int), .int .i64 (kb : Int), .int .i64 (m : Int)] 49)) wr.heap.size #[.int .i64 op, .int .i64 ia, .int .i64 (kb : Int), .int .i64 ic, .int .u32 nn] 53) := Lib.hid ((Blk.new wr _ _).alloc _)
                        have HBP0 : Hid (Blk ((wr.alloc (.cells #[.int .i64 op, .int .i64 ia, .int .i64 (kb : Int), .int .i64 ic, .int .u32 nn] 53)).alloc (.cells #[.int .i64 (j : Int), .int .i64 (kb : Int), .int .i64 (m : Int)] 49)) (wr.heap.size + 1) #[.int .i64 (j : Int), .int .i64 (kb : Int), .int .i64 (m : Int)] 49) := Lib.hid (by
                          have := Blk.new (wr.alloc (.cells #[.int .i64 op, .int .i64 ia, .int .i64 (kb : Int), .int .i64 ic, .int .u32 nn] 53)) #[.int .i64 (j : Int), .int .i64 (kb : Int), .int .i64 (m : Int)] 49
                          rwa [show (wr.alloc (.cells #[.int .i64 op, .int .i64 ia, .int .i64 (kb : Int), .int .i64 ic, .int .u32 nn] 53)).heap.size = wr.heap.size + 1 by simp] at this)
                        go_upto_region 38 with (go_at_call 31; refine (HCS.out _).mono ?_; rintro e w5 ⟨rfl, rfl⟩)
                        obtain ⟨wS, hwS⟩ : ∃ x, x = (wr.alloc (.cells #[.int .i64 op, .int .i64 ia, .int .i64 (kb : Int), .int .i64 ic, .int .u32 nn] 53)).alloc (.cells #[.int .i64 (j : Int), .int .i64 (kb : Int), .int .i64 (m : Int)] 49) := ⟨_, rfl⟩
                        rw [← hwS] at HCT0 HBC0 HBP0
                        try rw [← hwS]
                        have HCT := HCT0
                        clear hwS q0 q1 q2 q3 q4
                        have KEEPS : Hid (∀ V, Chg [] wS V → ((V.cell? ⟨W.heap.size, 0, none⟩ = some (.slice ta ts.length tc) ∧ V.cell? ⟨W.heap.size, 1, none⟩ = some (.slice oa os.length oc)) ∧ (V.cell? ⟨wr.heap.size, 2, none⟩ = some (.int .i64 (kb : Int)) ∧ V.cell? ⟨wr.heap.size, 4, none⟩ = some (.int .u32 nn)) ∧ (V.cell? ⟨wr.heap.size + 1, 0, none⟩ = some (.int .i64 (j : Int)) ∧ V.cell? ⟨wr.heap.size + 1, 1, none⟩ = some (.int .i64 (kb : Int)) ∧ V.cell? ⟨wr.heap.size + 1, 2, none⟩ = some (.int .i64 (m : Int))) ∧ V.cell? ⟨bt, 5, none⟩ = some (.int .i64 tow)) ∧ Hid (Chg [] w3 V)) := Lib.hid (fun V hV =>
                          ⟨⟨SYS.out V ((HAL.out.trans HCT.out).trans hV), ⟨(HBC0.out.keep hV (by simp)).cell rfl, (HBC0.out.keep hV (by simp)).cell rfl⟩, ⟨(HBP0.out.keep hV (by simp)).cell rfl, (HBP0.out.keep hV (by simp)).cell rfl, (HBP0.out.keep hV (by simp)).cell rfl⟩, ((HBT0.out.keep HCT.out (by simp)).keep hV (by simp)).cell rfl⟩, Lib.hid ((HAL.out.trans HCT.out).trans hV)⟩)
                        obtain ⟨⟨⟨s0, s1⟩, ⟨z2, z4⟩, ⟨p0, p1, p2⟩, ow⟩, HJE⟩ := KEEPS.out wS (Chg.refl _ _)
                        have HJW : Hid (Chg [] W wS) := Lib.hid (HC3.out.trans HJE.out)
                        by_cases hkb : kb < os.length
                        rotate_left
                        · have m3 : (os.length : Int) ≤ (kb : Int) := by omega
                          go_upto_region 39 with fail
                          go_wp2_with (refine Go.Proofs.YtkedegbpkkgeaaaGreat.blk.wpList_store_blk rfl 49 (.tmp 2) (.tmp 166) rfl (W.heap.size + 1) _ rfl rfl (HB2.out.keep HJE.out (by simp)) szSpot rfl (by simp [Value.oneCell']) ?_; intro w9 hb9 hc9; have HB9 := Lib.hid hb9; have HC9 := Lib.hid hc9; clear hb9 hc9)
                          refine bodyPost_ret (results_row_tmp1 rfl _ _ (W.heap.size + 1) 49 _ (0, 0) _ rfl HB9.out Tryz.underlying49 rfl szSpot) rfl ?_
                          exact ⟨.mk _ _ _ _ rfl (fun h => absurd h (by decide)), (HC3.out.trans HJE.out).into HC9.out (fun y hy => .inr (by simp at hy; omega))⟩
                        · have m3 : ¬ (os.length : Int) ≤ (kb : Int) := by omega
                          have g4 := HX2.out kb hkb
                          obtain ⟨dO, hdO⟩ : ∃ t, os[kb]? = some t := ⟨_, List.getElem?_eq_getElem hkb⟩
                          have hrole := fun V (hV : Chg [] W V) => rRole_any ta tc oa oc ts os j kb V (HT.out.chg hV) (HO.out.chg hV) HLT.out hkb HLEN.out HRDS.out
                          have hwd : 1 ≤ dO.o.w ∧ dO.o.w ≤ 8 := by
                            have h1 := (HG2.out.all hdO).1
                            unfold rightB at h1
                            rw [decide_eq_true_eq] at h1
                            omega
                          have KO : ∀ V, Chg [] wS V → OC V b2 (o2 + kb * 8) dO.o := fun V hV => HC2.out V (HJW.out.trans hV) kb _ hdO
                          have HOK := Lib.hid hdO
                          have HKB := Lib.hid hkb
                          obtain ⟨⟨k, w, s, c, st, ia2, il, ic2, wri, ra, rl, rc⟩, ini, rds⟩ := dO
                          simp only at hwd
                          have KEEPO : Hid (∀ V, Chg [] wS V → V.cell? ⟨b2, o2 + kb * 8, none⟩ = some (.int .i64 k) ∧ V.cell? ⟨b2, o2 + kb * 8 + 1, none⟩ = some (.int .i64 w)) := Lib.hid (fun V hV => ⟨(KO V hV).1.1, (KO V hV).1.2.1⟩)
                          obtain ⟨y0, y1⟩ := KEEPO.out wS (Chg.refl _ _)
                          have kw : IntKind.i64.wrap (nn + w) = nn + w := by rw [IntKind.wrap_i64]; have := HUN.out; omega
                          have HWK := Lib.hid (fun V => rWrites_any k V)
                          have HRK := Lib.hid (fun V => rReads_any k V)
                          obtain ⟨wk, hwk⟩ : ∃ x, writesI k = x := ⟨_, rfl⟩
                          obtain ⟨rk, hrk⟩ : ∃ x, readsI k = x := ⟨_, rfl⟩
                          obtain ⟨rv, hrv⟩ : ∃ x, roleM (sys ts os) j kb = x := ⟨_, rfl⟩
                          rw [hwk] at HWK
                          rw [hrk] at HRK
                          rw [hrv] at hrole
                          have HRO := Lib.hid hrole
                          have HWV := Lib.hid hwk
                          have HRV := Lib.hid hrk
                          have HRW := Lib.hid hrv
                          clear hdO hkb hrole hwk hrk hrv hwd KO
                          by_cases cW : cp = wk
                          · subst cW
                            go_upto_region 40 with (go_at_call 32; refine (HWK.out _).mono ?_; rintro e w6 ⟨rfl, rfl⟩)
                            by_cases cV : cp = rv
                            rotate_left
                            · have dV : (cp == rv) = false := by simpa using cV
                              go_upto_region 41 with (go_at_call 34; refine (HRO.out _ HJW.out).mono ?_; rintro e w7 ⟨rfl, hc7⟩; clear s0 s1 z2 z4 p0 p1 p2 ow HJE y0 y1; obtain ⟨⟨⟨s0, s1⟩, ⟨z2, z4⟩, ⟨p0, p1, p2⟩, ow⟩, HJE⟩ := KEEPS.out _ hc7; obtain ⟨y0, y1⟩ := KEEPO.out _ hc7; have HC7 := Lib.hid hc7; clear hc7)
                              go_wp2_with (refine Go.Proofs.YtkedegbpkkgeaaaGreat.blk.wpList_store_blk rfl 49 (.tmp 2) (.tmp 174) rfl (W.heap.size + 1) _ rfl rfl (HB2.out.keep HJE.out (by simp)) szSpot rfl (by simp [Value.oneCell']) ?_; intro w9 hb9 hc9; have HB9 := Lib.hid hb9; have HC9 := Lib.hid hc9; clear hb9 hc9)
                              refine bodyPost_ret (results_row_tmp1 rfl _ _ (W.heap.size + 1) 49 _ (0, 0) _ rfl HB9.out Tryz.underlying49 rfl szSpot) rfl ?_
                              exact ⟨.mk _ _ _ _ rfl (fun h => absurd h (by decide)), (HC3.out.trans HJE.out).into HC9.out (fun y hy => .inr (by simp at hy; omega))⟩
                            · subst cV
                              go_upto_region 42 with (go_at_call 34; refine (HRO.out _ HJW.out).mono ?_; rintro e w7 ⟨rfl, hc7⟩; clear s0 s1 z2 z4 p0 p1 p2 ow HJE y0 y1; obtain ⟨⟨⟨s0, s1⟩, ⟨z2, z4⟩, ⟨p0, p1, p2⟩, ow⟩, HJE⟩ := KEEPS.out _ hc7; obtain ⟨y0, y1⟩ := KEEPO.out _ hc7; have HC7 := Lib.hid hc7; clear hc7)
                              by_cases cO : tow < nn + w
                              · go_quiet (fail)
                                go_upto_region 43 with fail
                                clear s0 s1 z2 z4 p0 p1 p2 ow HJE y0 y1
                                obtain ⟨⟨⟨s0, s1⟩, ⟨z2, z4⟩, ⟨p0, p1, p2⟩, ow⟩, HJE⟩ := KEEPS.out _ (HC7.out.drewN nq)
                                go_wp2_with (refine Go.Proofs.YtkedegbpkkgeaaaGreat.blk.wpList_store_blk rfl 49 (.tmp 2) (.tmp 189) rfl (W.heap.size + 1) _ rfl rfl (HB2.out.keep HJE.out (by simp)) szSpot rfl (by simp [Value.oneCell']) ?_; intro w9 hb9 hc9; have HB9 := Lib.hid hb9; have HC9 := Lib.hid hc9; clear hb9 hc9)
                                refine bodyPost_ret (results_row_tmp1 rfl _ _ (W.heap.size + 1) 49 _ (0, 0) _ rfl HB9.out Tryz.underlying49 rfl szSpot) rfl ?_
                                exact ⟨.mk _ _ _ _ rfl (fun h => absurd h (by decide)), (HC3.out.trans HJE.out).into HC9.out (fun y hy => .inr (by simp at hy; omega))⟩
                              · have cO' : ¬ tow < nn + w := cO
                                have HOW : Hid (nn + w ≤ tow) := Lib.hid (by omega)
                                clear cO
                                go_quiet (fail)
                                have HJN : Hid (Chg [] wT (w7.drewN nq)) := Lib.hid (HCT.out.trans (HC7.out.drewN nq))
                                clear s0 s1 z2 z4 p0 p1 p2 ow y0 y1 HJE
                                go_wp2_with fail
                                have hlmm := HLM.out
                                go_roundw
                                case rel => exact ⟨m + 1, by omega, by go_num, Lib.hid (HGI.out.succ HCK.out (fun _ => by
                                  have h1 := sys_o ts HOK.out
                                  refine ⟨⟨by simp only; omega, by have := HKB.out; simp only; omega⟩, ?_, ?_, ?_⟩
                                  · simp only [h1]
                                    rw [HCP.out]
                                    exact .inl HWV.out.symm
                                  · simp only
                                    rw [HCP.out]
                                    exact HRW.out.symm
                                  · simp only [h1]
                                    exact HOW.out)), HJN⟩
                                case measure => simp [intOf]; omega
                          · have dW : (cp == wk) = false := by simpa using cW
                            by_cases cR : cp = rk
                            · subst cR
                              go_upto_region 40 with (first | (go_at_call 32; refine (HWK.out _).mono ?_; rintro e w6 ⟨rfl, rfl⟩) | (go_at_call 33; refine (HRK.out _).mono ?_; rintro e w6 ⟨rfl, rfl⟩))
                              by_cases cV : cp = rv
                              rotate_left
                              · have dV : (cp == rv) = false := by simpa using cV
                                go_upto_region 41 with (go_at_call 34; refine (HRO.out _ HJW.out).mono ?_; rintro e w7 ⟨rfl, hc7⟩; clear s0 s1 z2 z4 p0 p1 p2 ow HJE y0 y1; obtain ⟨⟨⟨s0, s1⟩, ⟨z2, z4⟩, ⟨p0, p1, p2⟩, ow⟩, HJE⟩ := KEEPS.out _ hc7; obtain ⟨y0, y1⟩ := KEEPO.out _ hc7; have HC7 := Lib.hid hc7; clear hc7)
                                go_wp2_with (refine Go.Proofs.YtkedegbpkkgeaaaGreat.blk.wpList_store_blk rfl 49 (.tmp 2) (.tmp 174) rfl (W.heap.size + 1) _ rfl rfl (HB2.out.keep HJE.out (by simp)) szSpot rfl (by simp [Value.oneCell']) ?_; intro w9 hb9 hc9; have HB9 := Lib.hid hb9; have HC9 := Lib.hid hc9; clear hb9 hc9)
                                refine bodyPost_ret (results_row_tmp1 rfl _ _ (W.heap.size + 1) 49 _ (0, 0) _ rfl HB9.out Tryz.underlying49 rfl szSpot) rfl ?_
                                exact ⟨.mk _ _ _ _ rfl (fun h => absurd h (by decide)), (HC3.out.trans HJE.out).into HC9.out (fun y hy => .inr (by simp at hy; omega))⟩
                              · subst cV
                                go_upto_region 42 with (go_at_call 34; refine (HRO.out _ HJW.out).mono ?_; rintro e w7 ⟨rfl, hc7⟩; clear s0 s1 z2 z4 p0 p1 p2 ow HJE y0 y1; obtain ⟨⟨⟨s0, s1⟩, ⟨z2, z4⟩, ⟨p0, p1, p2⟩, ow⟩, HJE⟩ := KEEPS.out _ hc7; obtain ⟨y0, y1⟩ := KEEPO.out _ hc7; have HC7 := Lib.hid hc7; clear hc7)
                                by_cases cO : tow < nn + w
                                · go_quiet (fail)
                                  go_upto_region 43 with fail
                                  clear s0 s1 z2 z4 p0 p1 p2 ow HJE y0 y1
                                  obtain ⟨⟨⟨s0, s1⟩, ⟨z2, z4⟩, ⟨p0, p1, p2⟩, ow⟩, HJE⟩ := KEEPS.out _ (HC7.out.drewN nq)
                                  go_wp2_with (refine Go.Proofs.YtkedegbpkkgeaaaGreat.blk.wpList_store_blk rfl 49 (.tmp 2) (.tmp 189) rfl (W.heap.size + 1) _ rfl rfl (HB2.out.keep HJE.out (by simp)) szSpot rfl (by simp [Value.oneCell']) ?_; intro w9 hb9 hc9; have HB9 := Lib.hid hb9; have HC9 := Lib.hid hc9; clear hb9 hc9)
                                  refine bodyPost_ret (results_row_tmp1 rfl _ _ (W.heap.size + 1) 49 _ (0, 0) _ rfl HB9.out Tryz.underlying49 rfl szSpot) rfl ?_
                                  exact ⟨.mk _ _ _ _ rfl (fun h => absurd h (by decide)), (HC3.out.trans HJE.out).into HC9.out (fun y hy => .inr (by simp at hy; omega))⟩
                                · have cO' : ¬ tow < nn + w := cO
                                  have HOW : Hid (nn + w ≤ tow) := Lib.hid (by omega)
                                  clear cO
                                  go_quiet (fail)
                                  have HJN : Hid (Chg [] wT (w7.drewN nq)) := Lib.hid (HCT.out.trans (HC7.out.drewN nq))
                                  clear s0 s1 z2 z4 p0 p1 p2 ow y0 y1 HJE
                                  go_wp2_with fail
                                  have hlmm := HLM.out
                                  go_roundw
                                  case rel => exact ⟨m + 1, by omega, by go_num, Lib.hid (HGI.out.succ HCK.out (fun _ => by
                                    have h1 := sys_o ts HOK.out
                                    refine ⟨⟨by simp only; omega, by have := HKB.out; simp only; omega⟩, ?_, ?_, ?_⟩
                                    · simp only [h1]
                                      rw [HCP.out]
                                      exact .inr HRV.out.symm
                                    · simp only
                                      rw [HCP.out]
                                      exact HRW.out.symm
                                    · simp only [h1]
                                      exact HOW.out)), HJN⟩
                                  case measure => simp [intOf]; omega
                            · have dR : (cp != rk) = true := by simpa using cR
                              have dW2 : (cp != wk) = true := by simpa using cW
                              go_upto_region 39 with (first | (go_at_call 32; refine (HWK.out _).mono ?_; rintro e w6 ⟨rfl, rfl⟩) | (go_at_call 33; refine (HRK.out _).mono ?_; rintro e w6 ⟨rfl, rfl⟩))
                              go_wp2_with (refine Go.Proofs.YtkedegbpkkgeaaaGreat.blk.wpList_store_blk rfl 49 (.tmp 2) (.tmp 166) rfl (W.heap.size + 1) _ rfl rfl (HB2.out.keep HJE.out (by simp)) szSpot rfl (by simp [Value.oneCell']) ?_; intro w9 hb9 hc9; have HB9 := Lib.hid hb9; have HC9 := Lib.hid hc9; clear hb9 hc9)
                              refine bodyPost_ret (results_row_tmp1 rfl _ _ (W.heap.size + 1) 49 _ (0, 0) _ rfl HB9.out Tryz.underlying49 rfl szSpot) rfl ?_
                              exact ⟨.mk _ _ _ _ rfl (fun h => absurd h (by decide)), (HC3.out.trans HJE.out).into HC9.out (fun y hy => .inr (by simp at hy; omega))⟩
                    · obtain rfl : code.length = m := by omega
                      have mm : ¬ (code.length : Int) < (code.length : Int) := by omega
                      clear hlm hm
                      go_wp2_with fail
                      have hltj := HLT.out
                      go_roundw
                      case rel => exact ⟨j + 1, by omega, by go_num, Lib.hid (HG.out.succ HK.out HGI.out), Lib.hid (HAL.out.trans HJX.out)⟩
                      case measure => simp [intOf]; omega
                · obtain rfl : ts.length = j := by omega
                  clear hlt hj
                  have HOF := Lib.hid (fun V (hV : Chg [] W V) => rOf_any ta tc oa oc (ts.map DT.t) (os.map DO.o) V (by rw [List.length_map]; exact HT.out.1.chg hV) (by rw [List.length_map]; exact ReadsO.chg HO.out.1 hV) (by intro o ho; obtain ⟨d, hd, rfl⟩ := List.mem_map.1 ho; exact HWO.out d hd) (by simpa using HLEN.out))
                  rw [List.length_map, List.length_map] at HOF
                  obtain ⟨s0, s1⟩ := SYS.out _ HJ.out
                  go_wp2_with (first
                    | (go_at_call 35; refine (HOF.out _ (HC3.out.trans HJ.out)).mono ?_; rintro e w8 ⟨a1, c1, a2, c2, rfl, -, -, hc8⟩; have HJF := Lib.hid (HJ.out.trans hc8); have HJE : Hid (Chg [] w3 (w8.alloc (.cells #[.slice a1 (ofOwn (ts.map DT.t) (os.map DO.o)).length c1, .slice a2 (ofObjs (ts.map DT.t) (os.map DO.o)).length c2, .int .i64 (ofSize (ts.map DT.t) (os.map DO.o))] 71))) := Lib.hid (HJF.out.alloc _); have r0 : ∀ x, (w8.alloc x).cell? ⟨W.heap.size + 1 + 1, 0, none⟩ = some (.int .i64 (-1)) := fun x => (HB4.out.keep (HJF.out.alloc x) (by simp)).cell rfl; have r1 : ∀ x, (w8.alloc x).cell? ⟨W.heap.size + 1 + 1, 1, none⟩ = some (.int .i64 (-1)) := fun x => (HB4.out.keep (HJF.out.alloc x) (by simp)).cell rfl; have r2 : ∀ x, (w8.alloc x).cell? ⟨W.heap.size + 1 + 1, 2, none⟩ = some (.int .i64 (-1)) := fun x => (HB4.out.keep (HJF.out.alloc x) (by simp)).cell rfl; clear hc8)
                    | (refine Go.Proofs.YtkedegbpkkgeaaaGreat.blk.wpList_store_blk rfl 49 (.tmp 2) (.tmp 197) rfl (W.heap.size + 1) _ rfl rfl (HB2.out.keep HJE.out (by simp)) szSpot rfl (by simp [Value.oneCell']) ?_; intro w9 hb9 hc9; have HB9 := Lib.hid hb9; have HC9 := Lib.hid hc9; clear hb9 hc9))
                  refine bodyPost_ret (results_row_tmp1 rfl _ _ (W.heap.size + 1) 49 _ (0, 0) _ rfl HB9.out Tryz.underlying49 rfl szSpot) rfl ?_
                  exact ⟨.mk _ _ _ _ rfl (fun h => ⟨fineS_of HL8.out (fun d hd => ⟨DO.R.leni (HO.out.2 d hd), DO.R.lenr (HO.out.2 d hd)⟩) HG1.out HG2.out HG3.out HG.out, h⟩), (HC3.out.trans HJE.out).into HC9.out (fun y hy => .inr (by simp at hy; omega))⟩

end Go.Proofs.YtkedegbpkkgeaaaGreat.tf
/- TopFits: the reference: is a system fine. -/
namespace Go.Proofs.YtkedegbpkkgeaaaGreat.tf
open Go Go.RowKit Go.Proofs.YtkedegbpkkgeaaaGreat.kit Go.Proofs.YtkedegbpkkgeaaaGreat.obj Go.Proofs.YtkedegbpkkgeaaaGreat.mem Go.Proofs.YtkedegbpkkgeaaaGreat.lay Go.Proofs.YtkedegbpkkgeaaaGreat.isa
set_option linter.unusedVariables false
set_option linter.unusedSimpArgs false
set_option maxRecDepth 20000

set_option maxHeartbeats 4000000 in
theorem r32Fine_any (ta : Option Addr) (tc : Nat) (oa : Option Addr) (oc : Nat) (ts : List DT) (os : List DO) (W : World) (hT : ReadsDT W (.slice ta ts.length tc) ts) (hO : ReadsDO W (.slice oa os.length oc) os) (hw : ∀ d ∈ os, d.o.W) (hlen : ts.length ≤ 1000 ∧ os.length ≤ 1000) (hrd : ∀ d ∈ os, d.rds.length ≤ 1000) :
    Calls Tryz.prog 5 #[.agg #[.slice ta ts.length tc, .slice oa os.length oc]] W fun e W' => BoolP (fun x => x = true → FineS (sys ts os) ∧ ofCode (ts.map DT.t) (os.map DO.o) = 0) e ∧ Chg [] W W' := by
  have HC := Lib.hid (fun V (hV : Chg [] W V) => r32Check_any ta tc oa oc ts os V (hT.chg hV) (hO.chg hV) hw hlen hrd)
  have HCA : Hid (Chg [] W (W.alloc (.cells #[.slice ta ts.length tc, .slice oa os.length oc] 25))) := Lib.hid ((Chg.refl [] W).alloc _)
  clear hT hO hw hlen hrd
  go_enter Tryz.func5, Tryz.ntmps5
  go_wp2_with (go_at_call 13; refine (HC.out _ HCA.out).mono ?_; rintro e w1 ⟨⟨a, b, c, x, rfl, hx⟩, hc1⟩; have HJE := Lib.hid ((HCA.out.trans hc1).alloc (.cells #[.int .i64 a, .int .i64 b, .int .i64 c] 49)); have HXX := Lib.hid hx; clear hc1 hx; rcases (show x = 0 ∨ (x == 0) = false from by by_cases h : x = 0; exact .inl h; exact .inr (by simpa using h)) with rfl | d0)
  · go_ret
    exact ⟨.mk true (by first | rfl | simp) (fun _ => HXX.out (by first | rfl | trivial)), HJE.out⟩
  · go_ret
    exact ⟨.mk false (by first | rfl | simp [d0]) (fun h => absurd h (by decide)), HJE.out⟩
end Go.Proofs.YtkedegbpkkgeaaaGreat.tf
