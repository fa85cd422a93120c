import Derived.Test.YtkedegbpkkgeaaaGreatTop14
import Derived.Test.YtkedegbpkkgeaaaGreatTop5
import Derived.Test.YtkedegbpkkgeaaaGreatPlans
import Derived.Test.YtkedegbpkkgeaaaGreatTop1
import Derived.Test.YtkedegbpkkgeaaaGreatTop11
/- Systems: the reference's Of. -/
namespace Go.Proofs.YtkedegbpkkgeaaaGreat.lay
open Go Go.RowKit Go.Proofs.YtkedegbpkkgeaaaGreat.kit Go.Proofs.YtkedegbpkkgeaaaGreat.obj Go.Proofs.YtkedegbpkkgeaaaGreat.mem Go.Proofs.YtkedegbpkkgeaaaGreat.core
set_option linter.unusedVariables false
set_option linter.unusedSimpArgs false
set_option maxRecDepth 100000
theorem reads_reg_at (w : World) (a b : Int) (g : Nat) (hg : g = w.heap.size) : Reads (w.alloc (.cells #[.int .i64 a, .int .i64 b] 93)) 2 (.slice (some ⟨g, 0, none⟩) 1 1) 1 (rcells (a, b)) := by
  subst hg
  exact reads_reg w a b
theorem own_slice2 {w : World} {B e size n : Nat} {v : Value} {xs : List Value} (h : w.ownsRow B e size v n xs) (hs : 0 < size) : ∃ a c, v = .slice a n c := by
  obtain ⟨a, c, hv, -⟩ := reads_slice (Reads.of_own h hs)
  exact ⟨a, c, hv⟩
theorem results_row_tmp1 {P : Program} {fn : Func} {p q : Tmp} {ty : TypeId} (h : fn.results = #[.cell p ty, .tmp q]) (tmps : Array Value) (w : World) (g : Nat) (t : TypeId) (cs : Array Value) (fr : Nat × Nat) (d : TypeDesc)
    (hp : tmps.getD p undef = .pointer (some ⟨g, 0, none⟩)) (hg : w.heap[g]? = some (.cells cs t fr))
    (hu : P.underlying ty = some d) (hd : (match d with | .struct _ | .array _ _ => true | _ => false) = true) (hi : (P.info? ty).map (·.size) = some cs.size) :
    (results fn tmps).run P w = .ok (.tuple #[.agg cs, tmps.getD q undef]) w := by
  have hp' : tmps[p]?.getD undef = .pointer (some ⟨g, 0, none⟩) := by simpa using hp
  simp [results, h, hp', asAddr, run_loadVar_row w g t ty cs fr d hg hu hd hi]
theorem size_ne (o : Ob) (h : rightB o.k o.w o.s o.c o.st o.il o.rl = true) : (o.size != 0) = true := by
  have hb := rightB_bd h
  have hr := rop.records_bd h
  unfold Ob.size rop.sizeI
  rw [if_pos h]
  have h1 : 1 ≤ rop.headI o.k o.rl := by unfold rop.headI; repeat' split
                                         all_goals omega
  have h2 : 0 ≤ rop.recordsI o.k o.s o.rl * o.w := Int.mul_nonneg hr.1 (by omega)
  simp
  omega
theorem size_eq0 (o : Ob) (h : rightB o.k o.w o.s o.c o.st o.il o.rl = false) : (o.size != 0) = false := by
  unfold Ob.size rop.sizeI
  rw [if_neg (by rw [h]; decide)]
  rfl
theorem sum_own {ts : List Tk} (h : ts.all Tk.good = true) : 0 ≤ sumI (ts.map Tk.own) ∧ sumI (ts.map Tk.own) ≤ 64 * ts.length := by
  induction ts with
  | nil => simp [sumI]
  | cons t r ih =>
    simp only [List.all_cons, Bool.and_eq_true] at h
    have h1 := ih h.2
    have h2 := of_decide_eq_true h.1
    simp only [List.map_cons, sumI, List.length_cons]
    omega
theorem sum_size (os : List Ob) : 0 ≤ sumI (os.map Ob.size) ∧ sumI (os.map Ob.size) ≤ 1000 * os.length := by
  induction os with
  | nil => simp [sumI]
  | cons t r ih =>
    have h2 := t.size_bd
    simp only [List.map_cons, sumI, List.length_cons]
    omega
theorem cut_snoc (x : Int) (zs : List Int) (y : Int) : cutL x (zs ++ [y]) = cutL x zs ++ [(x + sumI zs, y)] := by
  rw [cutL_append]
  rfl
theorem sum_snoc (zs : List Int) (y : Int) : sumI (zs ++ [y]) = sumI zs + y := by
  rw [sumI_append]
  simp [sumI]
set_option maxHeartbeats 32000000 in
theorem rOf_any (ta : Option Addr) (tc : Nat) (oa : Option Addr) (oc : Nat) (ts : List Tk) (os : List Ob) (W : World) (hT : ReadsT W (.slice ta ts.length tc) ts) (hO : ReadsO W (.slice oa os.length oc) os) (hw : ∀ o ∈ os, o.W) (hl : ts.length ≤ 1000 ∧ os.length ≤ 1000) :
    Calls Tryz.prog 35 #[.agg #[.slice ta ts.length tc, .slice oa os.length oc]] W fun e W' => ∃ a1 c1 a2 c2, e = .returned (.tuple #[.agg #[.slice a1 (ofOwn ts os).length c1, .slice a2 (ofObjs ts os).length c2, .int .i64 (ofSize ts os)], .int .i64 (ofCode ts os)]) ∧ OwnR W' W.heap.size (.slice a1 (ofOwn ts os).length c1) (ofOwn ts os) ∧ OwnR W' W.heap.size (.slice a2 (ofObjs ts os).length c2) (ofObjs ts os) ∧ Chg [] W W' := by
  have HIR : Hid (∃ i0, Tryz.prog.info? 93 = some i0 ∧ i0.zero = some (.agg #[.int .i64 0, .int .i64 0]) ∧ i0.size = 2 ∧ i0.bytes = 16) := Lib.hid (info_parts infoReg)
  obtain ⟨b1, o1, hx1, hc1, -⟩ := reads_index (P := Tryz.prog) Tryz.underlying22 szTask hT.1
  obtain ⟨b2, o2, hx2, hc2, -⟩ := reads_index (P := Tryz.prog) Tryz.underlying23 szObj hO
  have HX1 := Lib.hid hx1
  have HCL1 := Lib.hid hc1
  have HX2 := Lib.hid hx2
  have HCL2 := Lib.hid hc2
  have HOWN := Lib.hid hT.2
  have HOW := Lib.hid hw
  have HL : Hid ((ts.length : Int) ≤ 1000 ∧ (os.length : Int) ≤ 1000) := Lib.hid (by omega)
  have HCA : Hid (Chg [] W (((W.alloc (.cells #[.slice ta ts.length tc, .slice oa os.length oc] 25)).alloc (.cells #[.slice none 0 0, .slice none 0 0, .int .i64 0] 71)).alloc (.cells #[.slice none 0 0, .slice none 0 0, .int .i64 0] 71))) := Lib.hid ((((Chg.refl _ _).alloc _).alloc _).alloc _)
  have HBX3 : Hid (Blk (((W.alloc (.cells #[.slice ta ts.length tc, .slice oa os.length oc] 25)).alloc (.cells #[.slice none 0 0, .slice none 0 0, .int .i64 0] 71)).alloc (.cells #[.slice none 0 0, .slice none 0 0, .int .i64 0] 71)) W.heap.size #[.slice ta ts.length tc, .slice oa os.length oc] 25) := Lib.hid (((Blk.new W _ _).alloc _).alloc _)
  have HBR3 : Hid (Blk (((W.alloc (.cells #[.slice ta ts.length tc, .slice oa os.length oc] 25)).alloc (.cells #[.slice none 0 0, .slice none 0 0, .int .i64 0] 71)).alloc (.cells #[.slice none 0 0, .slice none 0 0, .int .i64 0] 71)) (W.heap.size + 1) #[.slice none 0 0, .slice none 0 0, .int .i64 0] 71) := Lib.hid (by have := (Blk.new (W.alloc (.cells #[.slice ta ts.length tc, .slice oa os.length oc] 25)) #[.slice none 0 0, .slice none 0 0, .int .i64 0] 71).alloc (.cells #[.slice none 0 0, .slice none 0 0, .int .i64 0] 71); rwa [show (W.alloc (.cells #[.slice ta ts.length tc, .slice oa os.length oc] 25)).heap.size = W.heap.size + 1 by simp] at this)
  have HBO3 : Hid (Blk (((W.alloc (.cells #[.slice ta ts.length tc, .slice oa os.length oc] 25)).alloc (.cells #[.slice none 0 0, .slice none 0 0, .int .i64 0] 71)).alloc (.cells #[.slice none 0 0, .slice none 0 0, .int .i64 0] 71)) (W.heap.size + 1 + 1) #[.slice none 0 0, .slice none 0 0, .int .i64 0] 71) := Lib.hid (by have := Blk.new ((W.alloc (.cells #[.slice ta ts.length tc, .slice oa os.length oc] 25)).alloc (.cells #[.slice none 0 0, .slice none 0 0, .int .i64 0] 71)) #[.slice none 0 0, .slice none 0 0, .int .i64 0] 71; rwa [show ((W.alloc (.cells #[.slice ta ts.length tc, .slice oa os.length oc] 25)).alloc (.cells #[.slice none 0 0, .slice none 0 0, .int .i64 0] 71)).heap.size = W.heap.size + 1 + 1 by simp] at this)
  clear hT hO hw hl hx1 hx2 hc1 hc2
  go_enter Tryz.func35, Tryz.ntmps35
  go_upto_region 3 with fail
  obtain ⟨wB, hwB⟩ : ∃ wB, wB = (((W.alloc (.cells #[.slice ta ts.length tc, .slice oa os.length oc] 25)).alloc (.cells #[.slice none 0 0, .slice none 0 0, .int .i64 0] 71)).alloc (.cells #[.slice none 0 0, .slice none 0 0, .int .i64 0] 71)) := ⟨_, rfl⟩
  rw [← hwB] at HCA HBX3 HBR3 HBO3 ⊢
  have HBR := HBR3
  have HBX := HBX3
  have HBO := HBO3
  have HWB := HCA
  clear hwB
  have HSB : Hid (W.heap.size + 1 + 1 < wB.heap.size) := Lib.hid HBO.out.lt
  have e0 := HBX.out.cell (o := 0) rfl
  go_wp2_with fail
  clear e0
  go_loopw [5, 14] (fun at0 i wr => ∃ (j : Nat) (y : Int) (rs : List (Int × Int)) (ra_ : Option Addr) (rc_ : Nat), j ≤ ts.length ∧ 0 ≤ y ∧ y ≤ 64000 ∧ at0 = .int .i64 y ∧ i = .int .i64 j ∧ Hid (y = sumI ((ts.take j).map Tk.own) ∧ (ts.take j).all Tk.good = true ∧ rs = cutL 0 ((ts.take j).map Tk.own)) ∧ Hid (Blk wr (W.heap.size + 1 + 1) #[.slice ra_ rs.length rc_, .slice none 0 0, .int .i64 0] 71) ∧ Hid (OwnR wr wB.heap.size (.slice ra_ rs.length rc_) rs) ∧ Hid (Chg [W.heap.size + 1 + 1] wB wr)) (fun _ i _ => ts.length - (intOf i).toNat)
  case atStart => exact ⟨0, 0, [], none, 0, Nat.zero_le _, by omega, by omega, rfl, rfl, Lib.hid ⟨rfl, rfl, rfl⟩, HBO, Lib.hid (World.ownsRow_nil _ _ _ _), Lib.hid (Chg.refl _ _)⟩
  case round =>
    obtain ⟨j, y, rs, ra_, rc_, hj, hy0, hy1, rfl, rfl, HS, HBT, HOV, HJ⟩ := hrel
    obtain ⟨wo, rfl⟩ : ∃ wo : World, wo = wr := ⟨_, rfl⟩
    by_cases hlt : j < ts.length
    · have HLT := Lib.hid hlt
      have g1 := HX1.out j hlt
      obtain ⟨⟨kind, prio, period, offset, deadline, own, ca, cl, cc⟩, htk⟩ : ∃ t, ts[j]? = some t := ⟨_, List.getElem?_eq_getElem hlt⟩
      have q0 := (HWB.out.into HJ.out (fun y hy => .inr (by simp at hy; omega)) : Chg [] W wo).keep (HCL1.out (j * 7 + 0) _ (by rw [flatMap_get Tk.cells 7 (fun _ => rfl) ts j 0 (by decide) _ htk]; rfl)) (by simp)
      have q1 := (HWB.out.into HJ.out (fun y hy => .inr (by simp at hy; omega)) : Chg [] W wo).keep (HCL1.out (j * 7 + 1) _ (by rw [flatMap_get Tk.cells 7 (fun _ => rfl) ts j 1 (by decide) _ htk]; rfl)) (by simp)
      have q2 := (HWB.out.into HJ.out (fun y hy => .inr (by simp at hy; omega)) : Chg [] W wo).keep (HCL1.out (j * 7 + 2) _ (by rw [flatMap_get Tk.cells 7 (fun _ => rfl) ts j 2 (by decide) _ htk]; rfl)) (by simp)
      have q3 := (HWB.out.into HJ.out (fun y hy => .inr (by simp at hy; omega)) : Chg [] W wo).keep (HCL1.out (j * 7 + 3) _ (by rw [flatMap_get Tk.cells 7 (fun _ => rfl) ts j 3 (by decide) _ htk]; rfl)) (by simp)
      have q4 := (HWB.out.into HJ.out (fun y hy => .inr (by simp at hy; omega)) : Chg [] W wo).keep (HCL1.out (j * 7 + 4) _ (by rw [flatMap_get Tk.cells 7 (fun _ => rfl) ts j 4 (by decide) _ htk]; rfl)) (by simp)
      have q5 := (HWB.out.into HJ.out (fun y hy => .inr (by simp at hy; omega)) : Chg [] W wo).keep (HCL1.out (j * 7 + 5) _ (by rw [flatMap_get Tk.cells 7 (fun _ => rfl) ts j 5 (by decide) _ htk]; rfl)) (by simp)
      have q6 := (HWB.out.into HJ.out (fun y hy => .inr (by simp at hy; omega)) : Chg [] W wo).keep (HCL1.out (j * 7 + 6) _ (by rw [flatMap_get Tk.cells 7 (fun _ => rfl) ts j 6 (by decide) _ htk]; rfl)) (by simp)
      rw [Nat.add_zero] at q0
      rw [← Nat.add_assoc] at q1 q2 q3 q4 q5 q6
      have HK := Lib.hid htk
      have hj1000 : (j : Int) < 1000 := by have := HL.out; omega
      have k8 : IntKind.i64.wrap ((j : Int) + 1) = (j : Int) + 1 := by rw [IntKind.wrap_i64]; omega
      have HNT : Hid (∀ y, (Value.slice ra_ rs.length rc_).ownBlock = some y → wB.heap.size ≤ y ∧ y < wo.heap.size) := Lib.hid (fun y hy => World.ownsRow.lt HOV.out y hy)
      have e0 := (HBT.out.alloc (.cells #[.int .i64 kind, .int .i64 prio, .int .i64 period, .int .i64 offset, .int .i64 deadline, .int .i64 own, .slice ca cl cc] 31)).cell (o := 0) rfl
      clear htk hj hlt
      by_cases hg1 : own < 1
      · have HCODE : Hid (ofCode ts os = 1) := Lib.hid (by unfold ofCode; rw [if_neg]; unfold lensOk; rw [all_not HK.out (by unfold Tk.good; simp; omega)]; simp)
        have HBRr := Lib.hid ((HBR.out.keep HJ.out (by simp)).alloc (.cells #[.int .i64 kind, .int .i64 prio, .int .i64 period, .int .i64 offset, .int .i64 deadline, .int .i64 own, .slice ca cl cc] 31))
        go_wp2_with (refine Go.Proofs.YtkedegbpkkgeaaaGreat.blk.wpList_store_blk rfl 71 (.tmp 2) (.tmp 26) rfl (W.heap.size + 1) #[.slice none 0 0, .slice none 0 0, .int .i64 0] rfl rfl HBRr.out szLayout rfl (by simp [Value.oneCell']) ?_; intro w9 hb9 hc9; have HB9 := Lib.hid hb9; have HC9 := Lib.hid hc9; clear hb9 hc9)
        have HCE : Hid (Chg [] W (wo.alloc (.cells #[.int .i64 kind, .int .i64 prio, .int .i64 period, .int .i64 offset, .int .i64 deadline, .int .i64 own, .slice ca cl cc] 31))) := Lib.hid ((HWB.out.into HJ.out (fun y hy => .inr (by simp at hy; omega))).alloc _)
        refine bodyPost_ret (results_row_tmp1 rfl _ _ (W.heap.size + 1) 71 #[.slice none 0 0, .slice none 0 0, .int .i64 0] (0, 0) _ rfl HB9.out Tryz.underlying71 rfl szLayout) rfl ?_
        have hcode : ofCode ts os = 1 := HCODE.out
        have h1 : ofOwn ts os = [] := by unfold ofOwn; rw [if_neg (by rw [hcode]; decide)]
        have h2 : ofObjs ts os = [] := by unfold ofObjs; rw [if_neg (by rw [hcode]; decide)]
        have h3 : ofSize ts os = 0 := by unfold ofSize; rw [if_neg (by rw [hcode]; decide)]
        rw [h1, h2, h3, hcode]
        exact ⟨none, 0, none, 0, rfl, World.ownsRow_nil _ _ _ _, World.ownsRow_nil _ _ _ _, (HCE.out).into HC9.out (fun y hy => .inr (by simp at hy; omega))⟩
      · by_cases hg2 : 64 < own
        · have HCODE : Hid (ofCode ts os = 1) := Lib.hid (by unfold ofCode; rw [if_neg]; unfold lensOk; rw [all_not HK.out (by unfold Tk.good; simp; omega)]; simp)
          have HBRr := Lib.hid ((HBR.out.keep HJ.out (by simp)).alloc (.cells #[.int .i64 kind, .int .i64 prio, .int .i64 period, .int .i64 offset, .int .i64 deadline, .int .i64 own, .slice ca cl cc] 31))
          go_wp2_with (refine Go.Proofs.YtkedegbpkkgeaaaGreat.blk.wpList_store_blk rfl 71 (.tmp 2) (.tmp 26) rfl (W.heap.size + 1) #[.slice none 0 0, .slice none 0 0, .int .i64 0] rfl rfl HBRr.out szLayout rfl (by simp [Value.oneCell']) ?_; intro w9 hb9 hc9; have HB9 := Lib.hid hb9; have HC9 := Lib.hid hc9; clear hb9 hc9)
          have HCE : Hid (Chg [] W (wo.alloc (.cells #[.int .i64 kind, .int .i64 prio, .int .i64 period, .int .i64 offset, .int .i64 deadline, .int .i64 own, .slice ca cl cc] 31))) := Lib.hid ((HWB.out.into HJ.out (fun y hy => .inr (by simp at hy; omega))).alloc _)
          refine bodyPost_ret (results_row_tmp1 rfl _ _ (W.heap.size + 1) 71 #[.slice none 0 0, .slice none 0 0, .int .i64 0] (0, 0) _ rfl HB9.out Tryz.underlying71 rfl szLayout) rfl ?_
          have hcode : ofCode ts os = 1 := HCODE.out
          have h1 : ofOwn ts os = [] := by unfold ofOwn; rw [if_neg (by rw [hcode]; decide)]
          have h2 : ofObjs ts os = [] := by unfold ofObjs; rw [if_neg (by rw [hcode]; decide)]
          have h3 : ofSize ts os = 0 := by unfold ofSize; rw [if_neg (by rw [hcode]; decide)]
          rw [h1, h2, h3, hcode]
          exact ⟨none, 0, none, 0, rfl, World.ownsRow_nil _ _ _ _, World.ownsRow_nil _ _ _ _, (HCE.out).into HC9.out (fun y hy => .inr (by simp at hy; omega))⟩
        · have HGD : Hid (Tk.good ⟨kind, prio, period, offset, deadline, own, ca, cl, cc⟩ = true) := Lib.hid (by unfold Tk.good; simp; omega)
          have HLB : Hid (rs.length ≤ 1000) := Lib.hid (by have h1 := HS.out.2.2; have h2 := HL.out; have h3 := HLT.out; rw [h1, cutL_length, List.length_map, List.length_take]; omega)
          have hall := take_all HS.out.2.1 HK.out HGD.out
          have hmap := take_map Tk.own HK.out
          have hsum := sum_own hall
          have HNX : Hid (y + own = sumI ((ts.take (j + 1)).map Tk.own) ∧ (ts.take (j + 1)).all Tk.good = true ∧ rs ++ [(y, own)] = cutL 0 ((ts.take (j + 1)).map Tk.own)) := Lib.hid (by
            rw [hmap, sum_snoc, cut_snoc, ← HS.out.1, ← HS.out.2.2, Int.zero_add]
            exact ⟨rfl, hall, rfl⟩)
          have HYB : Hid (0 ≤ y + own ∧ y + own ≤ 64000) := Lib.hid (by rw [HNX.out.1]; have := HL.out; have h3 := HLT.out; rw [List.length_take] at hsum; omega)
          have k7 : IntKind.i64.wrap (y + own) = y + own := by have := HYB.out; rw [IntKind.wrap_i64]; omega
          clear hall hmap hsum
          go_wp2_with (at_builtin; have HOY : Hid (OwnR ((wo.alloc (.cells #[.int .i64 kind, .int .i64 prio, .int .i64 period, .int .i64 offset, .int .i64 deadline, .int .i64 own, .slice ca cl cc] 31)).alloc (.cells #[.int .i64 y, .int .i64 own] 93)) wB.heap.size (.slice ra_ rs.length rc_) rs) := Lib.hid (mem.own_chg HOV.out (((Chg.refl [] wo).alloc _).alloc _) (by simp)); obtain ⟨i0, hi, hz0, hz1, hz2⟩ := HIR.out; refine wpList_append_any (o := ⟨some 34, _, _, _, _, _⟩) _ rfl (.tmp 28) (.tmp 33) 69 rfl wB.heap.size 93 i0 (.agg #[.int .i64 0, .int .i64 0]) 2 16 Tryz.underlying69 hi hz0 hz1 hz2 rfl (by decide) _ _ _ rfl HOY.out _ 1 (rcells (y, own)) rfl (reads_reg_at (wo.alloc (.cells #[.int .i64 kind, .int .i64 prio, .int .i64 period, .int .i64 offset, .int .i64 deadline, .int .i64 own, .slice ca cl cc] 31)) y own _ (by simp)) (by intro u hu; simp [rcells] at hu; rcases hu with rfl | rfl <;> rfl) (by have := HLB.out; unfold maxLen; omega) (by have := HLB.out; omega) (Nat.le_trans HJ.out.size ((((Chg.refl [] wo).alloc _).alloc _).size)) ?_; intro v5 wz ho5 hg5; have HO5 : Hid (OwnR wz wB.heap.size v5 (rs ++ [(y, own)])) := Lib.hid (OwnR.add ho5); have HCg : Hid (Chg ((Value.slice ra_ rs.length rc_).ownBlock.toList) (wo.alloc (.cells #[.int .i64 kind, .int .i64 prio, .int .i64 period, .int .i64 offset, .int .i64 deadline, .int .i64 own, .slice ca cl cc] 31)) wz) := Lib.hid (((Chg.refl _ _).alloc _).grown hg5 (fun y hy => .inl (Option.mem_toList.2 hy))); have HBz := Lib.hid ((HBT.out.alloc (.cells #[.int .i64 kind, .int .i64 prio, .int .i64 period, .int .i64 offset, .int .i64 deadline, .int .i64 own, .slice ca cl cc] 31)).keep HCg.out (by intro hh; have h8 := HNT.out _ (Option.mem_toList.1 hh); have := HSB.out; omega)); have HGz := Lib.hid ((Blk.new wo #[.int .i64 kind, .int .i64 prio, .int .i64 period, .int .i64 offset, .int .i64 deadline, .int .i64 own, .slice ca cl cc] 31).keep HCg.out (by intro hh; have h8 := HNT.out _ (Option.mem_toList.1 hh); omega)); have HCz : Hid (Chg [W.heap.size + 1 + 1] wB wz) := Lib.hid ((HJ.out.alloc (.cells #[.int .i64 kind, .int .i64 prio, .int .i64 period, .int .i64 offset, .int .i64 deadline, .int .i64 own, .slice ca cl cc] 31)).into HCg.out (fun y hy => .inr (HNT.out _ (Option.mem_toList.1 hy)).1)); (obtain ⟨a5, c5, rfl⟩ := own_slice2 HO5.out (by decide)); have fz := HBz.out.free 0; have ez := HBz.out.cell (o := 0) rfl; have eG := (HGz.out.set_ne (b' := W.heap.size + 1 + 1) (by have h1 := HJ.out.size; have h2 := HSB.out; omega) 0 none (.slice a5 (rs.length + 1) c5)).cell (o := 5) rfl; clear ho5 hg5 hi hz0 hz1 hz2)
          have HB6 : Hid (Blk (wz.setCell ⟨W.heap.size + 1 + 1, 0, none⟩ (.slice a5 (rs.length + 1) c5)) (W.heap.size + 1 + 1) #[.slice a5 (rs ++ [(y, own)]).length c5, .slice none 0 0, .int .i64 0] 71) := Lib.hid (by have h9 := HBz.out.set 0 (.slice a5 (rs.length + 1) c5); simp only [List.setIfInBounds_toArray, List.set_cons_zero, List.set_cons_succ] at h9; rw [show (rs ++ [(y, own)]).length = rs.length + 1 by simp]; exact h9)
          have HC6 : Hid (Chg [W.heap.size + 1 + 1] wz (wz.setCell ⟨W.heap.size + 1 + 1, 0, none⟩ (.slice a5 (rs.length + 1) c5))) := Lib.hid ((Chg.refl _ _).setCell (.inl (by simp)) _)
          have HO6 : Hid (OwnR (wz.setCell ⟨W.heap.size + 1 + 1, 0, none⟩ (.slice a5 (rs.length + 1) c5)) wB.heap.size (.slice a5 (rs ++ [(y, own)]).length c5) (rs ++ [(y, own)])) := Lib.hid (mem.own_chg HO5.out HC6.out (fun y hy => by have h8 := (World.ownsRow.lt HO5.out y hy).1; have := HSB.out; simp; omega))
          have hltj := HLT.out
          have hyb := HYB.out
          go_roundw
          case rel => exact ⟨j + 1, y + own, rs ++ [(y, own)], a5, c5, by omega, by omega, by omega, rfl, by go_num, HNX, HB6, HO6, Lib.hid (HCz.out.trans HC6.out)⟩
          case measure => simp [intOf]; omega
    · obtain rfl : j = ts.length := by omega
      clear hlt hj
      have HTS : Hid ((y = sumI (ts.map Tk.own) ∧ ts.all Tk.good = true ∧ rs = cutL 0 (ts.map Tk.own)) ∧ 0 ≤ y ∧ y ≤ 64000) := Lib.hid (by have h9 := HS.out; rw [List.take_length] at h9; exact ⟨h9, hy0, hy1⟩)
      obtain ⟨sT, rfl⟩ : ∃ sT, sT = y := ⟨_, rfl⟩
      obtain ⟨wt, rfl⟩ : ∃ wt : World, wt = wo := ⟨_, rfl⟩
      obtain ⟨ua, rfl⟩ : ∃ ua, ua = ra_ := ⟨_, rfl⟩
      obtain ⟨uc, rfl⟩ : ∃ uc, uc = rc_ := ⟨_, rfl⟩
      have HBT1 := HBT
      have HOT1 := HOV
      have HJT := HJ
      have HWT : Hid (Chg [] W wt) := Lib.hid (HWB.out.into HJ.out (fun y hy => .inr (by simp at hy; omega)))
      have HST : Hid (W.heap.size + 1 + 1 < wt.heap.size) := Lib.hid HBT.out.lt
      have e1 := (HBX.out.keep HJ.out (by simp; omega)).cell (o := 1) rfl
      clear HS HBT HOV HJ
      go_wp2_with fail
      clear e1
      go_loopw [5, 44] (fun at0 i wr => ∃ (j : Nat) (y : Int) (qs : List (Int × Int)) (ra_ : Option Addr) (rc_ : Nat), j ≤ os.length ∧ 0 ≤ y ∧ y ≤ 2000000 ∧ at0 = .int .i64 y ∧ i = .int .i64 j ∧ Hid (y = sT + sumI ((os.take j).map Ob.size) ∧ (os.take j).all (fun o => o.size != 0) = true ∧ qs = cutL sT ((os.take j).map Ob.size)) ∧ Hid (Blk wr (W.heap.size + 1 + 1) #[.slice ua rs.length uc, .slice ra_ qs.length rc_, .int .i64 0] 71) ∧ Hid (OwnR wr wt.heap.size (.slice ra_ qs.length rc_) qs) ∧ Hid (Chg [W.heap.size + 1 + 1] wt wr)) (fun _ i _ => os.length - (intOf i).toNat)
      case atStart => exact ⟨0, sT, [], none, 0, Nat.zero_le _, by omega, by omega, rfl, rfl, Lib.hid ⟨by simp [sumI], rfl, rfl⟩, HBT1, Lib.hid (World.ownsRow_nil _ _ _ _), Lib.hid (Chg.refl _ _)⟩
      case round =>
        obtain ⟨j, y, qs, ra_, rc_, hj, hyy0, hyy1, rfl, rfl, HS, HBT, HOV, HJ⟩ := hrel
        obtain ⟨wo, rfl⟩ : ∃ wo : World, wo = wr := ⟨_, rfl⟩
        clear hy0 hy1
        by_cases hlt : j < os.length
        · have HLT := Lib.hid hlt
          have g1 := HX2.out j hlt
          obtain ⟨⟨k, w, s, c, st, ia, il, ic, wri, qa, ql, qc⟩, htk⟩ : ∃ t, os[j]? = some t := ⟨_, List.getElem?_eq_getElem hlt⟩
          have q0 := (HWT.out.into HJ.out (fun y hy => .inr (by simp at hy; omega)) : Chg [] W wo).keep (HCL2.out (j * 8 + 0) _ (by rw [flatMap_get Ob.cells 8 (fun _ => rfl) os j 0 (by decide) _ htk]; rfl)) (by simp)
          have q1 := (HWT.out.into HJ.out (fun y hy => .inr (by simp at hy; omega)) : Chg [] W wo).keep (HCL2.out (j * 8 + 1) _ (by rw [flatMap_get Ob.cells 8 (fun _ => rfl) os j 1 (by decide) _ htk]; rfl)) (by simp)
          have q2 := (HWT.out.into HJ.out (fun y hy => .inr (by simp at hy; omega)) : Chg [] W wo).keep (HCL2.out (j * 8 + 2) _ (by rw [flatMap_get Ob.cells 8 (fun _ => rfl) os j 2 (by decide) _ htk]; rfl)) (by simp)
          have q3 := (HWT.out.into HJ.out (fun y hy => .inr (by simp at hy; omega)) : Chg [] W wo).keep (HCL2.out (j * 8 + 3) _ (by rw [flatMap_get Ob.cells 8 (fun _ => rfl) os j 3 (by decide) _ htk]; rfl)) (by simp)
          have q4 := (HWT.out.into HJ.out (fun y hy => .inr (by simp at hy; omega)) : Chg [] W wo).keep (HCL2.out (j * 8 + 4) _ (by rw [flatMap_get Ob.cells 8 (fun _ => rfl) os j 4 (by decide) _ htk]; rfl)) (by simp)
          have q5 := (HWT.out.into HJ.out (fun y hy => .inr (by simp at hy; omega)) : Chg [] W wo).keep (HCL2.out (j * 8 + 5) _ (by rw [flatMap_get Ob.cells 8 (fun _ => rfl) os j 5 (by decide) _ htk]; rfl)) (by simp)
          have q6 := (HWT.out.into HJ.out (fun y hy => .inr (by simp at hy; omega)) : Chg [] W wo).keep (HCL2.out (j * 8 + 6) _ (by rw [flatMap_get Ob.cells 8 (fun _ => rfl) os j 6 (by decide) _ htk]; rfl)) (by simp)
          have q7 := (HWT.out.into HJ.out (fun y hy => .inr (by simp at hy; omega)) : Chg [] W wo).keep (HCL2.out (j * 8 + 7) _ (by rw [flatMap_get Ob.cells 8 (fun _ => rfl) os j 7 (by decide) _ htk]; rfl)) (by simp)
          rw [Nat.add_zero] at q0
          rw [← Nat.add_assoc] at q1 q2 q3 q4 q5 q6 q7
          have HK := Lib.hid htk
          have hOW : ObjW k w s c st il ql := HOW.out _ (List.mem_of_getElem? htk)
          have HOO := Lib.hid hOW
          have hj1000 : (j : Int) < 1000 := by have := HL.out; omega
          have k8 : IntKind.i64.wrap ((j : Int) + 1) = (j : Int) + 1 := by rw [IntKind.wrap_i64]; omega
          have HNT : Hid (∀ y, (Value.slice ra_ qs.length rc_).ownBlock = some y → wt.heap.size ≤ y ∧ y < wo.heap.size) := Lib.hid (fun y hy => World.ownsRow.lt HOV.out y hy)
          have HBG0 : Hid (Blk (wo.alloc (.cells #[.int .i64 k, .int .i64 w, .int .i64 s, .int .i64 c, .int .u32 st, .slice ia il ic, .int .i64 wri, .slice qa ql qc] 46)) wo.heap.size #[.int .i64 k, .int .i64 w, .int .i64 s, .int .i64 c, .int .u32 st, .slice ia il ic, .int .i64 wri, .slice qa ql qc] 46) := Lib.hid (Blk.new wo _ _)
          have HBT0 := Lib.hid (HBT.out.alloc (.cells #[.int .i64 k, .int .i64 w, .int .i64 s, .int .i64 c, .int .u32 st, .slice ia il ic, .int .i64 wri, .slice qa ql qc] 46))
          obtain ⟨RB, hRB⟩ : ∃ RB, rightB k w s c st il ql = RB := ⟨_, rfl⟩
          have HRB := Lib.hid hRB
          have HRA := Lib.hid (fun V => rRight_any k w s c st ia il ic wri qa ql qc hOW V)
          rw [hRB] at HRA
          have HSA := Lib.hid (fun V => rop.Size_any k w s c st ia il ic wri qa ql qc hOW V)
          obtain ⟨sz, hsz⟩ : ∃ sz, rop.sizeI k w s c st il ql = sz := ⟨_, rfl⟩
          rw [hsz] at HSA
          have HSZ : Hid (Ob.size ⟨k, w, s, c, st, ia, il, ic, wri, qa, ql, qc⟩ = sz) := Lib.hid hsz
          have hszb := Ob.size_bd ⟨k, w, s, c, st, ia, il, ic, wri, qa, ql, qc⟩
          rw [HSZ.out] at hszb
          obtain ⟨hszb0, hszb1⟩ := hszb
          clear htk hj hlt hOW hRB hsz
          cases RB
          · have HCODE : Hid (ofCode ts os = 1) := Lib.hid (by unfold ofCode; rw [if_neg]; unfold lensOk; rw [all_not HK.out (size_eq0 _ HRB.out)]; simp)
            go_wp2_with (first | (go_at_call 69; refine (HRA.out _).mono ?_; rintro e w1 ⟨rfl, hc⟩; have HC1 := Lib.hid hc; have HBRr := Lib.hid (((HBR.out.keep HJT.out (by simp)).keep HJ.out (by simp)).alloc (.cells #[.int .i64 k, .int .i64 w, .int .i64 s, .int .i64 c, .int .u32 st, .slice ia il ic, .int .i64 wri, .slice qa ql qc] 46)); have HBR1 := Lib.hid (HBRr.out.keep hc (by simp)); clear hc) | (refine Go.Proofs.YtkedegbpkkgeaaaGreat.blk.wpList_store_blk rfl 71 (.tmp 2) (.tmp 51) rfl (W.heap.size + 1) #[.slice none 0 0, .slice none 0 0, .int .i64 0] rfl rfl HBR1.out szLayout rfl (by simp [Value.oneCell']) ?_; intro w9 hb9 hc9; have HB9 := Lib.hid hb9; have HC9 := Lib.hid hc9; clear hb9 hc9))
            have HCE : Hid (Chg [] W w1) := Lib.hid (((HWT.out.into HJ.out (fun y hy => .inr (by simp at hy; omega))).alloc _).trans HC1.out)
            refine bodyPost_ret (results_row_tmp1 rfl _ _ (W.heap.size + 1) 71 #[.slice none 0 0, .slice none 0 0, .int .i64 0] (0, 0) _ rfl HB9.out Tryz.underlying71 rfl szLayout) rfl ?_
            have hcode : ofCode ts os = 1 := HCODE.out
            have h1 : ofOwn ts os = [] := by unfold ofOwn; rw [if_neg (by rw [hcode]; decide)]
            have h2 : ofObjs ts os = [] := by unfold ofObjs; rw [if_neg (by rw [hcode]; decide)]
            have h3 : ofSize ts os = 0 := by unfold ofSize; rw [if_neg (by rw [hcode]; decide)]
            rw [h1, h2, h3, hcode]
            exact ⟨none, 0, none, 0, rfl, World.ownsRow_nil _ _ _ _, World.ownsRow_nil _ _ _ _, (HCE.out).into HC9.out (fun y hy => .inr (by simp at hy; omega))⟩
          · go_upto_region 16 with (go_at_call 69; refine (HRA.out _).mono ?_; rintro e w1 ⟨rfl, hc⟩; have HC1 := Lib.hid hc; have HC1w : Hid (Chg [] wo w1) := Lib.hid (((Chg.refl [] wo).alloc _).trans hc); have HBG := Lib.hid (HBG0.out.keep hc (by simp)); have HBT := Lib.hid (HBT0.out.keep hc (by simp)); clear hc)
            have HLB : Hid (qs.length ≤ 1000) := Lib.hid (by have h1 := HS.out.2.2; have h2 := HL.out; have h3 := HLT.out; rw [h1, cutL_length, List.length_map, List.length_take]; omega)
            have hall := take_all (p := fun o : Ob => o.size != 0) HS.out.2.1 HK.out (size_ne _ HRB.out)
            have hmap := take_map Ob.size HK.out
            have hsum := sum_size (os.take (j + 1))
            have HNX : Hid (y + sz = sT + sumI ((os.take (j + 1)).map Ob.size) ∧ (os.take (j + 1)).all (fun o => o.size != 0) = true ∧ qs ++ [(y, sz)] = cutL sT ((os.take (j + 1)).map Ob.size)) := Lib.hid (by
              rw [hmap, sum_snoc, cut_snoc, ← HS.out.2.2, ← HS.out.1, HSZ.out]
              exact ⟨by have := HS.out.1; omega, hall, rfl⟩)
            have HYB : Hid (0 ≤ y + sz ∧ y + sz ≤ 2000000) := Lib.hid (by rw [HNX.out.1]; have := HL.out; have h3 := HLT.out; have h4 := HTS.out.2; rw [List.length_take] at hsum; omega)
            have k7 : IntKind.i64.wrap (y + sz) = y + sz := by have := HYB.out; rw [IntKind.wrap_i64]; omega
            clear hall hmap hsum
            have HSW : Hid (W.heap.size + 1 + 1 < wo.heap.size ∧ wo.heap.size < w1.heap.size) := Lib.hid ⟨Nat.lt_of_lt_of_le HST.out HJ.out.size, HBG.out.lt⟩
            have HTL : Hid (W.heap.size + 1 + 1 ∉ (Value.slice ra_ qs.length rc_).ownBlock.toList ∧ wo.heap.size ∉ (Value.slice ra_ qs.length rc_).ownBlock.toList) := Lib.hid ⟨fun hh => by have h2 := HNT.out _ (Option.mem_toList.1 hh); have := HST.out; omega, fun hh => by have h2 := HNT.out _ (Option.mem_toList.1 hh); omega⟩
            have eF := HBT.out.cell (o := 1) rfl
            have g0 := HBG.out.cell (o := 0) rfl
            have g1 := HBG.out.cell (o := 1) rfl
            have g2 := HBG.out.cell (o := 2) rfl
            have g3 := HBG.out.cell (o := 3) rfl
            have g4 := HBG.out.cell (o := 4) rfl
            have g5 := HBG.out.cell (o := 5) rfl
            have g6 := HBG.out.cell (o := 6) rfl
            have g7 := HBG.out.cell (o := 7) rfl
            have KEEP := Lib.hid (fun (V : World) (h : Chg ((Value.slice ra_ qs.length rc_).ownBlock.toList) w1 V) => (⟨h.keep eF HTL.out.1, h.keep g0 HTL.out.2, h.keep g1 HTL.out.2, h.keep g2 HTL.out.2, h.keep g3 HTL.out.2, h.keep g4 HTL.out.2, h.keep g5 HTL.out.2, h.keep g6 HTL.out.2, h.keep g7 HTL.out.2, Lib.hid h⟩ : (fun V : World => V.cell? ⟨W.heap.size + 1 + 1, 1, none⟩ = some (.slice ra_ qs.length rc_) ∧ V.cell? ⟨wo.heap.size, 0, none⟩ = some (.int .i64 k) ∧ V.cell? ⟨wo.heap.size, 1, none⟩ = some (.int .i64 w) ∧ V.cell? ⟨wo.heap.size, 2, none⟩ = some (.int .i64 s) ∧ V.cell? ⟨wo.heap.size, 3, none⟩ = some (.int .i64 c) ∧ V.cell? ⟨wo.heap.size, 4, none⟩ = some (.int .u32 st) ∧ V.cell? ⟨wo.heap.size, 5, none⟩ = some (.slice ia il ic) ∧ V.cell? ⟨wo.heap.size, 6, none⟩ = some (.int .i64 wri) ∧ V.cell? ⟨wo.heap.size, 7, none⟩ = some (.slice qa ql qc) ∧ Hid (Chg ((Value.slice ra_ qs.length rc_).ownBlock.toList) w1 V)) V))
            clear eF g0 g1 g2 g3 g4 g5 g6 g7
            have HD : Hid (Chg [] w1 w1.drew) := Lib.hid (Chg.refl _ _).drew
            have hHeld : (fun V : World => V.cell? ⟨W.heap.size + 1 + 1, 1, none⟩ = some (.slice ra_ qs.length rc_) ∧ V.cell? ⟨wo.heap.size, 0, none⟩ = some (.int .i64 k) ∧ V.cell? ⟨wo.heap.size, 1, none⟩ = some (.int .i64 w) ∧ V.cell? ⟨wo.heap.size, 2, none⟩ = some (.int .i64 s) ∧ V.cell? ⟨wo.heap.size, 3, none⟩ = some (.int .i64 c) ∧ V.cell? ⟨wo.heap.size, 4, none⟩ = some (.int .u32 st) ∧ V.cell? ⟨wo.heap.size, 5, none⟩ = some (.slice ia il ic) ∧ V.cell? ⟨wo.heap.size, 6, none⟩ = some (.int .i64 wri) ∧ V.cell? ⟨wo.heap.size, 7, none⟩ = some (.slice qa ql qc) ∧ Hid (Chg ((Value.slice ra_ qs.length rc_).ownBlock.toList) w1 V)) w1.drew := KEEP.out _ (HD.out.mono (by simp))
            refine wp_region_planT (fun V : World => V.cell? ⟨W.heap.size + 1 + 1, 1, none⟩ = some (.slice ra_ qs.length rc_) ∧ V.cell? ⟨wo.heap.size, 0, none⟩ = some (.int .i64 k) ∧ V.cell? ⟨wo.heap.size, 1, none⟩ = some (.int .i64 w) ∧ V.cell? ⟨wo.heap.size, 2, none⟩ = some (.int .i64 s) ∧ V.cell? ⟨wo.heap.size, 3, none⟩ = some (.int .i64 c) ∧ V.cell? ⟨wo.heap.size, 4, none⟩ = some (.int .u32 st) ∧ V.cell? ⟨wo.heap.size, 5, none⟩ = some (.slice ia il ic) ∧ V.cell? ⟨wo.heap.size, 6, none⟩ = some (.int .i64 wri) ∧ V.cell? ⟨wo.heap.size, 7, none⟩ = some (.slice qa ql qc) ∧ Hid (Chg ((Value.slice ra_ qs.length rc_).ownBlock.toList) w1 V)) 9 [(0, true, some 52), (1, true, some 53), (2, true, some 54), (3, true, some 55), (4, false, some 56), (5, true, some 57), (6, false, some 58), (7, false, some 59), (8, true, some 60)] (by kernel_rfl) (by kernel_rfl) (by kernel_rfl) (by kernel_rfl) (by kernel_rfl) (fun d c a v w h => by cases d <;> exact h) hHeld ?_
            clear hHeld
            (repeat (refine planT_read (v := ?_) rfl rfl ?_ ?_ ?_; rotate_left; (focus rfl); (focus (intro u hSw; (try dsimp only at hSw); go_simp; (try with_reducible rfl); done)); ((try dsimp only); (try simp only [Act.put, List.setIfInBounds_toArray, List.set_cons_zero, List.set_cons_succ]))))
            refine planT_do rfl rfl ?_ (fun K hK => ?_)
            · rfl
            go_simp
            go_wp2_with (go_at_call 71; refine (HSA.out _).mono ?_; rintro e wa ⟨rfl, hc⟩; have HCY : Hid (Chg [] w1 wa) := Lib.hid (HD.out.trans hc); clear hc)
            refine hK.out _ _ (KEEP.out _ (HCY.out.mono (by simp))) (fun _ => ?_)
            clear hK K
            ((try dsimp only); (try simp only [Act.put, List.setIfInBounds_toArray, List.set_cons_zero, List.set_cons_succ]))
            (repeat (refine planT_read (v := ?_) rfl rfl ?_ ?_ ?_; rotate_left; (focus rfl); (focus (intro u hSw; (try dsimp only at hSw); go_simp; (try with_reducible rfl); done)); ((try dsimp only); (try simp only [Act.put, List.setIfInBounds_toArray, List.set_cons_zero, List.set_cons_succ]))))
            refine planT_do rfl rfl ?_ (fun K hK => ?_)
            · rfl
            go_simp
            refine hK.out _ _ (KEEP.out _ ((HCY.out.alloc _).mono (by simp))) (fun _ => ?_)
            clear hK K
            ((try dsimp only); (try simp only [Act.put, List.setIfInBounds_toArray, List.set_cons_zero, List.set_cons_succ]))
            refine planT_do rfl rfl ?_ (fun K hK => ?_)
            · rfl
            have HOY : Hid (OwnR (wa.alloc (.cells #[.int .i64 y, .int .i64 sz] 93)) wt.heap.size (.slice ra_ qs.length rc_) qs) := Lib.hid (mem.own_chg HOV.out ((HC1w.out.trans HCY.out).alloc _) (by simp))
            obtain ⟨i0, hi, hz0', hz1', hz2'⟩ := HIR.out
            refine wp_append_any (o := ⟨some 59, _, _, _, _, _⟩) _ (.tmp 53) (.tmp 58) 69 rfl wt.heap.size 93 i0 (.agg #[.int .i64 0, .int .i64 0]) 2 16 Tryz.underlying69 hi hz0' hz1' hz2' rfl (by decide) _ _ _ rfl HOY.out _ 1 (rcells (y, sz)) rfl (reads_reg wa y sz) (by intro u hu; simp [rcells] at hu; rcases hu with rfl | rfl <;> rfl) (by have := HLB.out; unfold maxLen; omega) (by have := HLB.out; omega) (Nat.le_trans HJ.out.size (((HC1w.out.trans HCY.out).alloc _).size)) ?_
            intro v5 wz ho5 hg5
            have HO5 : Hid (OwnR wz wt.heap.size v5 (qs ++ [(y, sz)])) := Lib.hid (OwnR.add ho5)
            have HCT : Hid (Chg ((Value.slice ra_ qs.length rc_).ownBlock.toList) w1 wz) := Lib.hid (((HCY.out.mono (L' := (Value.slice ra_ qs.length rc_).ownBlock.toList) (by simp)).alloc _).grown hg5 (fun y hy => .inl (Option.mem_toList.2 hy)))
            have HBz := Lib.hid (HBT.out.keep HCT.out HTL.out.1)
            have HGz := Lib.hid (HBG.out.keep HCT.out HTL.out.2)
            have HCz : Hid (Chg [W.heap.size + 1 + 1] wt wz) := Lib.hid ((HJ.out.fresh HC1w.out).into HCT.out (fun y hy => .inr (HNT.out _ (Option.mem_toList.1 hy)).1))
            obtain ⟨a5, c5, rfl⟩ := own_slice2 HO5.out (by decide)
            clear ho5 hg5 hi hz0' hz1' hz2'
            refine hK.out _ _ (KEEP.out _ HCT.out) (fun _ => ?_)
            clear hK K
            ((try dsimp only); (try simp only [Act.put, List.setIfInBounds_toArray, List.set_cons_zero, List.set_cons_succ]))
            (repeat (refine planT_read (v := ?_) rfl rfl ?_ ?_ ?_; rotate_left; (focus rfl); (focus (intro u hSw; (try dsimp only at hSw); go_simp; (try with_reducible rfl); done)); ((try dsimp only); (try simp only [Act.put, List.setIfInBounds_toArray, List.set_cons_zero, List.set_cons_succ]))))
            have fz := HBz.out.free 1
            have ez := HBz.out.cell (o := 1) rfl
            refine planT_last rfl ?_ (fun K hK => ?_)
            · rfl
            go_simp
            refine hK.out _ _ ?_
            clear hK K fz ez KEEP
            ((try dsimp only); (try simp only [Act.put, List.setIfInBounds_toArray, List.set_cons_zero, List.set_cons_succ]))
            have HB6 : Hid (Blk (wz.setCell ⟨W.heap.size + 1 + 1, 1, none⟩ (.slice a5 (qs.length + 1) c5)) (W.heap.size + 1 + 1) #[.slice ua rs.length uc, .slice a5 (qs ++ [(y, sz)]).length c5, .int .i64 0] 71) := Lib.hid (by have h9 := HBz.out.set 1 (.slice a5 (qs.length + 1) c5); simp only [List.setIfInBounds_toArray, List.set_cons_zero, List.set_cons_succ] at h9; rw [show (qs ++ [(y, sz)]).length = qs.length + 1 by simp]; exact h9)
            have HC6 : Hid (Chg [W.heap.size + 1 + 1] wz (wz.setCell ⟨W.heap.size + 1 + 1, 1, none⟩ (.slice a5 (qs.length + 1) c5))) := Lib.hid ((Chg.refl _ _).setCell (.inl (by simp)) _)
            have HO6 : Hid (OwnR (wz.setCell ⟨W.heap.size + 1 + 1, 1, none⟩ (.slice a5 (qs.length + 1) c5)) wt.heap.size (.slice a5 (qs ++ [(y, sz)]).length c5) (qs ++ [(y, sz)])) := Lib.hid (mem.own_chg HO5.out HC6.out (fun y hy => by have h8 := (World.ownsRow.lt HO5.out y hy).1; have := HST.out; simp; omega))
            have HG6 := Lib.hid (HGz.out.set_ne (b' := W.heap.size + 1 + 1) (by have := HSW.out; omega) 1 none (.slice a5 (qs.length + 1) c5))
            have g0 := HG6.out.cell (o := 0) rfl
            have g1 := HG6.out.cell (o := 1) rfl
            have g2 := HG6.out.cell (o := 2) rfl
            have g3 := HG6.out.cell (o := 3) rfl
            have g4 := HG6.out.cell (o := 4) rfl
            have g5 := HG6.out.cell (o := 5) rfl
            have g6 := HG6.out.cell (o := 6) rfl
            have g7 := HG6.out.cell (o := 7) rfl
            go_wp2_with (go_at_call 71; refine (HSA.out _).mono ?_; rintro e wq ⟨rfl, hc⟩; have HCQ := Lib.hid hc; clear hc)
            have hltj := HLT.out
            have hyb := HYB.out
            go_roundw
            case rel => exact ⟨j + 1, y + sz, qs ++ [(y, sz)], a5, c5, by omega, by omega, by omega, rfl, by go_num, HNX, Lib.hid (HB6.out.keep HCQ.out (by simp)), Lib.hid (mem.own_chg HO6.out HCQ.out (by simp)), Lib.hid ((HCz.out.trans HC6.out).fresh HCQ.out)⟩
            case measure => simp [intOf]; omega
        · obtain rfl : j = os.length := by omega
          clear hlt hj
          have HSS : Hid (y = sT + sumI (os.map Ob.size) ∧ os.all (fun o => o.size != 0) = true ∧ qs = cutL sT (os.map Ob.size)) := Lib.hid (by have h9 := HS.out; rw [List.take_length] at h9; exact h9)
          have HOKL : Hid (lensOk ts os = true ∧ sumI (lensL ts os) = y) := Lib.hid ⟨by unfold lensOk; rw [HTS.out.1.2.1, HSS.out.2.1]; rfl, by unfold lensL; rw [sumI_append, ← HTS.out.1.1]; exact HSS.out.1.symm⟩
          have HBRe := Lib.hid ((HBR.out.keep HJT.out (by simp)).keep HJ.out (by simp))
          have HCE : Hid (Chg [] W wo) := Lib.hid (HWT.out.into HJ.out (fun y hy => .inr (by simp at hy; omega)))
          by_cases hbig : 4096 < y
          · have HCODE : Hid (ofCode ts os = 6) := Lib.hid (by unfold ofCode; rw [if_pos HOKL.out.1, HOKL.out.2, if_neg (by omega)])
            go_wp2_with (refine Go.Proofs.YtkedegbpkkgeaaaGreat.blk.wpList_store_blk rfl 71 (.tmp 2) (.tmp 68) rfl (W.heap.size + 1) #[.slice none 0 0, .slice none 0 0, .int .i64 0] rfl rfl HBRe.out szLayout rfl (by simp [Value.oneCell']) ?_; intro w9 hb9 hc9; have HB9 := Lib.hid hb9; have HC9 := Lib.hid hc9; clear hb9 hc9)
            refine bodyPost_ret (results_row_tmp1 rfl _ _ (W.heap.size + 1) 71 #[.slice none 0 0, .slice none 0 0, .int .i64 0] (0, 0) _ rfl HB9.out Tryz.underlying71 rfl szLayout) rfl ?_
            have hcode : ofCode ts os = 6 := HCODE.out
            have h1 : ofOwn ts os = [] := by unfold ofOwn; rw [if_neg (by rw [hcode]; decide)]
            have h2 : ofObjs ts os = [] := by unfold ofObjs; rw [if_neg (by rw [hcode]; decide)]
            have h3 : ofSize ts os = 0 := by unfold ofSize; rw [if_neg (by rw [hcode]; decide)]
            rw [h1, h2, h3, hcode]
            exact ⟨none, 0, none, 0, rfl, World.ownsRow_nil _ _ _ _, World.ownsRow_nil _ _ _ _, (HCE.out).into HC9.out (fun y hy => .inr (by simp at hy; omega))⟩
          · have hcode : ofCode ts os = 0 := by unfold ofCode; rw [if_pos HOKL.out.1, HOKL.out.2, if_pos (by omega)]
            have hcut : cutL 0 (lensL ts os) = rs ++ qs := by unfold lensL; rw [cutL_append, Int.zero_add, ← HTS.out.1.1, ← HTS.out.1.2.2, ← HSS.out.2.2]
            have hrl : rs.length = ts.length := by rw [HTS.out.1.2.2, cutL_length, List.length_map]
            have h1 : ofOwn ts os = rs := by unfold ofOwn; rw [if_pos hcode, hcut, List.take_left' hrl]
            have h2 : ofObjs ts os = qs := by unfold ofObjs; rw [if_pos hcode, hcut, List.drop_left' hrl]
            have h3 : ofSize ts os = y := by unfold ofSize; rw [if_pos hcode]; exact HOKL.out.2
            have HALL := Lib.hid (show ofCode ts os = 0 ∧ ofOwn ts os = rs ∧ ofObjs ts os = qs ∧ ofSize ts os = y from ⟨hcode, h1, h2, h3⟩)
            clear hcode hcut hrl h1 h2 h3
            have f2 := HBT.out.free 2
            have e2 := HBT.out.cell (o := 2) rfl
            have HB7 : Hid (Blk (wo.setCell ⟨W.heap.size + 1 + 1, 2, none⟩ (.int .i64 y)) (W.heap.size + 1 + 1) #[.slice ua rs.length uc, .slice ra_ qs.length rc_, .int .i64 y] 71) := Lib.hid (by have h9 := HBT.out.set 2 (.int .i64 y); simp only [List.setIfInBounds_toArray, List.set_cons_zero, List.set_cons_succ] at h9; exact h9)
            have HC7 : Hid (Chg [W.heap.size + 1 + 1] wo (wo.setCell ⟨W.heap.size + 1 + 1, 2, none⟩ (.int .i64 y))) := Lib.hid ((Chg.refl _ _).setCell (.inl (by simp)) _)
            have HBR7 := Lib.hid (HBRe.out.keep HC7.out (by simp))
            go_wp2_with (first | (refine Go.Proofs.YtkedegbpkkgeaaaGreat.blk.wpList_load_blk rfl 71 (.tmp 4) rfl (W.heap.size + 1 + 1) rfl HB7.out _ Tryz.underlying71 rfl szLayout ?_) | (refine Go.Proofs.YtkedegbpkkgeaaaGreat.blk.wpList_store_blk rfl 71 (.tmp 2) (.tmp 71) rfl (W.heap.size + 1) #[.slice ua rs.length uc, .slice ra_ qs.length rc_, .int .i64 y] rfl rfl HBR7.out szLayout rfl (by simp [Value.oneCell']) ?_; intro w9 hb9 hc9; have HB9 := Lib.hid hb9; have HC9 := Lib.hid hc9; clear hb9 hc9))
            refine bodyPost_ret (results_row_tmp1 rfl _ _ (W.heap.size + 1) 71 #[.slice ua rs.length uc, .slice ra_ qs.length rc_, .int .i64 y] (0, 0) _ rfl HB9.out Tryz.underlying71 rfl szLayout) rfl ?_
            rw [HALL.out.1, HALL.out.2.1, HALL.out.2.2.1, HALL.out.2.2.2]
            have HCF : Hid (Chg [W.heap.size + 1 + 1, W.heap.size + 1] wo w9) := Lib.hid ((HC7.out.mono (by simp)).trans (HC9.out.mono (by simp)))
            refine ⟨ua, uc, ra_, rc_, rfl, ?_, ?_, HCE.out.into HCF.out (fun y hy => .inr (by simp at hy; omega))⟩
            · exact mem.own_base (mem.own_chg (mem.own_chg HOT1.out HJ.out (fun y hy => by have h8 := (World.ownsRow.lt HOT1.out y hy).1; have := HSB.out; simp; omega)) HCF.out (fun y hy => by have h8 := (World.ownsRow.lt HOT1.out y hy).1; have := HSB.out; simp; omega)) (by have := HSB.out; omega)
            · exact mem.own_base (mem.own_chg HOV.out HCF.out (fun y hy => by have h8 := (World.ownsRow.lt HOV.out y hy).1; have := HST.out; simp; omega)) (by have := HST.out; omega)
end Go.Proofs.YtkedegbpkkgeaaaGreat.lay
/- TopFits: the reference: Role. -/
namespace Go.Proofs.YtkedegbpkkgeaaaGreat.tf
open Go Go.RowKit Go.Proofs.YtkedegbpkkgeaaaGreat.kit Go.Proofs.YtkedegbpkkgeaaaGreat.obj Go.Proofs.YtkedegbpkkgeaaaGreat.mem Go.Proofs.YtkedegbpkkgeaaaGreat.lay Go.Proofs.YtkedegbpkkgeaaaGreat.isa
set_option linter.unusedVariables false
set_option linter.unusedSimpArgs false
set_option maxRecDepth 20000

theorem rCalls_any (op : Int) (h : -1000 ≤ op ∧ op ≤ 1000) (w : World) : Calls Tryz.prog 31 #[.int .i64 op] w fun e w' => e = .returned (.int .i64 (callI op)) ∧ w = w' := by
  by_cases hc : 17 ≤ op ∧ op ≤ 20
  · have hv : callI op = op - 17 + 1 := by unfold callI; rw [if_pos hc]; omega
    rw [hv]
    clear hv
    go_enter Tryz.func31, Tryz.ntmps31
    go_wp2
    go_ret
    exact ⟨by rfl, rfl⟩
  · have hv : callI op = 0 := by unfold callI; exact if_neg hc
    rw [hv]
    clear hv
    by_cases h1 : 17 ≤ op
    · have h2 : ¬ op ≤ 20 := by omega
      clear hc
      go_enter Tryz.func31, Tryz.ntmps31
      go_wp2
      go_ret
      exact ⟨rfl, rfl⟩
    · clear hc
      go_enter Tryz.func31, Tryz.ntmps31
      go_wp2
      go_ret
      exact ⟨rfl, rfl⟩
def sys (ts : List DT) (os : List DO) : S := ⟨ts.map DT.p, os.map DO.p⟩
theorem sys_t {ts : List DT} (os : List DO) {i : Nat} {d : DT} (h : ts[i]? = some d) : (sys ts os).t (i : Int) = d.p := by
  unfold sys S.t; simp [List.getD_eq_getElem?_getD, List.getElem?_map, h]
theorem sys_o (ts : List DT) {os : List DO} {i : Nat} {d : DO} (h : os[i]? = some d) : (sys ts os).o (i : Int) = d.p := by
  unfold sys S.o; simp [List.getD_eq_getElem?_getD, List.getElem?_map, h]
set_option maxHeartbeats 4000000 in
theorem rRole_any (ta : Option Addr) (tc : Nat) (oa : Option Addr) (oc : Nat) (ts : List DT) (os : List DO) (i kk : Nat) (W : World) (hT : ReadsDT W (.slice ta ts.length tc) ts) (hO : ReadsDO W (.slice oa os.length oc) os) (hi : i < ts.length) (hk : kk < os.length) (hlen : ts.length ≤ 1000 ∧ os.length ≤ 1000) (hrd : ∀ d ∈ os, d.rds.length ≤ 1000) :
    Calls Tryz.prog 34 #[.agg #[.slice ta ts.length tc, .slice oa os.length oc], .int .i64 (i : Int), .int .i64 (kk : Int)] W fun e W' => e = .returned (.int .i64 (roleM (sys ts os) i kk)) ∧ Chg [] W W' := by
  obtain ⟨-, b2, o2, hx2, hc2⟩ := objs_at hO
  obtain ⟨d, hd⟩ : ∃ d, os[kk]? = some d := ⟨_, List.getElem?_eq_getElem hk⟩
  have hdR := hO.2 d (List.mem_of_getElem? hd)
  have hdl := hrd d (List.mem_of_getElem? hd)
  have g1 := hx2 kk hk
  have hq := hc2 W (Chg.refl _ _) kk d hd
  obtain ⟨R, hR⟩ : ∃ R, roleM (sys ts os) i kk = R := ⟨_, rfl⟩
  have HR := Lib.hid hR
  rw [hR]
  unfold roleM at hR
  rw [sys_o ts hd] at hR
  obtain ⟨⟨k, w, s, c, st, ia, il, ic, wri, ra, rl, rc⟩, ini, rds⟩ := d
  obtain ⟨⟨q0, q1, q2, q3⟩, q4, q5, q6, q7⟩ := hq
  replace hR : (if kindB k = true then (if wri = (i : Int) then writesI k else if (i : Int) ∈ rds then readsI k else 0) else 0) = R := hR
  simp only at q0 q1 q2 q3 q4 q5 q6 q7 hdl
  have HRN := Lib.hid hdR.2
  simp only at HRN
  have HRD := Lib.hid (fun V (hV : Chg [] W V) => rReader_any k w s c st ia il ic wri ra rl rc rds (i : Int) V (ReadsN.chg HRN.out hV) hdl)
  have HE := Lib.hid hR
  have n1 : ¬ (i : Int) < 0 := by omega
  have n2 : ¬ (ts.length : Int) ≤ (i : Int) := by omega
  have n3 : ¬ (kk : Int) < 0 := by omega
  have n4 : ¬ (os.length : Int) ≤ (kk : Int) := by omega
  have HCS : Hid (Chg [] W (W.alloc (.cells #[.slice ta ts.length tc, .slice oa os.length oc] 25))) := Lib.hid ((Chg.refl [] W).alloc _)
  have a0 := HCS.out.keep q0 (by simp)
  have a1 := HCS.out.keep q1 (by simp)
  have a2 := HCS.out.keep q2 (by simp)
  have a3 := HCS.out.keep q3 (by simp)
  have a4 := HCS.out.keep q4 (by simp)
  have a5 := HCS.out.keep q5 (by simp)
  have a6 := HCS.out.keep q6 (by simp)
  have a7 := HCS.out.keep q7 (by simp)
  have HCO : Hid (Chg [] W ((W.alloc (.cells #[.slice ta ts.length tc, .slice oa os.length oc] 25)).alloc (.cells #[.int .i64 k, .int .i64 w, .int .i64 s, .int .i64 c, .int .u32 st, .slice ia il ic, .int .i64 wri, .slice ra rl rc] 46))) := Lib.hid (HCS.out.alloc _)
  have HBO : Hid (Blk ((W.alloc (.cells #[.slice ta ts.length tc, .slice oa os.length oc] 25)).alloc (.cells #[.int .i64 k, .int .i64 w, .int .i64 s, .int .i64 c, .int .u32 st, .slice ia il ic, .int .i64 wri, .slice ra rl rc] 46)) (W.heap.size + 1) #[.int .i64 k, .int .i64 w, .int .i64 s, .int .i64 c, .int .u32 st, .slice ia il ic, .int .i64 wri, .slice ra rl rc] 46) := Lib.hid (by
    have := Blk.new (W.alloc (.cells #[.slice ta ts.length tc, .slice oa os.length oc] 25)) #[.int .i64 k, .int .i64 w, .int .i64 s, .int .i64 c, .int .u32 st, .slice ia il ic, .int .i64 wri, .slice ra rl rc] 46
    rwa [show (W.alloc (.cells #[.slice ta ts.length tc, .slice oa os.length oc] 25)).heap.size = W.heap.size + 1 by simp] at this)
  clear hT hO hd hdR hx2 hc2 hi hk hlen hrd hR q0 q1 q2 q3 q4 q5 q6 q7 hdl
  by_cases c1 : k < 1
  · obtain rfl : 0 = R := by rw [← HE.out, if_neg]; simp [kindB]; omega
    go_enter Tryz.func34, Tryz.ntmps34
    go_wp2_with fail
    go_ret
    exact ⟨rfl, HCO.out⟩
  by_cases c2 : 6 < k
  · obtain rfl : 0 = R := by rw [← HE.out, if_neg]; simp [kindB]; omega
    go_enter Tryz.func34, Tryz.ntmps34
    go_wp2_with fail
    go_ret
    exact ⟨rfl, HCO.out⟩
  have HKB : Hid (kindB k = true) := Lib.hid (by simp [kindB]; omega)
  by_cases c3 : wri = (i : Int)
  · have HW := Lib.hid (fun V => rWrites_any k V)
    obtain rfl : writesI k = R := by rw [← HE.out, if_pos HKB.out, if_pos c3]
    have d3 : (wri == (i : Int)) = true := by simpa using c3
    clear c3
    go_enter Tryz.func34, Tryz.ntmps34
    go_wp2_with (go_at_call 32; refine (HW.out _).mono ?_; rintro e w1 ⟨rfl, rfl⟩)
    go_ret
    exact ⟨rfl, HCO.out⟩
  have d3 : (wri == (i : Int)) = false := by simpa using c3
  have HN3 := Lib.hid c3
  clear c3
  go_enter Tryz.func34, Tryz.ntmps34
  go_wp2_with (first
    | (go_at_call 70; refine (HRD.out _ HCO.out).mono ?_; rintro e w1 ⟨⟨x, rfl, hx⟩, hc1⟩; have f0 := (HBO.out.keep hc1 (by simp)).cell (o := 0) (v := .int .i64 k) rfl; have HCX := Lib.hid (HCO.out.trans hc1); have HXX := Lib.hid hx; clear hc1 hx; rcases (show 0 ≤ x ∨ ¬ 0 ≤ x from Decidable.em _) with y0 | y0)
    | (go_at_call 33; refine (rReads_any k _).mono ?_; rintro e w2 ⟨rfl, rfl⟩))
  · go_ret
    refine ⟨?_, HCX.out⟩
    rw [← HE.out, if_pos HKB.out, if_neg HN3.out, if_pos (HXX.out.1 y0)]
    rfl
  · go_ret
    refine ⟨?_, HCX.out⟩
    rw [← HE.out, if_pos HKB.out, if_neg HN3.out, if_neg (fun h => by have := HXX.out.2 h; omega)]
    rfl
end Go.Proofs.YtkedegbpkkgeaaaGreat.tf
