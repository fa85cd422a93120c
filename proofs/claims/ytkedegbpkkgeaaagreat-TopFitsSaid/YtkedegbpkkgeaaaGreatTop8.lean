import Derived.Test.YtkedegbpkkgeaaaGreatTop7
import Derived.Deep.CutBlock
/- Systems: tasks and objects in memory. -/
namespace Go.Proofs.YtkedegbpkkgeaaaGreat.lay
open Go Go.RowKit Go.Proofs.YtkedegbpkkgeaaaGreat.kit Go.Proofs.YtkedegbpkkgeaaaGreat.obj Go.Proofs.YtkedegbpkkgeaaaGreat.mem
set_option linter.unusedVariables false
set_option linter.unusedSimpArgs false
set_option maxRecDepth 20000

theorem cellsTask : Tryz.prog.cellsOf 31 = 7 := by kernel_rfl
theorem cellsTasks : Tryz.prog.cellsOf 22 = 1 := by kernel_rfl
theorem cellsObjs : Tryz.prog.cellsOf 23 = 1 := by kernel_rfl
theorem cellsInstrs : Tryz.prog.cellsOf 29 = 1 := by kernel_rfl
theorem cellsInstr : Tryz.prog.cellsOf 53 = 5 := by kernel_rfl
theorem cellsSystem : Tryz.prog.cellsOf 25 = 2 := by kernel_rfl
theorem szTask : (Tryz.prog.info? 31).map (·.size) = some 7 := by kernel_rfl
theorem szObj : (Tryz.prog.info? 46).map (·.size) = some 8 := by kernel_rfl
theorem infoInt : (Tryz.prog.info? 3).map (fun i => (i.zero, i.size, i.bytes)) = some (some (.int .i64 0), 1, 8) := by kernel_rfl
theorem szInt : (Tryz.prog.info? 3).map (·.size) = some 1 := by kernel_rfl
structure Tk where
  kind : Int
  prio : Int
  period : Int
  offset : Int
  deadline : Int
  own : Int
  ca : Option Addr
  cl : Nat
  cc : Nat
def Tk.cells (t : Tk) : List Value := [.int .i64 t.kind, .int .i64 t.prio, .int .i64 t.period, .int .i64 t.offset, .int .i64 t.deadline, .int .i64 t.own, .slice t.ca t.cl t.cc]
structure Ob where
  k : Int
  w : Int
  s : Int
  c : Int
  st : Int
  ia : Option Addr
  il : Nat
  ic : Nat
  wr : Int
  ra : Option Addr
  rl : Nat
  rc : Nat
def Ob.cells (o : Ob) : List Value := [.int .i64 o.k, .int .i64 o.w, .int .i64 o.s, .int .i64 o.c, .int .u32 o.st, .slice o.ia o.il o.ic, .int .i64 o.wr, .slice o.ra o.rl o.rc]
def Ob.W (o : Ob) : Prop := ObjW o.k o.w o.s o.c o.st o.il o.rl
def Ob.small (o : Ob) : Bool := decide (o.il ≤ 100 ∧ o.rl ≤ 100)
def ReadsT (w : World) (v : Value) (ts : List Tk) : Prop := Reads w 7 v ts.length (ts.flatMap Tk.cells) ∧ ∀ t ∈ ts, i64B t.own
def ReadsO (w : World) (v : Value) (os : List Ob) : Prop := Reads w 8 v os.length (os.flatMap Ob.cells)
theorem ReadsT.chg {w w' : World} {v : Value} {ts : List Tk} (h : ReadsT w v ts) (k : Chg [] w w') : ReadsT w' v ts := ⟨h.1.fresh k, h.2⟩
theorem ReadsO.chg {w w' : World} {v : Value} {os : List Ob} (h : ReadsO w v os) (k : Chg [] w w') : ReadsO w' v os := Reads.fresh h k
def OwnI (w : World) (B : Nat) (v : Value) (zs : List Int) : Prop := w.ownsRow B 3 1 v zs.length (zs.map (Value.int .i64))
theorem all_not {R : Type} {p : R → Bool} {l : List R} {j : Nat} {t : R} (h : l[j]? = some t) (hp : p t = false) : l.all p = false := by
  rw [List.all_eq_false]
  exact ⟨t, List.mem_of_getElem? h, by simp [hp]⟩
theorem take_all {R : Type} {p : R → Bool} {l : List R} {j : Nat} {t : R} (ha : (l.take j).all p = true) (h : l[j]? = some t) (hp : p t = true) : (l.take (j + 1)).all p = true := by
  have hj := List.getElem?_eq_some_iff.1 h
  rw [List.take_succ_eq_append_getElem hj.1, List.all_append, ha, hj.2]
  simp [hp]
theorem take_map {R : Type} (f : R → Int) {l : List R} {j : Nat} {t : R} (h : l[j]? = some t) : (l.take (j + 1)).map f = (l.take j).map f ++ [f t] := by
  have hj := List.getElem?_eq_some_iff.1 h
  rw [List.take_succ_eq_append_getElem hj.1, List.map_append, hj.2]
  rfl
end Go.Proofs.YtkedegbpkkgeaaaGreat.lay
/- Systems: are they few. -/
namespace Go.Proofs.YtkedegbpkkgeaaaGreat.lay
open Go Go.RowKit Go.Proofs.YtkedegbpkkgeaaaGreat.kit Go.Proofs.YtkedegbpkkgeaaaGreat.obj Go.Proofs.YtkedegbpkkgeaaaGreat.mem
set_option linter.unusedVariables false
set_option linter.unusedSimpArgs false
set_option maxRecDepth 20000
def fewT (ts : List Tk) (most : Int) : Bool := decide ((ts.length : Int) ≤ most) && ts.all (fun t => decide (t.cl ≤ 200))
def fewS (ts : List Tk) (os : List Ob) (most : Int) : Bool := fewT ts most && (decide ((os.length : Int) ≤ most) && os.all Ob.small)
set_option maxHeartbeats 2000000 in
theorem fewT_any (ta : Option Addr) (tc : Nat) (ts : List Tk) (most : Int) (hm : 0 ≤ most ∧ most ≤ 1000) (W : World) (hT : ReadsT W (.slice ta ts.length tc) ts) :
    Calls Tryz.prog 11 #[.slice ta ts.length tc, .int .i64 most] W fun e W' => e = .returned (.bool (fewT ts most)) ∧ Chg [] W W' := by
  obtain ⟨R, hR⟩ : ∃ R, fewT ts most = R := ⟨_, rfl⟩
  have HR := Lib.hid hR
  rw [hR]
  obtain ⟨b1, o1, hx1, hc1, -⟩ := reads_index (P := Tryz.prog) Tryz.underlying22 szTask hT.1
  have HX1 := Lib.hid hx1
  have HC1 := Lib.hid hc1
  have HM := Lib.hid hm
  clear hx1 hc1 hT hR hm
  by_cases h1 : (ts.length : Int) ≤ most
  rotate_left
  · obtain rfl : false = R := by rw [← HR.out]; simp [fewT, h1]
    have h1' : most < (ts.length : Int) := by omega
    clear h1
    go_enter Tryz.func11, Tryz.ntmps11
    go_wp2_with fail
    go_ret
    exact ⟨rfl, Chg.refl _ _⟩
  have h1' : ¬ (most < (ts.length : Int)) := by omega
  have H1 := Lib.hid h1
  have hml : (ts.length : Int) ≤ 1000 := by have := HM.out; omega
  have HML := Lib.hid hml
  go_enter Tryz.func11, Tryz.ntmps11
  go_wp2_with fail
  clear h1 h1' hml
  go_loopw [13] (fun i wr => ∃ j : Nat, j ≤ ts.length ∧ i = .int .i64 j ∧ Hid ((ts.take j).all (fun t => decide (t.cl ≤ 200)) = true) ∧ Hid (Chg [] W wr)) (fun i _ => ts.length - (intOf i).toNat)
  case atStart => exact ⟨0, Nat.zero_le _, rfl, Lib.hid rfl, Lib.hid (Chg.refl _ _)⟩
  case round =>
    obtain ⟨j, hj, rfl, HG, HJ⟩ := hrel
    by_cases hlt : j < ts.length
    · have HLT := Lib.hid hlt
      have g1 := HX1.out j hlt
      obtain ⟨⟨kind, prio, period, offset, deadline, own, ca, cl, cc⟩, htk⟩ : ∃ t, ts[j]? = some t := ⟨_, List.getElem?_eq_getElem hlt⟩
      have q0 := HJ.out.keep (HC1.out (j * 7 + 0) _ (by rw [flatMap_get Tk.cells 7 (fun _ => rfl) ts j 0 (by decide) _ htk]; rfl)) (by simp)
      have q1 := HJ.out.keep (HC1.out (j * 7 + 1) _ (by rw [flatMap_get Tk.cells 7 (fun _ => rfl) ts j 1 (by decide) _ htk]; rfl)) (by simp)
      have q2 := HJ.out.keep (HC1.out (j * 7 + 2) _ (by rw [flatMap_get Tk.cells 7 (fun _ => rfl) ts j 2 (by decide) _ htk]; rfl)) (by simp)
      have q3 := HJ.out.keep (HC1.out (j * 7 + 3) _ (by rw [flatMap_get Tk.cells 7 (fun _ => rfl) ts j 3 (by decide) _ htk]; rfl)) (by simp)
      have q4 := HJ.out.keep (HC1.out (j * 7 + 4) _ (by rw [flatMap_get Tk.cells 7 (fun _ => rfl) ts j 4 (by decide) _ htk]; rfl)) (by simp)
      have q5 := HJ.out.keep (HC1.out (j * 7 + 5) _ (by rw [flatMap_get Tk.cells 7 (fun _ => rfl) ts j 5 (by decide) _ htk]; rfl)) (by simp)
      have q6 := HJ.out.keep (HC1.out (j * 7 + 6) _ (by rw [flatMap_get Tk.cells 7 (fun _ => rfl) ts j 6 (by decide) _ htk]; rfl)) (by simp)
      rw [Nat.add_zero] at q0
      rw [← Nat.add_assoc] at q1 q2 q3 q4 q5 q6
      have HK := Lib.hid htk
      have hj1000 : (j : Int) < 1000 := by have := HML.out; omega
      have k8 : IntKind.i64.wrap ((j : Int) + 1) = (j : Int) + 1 := by rw [IntKind.wrap_i64]; omega
      clear htk hj hlt
      by_cases c1 : cl ≤ 200
      · have HC9 := Lib.hid c1
        have c1' : ¬ ((200 : Int) < (cl : Int)) := by omega
        clear c1
        go_wp2_with fail
        have hltj := HLT.out
        go_roundw
        case rel => exact ⟨j + 1, by omega, by go_num, Lib.hid (take_all (p := fun t : Tk => decide (t.cl ≤ 200)) HG.out HK.out (by simpa using HC9.out)), Lib.hid (HJ.out.alloc _)⟩
        case measure => simp [intOf]; omega
      · obtain rfl : false = R := by rw [← HR.out]; unfold fewT; rw [all_not (p := fun t : Tk => decide (t.cl ≤ 200)) HK.out (by simpa using c1)]; simp
        have c1' : (200 : Int) < (cl : Int) := by omega
        clear c1
        go_wp2_with fail
        go_ret
        exact ⟨rfl, HJ.out.alloc _⟩
    · obtain rfl : ts.length = j := by omega
      clear hlt hj
      have hgood : R = true := by rw [← HR.out]; unfold fewT; have := HG.out; rw [List.take_length] at this; rw [this]; simp [H1.out]
      subst hgood
      go_wp2_with fail
      go_ret
      exact ⟨rfl, HJ.out⟩
set_option maxHeartbeats 2000000 in
theorem fewS_any (ta : Option Addr) (tc : Nat) (oa : Option Addr) (oc : Nat) (ts : List Tk) (os : List Ob) (most : Int) (hm : 0 ≤ most ∧ most ≤ 1000) (W : World) (hT : ReadsT W (.slice ta ts.length tc) ts) (hO : ReadsO W (.slice oa os.length oc) os) :
    Calls Tryz.prog 4 #[.agg #[.slice ta ts.length tc, .slice oa os.length oc], .int .i64 most] W fun e W' => e = .returned (.bool (fewS ts os most)) ∧ Chg [] W W' := by
  obtain ⟨R, hR⟩ : ∃ R, fewS ts os most = R := ⟨_, rfl⟩
  have HR := Lib.hid hR
  rw [hR]
  obtain ⟨b2, o2, hx2, hc2, -⟩ := reads_index (P := Tryz.prog) Tryz.underlying23 szObj hO
  have HX2 := Lib.hid hx2
  have HC2 := Lib.hid hc2
  have HM := Lib.hid hm
  have HCA : Hid (Chg [] W (W.alloc (.cells #[.slice ta ts.length tc, .slice oa os.length oc] 25))) := Lib.hid ((Chg.refl _ _).alloc _)
  have HBX : Hid (Blk (W.alloc (.cells #[.slice ta ts.length tc, .slice oa os.length oc] 25)) W.heap.size #[.slice ta ts.length tc, .slice oa os.length oc] 25) := Lib.hid (Blk.new W _ _)
  have HFT := Lib.hid (fewT_any ta tc ts most hm (W.alloc (.cells #[.slice ta ts.length tc, .slice oa os.length oc] 25)) (hT.chg HCA.out))
  obtain ⟨T, hTT⟩ : ∃ T, fewT ts most = T := ⟨_, rfl⟩
  have HT := Lib.hid hTT
  rw [hTT] at HFT
  clear hx2 hc2 hT hO hR hm hTT
  cases T
  · obtain rfl : false = R := by rw [← HR.out]; unfold fewS; rw [HT.out]; rfl
    go_enter Tryz.func4, Tryz.ntmps4
    go_wp2_with (go_at_call 11; refine HFT.out.mono ?_; rintro e w1 ⟨rfl, hc⟩; have HCF := Lib.hid (HCA.out.trans hc); clear hc)
    go_ret
    exact ⟨rfl, HCF.out⟩
  by_cases h1 : (os.length : Int) ≤ most
  rotate_left
  · obtain rfl : false = R := by rw [← HR.out]; simp [fewS, h1]
    have h1' : most < (os.length : Int) := by omega
    clear h1
    go_enter Tryz.func4, Tryz.ntmps4
    go_wp2_with (go_at_call 11; refine HFT.out.mono ?_; rintro e w1 ⟨rfl, hc⟩; have HCF := Lib.hid (HCA.out.trans hc); have e1 : w1.cell? ⟨W.heap.size, 1, none⟩ = some (.slice oa os.length oc) := (HBX.out.keep hc (by simp)).cell rfl; clear hc)
    go_ret
    exact ⟨rfl, HCF.out⟩
  have h1' : ¬ (most < (os.length : Int)) := by omega
  have H1 := Lib.hid h1
  have hml : (os.length : Int) ≤ 1000 := by have := HM.out; omega
  have HML := Lib.hid hml
  clear h1
  go_enter Tryz.func4, Tryz.ntmps4
  go_wp2_with (go_at_call 11; refine HFT.out.mono ?_; rintro e w1 ⟨rfl, hc⟩; have HCF := Lib.hid (HCA.out.trans hc); have e1 : w1.cell? ⟨W.heap.size, 1, none⟩ = some (.slice oa os.length oc) := (HBX.out.keep hc (by simp)).cell rfl; clear hc)
  clear h1' hml
  go_loopw [22] (fun i wr => ∃ j : Nat, j ≤ os.length ∧ i = .int .i64 j ∧ Hid ((os.take j).all Ob.small = true) ∧ Hid (Chg [] W wr)) (fun i _ => os.length - (intOf i).toNat)
  case atStart => exact ⟨0, Nat.zero_le _, rfl, Lib.hid rfl, HCF⟩
  case round =>
    clear e1
    obtain ⟨j, hj, rfl, HG, HJ⟩ := hrel
    by_cases hlt : j < os.length
    · have HLT := Lib.hid hlt
      have g1 := HX2.out j hlt
      obtain ⟨⟨k, w, s, c, st, ia, il, ic, wr2, ra, rl, rc⟩, htk⟩ : ∃ t, os[j]? = some t := ⟨_, List.getElem?_eq_getElem hlt⟩
      have q0 := HJ.out.keep (HC2.out (j * 8 + 0) _ (by rw [flatMap_get Ob.cells 8 (fun _ => rfl) os j 0 (by decide) _ htk]; rfl)) (by simp)
      have q1 := HJ.out.keep (HC2.out (j * 8 + 1) _ (by rw [flatMap_get Ob.cells 8 (fun _ => rfl) os j 1 (by decide) _ htk]; rfl)) (by simp)
      have q2 := HJ.out.keep (HC2.out (j * 8 + 2) _ (by rw [flatMap_get Ob.cells 8 (fun _ => rfl) os j 2 (by decide) _ htk]; rfl)) (by simp)
      have q3 := HJ.out.keep (HC2.out (j * 8 + 3) _ (by rw [flatMap_get Ob.cells 8 (fun _ => rfl) os j 3 (by decide) _ htk]; rfl)) (by simp)
      have q4 := HJ.out.keep (HC2.out (j * 8 + 4) _ (by rw [flatMap_get Ob.cells 8 (fun _ => rfl) os j 4 (by decide) _ htk]; rfl)) (by simp)
      have q5 := HJ.out.keep (HC2.out (j * 8 + 5) _ (by rw [flatMap_get Ob.cells 8 (fun _ => rfl) os j 5 (by decide) _ htk]; rfl)) (by simp)
      have q6 := HJ.out.keep (HC2.out (j * 8 + 6) _ (by rw [flatMap_get Ob.cells 8 (fun _ => rfl) os j 6 (by decide) _ htk]; rfl)) (by simp)
      have q7 := HJ.out.keep (HC2.out (j * 8 + 7) _ (by rw [flatMap_get Ob.cells 8 (fun _ => rfl) os j 7 (by decide) _ htk]; rfl)) (by simp)
      rw [Nat.add_zero] at q0
      rw [← Nat.add_assoc] at q1 q2 q3 q4 q5 q6 q7
      have HK := Lib.hid htk
      have hj1000 : (j : Int) < 1000 := by have := HML.out; omega
      have k8 : IntKind.i64.wrap ((j : Int) + 1) = (j : Int) + 1 := by rw [IntKind.wrap_i64]; omega
      have HS := Lib.hid (fun V => small_any k w s c st ia il ic wr2 ra rl rc V)
      obtain ⟨sm, hsm⟩ : ∃ sm, decide (il ≤ 100 ∧ rl ≤ 100) = sm := ⟨_, rfl⟩
      rw [hsm] at HS
      have HSM := Lib.hid hsm
      clear htk hj hlt hsm
      cases sm
      · obtain rfl : false = R := by rw [← HR.out]; unfold fewS; rw [all_not (p := Ob.small) HK.out (by show decide _ = false; exact HSM.out)]; simp
        go_wp2_with (go_at_call 12; refine (HS.out _).mono ?_; rintro e w5 ⟨rfl, hc⟩; have HJ5 := Lib.hid ((HJ.out.alloc _).trans hc); clear hc)
        go_ret
        exact ⟨rfl, HJ5.out⟩
      · go_wp2_with (go_at_call 12; refine (HS.out _).mono ?_; rintro e w5 ⟨rfl, hc⟩; have HJ5 := Lib.hid ((HJ.out.alloc _).trans hc); clear hc)
        have hltj := HLT.out
        go_roundw
        case rel => exact ⟨j + 1, by omega, by go_num, Lib.hid (take_all (p := Ob.small) HG.out HK.out (by show decide _ = true; exact HSM.out)), HJ5⟩
        case measure => simp [intOf]; omega
    · obtain rfl : os.length = j := by omega
      clear hlt hj
      have hgood : R = true := by rw [← HR.out]; unfold fewS; have := HG.out; rw [List.take_length] at this; rw [this, HT.out]; simp [H1.out]
      subst hgood
      go_wp2_with fail
      go_ret
      exact ⟨rfl, HJ.out⟩
end Go.Proofs.YtkedegbpkkgeaaaGreat.lay
