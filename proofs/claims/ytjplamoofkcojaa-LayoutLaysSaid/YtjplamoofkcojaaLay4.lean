/- Systems: lens. -/
import Derived.Test.YtjplamoofkcojaaLay3
namespace Go.Proofs.Ytjplamoofkcojaa.lay
open Go Go.RowKit Go.Proofs.Ytjplamoofkcojaa.kit Go.Proofs.Ytjplamoofkcojaa.obj Go.Proofs.Ytjplamoofkcojaa.mem
set_option linter.unusedVariables false
set_option linter.unusedSimpArgs false
set_option maxRecDepth 20000

def Tk.good (t : Tk) : Bool := decide (1 ≤ t.own ∧ t.own ≤ 64)
def lensOk (ts : List Tk) (os : List Ob) : Bool := ts.all Tk.good && os.all (fun o => o.size != 0)
def lensL (ts : List Tk) (os : List Ob) : List Int := ts.map Tk.own ++ os.map Ob.size
theorem ownGe {w : World} {B e size n : Nat} {v : Value} {xs : List Value} (h : w.ownsRow B e size v n xs) : ∀ y, v.ownBlock = some y → B ≤ y := by
  intro y hy
  rcases h.2 with ⟨rfl, _⟩ | ⟨g, _, _, rfl, hg, _⟩
  · cases hy
  · simp [Value.ownBlock] at hy; omega
theorem OwnI.add {w : World} {B : Nat} {v : Value} {zs : List Int} {x : Int} (h : w.ownsRow B 3 1 v (zs.length + 1) (zs.map (Value.int .i64) ++ [.int .i64 x])) : OwnI w B v (zs ++ [x]) := by
  unfold OwnI
  rw [List.length_append, List.map_append]
  exact h

set_option maxHeartbeats 4000000 in
theorem lens_any (ta : Option Addr) (tl tc : Nat) (oa : Option Addr) (ol oc : Nat) (ts : List Tk) (os : List Ob) (W : World) (hT : ReadsT W (.slice ta tl tc) ts) (hO : ReadsO W (.slice oa ol oc) os) (hw : ∀ o ∈ os, o.W) (hl : ts.length ≤ 1000 ∧ os.length ≤ 1000) :
    Calls Try.prog 50 #[.agg #[.slice ta tl tc, .slice oa ol oc]] W fun e W' => ∃ v, e = .returned (.tuple #[v, .bool (lensOk ts os)]) ∧ OwnI W' W.heap.size v (if lensOk ts os then lensL ts os else []) ∧ Chg [] W W' := by
  obtain ⟨i0, hi, hz0, hz1, hz2⟩ := info_parts infoInt
  have HI0 : Hid (Try.prog.info? 3 = some i0 ∧ i0.zero = some (.int .i64 0) ∧ i0.size = 1 ∧ i0.bytes = 8) := Lib.hid ⟨hi, hz0, hz1, hz2⟩
  obtain ⟨b1, o1, hx1, hc1, -⟩ := reads_index (P := Try.prog) Try.underlying46 szTask hT.1
  obtain ⟨b2, o2, hx2, hc2, -⟩ := reads_index (P := Try.prog) Try.underlying47 szObj hO
  have htl : tl = ts.length := by obtain ⟨_, _, he, _⟩ := reads_slice hT.1; simp at he; exact he.2.1
  have hol : ol = os.length := by obtain ⟨_, _, he, _⟩ := reads_slice hO; simp at he; exact he.2.1
  subst htl hol
  have HX1 := Lib.hid hx1
  have HC1 := Lib.hid hc1
  have HX2 := Lib.hid hx2
  have HC2 := Lib.hid hc2
  have HTW := Lib.hid hT.2
  have HW := Lib.hid hw
  have HLN := Lib.hid hl
  have HCA : Hid (Chg [] W (W.alloc (.cells #[.slice ta ts.length tc, .slice oa os.length oc] 49))) := Lib.hid ((Chg.refl _ _).alloc _)
  have HBX : Hid (Blk (W.alloc (.cells #[.slice ta ts.length tc, .slice oa os.length oc] 49)) W.heap.size #[.slice ta ts.length tc, .slice oa os.length oc] 49) := Lib.hid (Blk.new W _ _)
  obtain ⟨R, hR⟩ : ∃ R, lensOk ts os = R := ⟨_, rfl⟩
  have HR := Lib.hid hR
  rw [hR]
  clear hi hz0 hz1 hz2 hx1 hc1 hx2 hc2 hT hO hw hl hR
  go_enter Try.func50, Try.ntmps50
  go_wp2_with fail
  go_loopw [4, 6, 13] (fun o4 _ i wr => ∃ (j : Nat) (ov : Value), j ≤ ts.length ∧ i = .int .i64 j ∧ ov = o4 ∧ Hid ((ts.take j).all Tk.good = true) ∧ Hid (OwnI wr (W.alloc (.cells #[.slice ta ts.length tc, .slice oa os.length oc] 49)).heap.size ov ((ts.take j).map Tk.own)) ∧ Hid (Chg [] (W.alloc (.cells #[.slice ta ts.length tc, .slice oa os.length oc] 49)) wr)) (fun _ _ i _ => ts.length - (intOf i).toNat)
  case atStart => exact ⟨0, _, Nat.zero_le _, rfl, rfl, Lib.hid rfl, Lib.hid (World.ownsRow_nil _ _ _ _), Lib.hid (Chg.refl _ _)⟩
  case round =>
    obtain ⟨j, ov, hj, rfl, rfl, HG, HOV, HJ⟩ := hrel
    have HSZ : Hid ((W.alloc (.cells #[.slice ta ts.length tc, .slice oa os.length oc] 49)).heap.size ≤ wr.heap.size) := Lib.hid HJ.out.size
    by_cases hlt : j < ts.length
    · have HLT := Lib.hid hlt
      have g1 := HX1.out j hlt
      obtain ⟨⟨kind, prio, period, offset, deadline, own, ca, cl, cc⟩, htk⟩ : ∃ t, ts[j]? = some t := ⟨_, List.getElem?_eq_getElem hlt⟩
      have hcw : Chg [] W wr := HCA.out.trans HJ.out
      have q0 := hcw.keep (HC1.out (j * 7 + 0) _ (by rw [flatMap_get Tk.cells 7 (fun _ => rfl) ts j 0 (by decide) _ htk]; rfl)) (by simp)
      have q1 := hcw.keep (HC1.out (j * 7 + 1) _ (by rw [flatMap_get Tk.cells 7 (fun _ => rfl) ts j 1 (by decide) _ htk]; rfl)) (by simp)
      have q2 := hcw.keep (HC1.out (j * 7 + 2) _ (by rw [flatMap_get Tk.cells 7 (fun _ => rfl) ts j 2 (by decide) _ htk]; rfl)) (by simp)
      have q3 := hcw.keep (HC1.out (j * 7 + 3) _ (by rw [flatMap_get Tk.cells 7 (fun _ => rfl) ts j 3 (by decide) _ htk]; rfl)) (by simp)
      have q4 := hcw.keep (HC1.out (j * 7 + 4) _ (by rw [flatMap_get Tk.cells 7 (fun _ => rfl) ts j 4 (by decide) _ htk]; rfl)) (by simp)
      have q5 := hcw.keep (HC1.out (j * 7 + 5) _ (by rw [flatMap_get Tk.cells 7 (fun _ => rfl) ts j 5 (by decide) _ htk]; rfl)) (by simp)
      have q6 := hcw.keep (HC1.out (j * 7 + 6) _ (by rw [flatMap_get Tk.cells 7 (fun _ => rfl) ts j 6 (by decide) _ htk]; rfl)) (by simp)
      rw [Nat.add_zero] at q0
      rw [← Nat.add_assoc] at q1 q2 q3 q4 q5 q6
      have HK := Lib.hid htk
      have hj1000 : (j : Int) < 1000 := by have := HLN.out; omega
      have k8 : IntKind.i64.wrap ((j : Int) + 1) = (j : Int) + 1 := by rw [IntKind.wrap_i64]; omega
      clear hcw htk hj hlt
      by_cases c1 : own < 1
      · have hbad : R = false := by rw [← HR.out]; unfold lensOk; rw [all_not HK.out (show Tk.good _ = false by simp [Tk.good]; omega)]; rfl
        subst hbad
        go_wp2_with fail
        go_ret2
        exact ⟨_, rfl, World.ownsRow_nil _ _ _ _, (HCA.out.trans HJ.out).alloc _⟩
      · by_cases c2 : own > 64
        · have hbad : R = false := by rw [← HR.out]; unfold lensOk; rw [all_not HK.out (show Tk.good _ = false by simp [Tk.good]; omega)]; rfl
          subst hbad
          go_wp2_with fail
          go_ret2
          exact ⟨_, rfl, World.ownsRow_nil _ _ _ _, (HCA.out.trans HJ.out).alloc _⟩
        · have HLX : Hid (((ts.take j).map Tk.own).length ≤ 1000) := Lib.hid (by have := HLN.out; simp; omega)
          obtain ⟨zj, hzj⟩ : ∃ zj, (ts.take j).map Tk.own = zj := ⟨_, rfl⟩
          have HZJ := Lib.hid hzj
          rw [hzj] at HOV HLX
          clear hzj
          obtain ⟨xa, xc, hxa, -⟩ := reads_slice (Reads.of_own HOV.out (by decide))
          subst hxa
          have HGD : Hid (1 ≤ own ∧ own ≤ 64) := Lib.hid (by omega)
          go_wp2_with ((with_reducible show wpList _ _ _ (⟨some 29, _, _, _, _, _⟩ :: _) _ _); refine wpList_append_any (o := ⟨some 29, _, _, _, _, _⟩) _ rfl (.tmp 25) (.tmp 28) 24 rfl (W.alloc (.cells #[.slice ta ts.length tc, .slice oa os.length oc] 49)).heap.size 3 i0 (.int .i64 0) 1 8 Try.underlying24 HI0.out.1 HI0.out.2.1 HI0.out.2.2.1 HI0.out.2.2.2 rfl (by decide) (.slice xa zj.length xc) _ _ rfl (mem.own_chg (mem.own_chg HOV.out ((Chg.refl [] _).alloc _) (by simp)) ((Chg.refl [] _).alloc _) (by simp)) _ 1 _ rfl (by have h := reads_one (wr.alloc (.cells #[.int .i64 kind, .int .i64 prio, .int .i64 period, .int .i64 offset, .int .i64 deadline, .int .i64 own, .slice ca cl cc] 81)) (.int .i64 own) 3; rw [show (wr.alloc (.cells #[.int .i64 kind, .int .i64 prio, .int .i64 period, .int .i64 offset, .int .i64 deadline, .int .i64 own, .slice ca cl cc] 81)).heap.size = wr.heap.size + 1 from by simp] at h; exact h) (by intro u hu; simp at hu; subst hu; rfl) (by have := HLX.out; unfold maxLen; omega) (by have := HLX.out; omega) (Nat.le_trans HSZ.out (((Chg.refl [] _).alloc _).alloc _).size) ?_; intro v2 w2 hown2 hg2; have HO2 := Lib.hid (OwnI.add hown2); have HC3 : Hid (Chg [] (W.alloc (.cells #[.slice ta ts.length tc, .slice oa os.length oc] 49)) w2) := Lib.hid (((HJ.out.alloc _).alloc _).grown hg2 (fun y hy => .inr (ownGe HOV.out y hy))); clear hown2 hg2)
          have hltj := HLT.out
          go_roundw
          case rel => exact ⟨j + 1, v2, by omega, by go_num, rfl, Lib.hid (take_all HG.out HK.out (by simp [Tk.good]; exact HGD.out)), Lib.hid (by rw [take_map Tk.own HK.out, HZJ.out]; exact HO2.out), HC3⟩
          case measure => simp [intOf]; omega
    · obtain rfl : ts.length = j := by omega
      clear hlt hj
      have HG1 : Hid (ts.all Tk.good = true) := Lib.hid (by have := HG.out; rwa [List.take_length] at this)
      have HO1 : Hid (OwnI wr (W.alloc (.cells #[.slice ta ts.length tc, .slice oa os.length oc] 49)).heap.size ov (ts.map Tk.own)) := Lib.hid (by have := HOV.out; rwa [List.take_length] at this)
      have e1 : wr.cell? ⟨W.heap.size, 1, none⟩ = some (.slice oa os.length oc) := (HBX.out.keep HJ.out (by simp)).cell rfl
      obtain ⟨wo, rfl⟩ : ∃ wo : World, wo = wr := ⟨_, rfl⟩
      clear HG HOV
      go_wp2_with fail
      go_loopw [4, 8, 9, 34] (fun o4 _ _ i wr => ∃ (j : Nat) (ov : Value), j ≤ os.length ∧ i = .int .i64 j ∧ ov = o4 ∧ Hid ((os.take j).all (fun o => o.size != 0) = true) ∧ Hid (OwnI wr (W.alloc (.cells #[.slice ta ts.length tc, .slice oa os.length oc] 49)).heap.size ov (ts.map Tk.own ++ (os.take j).map Ob.size)) ∧ Hid (Chg [] (W.alloc (.cells #[.slice ta ts.length tc, .slice oa os.length oc] 49)) wr)) (fun _ _ _ i _ => os.length - (intOf i).toNat)
      case atStart => exact ⟨0, _, Nat.zero_le _, rfl, rfl, Lib.hid rfl, Lib.hid (by rw [List.take_zero, List.map_nil, List.append_nil]; exact HO1.out), HJ⟩
      case round =>
        clear HO1 HJ e1
        obtain ⟨j, ov2, hj, rfl, rfl, HG, HOV, HJ⟩ := hrel
        have HSZ : Hid ((W.alloc (.cells #[.slice ta ts.length tc, .slice oa os.length oc] 49)).heap.size ≤ wr.heap.size) := Lib.hid HJ.out.size
        by_cases hlt : j < os.length
        · have HLT := Lib.hid hlt
          have g1 := HX2.out j hlt
          obtain ⟨⟨k, w, s, c, st, ia, il, ic, wr2, ra, rl, rc⟩, htk⟩ : ∃ t, os[j]? = some t := ⟨_, List.getElem?_eq_getElem hlt⟩
          have hcw : Chg [] W wr := HCA.out.trans HJ.out
          have q0 := hcw.keep (HC2.out (j * 8 + 0) _ (by rw [flatMap_get Ob.cells 8 (fun _ => rfl) os j 0 (by decide) _ htk]; rfl)) (by simp)
          have q1 := hcw.keep (HC2.out (j * 8 + 1) _ (by rw [flatMap_get Ob.cells 8 (fun _ => rfl) os j 1 (by decide) _ htk]; rfl)) (by simp)
          have q2 := hcw.keep (HC2.out (j * 8 + 2) _ (by rw [flatMap_get Ob.cells 8 (fun _ => rfl) os j 2 (by decide) _ htk]; rfl)) (by simp)
          have q3 := hcw.keep (HC2.out (j * 8 + 3) _ (by rw [flatMap_get Ob.cells 8 (fun _ => rfl) os j 3 (by decide) _ htk]; rfl)) (by simp)
          have q4 := hcw.keep (HC2.out (j * 8 + 4) _ (by rw [flatMap_get Ob.cells 8 (fun _ => rfl) os j 4 (by decide) _ htk]; rfl)) (by simp)
          have q5 := hcw.keep (HC2.out (j * 8 + 5) _ (by rw [flatMap_get Ob.cells 8 (fun _ => rfl) os j 5 (by decide) _ htk]; rfl)) (by simp)
          have q6 := hcw.keep (HC2.out (j * 8 + 6) _ (by rw [flatMap_get Ob.cells 8 (fun _ => rfl) os j 6 (by decide) _ htk]; rfl)) (by simp)
          have q7 := hcw.keep (HC2.out (j * 8 + 7) _ (by rw [flatMap_get Ob.cells 8 (fun _ => rfl) os j 7 (by decide) _ htk]; rfl)) (by simp)
          rw [Nat.add_zero] at q0
          rw [← Nat.add_assoc] at q1 q2 q3 q4 q5 q6 q7
          have HK := Lib.hid htk
          have HOW := Lib.hid (HW.out _ (List.mem_of_getElem? htk))
          have hj1000 : (j : Int) < 1000 := by have := HLN.out; omega
          have k8 : IntKind.i64.wrap ((j : Int) + 1) = (j : Int) + 1 := by rw [IntKind.wrap_i64]; omega
          have HS := Lib.hid (fun V => oSize_any k w s c st ia il ic wr2 ra rl rc HOW.out V)
          obtain ⟨sz, hsz⟩ : ∃ sz, rop.sizeI k w s c st il rl = sz := ⟨_, rfl⟩
          rw [hsz] at HS
          have HSI := Lib.hid hsz
          clear hcw htk hj hlt hsz
          by_cases c1 : sz = 0
          · have hbad : R = false := by rw [← HR.out]; unfold lensOk; rw [all_not (p := fun o => o.size != 0) HK.out (by show (rop.sizeI k w s c st il rl != 0) = false; rw [HSI.out, c1]; rfl)]; simp
            subst hbad
            subst c1
            go_wp2_with (go_at_call 76; refine (HS.out _).mono ?_; rintro e w5 ⟨rfl, hc⟩; have HJ5 := Lib.hid ((HJ.out.alloc _).trans hc); clear hc)
            go_ret2
            exact ⟨_, rfl, World.ownsRow_nil _ _ _ _, HCA.out.trans HJ5.out⟩
          · have HLX : Hid ((ts.map Tk.own ++ (os.take j).map Ob.size).length ≤ 2000) := Lib.hid (by have := HLN.out; simp; omega)
            obtain ⟨zj, hzj⟩ : ∃ zj, ts.map Tk.own ++ (os.take j).map Ob.size = zj := ⟨_, rfl⟩
            have HZJ := Lib.hid hzj
            rw [hzj] at HOV HLX
            clear hzj
            obtain ⟨xa, xc, hxa, -⟩ := reads_slice (Reads.of_own HOV.out (by decide))
            subst hxa
            have c2 : (sz == 0) = false := by simpa using c1
            go_wp2_with (first | (go_at_call 76; refine (HS.out _).mono ?_; rintro e w5 ⟨rfl, hc⟩; have HJ5 := Lib.hid ((HJ.out.alloc _).trans hc); have HOV5 := Lib.hid (mem.own_chg HOV.out (((Chg.refl [] _).alloc _).trans hc) (by simp)); have HSZ5 : Hid ((W.alloc (.cells #[.slice ta ts.length tc, .slice oa os.length oc] 49)).heap.size ≤ w5.heap.size) := Lib.hid HJ5.out.size; clear hc) | ((with_reducible show wpList _ _ _ (⟨some 45, _, _, _, _, _⟩ :: _) _ _); refine wpList_append_any (o := ⟨some 45, _, _, _, _, _⟩) _ rfl (.tmp 42) (.tmp 44) 24 rfl (W.alloc (.cells #[.slice ta ts.length tc, .slice oa os.length oc] 49)).heap.size 3 i0 (.int .i64 0) 1 8 Try.underlying24 HI0.out.1 HI0.out.2.1 HI0.out.2.2.1 HI0.out.2.2.2 rfl (by decide) (.slice xa zj.length xc) _ _ rfl (mem.own_chg (HOV5.out) ((Chg.refl [] _).alloc _) (by simp)) _ 1 _ rfl (reads_one w5 (.int .i64 sz) 3) (by intro u hu; simp at hu; subst hu; rfl) (by have := HLX.out; unfold maxLen; omega) (by have := HLX.out; omega) (Nat.le_trans HSZ5.out ((Chg.refl [] _).alloc _).size) ?_; intro v2 w2 hown2 hg2; have HO2 := Lib.hid (OwnI.add hown2); have HC3 : Hid (Chg [] (W.alloc (.cells #[.slice ta ts.length tc, .slice oa os.length oc] 49)) w2) := Lib.hid ((HJ5.out.alloc _).grown hg2 (fun y hy => .inr (ownGe HOV5.out y hy))); clear hown2 hg2))
            have hltj := HLT.out
            go_roundw
            case rel => exact ⟨j + 1, v2, by omega, by go_num, rfl, Lib.hid (take_all (p := fun o => o.size != 0) HG.out HK.out (by show (rop.sizeI k w s c st il rl != 0) = true; rw [HSI.out]; simpa using c1)), Lib.hid (by rw [take_map Ob.size HK.out, ← List.append_assoc, HZJ.out]; show OwnI _ _ _ (_ ++ [rop.sizeI k w s c st il rl]); rw [HSI.out]; exact HO2.out), HC3⟩
            case measure => simp [intOf]; omega
        · obtain rfl : os.length = j := by omega
          clear hlt hj
          have hgood : R = true := by rw [← HR.out]; unfold lensOk; rw [HG1.out]; have := HG.out; rw [List.take_length] at this; rw [this]; rfl
          subst hgood
          go_wp2_with fail
          go_ret2
          exact ⟨_, rfl, by have := HOV.out; rw [List.take_length] at this; exact mem.own_base this HCA.out.size, HCA.out.trans HJ.out⟩
end Go.Proofs.Ytjplamoofkcojaa.lay
