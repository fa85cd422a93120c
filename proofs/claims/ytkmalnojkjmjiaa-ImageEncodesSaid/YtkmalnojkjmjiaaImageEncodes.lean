/-
  coxswainlaw33.ImageEncodes returns true for every s: any system's image, or that it has none. No conditions.
-/
import Derived.Test.YtkmalnojkjmjiaaRows
import Derived.WalkKit
import Derived.ProofKit
import Derived.OpenShut
import Derived.ShutString
import Derived.ChangeOld
import Derived.Below
import Derived.Test.YtkmalnojkjmjiaaOpen
import Derived.Test.YtkmalnojkjmjiaaFew
import Derived.Test.YtkmalnojkjmjiaaImgN
import Derived.Test.YtkmalnojkjmjiaaImgU
namespace Go.Proofs.Ytkmalnojkjmjiaa.imageEncodes
open Go.ChangeShapes Go.WideShapes Go.ChangeAt Go.RowKit
open Go.ChangeMaps (open_string shut_string)
set_option linter.unusedVariables false
open Go.Proofs.Ytkmalnojkjmjiaa.kit Go.Proofs.Ytkmalnojkjmjiaa.obj Go.Proofs.Ytkmalnojkjmjiaa.mem Go.Proofs.Ytkmalnojkjmjiaa.lay Go.Proofs.Ytkmalnojkjmjiaa.codec Go.Proofs.Ytkmalnojkjmjiaa.img
set_option linter.unusedSimpArgs false
set_option linter.unusedVariables false
set_option maxRecDepth 100000
theorem few_deep (ta : Option Addr) (tc : Nat) (oa : Option Addr) (oc : Nat) (ts : List DT) (os : List DO) (most : Int) (hm : 0 ≤ most ∧ most ≤ 1000) (W : World) (hT : ReadsDT W (.slice ta ts.length tc) ts) (hO : ReadsDO W (.slice oa os.length oc) os) :
    Calls Try.prog 11 #[.agg #[.slice ta ts.length tc, .slice oa os.length oc], .int .i64 most] W fun e W' => e = .returned (.bool (fewS (ts.map DT.t) (os.map DO.o) most)) ∧ Chg [] W W' := by
  have h1 := fewS_any ta tc oa oc (ts.map DT.t) (os.map DO.o) most hm W (by rw [List.length_map]; exact hT.1) (by rw [List.length_map]; exact hO.1)
  rw [List.length_map, List.length_map] at h1
  exact h1
theorem few_facts {ts : List DT} {os : List DO} {m : Int} {w : World} (h : fewS (ts.map DT.t) (os.map DO.o) m = true) (hT : ∀ d ∈ ts, d.R w) (hO : ∀ d ∈ os, d.R w) : ((ts.length : Int) ≤ m ∧ (os.length : Int) ≤ m) ∧ (∀ d ∈ ts, d.code.length ≤ 200) ∧ ∀ d ∈ os, d.ini.length ≤ 100 ∧ d.rds.length ≤ 100 := by
  unfold fewS fewT at h
  simp only [Bool.and_eq_true, decide_eq_true_eq, List.all_eq_true, List.length_map] at h
  refine ⟨⟨h.1.1, h.2.1⟩, fun d hd => ?_, fun d hd => ?_⟩
  · rw [← (hT d hd).len]; exact h.1.2 _ (List.mem_map.2 ⟨d, hd, rfl⟩)
  · have h9 := h.2.2 _ (List.mem_map.2 ⟨d, hd, rfl⟩)
    simp only [Ob.small, decide_eq_true_eq] at h9
    rw [← (hO d hd).leni, ← (hO d hd).lenr]; exact h9
set_option maxHeartbeats 2000000 in
theorem many (ta : Option Addr) (tc : Nat) (oa : Option Addr) (oc : Nat) (ts : List DT) (os : List DO) (W : World) (hT : ReadsDT W (.slice ta ts.length tc) ts) (hO : ReadsDO W (.slice oa os.length oc) os) (hf : fewS (ts.map DT.t) (os.map DO.o) 300 = false) :
    Calls Try.prog 6 #[.agg #[.slice ta ts.length tc, .slice oa os.length oc]] W fun e W' => e = .returned (.bool true) ∧ Below W.heap.size W W' := by
  have HCA : Hid (Chg [] W (W.alloc (.cells #[.slice ta ts.length tc, .slice oa os.length oc] 27))) := Lib.hid ((Chg.refl _ _).alloc _)
  have HBX : Hid (Blk (W.alloc (.cells #[.slice ta ts.length tc, .slice oa os.length oc] 27)) W.heap.size #[.slice ta ts.length tc, .slice oa os.length oc] 27) := Lib.hid (Blk.new W _ _)
  have HFW := Lib.hid (few_deep ta tc oa oc ts os 300 ⟨by decide, by decide⟩ (W.alloc (.cells #[.slice ta ts.length tc, .slice oa os.length oc] 27)) (hT.chg HCA.out) (hO.chg HCA.out))
  rw [hf] at HFW
  clear hT hO hf
  go_enter Try.func6, Try.ntmps6
  go_wp2_with (first | (go_at_call 7; refine (img.awake_any _).mono ?_; rintro e wz ⟨rfl, hz⟩; have HZ := Lib.hid hz; clear hz) | (go_at_call 11; refine HFW.out.mono ?_; rintro e w1 ⟨rfl, hc⟩; have HC1 := Lib.hid hc; have e0 : w1.cell? ⟨W.heap.size, 0, none⟩ = some (.slice ta ts.length tc) := (HBX.out.keep hc (by simp)).cell rfl; have e1 : w1.cell? ⟨W.heap.size, 1, none⟩ = some (.slice oa os.length oc) := (HBX.out.keep hc (by simp)).cell rfl; clear hc))
  go_ret
  exact ⟨rfl, (HCA.out.trans (HC1.out.trans HZ.out)).below⟩
set_option maxHeartbeats 16000000 in
theorem some_ (ta : Option Addr) (tc : Nat) (oa : Option Addr) (oc : Nat) (ts : List DT) (os : List DO) (W : World) (hT : ReadsDT W (.slice ta ts.length tc) ts) (hO : ReadsDO W (.slice oa os.length oc) os) (hf : fewS (ts.map DT.t) (os.map DO.o) 300 = true) :
    Calls Try.prog 6 #[.agg #[.slice ta ts.length tc, .slice oa os.length oc]] W fun e W' => e = .returned (.bool true) ∧ Below W.heap.size W W' := by
  have HCA : Hid (Chg [] W (W.alloc (.cells #[.slice ta ts.length tc, .slice oa os.length oc] 27))) := Lib.hid ((Chg.refl _ _).alloc _)
  have HBX : Hid (Blk (W.alloc (.cells #[.slice ta ts.length tc, .slice oa os.length oc] 27)) W.heap.size #[.slice ta ts.length tc, .slice oa os.length oc] 27) := Lib.hid (Blk.new W _ _)
  have HFW := Lib.hid (few_deep ta tc oa oc ts os 300 ⟨by decide, by decide⟩ (W.alloc (.cells #[.slice ta ts.length tc, .slice oa os.length oc] 27)) (hT.chg HCA.out) (hO.chg HCA.out))
  rw [hf] at HFW
  have hff := few_facts hf hT.2 hO.2
  have HB1 : Hid ((∀ d ∈ ts, d.code.length ≤ 1000) ∧ ∀ d ∈ os, d.ini.length ≤ 1000 ∧ d.rds.length ≤ 1000) := Lib.hid ⟨fun d hd => by have := hff.2.1 d hd; omega, fun d hd => by have := hff.2.2 d hd; omega⟩
  have HEN := Lib.hid (fun V (h : Chg [] (W.alloc (.cells #[.slice ta ts.length tc, .slice oa os.length oc] 27)) V) => Encode_any ta tc oa oc ts os V (hT.chg (HCA.out.trans h)) (hO.chg (HCA.out.trans h)) (by omega) HB1.out)
  have HER := Lib.hid (fun V (h : Chg [] (W.alloc (.cells #[.slice ta ts.length tc, .slice oa os.length oc] 27)) V) => rEncode_any ta tc oa oc ts os V (hT.chg (HCA.out.trans h)) (hO.chg (HCA.out.trans h)) (by omega) HB1.out)
  have HFI := Lib.hid (fun V (h : Chg [] (W.alloc (.cells #[.slice ta ts.length tc, .slice oa os.length oc] 27)) V) => Fits_any ta tc oa oc ts os V (hT.chg (HCA.out.trans h)) (hO.chg (HCA.out.trans h)) (by omega) HB1.out)
  obtain ⟨G, hG⟩ : ∃ G, hasI (ts.map DT.p) (os.map DO.p) = G := ⟨_, rfl⟩
  have HG := Lib.hid hG
  obtain ⟨zs, hzs⟩ : ∃ zs, imageOf (ts.map DT.p) (os.map DO.p) = zs := ⟨_, rfl⟩
  have hz2 : BytesB zs ∧ zs.length ≤ 1000000 := by
    rw [← hzs]
    unfold imageOf
    by_cases h : hasI (ts.map DT.p) (os.map DO.p) = true
    · rw [if_pos h]
      unfold hasI at h
      rw [Bool.and_eq_true] at h
      have := of_decide_eq_true h.2
      exact ⟨image_wf _ _, by omega⟩
    · rw [if_neg h]
      exact ⟨BytesB.nil, by simp⟩
  have HBZ : Hid (BytesB zs) := Lib.hid hz2.1
  have HLZ : Hid (zs.length ≤ 1000000) := Lib.hid hz2.2
  rw [hG, hzs] at HEN HER
  rw [hG] at HFI
  have hT1 := hT.1.1
  rw [rowsT_map, List.length_map] at hT1
  obtain ⟨b1, o1, hx1, hc1, -⟩ := reads_index (P := Try.prog) Try.underlying24 szTask hT1
  have HX1 := Lib.hid hx1
  have HCL1 := Lib.hid hc1
  have HTD := Lib.hid hT.2
  have HL : Hid ((ts.length : Int) ≤ 300) := Lib.hid (by omega)
  obtain ⟨T60, hT60⟩ : ∃ b, decide ((60 : Int) < (ts.length : Int)) = b := ⟨_, rfl⟩
  clear hT hO hf hff hG hzs hz2 hT1 hx1 hc1
  go_enter Try.func6, Try.ntmps6
  go_wp2_with (go_at_call 11; refine HFW.out.mono ?_; rintro e w1 ⟨rfl, hc⟩; have HC1 := Lib.hid hc; have e0 : w1.cell? ⟨W.heap.size, 0, none⟩ = some (.slice ta ts.length tc) := (HBX.out.keep hc (by simp)).cell rfl; have e1 : w1.cell? ⟨W.heap.size, 1, none⟩ = some (.slice oa os.length oc) := (HBX.out.keep hc (by simp)).cell rfl; clear hc)
  clear e0 e1
  go_loopw [16] (fun i wr => ∃ j : Nat, j ≤ ts.length ∧ i = .int .i64 j ∧ Hid (Chg [] (W.alloc (.cells #[.slice ta ts.length tc, .slice oa os.length oc] 27)) wr)) (fun i _ => ts.length - (intOf i).toNat)
  case atStart => exact ⟨0, Nat.zero_le _, rfl, HC1⟩
  case round =>
    obtain ⟨j, hj, rfl, HJ⟩ := hrel
    obtain ⟨wo, rfl⟩ : ∃ wo : World, wo = wr := ⟨_, rfl⟩
    by_cases hlt : j < ts.length
    · have HLT := Lib.hid hlt
      have g1 := HX1.out j hlt
      obtain ⟨⟨⟨kind, prio, period, offset, deadline, own, ca, cl, cc⟩, code⟩, htk⟩ : ∃ t, ts[j]? = some t := ⟨_, List.getElem?_eq_getElem hlt⟩
      have q0 := (HCA.out.trans HJ.out).keep (HCL1.out (j * 7 + 0) _ (by rw [flatMap_get (fun d : DT => d.t.cells) 7 (fun _ => rfl) ts j 0 (by decide) _ htk]; rfl)) (by simp)
      have q1 := (HCA.out.trans HJ.out).keep (HCL1.out (j * 7 + 1) _ (by rw [flatMap_get (fun d : DT => d.t.cells) 7 (fun _ => rfl) ts j 1 (by decide) _ htk]; rfl)) (by simp)
      have q2 := (HCA.out.trans HJ.out).keep (HCL1.out (j * 7 + 2) _ (by rw [flatMap_get (fun d : DT => d.t.cells) 7 (fun _ => rfl) ts j 2 (by decide) _ htk]; rfl)) (by simp)
      have q3 := (HCA.out.trans HJ.out).keep (HCL1.out (j * 7 + 3) _ (by rw [flatMap_get (fun d : DT => d.t.cells) 7 (fun _ => rfl) ts j 3 (by decide) _ htk]; rfl)) (by simp)
      have q4 := (HCA.out.trans HJ.out).keep (HCL1.out (j * 7 + 4) _ (by rw [flatMap_get (fun d : DT => d.t.cells) 7 (fun _ => rfl) ts j 4 (by decide) _ htk]; rfl)) (by simp)
      have q5 := (HCA.out.trans HJ.out).keep (HCL1.out (j * 7 + 5) _ (by rw [flatMap_get (fun d : DT => d.t.cells) 7 (fun _ => rfl) ts j 5 (by decide) _ htk]; rfl)) (by simp)
      have q6 := (HCA.out.trans HJ.out).keep (HCL1.out (j * 7 + 6) _ (by rw [flatMap_get (fun d : DT => d.t.cells) 7 (fun _ => rfl) ts j 6 (by decide) _ htk]; rfl)) (by simp)
      rw [Nat.add_zero] at q0
      rw [← Nat.add_assoc] at q1 q2 q3 q4 q5 q6
      have hDR := HTD.out _ (List.mem_of_getElem? htk)
      obtain rfl : cl = code.length := hDR.len
      have HCC : Hid (code.length ≤ 1000) := Lib.hid (HB1.out.1 _ (List.mem_of_getElem? htk))
      have hj1000 : (j : Int) < 1000 := by have := HL.out; omega
      have k8 : IntKind.i64.wrap ((j : Int) + 1) = (j : Int) + 1 := by rw [IntKind.wrap_i64]; omega
      have HJA : Hid (Chg [] (W.alloc (.cells #[.slice ta ts.length tc, .slice oa os.length oc] 27)) (wo.alloc (.cells #[.int .i64 kind, .int .i64 prio, .int .i64 period, .int .i64 offset, .int .i64 deadline, .int .i64 own, .slice ca code.length cc] 41))) := Lib.hid (HJ.out.alloc _)
      have e0 := (HBX.out.keep HJA.out (by simp)).cell (o := 0) rfl
      clear htk hj hlt hDR
      by_cases h100 : (100 : Int) < (code.length : Int)
      · cases T60
        · have h60 : ¬ (60 : Int) < (ts.length : Int) := of_decide_eq_false hT60
          go_wp2_with fail
          have hltj := HLT.out
          go_roundw
          case rel => exact ⟨j + 1, by omega, by go_num, HJA⟩
          case measure => simp [intOf]; omega
        · have h60 : (60 : Int) < (ts.length : Int) := of_decide_eq_true hT60
          go_wp2_with (go_at_call 7; refine (img.awake_any _).mono ?_; rintro e wz ⟨rfl, hz⟩; have HZ := Lib.hid hz; clear hz)
          go_ret
          exact ⟨rfl, (HCA.out.trans (HJA.out.trans HZ.out)).below⟩
      · go_wp2_with fail
        have hltj := HLT.out
        go_roundw
        case rel => exact ⟨j + 1, by omega, by go_num, HJA⟩
        case measure => simp [intOf]; omega
    · obtain rfl : j = ts.length := by omega
      clear hlt hj
      have e0 := (HBX.out.keep HJ.out (by simp)).cell (o := 0) rfl
      have e1 := (HBX.out.keep HJ.out (by simp)).cell (o := 1) rfl
      clear hT60
      cases G
      · go_wp2_with (first | (go_at_call 7; refine (img.awake_any _).mono ?_; rintro e wz ⟨rfl, hz⟩; have HZ := Lib.hid hz; clear hz) | (go_at_call 12; (with_reducible refine (HEN.out _ HJ.out).mono ?_); rintro e w2 ⟨v2, rfl, ho, hc⟩; have HR2 := Lib.hid (ho.reads HBZ.out); have HC2 := Lib.hid (HJ.out.trans hc); have e0 := (HBX.out.keep HC2.out (by simp)).cell (o := 0) rfl; have e1 := (HBX.out.keep HC2.out (by simp)).cell (o := 1) rfl; clear ho hc) | (go_at_call 14; (with_reducible refine (HER.out _ HC2.out).mono ?_); rintro e w3 ⟨v3, rfl, ho, hc⟩; have HR3 := Lib.hid (ho.reads HBZ.out); have HR23 := Lib.hid (HR2.out.chg hc); have HC3 := Lib.hid (HC2.out.trans hc); have e0 := (HBX.out.keep HC3.out (by simp)).cell (o := 0) rfl; have e1 := (HBX.out.keep HC3.out (by simp)).cell (o := 1) rfl; clear ho hc) | (go_at_call 13; refine (Bytes_any _ _ zs zs _ HR23.out HR3.out).mono ?_; rintro e w7 ⟨rfl, rfl⟩; rw [decide_eq_true rfl]) | (go_at_call 15; (with_reducible refine (HFI.out _ HC3.out).mono ?_); rintro e w5 ⟨rfl, hc⟩; have HC5 := Lib.hid (HC3.out.trans hc); have HR5 := Lib.hid (HR23.out.chg hc); clear hc) | (go_at_call 16; refine (Sum_any v2 zs _ HR5.out HLZ.out).mono ?_; rintro e w6 ⟨rfl, hc⟩; have HC6 := Lib.hid (HC5.out.trans hc); have HR6 := Lib.hid (HR5.out.chg hc); clear hc) | (go_at_call 17; refine (rSum_any v2 zs _ HR6.out HLZ.out).mono ?_; rintro e w8 ⟨rfl, hc⟩; have HC8 := Lib.hid (HC6.out.trans hc); clear hc))
        go_ret
        exact ⟨rfl, (HCA.out.trans (HC8.out.trans HZ.out)).below⟩
      · go_wp2_with (first | (go_at_call 7; refine (img.awake_any _).mono ?_; rintro e wz ⟨rfl, hz⟩; have HZ := Lib.hid hz; clear hz) | (go_at_call 12; (with_reducible refine (HEN.out _ HJ.out).mono ?_); rintro e w2 ⟨v2, rfl, ho, hc⟩; have HR2 := Lib.hid (ho.reads HBZ.out); have HC2 := Lib.hid (HJ.out.trans hc); have e0 := (HBX.out.keep HC2.out (by simp)).cell (o := 0) rfl; have e1 := (HBX.out.keep HC2.out (by simp)).cell (o := 1) rfl; clear ho hc) | (go_at_call 14; (with_reducible refine (HER.out _ HC2.out).mono ?_); rintro e w3 ⟨v3, rfl, ho, hc⟩; have HR3 := Lib.hid (ho.reads HBZ.out); have HR23 := Lib.hid (HR2.out.chg hc); have HC3 := Lib.hid (HC2.out.trans hc); have e0 := (HBX.out.keep HC3.out (by simp)).cell (o := 0) rfl; have e1 := (HBX.out.keep HC3.out (by simp)).cell (o := 1) rfl; clear ho hc) | (go_at_call 13; refine (Bytes_any _ _ zs zs _ HR23.out HR3.out).mono ?_; rintro e w7 ⟨rfl, rfl⟩; rw [decide_eq_true rfl]) | (go_at_call 15; (with_reducible refine (HFI.out _ HC3.out).mono ?_); rintro e w5 ⟨rfl, hc⟩; have HC5 := Lib.hid (HC3.out.trans hc); have HR5 := Lib.hid (HR23.out.chg hc); clear hc) | (go_at_call 16; refine (Sum_any v2 zs _ HR5.out HLZ.out).mono ?_; rintro e w6 ⟨rfl, hc⟩; have HC6 := Lib.hid (HC5.out.trans hc); have HR6 := Lib.hid (HR5.out.chg hc); clear hc) | (go_at_call 17; refine (rSum_any v2 zs _ HR6.out HLZ.out).mono ?_; rintro e w8 ⟨rfl, hc⟩; have HC8 := Lib.hid (HC6.out.trans hc); clear hc))
        go_ret
        exact ⟨rfl, (HCA.out.trans (HC8.out.trans HZ.out)).below⟩
theorem own : ownKnob Try.prog.godebug = none := by kernel_rfl
theorem laidOut : laidOutB Try.prog = true := by kernel_rfl

/-- The walk: the law returns true, and nothing that was there has turned. -/
theorem walk (w : World) (cs0 : Array Value) (hs0 : cs0.size = Try.prog.cellsOf 27) (o0 : kit.Opens Try.prog w 9 27 cs0.toList) :
    Calls Try.prog 6 #[.agg cs0] w fun e w' => e = .returned (.bool true) ∧ Below w.heap.size w w' := by
  obtain ⟨a, c, ts, a2, c2, os, hcs, hT, hO, hW⟩ := system_deep (n := 1) o0
  have hcs2 : cs0 = #[.slice a ts.length c, .slice a2 os.length c2] := by apply Array.toList_inj.1; rw [hcs]
  subst hcs2
  cases hf : fewS (ts.map DT.t) (os.map DO.o) 300
  · exact many a c a2 c2 ts os w hT hO hf
  · exact some_ a c a2 c2 ts os w hT hO hf

set_option maxRecDepth 100000 in
theorem lifted (os : Os) (started : os.Started) (H : Type) (enc : TypeId × Value → H) :
    ReturnsInHanded {} Try.checked os 6 .any (Rows.imageEncodesSpec.pre6 enc Try.prog Try.f6 Rows.imageEncodesRow.domain false) (Rows.imageEncodesSpec.post enc Try.prog Try.f6 false true false false) := by
  refine returnsInHanded_of_change (C := Try.checked) own started (by kernel_rfl) Try.func6
    (ChangeSpec.witness6 (enc := enc) (C := Try.checked) false ⟨#[], #[.agg #[.slice none 0 0, .slice none 0 0]], []⟩ 8 (by kernel_rfl) (by kernel_rfl) (by kernel_rfl) (by kernel_rfl)) ?_
  intro W base args ds gs before hval0 hW hcnd _
  have hval : ∀ (j : Nat) t v, Try.f6.params[j]? = some t → args[j]? = some v → Value.okWide Try.prog W .any base t v := hval0
  have hW' := hW
  obtain ⟨p, q, hA0, hV, rfl, hfz, hnd⟩ := hW
  have hA : DataW.TrodAll enc Try.prog W 0 (fun _ => true) true Try.f6.params.toList args.toList ds p := hA0
  rw [Try.params6] at hA hval
  obtain ⟨v0, vs0, d0, ds0, p0, q0, hargs, rfl, rfl, h0, r0⟩ := trodAll_cons hA
  obtain ⟨rfl, rfl, rfl⟩ := trodAll_nil r0
  obtain rfl : args = #[v0] := by cases args; simp_all
  obtain ⟨rfl, rfl⟩ := trodVars_none hV
  have k0 := h0
  have lt0 : ∀ x ∈ p0, x.block < W.heap.size := by obtain ⟨m, hm⟩ := k0; exact DataW.trod_lt m _ _ _ hm
  obtain ⟨cs0, rfl, hs0⟩ := okWide_struct Try.underlying27 (hval 0 27 v0 rfl rfl)
  have o0 : kit.Opens Try.prog W 9 27 cs0.toList := by simpa [Value.cells] using kit.Trod_opens 9 k0
  clear hA0 hval0
  refine (walk W cs0 hs0 o0).mono fun e W' ⟨he, bel⟩ => ?_
  subst he
  exact ⟨_, rfl, _, _, _, [], _, [], hW', trodAll_mk1 (shut_bool Try.underlying4 _), (trodAll_cons_mk (Below.trod laidOut (by kernel_rfl) (of_decide_eq_true (by kernel_rfl)) k0 bel lt0) trodAll_mk0), rfl, bel.frame _, fun h => by cases h⟩

theorem over : Rows.imageEncodesRow.holds Try.pinned (OpenSpec.ofChange Rows.imageEncodesSpec) :=
  OpenClaim.holds_of_wide 6 Try.f6 rfl rfl rfl rfl rfl rfl rfl ⟨rfl, rfl, rfl, rfl, rfl⟩ rfl rfl rfl rfl rfl (by kernel_rfl) Try.func6 (by kernel_rfl)
    (of_decide_eq_true (by kernel_rfl)) (by unfold Func.isWrapper; first | (rw [if_pos (by decide +kernel)]; kernel_rfl) | (rw [if_neg (by decide +kernel)]; exact ⟨rfl, rfl⟩))
    (fun os started H enc _ => lifted os started H enc)

/-- The statement. -/
theorem proved : Rows.ImageEncodesSaid := over
end Go.Proofs.Ytkmalnojkjmjiaa.imageEncodes
