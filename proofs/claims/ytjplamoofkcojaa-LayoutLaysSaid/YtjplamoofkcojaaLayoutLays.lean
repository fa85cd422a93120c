/-
  coxswainlaw31.LayoutLays returns true for every s: where all words of any system stand, and how they are at the beginning, or why there are none. No conditions.
-/
import Derived.Test.YtjplamoofkcojaaRows
import Derived.WalkKit
import Derived.ProofKit
import Derived.OpenShut
import Derived.ShutString
import Derived.ChangeOld
import Derived.Below
import Derived.Test.YtjplamoofkcojaaOpen
import Derived.Test.YtjplamoofkcojaaLay8
import Derived.Test.YtjplamoofkcojaaLay9
import Derived.Test.YtjplamoofkcojaaLayC
namespace Go.Proofs.Ytjplamoofkcojaa.layoutLays
open Go.ChangeShapes Go.WideShapes Go.ChangeAt Go.RowKit
open Go.ChangeMaps (open_string shut_string)
set_option linter.unusedVariables false
open Go.Proofs.Ytjplamoofkcojaa.kit Go.Proofs.Ytjplamoofkcojaa.obj Go.Proofs.Ytjplamoofkcojaa.mem Go.Proofs.Ytjplamoofkcojaa.lay Go.Proofs.Ytjplamoofkcojaa.core Go.Proofs.Ytjplamoofkcojaa.img
set_option linter.unusedSimpArgs false
set_option linter.unusedVariables false
set_option maxRecDepth 100000
theorem few_do (ta : Option Addr) (tc : Nat) (oa : Option Addr) (oc : Nat) (ts : List Tk) (ds : List DO) (most : Int) (hm : 0 ≤ most ∧ most ≤ 1000) (W : World) (hT : ReadsT W (.slice ta ts.length tc) ts) (hO : ReadsDO W (.slice oa ds.length oc) ds) :
    Calls Try.prog 20 #[.agg #[.slice ta ts.length tc, .slice oa ds.length oc], .int .i64 most] W fun e W' => e = .returned (.bool (fewS ts (ds.map DO.o) most)) ∧ Chg [] W W' := by
  have h1 := fewS_any ta tc oa oc ts (ds.map DO.o) most hm W hT (by rw [List.length_map]; exact hO.1)
  rw [List.length_map] at h1
  exact h1
theorem few_all {ts : List Tk} {os : List Ob} {m : Int} (h : fewS ts os m = true) : ((ts.length : Int) ≤ m ∧ (os.length : Int) ≤ m) ∧ ∀ o ∈ os, o.small = true := by
  unfold fewS fewT at h
  simp only [Bool.and_eq_true, decide_eq_true_eq, List.all_eq_true] at h
  exact ⟨⟨h.1.1, h.2.1⟩, h.2.2⟩
theorem nil_any (w : World) (a : Option Addr) (c : Nat) (h : ∃ B, OwnR w B (.slice a 0 c) []) : Reads w 2 (.slice a 0 c) 0 [] := by
  obtain ⟨B, h⟩ := h
  exact Reads.of_own h (by decide)
set_option maxHeartbeats 2000000 in
theorem many (ta : Option Addr) (tc : Nat) (oa : Option Addr) (oc : Nat) (ts : List Tk) (ds : List DO) (W : World) (hT : ReadsT W (.slice ta ts.length tc) ts) (hO : ReadsDO W (.slice oa ds.length oc) ds) (hf : fewS ts (ds.map DO.o) 60 = false) :
    Calls Try.prog 7 #[.agg #[.slice ta ts.length tc, .slice oa ds.length oc]] W fun e W' => e = .returned (.bool true) ∧ Below W.heap.size W W' := by
  have HCA : Hid (Chg [] W (W.alloc (.cells #[.slice ta ts.length tc, .slice oa ds.length oc] 49))) := Lib.hid ((Chg.refl _ _).alloc _)
  have HBX : Hid (Blk (W.alloc (.cells #[.slice ta ts.length tc, .slice oa ds.length oc] 49)) W.heap.size #[.slice ta ts.length tc, .slice oa ds.length oc] 49) := Lib.hid (Blk.new W _ _)
  have HFW := Lib.hid (few_do ta tc oa oc ts ds 60 ⟨by decide, by decide⟩ (W.alloc (.cells #[.slice ta ts.length tc, .slice oa ds.length oc] 49)) (hT.chg HCA.out) (hO.chg HCA.out))
  rw [hf] at HFW
  clear hT hO hf
  go_enter Try.func7, Try.ntmps7
  go_wp2_with (first | (go_at_call 21; refine (lay.awake_any _).mono ?_; rintro e wz ⟨rfl, hz⟩; have HZ := Lib.hid hz; clear hz) | (go_at_call 20; refine HFW.out.mono ?_; rintro e w1 ⟨rfl, hc⟩; have HC1 := Lib.hid hc; have e0 := (HBX.out.keep HC1.out (by simp)).cell (o := 0) rfl; have e1 := (HBX.out.keep HC1.out (by simp)).cell (o := 1) rfl; clear hc))
  go_ret
  exact ⟨rfl, (HCA.out.trans (HC1.out.trans HZ.out)).below⟩
theorem Same_nil (a1 : Option Addr) (c1 : Nat) (a2 : Option Addr) (c2 : Nat) (a3 : Option Addr) (c3 : Nat) (a4 : Option Addr) (c4 : Nat) (W : World) (h1 : Reads W 2 (.slice a1 0 c1) 0 []) (h2 : Reads W 2 (.slice a2 0 c2) 0 []) (h3 : Reads W 2 (.slice a3 0 c3) 0 []) (h4 : Reads W 2 (.slice a4 0 c4) 0 []) :
    Calls Try.prog 23 #[.agg #[.slice a1 0 c1, .slice a2 0 c2, .int .i64 0], .agg #[.slice a3 0 c3, .slice a4 0 c4, .int .i64 0]] W fun e W' => e = .returned (.bool true) ∧ Chg [] W W' :=
  Same_ok a1 c1 a2 c2 a3 c3 a4 c4 0 [] [] W h1 h2 h3 h4 ⟨by decide, by decide⟩
set_option maxHeartbeats 8000000 in
theorem bad (ta : Option Addr) (tc : Nat) (oa : Option Addr) (oc : Nat) (ts : List Tk) (ds : List DO) (W : World) (hT : ReadsT W (.slice ta ts.length tc) ts) (hO : ReadsDO W (.slice oa ds.length oc) ds) (hf : fewS ts (ds.map DO.o) 60 = true) (hw : ∀ d ∈ ds, d.o.W) (hl : ts.length ≤ 1000 ∧ ds.length ≤ 1000) (hc : ofCode ts (ds.map DO.o) ≠ 0) :
    Calls Try.prog 7 #[.agg #[.slice ta ts.length tc, .slice oa ds.length oc]] W fun e W' => e = .returned (.bool true) ∧ Below W.heap.size W W' := by
  have HCA : Hid (Chg [] W (W.alloc (.cells #[.slice ta ts.length tc, .slice oa ds.length oc] 49))) := Lib.hid ((Chg.refl _ _).alloc _)
  have HBX : Hid (Blk (W.alloc (.cells #[.slice ta ts.length tc, .slice oa ds.length oc] 49)) W.heap.size #[.slice ta ts.length tc, .slice oa ds.length oc] 49) := Lib.hid (Blk.new W _ _)
  have HFW := Lib.hid (few_do ta tc oa oc ts ds 60 ⟨by decide, by decide⟩ (W.alloc (.cells #[.slice ta ts.length tc, .slice oa ds.length oc] 49)) (hT.chg HCA.out) (hO.chg HCA.out))
  rw [hf] at HFW
  have hw2 : ∀ o ∈ ds.map DO.o, o.W := fun o ho => by obtain ⟨d, hd, rfl⟩ := List.mem_map.1 ho; exact hw d hd
  have hl2 : ts.length ≤ 1000 ∧ (ds.map DO.o).length ≤ 1000 := by rw [List.length_map]; exact hl
  have e1 : ofOwn ts (ds.map DO.o) = [] := by unfold ofOwn; rw [if_neg hc]
  have e2 : ofObjs ts (ds.map DO.o) = [] := by unfold ofObjs; rw [if_neg hc]
  have e3 : ofSize ts (ds.map DO.o) = 0 := by unfold ofSize; rw [if_neg hc]
  have hOf := fun V (h : Chg [] (W.alloc (.cells #[.slice ta ts.length tc, .slice oa ds.length oc] 49)) V) => Of_all ta ts.length tc oa ds.length oc ts (ds.map DO.o) V (hT.chg (HCA.out.trans h)) (hO.1.chg (HCA.out.trans h)) hw2 hl2
  have hRo := fun V (h : Chg [] (W.alloc (.cells #[.slice ta ts.length tc, .slice oa ds.length oc] 49)) V) => rOf_any ta tc oa oc ts (ds.map DO.o) V (hT.chg (HCA.out.trans h)) (by rw [List.length_map]; exact hO.1.chg (HCA.out.trans h)) hw2 hl2
  have hLy := fun V (h : Chg [] (W.alloc (.cells #[.slice ta ts.length tc, .slice oa ds.length oc] 49)) V) => Lay_no ta tc oa oc ts ds (fun _ => []) V (hT.chg (HCA.out.trans h)) (hO.chg (HCA.out.trans h)) hw hl hc
  rw [List.length_map] at hRo
  obtain ⟨cd, hcd⟩ : ∃ cd, ofCode ts (ds.map DO.o) = cd := ⟨_, rfl⟩
  rw [e1, e2, e3, hcd] at hOf hRo
  rw [hcd] at hLy hc
  have HOF := Lib.hid hOf
  have HRO := Lib.hid hRo
  have HLY := Lib.hid hLy
  have hcb : (cd == 0) = false := by simpa using hc
  have hcn : (cd != 0) = true := by simpa using hc
  clear hOf hRo hLy hT hO hw hw2 hl hl2 hc e1 e2 e3 hcd hf
  go_enter Try.func7, Try.ntmps7
  go_wp2_with (first | (go_at_call 21; refine (lay.awake_any _).mono ?_; rintro e wz ⟨rfl, hz⟩; have HZ := Lib.hid hz; clear hz) | (go_at_call 20; refine HFW.out.mono ?_; rintro e w1 ⟨rfl, hc⟩; have HC1 := Lib.hid hc; have e0 := (HBX.out.keep HC1.out (by simp)).cell (o := 0) rfl; have e1 := (HBX.out.keep HC1.out (by simp)).cell (o := 1) rfl; clear hc) | (go_at_call 22; refine (HOF.out _ HC1.out).mono ?_; rintro e w2 ⟨a1, c1, a2, c2, rfl, hr1, hr2, hc⟩; have HR1 := Lib.hid hr1; have HR2 := Lib.hid hr2; have HC2 := Lib.hid ((HC1.out.trans hc).alloc (.cells #[.slice a1 0 c1, .slice a2 0 c2, .int .i64 0] 53)); have HD1 : Hid (Blk (w2.alloc (.cells #[.slice a1 0 c1, .slice a2 0 c2, .int .i64 0] 53)) w2.heap.size #[.slice a1 0 c1, .slice a2 0 c2, .int .i64 0] 53) := Lib.hid (Blk.new w2 _ _); have e0 := (HBX.out.keep HC2.out (by simp)).cell (o := 0) rfl; have e1 := (HBX.out.keep HC2.out (by simp)).cell (o := 1) rfl; clear hr1 hr2 hc) | (go_at_call 26; refine (HLY.out _ HC2.out).mono ?_; rintro e w3 ⟨rfl, hc⟩; have HK3 : Hid (Chg [] (w2.alloc (.cells #[.slice a1 0 c1, .slice a2 0 c2, .int .i64 0] 53)) (w3.alloc (.cells #[.slice none 0 0, .slice none 0 0, .int .i64 0] 53))) := Lib.hid (hc.alloc (.cells #[.slice none 0 0, .slice none 0 0, .int .i64 0] 53)); have HC3 := Lib.hid (HC2.out.trans HK3.out); have HD2 : Hid (Blk (w3.alloc (.cells #[.slice none 0 0, .slice none 0 0, .int .i64 0] 53)) w3.heap.size #[.slice none 0 0, .slice none 0 0, .int .i64 0] 53) := Lib.hid (Blk.new w3 _ _); have e0 := (HBX.out.keep HC3.out (by simp)).cell (o := 0) rfl; have e1 := (HBX.out.keep HC3.out (by simp)).cell (o := 1) rfl; clear hc) | (go_at_call 27; refine (HRO.out _ HC3.out).mono ?_; rintro e w4 ⟨a5, c5, a6, c6, rfl, hr5, hr6, hc⟩; have HR5 := Lib.hid hr5; have HR6 := Lib.hid hr6; have HK4 : Hid (Chg [] (w3.alloc (.cells #[.slice none 0 0, .slice none 0 0, .int .i64 0] 53)) (w4.alloc (.cells #[.slice a5 0 c5, .slice a6 0 c6, .int .i64 0] 53))) := Lib.hid (hc.alloc (.cells #[.slice a5 0 c5, .slice a6 0 c6, .int .i64 0] 53)); have HC4 := Lib.hid (HC3.out.trans HK4.out); have HD3 : Hid (Blk (w4.alloc (.cells #[.slice a5 0 c5, .slice a6 0 c6, .int .i64 0] 53)) w4.heap.size #[.slice a5 0 c5, .slice a6 0 c6, .int .i64 0] 53) := Lib.hid (Blk.new w4 _ _); have p0 := (HD1.out.keep (HK3.out.trans HK4.out) (by simp)).cell (o := 0) rfl; have p1 := (HD1.out.keep (HK3.out.trans HK4.out) (by simp)).cell (o := 1) rfl; have p2 := (HD1.out.keep (HK3.out.trans HK4.out) (by simp)).cell (o := 2) rfl; have q0 := (HD2.out.keep HK4.out (by simp)).cell (o := 0) rfl; have q1 := (HD2.out.keep HK4.out (by simp)).cell (o := 1) rfl; have q2 := (HD2.out.keep HK4.out (by simp)).cell (o := 2) rfl; have e0 := (HBX.out.keep HC4.out (by simp)).cell (o := 0) rfl; have e1 := (HBX.out.keep HC4.out (by simp)).cell (o := 1) rfl; clear hr5 hr6 hc) | (go_at_call 23; (with_reducible show Calls _ _ #[.agg #[.slice a1 _ _, _, _], _] _ _); refine (Same_nil a1 c1 a2 c2 a5 c5 a6 c6 _ ((Reads.of_own HR1.out (by decide)).fresh ((((Chg.refl [] w2).alloc (.cells #[.slice a1 0 c1, .slice a2 0 c2, .int .i64 0] 53)).trans HK3.out).trans HK4.out)) ((Reads.of_own HR2.out (by decide)).fresh ((((Chg.refl [] w2).alloc (.cells #[.slice a1 0 c1, .slice a2 0 c2, .int .i64 0] 53)).trans HK3.out).trans HK4.out)) ((Reads.of_own HR5.out (by decide)).fresh ((Chg.refl [] w4).alloc (.cells #[.slice a5 0 c5, .slice a6 0 c6, .int .i64 0] 53))) ((Reads.of_own HR6.out (by decide)).fresh ((Chg.refl [] w4).alloc (.cells #[.slice a5 0 c5, .slice a6 0 c6, .int .i64 0] 53)))).mono ?_; rintro e w5 ⟨rfl, hc⟩; have HK5 : Hid (Chg [] (w4.alloc (.cells #[.slice a5 0 c5, .slice a6 0 c6, .int .i64 0] 53)) w5) := Lib.hid hc; have HC5 := Lib.hid (HC4.out.trans hc); have q0 := (HD2.out.keep (HK4.out.trans HK5.out) (by simp)).cell (o := 0) rfl; have q1 := (HD2.out.keep (HK4.out.trans HK5.out) (by simp)).cell (o := 1) rfl; have q2 := (HD2.out.keep (HK4.out.trans HK5.out) (by simp)).cell (o := 2) rfl; have r0 := (HD3.out.keep HK5.out (by simp)).cell (o := 0) rfl; have r1 := (HD3.out.keep HK5.out (by simp)).cell (o := 1) rfl; have r2 := (HD3.out.keep HK5.out (by simp)).cell (o := 2) rfl; have e0 := (HBX.out.keep HC5.out (by simp)).cell (o := 0) rfl; have e1 := (HBX.out.keep HC5.out (by simp)).cell (o := 1) rfl; clear hc) | (go_at_call 23; refine (Same_nil none 0 none 0 a5 c5 a6 c6 _ (Reads.nil _ _) (Reads.nil _ _) (((Reads.of_own HR5.out (by decide)).fresh ((Chg.refl [] w4).alloc (.cells #[.slice a5 0 c5, .slice a6 0 c6, .int .i64 0] 53))).fresh HK5.out) (((Reads.of_own HR6.out (by decide)).fresh ((Chg.refl [] w4).alloc (.cells #[.slice a5 0 c5, .slice a6 0 c6, .int .i64 0] 53))).fresh HK5.out)).mono ?_; rintro e w6 ⟨rfl, hc⟩; have HC6 := Lib.hid (HC5.out.trans hc); have HK6 : Hid (Chg [] (w4.alloc (.cells #[.slice a5 0 c5, .slice a6 0 c6, .int .i64 0] 53)) w6) := Lib.hid (HK5.out.trans hc); have e0 := (HBX.out.keep HC6.out (by simp)).cell (o := 0) rfl; have e1 := (HBX.out.keep HC6.out (by simp)).cell (o := 1) rfl; clear hc))
  go_ret
  exact ⟨rfl, (HCA.out.trans (HC6.out.trans HZ.out)).below⟩
theorem choose_F (ds : List DO) (h : ∀ d ∈ ds, ∃ L, LayOK d.o.k d.o.w d.o.s d.o.c d.o.st d.o.ia d.o.il d.o.ic d.o.wr d.o.ra d.o.rl d.o.rc d.ini L) : ∃ F : DO → List Int, ∀ d ∈ ds, LF F d := by
  classical
  refine ⟨fun d => if h : ∃ L, LayOK d.o.k d.o.w d.o.s d.o.c d.o.st d.o.ia d.o.il d.o.ic d.o.wr d.o.ra d.o.rl d.o.rc d.ini L then Classical.choose h else [], fun d hd => ?_⟩
  unfold LF
  dsimp only
  rw [dif_pos (h d hd)]
  exact Classical.choose_spec (h d hd)
set_option maxHeartbeats 16000000 in
theorem good (ta : Option Addr) (tc : Nat) (oa : Option Addr) (oc : Nat) (ts : List Tk) (ds : List DO) (W : World) (hT : ReadsT W (.slice ta ts.length tc) ts) (hO : ReadsDO W (.slice oa ds.length oc) ds) (hf : fewS ts (ds.map DO.o) 60 = true) (hw : ∀ d ∈ ds, d.o.W) (hl : ts.length ≤ 1000 ∧ ds.length ≤ 1000) (hc : ofCode ts (ds.map DO.o) = 0) :
    Calls Try.prog 7 #[.agg #[.slice ta ts.length tc, .slice oa ds.length oc]] W fun e W' => e = .returned (.bool true) ∧ Below W.heap.size W W' := by
  have HCA : Hid (Chg [] W (W.alloc (.cells #[.slice ta ts.length tc, .slice oa ds.length oc] 49))) := Lib.hid ((Chg.refl _ _).alloc _)
  have HBX : Hid (Blk (W.alloc (.cells #[.slice ta ts.length tc, .slice oa ds.length oc] 49)) W.heap.size #[.slice ta ts.length tc, .slice oa ds.length oc] 49) := Lib.hid (Blk.new W _ _)
  have HFW := Lib.hid (few_do ta tc oa oc ts ds 60 ⟨by decide, by decide⟩ (W.alloc (.cells #[.slice ta ts.length tc, .slice oa ds.length oc] 49)) (hT.chg HCA.out) (hO.chg HCA.out))
  rw [hf] at HFW
  have hw2 : ∀ o ∈ ds.map DO.o, o.W := fun o ho => by obtain ⟨d, hd, rfl⟩ := List.mem_map.1 ho; exact hw d hd
  have hl2 : ts.length ≤ 1000 ∧ (ds.map DO.o).length ≤ 1000 := by rw [List.length_map]; exact hl
  have hlk : lensOk ts (ds.map DO.o) = true := by
    unfold ofCode at hc
    by_cases h : lensOk ts (ds.map DO.o) = true
    · exact h
    · rw [if_neg h] at hc; cases hc
  unfold lensOk at hlk
  rw [Bool.and_eq_true] at hlk
  obtain ⟨F, hF⟩ := choose_F ds (fun d hd => by
    have h1 : (d.o.size != 0) = true := List.all_eq_true.1 hlk.2 d.o (List.mem_map.2 ⟨d, hd, rfl⟩)
    have hr : rightB d.o.k d.o.w d.o.s d.o.c d.o.st d.o.il d.o.rl = true := by
      cases h : rightB d.o.k d.o.w d.o.s d.o.c d.o.st d.o.il d.o.rl
      · have h2 := size_eq0 d.o h
        rw [h2] at h1
        cases h1
      · rfl
    exact lay_any _ _ _ _ _ _ _ _ _ _ _ _ d.ini (hw d hd) hr W (hO.2 d hd).1.2)
  have hsz : 0 ≤ ofSize ts (ds.map DO.o) := by
    unfold ofSize
    rw [if_pos hc]
    exact sumI_nn (lens_nonneg (by unfold lensOk; rw [hlk.1, hlk.2]; rfl))
  obtain ⟨n, hn⟩ : ∃ n : Nat, (n : Int) = ofSize ts (ds.map DO.o) := ⟨(ofSize ts (ds.map DO.o)).toNat, by omega⟩
  have hOf := fun V (h : Chg [] (W.alloc (.cells #[.slice ta ts.length tc, .slice oa ds.length oc] 49)) V) => Of_all ta ts.length tc oa ds.length oc ts (ds.map DO.o) V (hT.chg (HCA.out.trans h)) (hO.1.chg (HCA.out.trans h)) hw2 hl2
  have hRo := fun V (h : Chg [] (W.alloc (.cells #[.slice ta ts.length tc, .slice oa ds.length oc] 49)) V) => rOf_any ta tc oa oc ts (ds.map DO.o) V (hT.chg (HCA.out.trans h)) (by rw [List.length_map]; exact hO.1.chg (HCA.out.trans h)) hw2 hl2
  have hLy := fun V (h : Chg [] (W.alloc (.cells #[.slice ta ts.length tc, .slice oa ds.length oc] 49)) V) => Lay_ok ta tc oa oc ts ds F V (hT.chg (HCA.out.trans h)) (hO.chg (HCA.out.trans h)) hw hl hc hF n hn
  have hRl := fun V (h : Chg [] (W.alloc (.cells #[.slice ta ts.length tc, .slice oa ds.length oc] 49)) V) => rLayAll_any ta tc oa oc ts ds F V (hT.chg (HCA.out.trans h)) (hO.chg (HCA.out.trans h)) hlk.1 hF hl
  rw [List.length_map] at hRo
  have hlr : (ofOwn ts (ds.map DO.o)).length ≤ 1000 ∧ (ofObjs ts (ds.map DO.o)).length ≤ 1000 := by
    unfold ofOwn ofObjs
    rw [if_pos hc, if_pos hc, List.length_take, List.length_drop, cutL_length, lensL_length, List.length_map]
    omega
  have hXl : (zerosT ts ++ ds.flatMap F).length ≤ 1000000 := by
    have h1 := zerosT_take hlk.1 ts.length
    have h2 := words_take hF ds.length
    rw [List.take_length] at h1 h2
    have h3 := few_all hf
    rw [List.length_map] at h3
    rw [List.length_append]
    omega
  obtain ⟨rs, hrs⟩ : ∃ rs, ofOwn ts (ds.map DO.o) = rs := ⟨_, rfl⟩
  obtain ⟨ps, hps⟩ : ∃ ps, ofObjs ts (ds.map DO.o) = ps := ⟨_, rfl⟩
  obtain ⟨X, hX⟩ : ∃ X, zerosT ts ++ ds.flatMap F = X := ⟨_, rfl⟩
  rw [hrs, hps, ← hn, hc] at hOf hRo
  rw [hrs, hps, hX] at hLy
  rw [hrs, hps] at hlr
  rw [hX] at hRl hXl
  have HOF := Lib.hid hOf
  have HRO := Lib.hid hRo
  have HLY := Lib.hid hLy
  have HRL := Lib.hid hRl
  have HLL := Lib.hid hlr
  have HXL := Lib.hid hXl
  clear hOf hRo hLy hRl hT hO hw hw2 hl hl2 hc hlk hF hsz hn hlr hXl hrs hps hX hf
  go_enter Try.func7, Try.ntmps7
  go_upto_region 10 with (first | (go_at_call 21; refine (lay.awake_any _).mono ?_; rintro e wz ⟨rfl, hz⟩; have HZ := Lib.hid hz; clear hz) | (go_at_call 20; refine HFW.out.mono ?_; rintro e w1 ⟨rfl, hc⟩; have HC1 := Lib.hid hc; have e0 := (HBX.out.keep HC1.out (by simp)).cell (o := 0) rfl; have e1 := (HBX.out.keep HC1.out (by simp)).cell (o := 1) rfl; clear hc) | (go_at_call 22; refine (HOF.out _ HC1.out).mono ?_; rintro e w2 ⟨a1, c1, a2, c2, rfl, hr1, hr2, hc⟩; have HR1 := Lib.hid hr1; have HR2 := Lib.hid hr2; have HC2 := Lib.hid ((HC1.out.trans hc).alloc (.cells #[.slice a1 rs.length c1, .slice a2 ps.length c2, .int .i64 (n : Int)] 53)); have HD1 : Hid (Blk (w2.alloc (.cells #[.slice a1 rs.length c1, .slice a2 ps.length c2, .int .i64 (n : Int)] 53)) w2.heap.size #[.slice a1 rs.length c1, .slice a2 ps.length c2, .int .i64 (n : Int)] 53) := Lib.hid (Blk.new w2 _ _); have e0 := (HBX.out.keep HC2.out (by simp)).cell (o := 0) rfl; have e1 := (HBX.out.keep HC2.out (by simp)).cell (o := 1) rfl; clear hr1 hr2 hc) | (go_at_call 26; refine (HLY.out _ HC2.out).mono ?_; rintro e w3 ⟨mb, g, a3, c3, a4, c4, rfl, hm, hr3, hr4, hc⟩; have HMM := Lib.hid hm; have HR3 := Lib.hid hr3; have HR4 := Lib.hid hr4; have HK3 : Hid (Chg [] (w2.alloc (.cells #[.slice a1 rs.length c1, .slice a2 ps.length c2, .int .i64 (n : Int)] 53)) (w3.alloc (.cells #[.slice a3 rs.length c3, .slice a4 ps.length c4, .int .i64 (n : Int)] 53))) := Lib.hid (hc.alloc (.cells #[.slice a3 rs.length c3, .slice a4 ps.length c4, .int .i64 (n : Int)] 53)); have HC3 := Lib.hid (HC2.out.trans HK3.out); have HD2 : Hid (Blk (w3.alloc (.cells #[.slice a3 rs.length c3, .slice a4 ps.length c4, .int .i64 (n : Int)] 53)) w3.heap.size #[.slice a3 rs.length c3, .slice a4 ps.length c4, .int .i64 (n : Int)] 53) := Lib.hid (Blk.new w3 _ _); have e0 := (HBX.out.keep HC3.out (by simp)).cell (o := 0) rfl; have e1 := (HBX.out.keep HC3.out (by simp)).cell (o := 1) rfl; clear hm hr3 hr4 hc) | (go_at_call 27; refine (HRO.out _ HC3.out).mono ?_; rintro e w4 ⟨a5, c5, a6, c6, rfl, hr5, hr6, hc⟩; have HR5 := Lib.hid hr5; have HR6 := Lib.hid hr6; have HK4 : Hid (Chg [] (w3.alloc (.cells #[.slice a3 rs.length c3, .slice a4 ps.length c4, .int .i64 (n : Int)] 53)) (w4.alloc (.cells #[.slice a5 rs.length c5, .slice a6 ps.length c6, .int .i64 (n : Int)] 53))) := Lib.hid (hc.alloc (.cells #[.slice a5 rs.length c5, .slice a6 ps.length c6, .int .i64 (n : Int)] 53)); have HC4 := Lib.hid (HC3.out.trans HK4.out); have HD3 : Hid (Blk (w4.alloc (.cells #[.slice a5 rs.length c5, .slice a6 ps.length c6, .int .i64 (n : Int)] 53)) w4.heap.size #[.slice a5 rs.length c5, .slice a6 ps.length c6, .int .i64 (n : Int)] 53) := Lib.hid (Blk.new w4 _ _); have p0 := (HD1.out.keep (HK3.out.trans HK4.out) (by simp)).cell (o := 0) rfl; have p1 := (HD1.out.keep (HK3.out.trans HK4.out) (by simp)).cell (o := 1) rfl; have p2 := (HD1.out.keep (HK3.out.trans HK4.out) (by simp)).cell (o := 2) rfl; have q0 := (HD2.out.keep HK4.out (by simp)).cell (o := 0) rfl; have q1 := (HD2.out.keep HK4.out (by simp)).cell (o := 1) rfl; have q2 := (HD2.out.keep HK4.out (by simp)).cell (o := 2) rfl; have e0 := (HBX.out.keep HC4.out (by simp)).cell (o := 0) rfl; have e1 := (HBX.out.keep HC4.out (by simp)).cell (o := 1) rfl; clear hr5 hr6 hc) | (go_at_call 23; (with_reducible show Calls _ _ #[.agg #[.slice a1 _ _, _, _], _] _ _); refine (Same_ok a1 c1 a2 c2 a5 c5 a6 c6 (n : Int) rs ps _ ((Reads.of_own HR1.out (by decide)).fresh ((((Chg.refl [] w2).alloc (.cells #[.slice a1 rs.length c1, .slice a2 ps.length c2, .int .i64 (n : Int)] 53)).trans HK3.out).trans HK4.out)) ((Reads.of_own HR2.out (by decide)).fresh ((((Chg.refl [] w2).alloc (.cells #[.slice a1 rs.length c1, .slice a2 ps.length c2, .int .i64 (n : Int)] 53)).trans HK3.out).trans HK4.out)) ((Reads.of_own HR5.out (by decide)).fresh ((Chg.refl [] w4).alloc (.cells #[.slice a5 rs.length c5, .slice a6 ps.length c6, .int .i64 (n : Int)] 53))) ((Reads.of_own HR6.out (by decide)).fresh ((Chg.refl [] w4).alloc (.cells #[.slice a5 rs.length c5, .slice a6 ps.length c6, .int .i64 (n : Int)] 53))) HLL.out).mono ?_; rintro e w5 ⟨rfl, hc⟩; have HK5 : Hid (Chg [] (w4.alloc (.cells #[.slice a5 rs.length c5, .slice a6 ps.length c6, .int .i64 (n : Int)] 53)) w5) := Lib.hid hc; have HC5 := Lib.hid (HC4.out.trans hc); have q0 := (HD2.out.keep (HK4.out.trans HK5.out) (by simp)).cell (o := 0) rfl; have q1 := (HD2.out.keep (HK4.out.trans HK5.out) (by simp)).cell (o := 1) rfl; have q2 := (HD2.out.keep (HK4.out.trans HK5.out) (by simp)).cell (o := 2) rfl; have r0 := (HD3.out.keep HK5.out (by simp)).cell (o := 0) rfl; have r1 := (HD3.out.keep HK5.out (by simp)).cell (o := 1) rfl; have r2 := (HD3.out.keep HK5.out (by simp)).cell (o := 2) rfl; have e0 := (HBX.out.keep HC5.out (by simp)).cell (o := 0) rfl; have e1 := (HBX.out.keep HC5.out (by simp)).cell (o := 1) rfl; clear hc) | (go_at_call 23; refine (Same_ok a3 c3 a4 c4 a5 c5 a6 c6 (n : Int) rs ps _ ((HR3.out.fresh (((Chg.refl [] w3).alloc (.cells #[.slice a3 rs.length c3, .slice a4 ps.length c4, .int .i64 (n : Int)] 53)).trans HK4.out)).fresh HK5.out) ((HR4.out.fresh (((Chg.refl [] w3).alloc (.cells #[.slice a3 rs.length c3, .slice a4 ps.length c4, .int .i64 (n : Int)] 53)).trans HK4.out)).fresh HK5.out) (((Reads.of_own HR5.out (by decide)).fresh ((Chg.refl [] w4).alloc (.cells #[.slice a5 rs.length c5, .slice a6 ps.length c6, .int .i64 (n : Int)] 53))).fresh HK5.out) (((Reads.of_own HR6.out (by decide)).fresh ((Chg.refl [] w4).alloc (.cells #[.slice a5 rs.length c5, .slice a6 ps.length c6, .int .i64 (n : Int)] 53))).fresh HK5.out) HLL.out).mono ?_; rintro e w6 ⟨rfl, hc⟩; have HC6 := Lib.hid (HC5.out.trans hc); have HK6 : Hid (Chg [] (w4.alloc (.cells #[.slice a5 rs.length c5, .slice a6 ps.length c6, .int .i64 (n : Int)] 53)) w6) := Lib.hid (HK5.out.trans hc); have e0 := (HBX.out.keep HC6.out (by simp)).cell (o := 0) rfl; have e1 := (HBX.out.keep HC6.out (by simp)).cell (o := 1) rfl; clear hc))
  have HM6 := Lib.hid ((HMM.out.fresh ((Chg.refl [] w3).alloc (.cells #[.slice a3 rs.length c3, .slice a4 ps.length c4, .int .i64 (n : Int)] 53))).fresh (HK4.out.trans HK6.out))
  have KEEP := Lib.hid (fun (V : World) (h : Chg [] w6 V) => (⟨h.keep e0 (by simp), h.keep e1 (by simp), Lib.hid h⟩ : (fun V : World => V.cell? ⟨W.heap.size, 0, none⟩ = some (.slice ta ts.length tc) ∧ V.cell? ⟨W.heap.size, 1, none⟩ = some (.slice oa ds.length oc) ∧ Hid (Chg [] w6 V)) V))
  have hHeld : (fun V : World => V.cell? ⟨W.heap.size, 0, none⟩ = some (.slice ta ts.length tc) ∧ V.cell? ⟨W.heap.size, 1, none⟩ = some (.slice oa ds.length oc) ∧ Hid (Chg [] w6 V)) w6.drew := KEEP.out _ (Chg.refl _ _).drew
  have HD : Hid (Chg [] w6 w6.drew) := Lib.hid (Chg.refl _ _).drew
  clear e0 e1
  refine wp_region_plan (fun V : World => V.cell? ⟨W.heap.size, 0, none⟩ = some (.slice ta ts.length tc) ∧ V.cell? ⟨W.heap.size, 1, none⟩ = some (.slice oa ds.length oc) ∧ Hid (Chg [] w6 V)) [(0, true, some 57), (2, true, some 59), (1, false, some 58), (3, false, some 60), (4, false, some 61), (5, true, some 62), (6, false, some 63), (7, true, some 64), (8, true, some 2)] (by kernel_rfl) (by kernel_rfl) (by kernel_rfl) (by kernel_rfl) (fun d c a v w h => by cases d <;> exact h) hHeld ?_
  clear hHeld
  (repeat (refine planWp_read (v := ?_) rfl rfl ?_ ?_ ?_; rotate_left; (focus rfl); (focus (intro u hSw; (try dsimp only at hSw); go_simp; (try with_reducible rfl); done)); (try simp only [Act.put, List.setIfInBounds_toArray, List.set_cons_zero, List.set_cons_succ])))
  refine planWp_do rfl rfl ?_ (fun K hK => ?_)
  · rfl
  go_simp
  go_wp2_with (go_at_call 29; refine (Words_ok mb _ X 0 _ (HM6.out.fresh HD.out)).mono ?_; rintro e wa ⟨va, rfl, ho, hc⟩; have HOA := Lib.hid ho; have HCY : Hid (Chg [] w6 wa) := Lib.hid (HD.out.trans hc); clear ho hc)
  refine hK.out _ _ (KEEP.out _ HCY.out) (fun _ => ?_)
  clear hK K
  (try simp only [Act.put, List.setIfInBounds_toArray, List.set_cons_zero, List.set_cons_succ])
  refine planWp_do rfl rfl ?_ (fun K hK => ?_)
  · rfl
  go_simp
  go_wp2_with (go_at_call 30; refine (HRL.out _ (HC6.out.trans HCY.out)).mono ?_; rintro e wb ⟨vb, rfl, ho, hc⟩; have HOB := Lib.hid ho; have HOA2 := Lib.hid (mem.own_chg HOA.out hc (by simp)); have HCZ : Hid (Chg [] w6 wb) := Lib.hid (HCY.out.trans hc); clear ho hc)
  refine hK.out _ _ (KEEP.out _ HCZ.out) (fun _ => ?_)
  clear hK K
  (try simp only [Act.put, List.setIfInBounds_toArray, List.set_cons_zero, List.set_cons_succ])
  refine planWp_do rfl rfl ?_ (fun K hK => ?_)
  · rfl
  go_simp
  go_wp2_with (go_at_call 28; refine (Words_any va vb X X _ (OwnW.reads HOA2.out HM6.out.wf) (OwnW.reads HOB.out HM6.out.wf) HXL.out HXL.out).mono ?_; rintro e wd ⟨rfl, hq⟩; have HCX : Hid (Chg [] w6 wd) := Lib.hid (HCZ.out.trans (quiet_chg hq)); rw [show wordsB X X = true from decide_eq_true rfl]; clear hq)
  refine hK.out _ _ (KEEP.out _ HCX.out) (fun _ => ?_)
  clear hK K
  (try simp only [Act.put, List.setIfInBounds_toArray, List.set_cons_zero, List.set_cons_succ])
  (repeat (refine planWp_read (v := ?_) rfl rfl ?_ ?_ ?_; rotate_left; (focus rfl); (focus (intro u hSw; (try dsimp only at hSw); go_simp; (try with_reducible rfl); done)); (try simp only [Act.put, List.setIfInBounds_toArray, List.set_cons_zero, List.set_cons_succ])))
  refine planWp_do rfl rfl ?_ (fun K hK => ?_)
  · rfl
  go_simp
  go_wp2_with (go_at_call 21; refine (lay.awake_any _).mono ?_; rintro e wz ⟨rfl, hz⟩; have HZ := Lib.hid hz; clear hz)
  refine hK.out _ _ (KEEP.out _ (HCX.out.trans HZ.out)) (fun _ => ?_)
  clear hK K KEEP
  (try simp only [Act.put, List.setIfInBounds_toArray, List.set_cons_zero, List.set_cons_succ])
  (repeat (refine planWp_read (v := ?_) rfl rfl ?_ ?_ ?_; rotate_left; (focus rfl); (focus (intro u hSw; (try dsimp only at hSw); go_simp; (try with_reducible rfl); done)); (try simp only [Act.put, List.setIfInBounds_toArray, List.set_cons_zero, List.set_cons_succ])))
  refine planWp_nil ?_
  go_wp2_with fail
  go_ret
  exact ⟨rfl, (HCA.out.trans (HC6.out.trans (HCX.out.trans HZ.out))).below⟩
theorem own : ownKnob Try.prog.godebug = none := by kernel_rfl
theorem laidOut : laidOutB Try.prog = true := by kernel_rfl

/-- The walk: the law returns true, and nothing that was there has turned. -/
theorem walk (w : World) (cs0 : Array Value) (hs0 : cs0.size = Try.prog.cellsOf 49) (o0 : kit.Opens Try.prog w 9 49 cs0.toList) :
    Calls Try.prog 7 #[.agg cs0] w fun e w' => e = .returned (.bool true) ∧ Below w.heap.size w w' := by
  obtain ⟨a, c, tds, a2, c2, ds, hcs, hT, hO, hW⟩ := system_deep (n := 1) o0
  have hcs2 : cs0 = #[.slice a tds.length c, .slice a2 ds.length c2] := by apply Array.toList_inj.1; rw [hcs]
  subst hcs2
  have hT1 := hT.1
  obtain ⟨ts, hts⟩ : ∃ ts, tds.map DT.t = ts := ⟨_, rfl⟩
  have htl : tds.length = ts.length := by rw [← hts, List.length_map]
  rw [hts, htl] at hT1
  rw [htl]
  cases hf : fewS ts (ds.map DO.o) 60
  · exact many a c a2 c2 ts ds w hT1 hO hf
  · have hfa := few_all hf
    have hw : ∀ d ∈ ds, d.o.W := fun d hd => hW d hd (hfa.2 d.o (List.mem_map.2 ⟨d, hd, rfl⟩))
    have hl : ts.length ≤ 1000 ∧ ds.length ≤ 1000 := by rw [List.length_map] at hfa; omega
    by_cases hc : ofCode ts (ds.map DO.o) = 0
    · exact good a c a2 c2 ts ds w hT1 hO hf hw hl hc
    · exact bad a c a2 c2 ts ds w hT1 hO hf hw hl hc

set_option maxRecDepth 100000 in
theorem lifted (os : Os) (started : os.Started) (H : Type) (enc : TypeId × Value → H) :
    ReturnsInHanded {} Try.checked os 7 .any (Rows.layoutLaysSpec.pre6 enc Try.prog Try.f7 Rows.layoutLaysRow.domain false) (Rows.layoutLaysSpec.post enc Try.prog Try.f7 false true false false) := by
  refine returnsInHanded_of_change (C := Try.checked) own started (by kernel_rfl) Try.func7
    (ChangeSpec.witness6 (enc := enc) (C := Try.checked) false ⟨#[], #[.agg #[.slice none 0 0, .slice none 0 0]], []⟩ 8 (by kernel_rfl) (by kernel_rfl) (by kernel_rfl) (by kernel_rfl)) ?_
  intro W base args ds gs before hval0 hW hcnd _
  have hval : ∀ (j : Nat) t v, Try.f7.params[j]? = some t → args[j]? = some v → Value.okWide Try.prog W .any base t v := hval0
  have hW' := hW
  obtain ⟨p, q, hA0, hV, rfl, hfz, hnd⟩ := hW
  have hA : DataW.TrodAll enc Try.prog W 0 (fun _ => true) true Try.f7.params.toList args.toList ds p := hA0
  rw [Try.params7] at hA hval
  obtain ⟨v0, vs0, d0, ds0, p0, q0, hargs, rfl, rfl, h0, r0⟩ := trodAll_cons hA
  obtain ⟨rfl, rfl, rfl⟩ := trodAll_nil r0
  obtain rfl : args = #[v0] := by cases args; simp_all
  obtain ⟨rfl, rfl⟩ := trodVars_none hV
  have k0 := h0
  have lt0 : ∀ x ∈ p0, x.block < W.heap.size := by obtain ⟨m, hm⟩ := k0; exact DataW.trod_lt m _ _ _ hm
  obtain ⟨cs0, rfl, hs0⟩ := okWide_struct Try.underlying49 (hval 0 49 v0 rfl rfl)
  have o0 : kit.Opens Try.prog W 9 49 cs0.toList := by simpa [Value.cells] using kit.Trod_opens 9 k0
  clear hA0 hval0
  refine (walk W cs0 hs0 o0).mono fun e W' ⟨he, bel⟩ => ?_
  subst he
  exact ⟨_, rfl, _, _, _, [], _, [], hW', trodAll_mk1 (shut_bool Try.underlying4 _), (trodAll_cons_mk (Below.trod laidOut (by kernel_rfl) (of_decide_eq_true (by kernel_rfl)) k0 bel lt0) trodAll_mk0), rfl, bel.frame _, fun h => by cases h⟩

theorem over : Rows.layoutLaysRow.holds Try.pinned (OpenSpec.ofChange Rows.layoutLaysSpec) :=
  OpenClaim.holds_of_wide 7 Try.f7 rfl rfl rfl rfl rfl rfl rfl ⟨rfl, rfl, rfl, rfl, rfl⟩ rfl rfl rfl rfl rfl (by kernel_rfl) Try.func7 (by kernel_rfl)
    (of_decide_eq_true (by kernel_rfl)) (by unfold Func.isWrapper; first | (rw [if_pos (by decide +kernel)]; kernel_rfl) | (rw [if_neg (by decide +kernel)]; exact ⟨rfl, rfl⟩))
    (fun os started H enc _ => lifted os started H enc)

/-- The statement. -/
theorem proved : Rows.LayoutLaysSaid := over
end Go.Proofs.Ytjplamoofkcojaa.layoutLays
