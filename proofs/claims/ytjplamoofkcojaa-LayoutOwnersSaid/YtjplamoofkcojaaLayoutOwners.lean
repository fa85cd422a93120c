/-
  coxswainlaw31.LayoutOwners returns true for every s and at: each word of any system has just one owner, in whose region it lies; no other word has one. No conditions.
-/
import Derived.Test.YtjplamoofkcojaaRows
import Derived.WalkKit
import Derived.ProofKit
import Derived.OpenShut
import Derived.ShutString
import Derived.ChangeOld
import Derived.Below
import Derived.Test.YtjplamoofkcojaaOpen
import Derived.Test.YtjplamoofkcojaaLay2
import Derived.Test.YtjplamoofkcojaaLay8
import Derived.Test.YtjplamoofkcojaaLay9
namespace Go.Proofs.Ytjplamoofkcojaa.layoutOwners
open Go.ChangeShapes Go.WideShapes Go.ChangeAt Go.RowKit
open Go.ChangeMaps (open_string shut_string)
set_option linter.unusedVariables false
open Go.Proofs.Ytjplamoofkcojaa.kit Go.Proofs.Ytjplamoofkcojaa.obj Go.Proofs.Ytjplamoofkcojaa.mem Go.Proofs.Ytjplamoofkcojaa.lay Go.Proofs.Ytjplamoofkcojaa.core
set_option linter.unusedSimpArgs false
set_option linter.unusedVariables false
set_option maxRecDepth 100000
theorem lens_pos {ts : List Tk} {os : List Ob} (h : lensOk ts os = true) : ∀ z ∈ lensL ts os, 1 ≤ z := by
  unfold lensOk at h
  simp only [Bool.and_eq_true, List.all_eq_true] at h
  intro z hz
  unfold lensL at hz
  rcases List.mem_append.1 hz with hz | hz
  · obtain ⟨t, ht, rfl⟩ := List.mem_map.1 hz
    have h1 := h.1 t ht
    simp only [Tk.good, decide_eq_true_eq] at h1
    omega
  · obtain ⟨o, ho, rfl⟩ := List.mem_map.1 hz
    have h1 := o.size_bd
    have h2 := h.2 o ho
    simp at h2
    omega
set_option maxHeartbeats 2000000 in
theorem many (ta : Option Addr) (tc : Nat) (oa : Option Addr) (oc : Nat) (ts : List Tk) (os : List Ob) (at_ : Int) (W : World) (hT : ReadsT W (.slice ta ts.length tc) ts) (hO : ReadsO W (.slice oa os.length oc) os) (hf : fewS ts os 60 = false) :
    Calls Try.prog 5 #[.agg #[.slice ta ts.length tc, .slice oa os.length oc], .int .i64 at_] W fun e W' => e = .returned (.bool true) ∧ Below W.heap.size W W' := by
  have HCA : Hid (Chg [] W (W.alloc (.cells #[.slice ta ts.length tc, .slice oa os.length oc] 49))) := Lib.hid ((Chg.refl _ _).alloc _)
  have HBX : Hid (Blk (W.alloc (.cells #[.slice ta ts.length tc, .slice oa os.length oc] 49)) W.heap.size #[.slice ta ts.length tc, .slice oa os.length oc] 49) := Lib.hid (Blk.new W _ _)
  have HFW := Lib.hid (fewS_any ta tc oa oc ts os 60 ⟨by decide, by decide⟩ (W.alloc (.cells #[.slice ta ts.length tc, .slice oa os.length oc] 49)) (hT.chg HCA.out) (hO.chg HCA.out))
  rw [hf] at HFW
  clear hT hO hf
  go_enter Try.func5, Try.ntmps5
  go_wp2_with (first | (go_at_call 21; refine (lay.awake_any _).mono ?_; rintro e wz ⟨rfl, hz⟩; have HZ := Lib.hid hz; clear hz) | (go_at_call 20; refine HFW.out.mono ?_; rintro e w1 ⟨rfl, hc⟩; have HC1 := Lib.hid (HCA.out.trans hc); have e0 : w1.cell? ⟨W.heap.size, 0, none⟩ = some (.slice ta ts.length tc) := (HBX.out.keep hc (by simp)).cell rfl; have e1 : w1.cell? ⟨W.heap.size, 1, none⟩ = some (.slice oa os.length oc) := (HBX.out.keep hc (by simp)).cell rfl; clear hc))
  go_ret
  exact ⟨rfl, (HC1.out.trans HZ.out).below⟩
set_option maxHeartbeats 2000000 in
theorem none_ (c : Int) (hc0 : c = 1 ∨ c = 6) (ta : Option Addr) (tc : Nat) (oa : Option Addr) (oc : Nat) (ts : List Tk) (os : List Ob) (at_ : Int) (W : World) (hT : ReadsT W (.slice ta ts.length tc) ts) (hO : ReadsO W (.slice oa os.length oc) os) (hf : fewS ts os 60 = true) (hbad : ∀ V, Chg [] W V → Calls Try.prog 22 #[.agg #[.slice ta ts.length tc, .slice oa os.length oc]] V fun e W' => e = .returned (.tuple #[.agg #[.slice none 0 0, .slice none 0 0, .int .i64 0], .int .i64 c]) ∧ Chg [] V W') :
    Calls Try.prog 5 #[.agg #[.slice ta ts.length tc, .slice oa os.length oc], .int .i64 at_] W fun e W' => e = .returned (.bool true) ∧ Below W.heap.size W W' := by
  have HCA : Hid (Chg [] W (W.alloc (.cells #[.slice ta ts.length tc, .slice oa os.length oc] 49))) := Lib.hid ((Chg.refl _ _).alloc _)
  have HBX : Hid (Blk (W.alloc (.cells #[.slice ta ts.length tc, .slice oa os.length oc] 49)) W.heap.size #[.slice ta ts.length tc, .slice oa os.length oc] 49) := Lib.hid (Blk.new W _ _)
  have HFW := Lib.hid (fewS_any ta tc oa oc ts os 60 ⟨by decide, by decide⟩ (W.alloc (.cells #[.slice ta ts.length tc, .slice oa os.length oc] 49)) (hT.chg HCA.out) (hO.chg HCA.out))
  have HOF := Lib.hid hbad
  have HSM := Lib.hid (fun V => Same_ok none 0 none 0 none 0 none 0 0 [] [] V (Reads.nil _ _) (Reads.nil _ _) (Reads.nil _ _) (Reads.nil _ _) ⟨by decide, by decide⟩)
  rw [hf] at HFW
  clear hT hO hf hbad
  have hne : (c == 0) = false := by rcases hc0 with rfl | rfl <;> rfl
  have hne2 : ¬ c = 0 := by rcases hc0 with rfl | rfl <;> decide
  clear hc0
  go_enter Try.func5, Try.ntmps5
  go_wp2_with (first | (go_at_call 21; refine (lay.awake_any _).mono ?_; rintro e wz ⟨rfl, hz⟩; have HZ := Lib.hid hz; clear hz) | (go_at_call 20; refine HFW.out.mono ?_; rintro e w1 ⟨rfl, hc⟩; have HC1 := Lib.hid (HCA.out.trans hc); have e0 : w1.cell? ⟨W.heap.size, 0, none⟩ = some (.slice ta ts.length tc) := (HBX.out.keep hc (by simp)).cell rfl; have e1 : w1.cell? ⟨W.heap.size, 1, none⟩ = some (.slice oa os.length oc) := (HBX.out.keep hc (by simp)).cell rfl; clear hc) | (go_at_call 22; refine (HOF.out _ HC1.out).mono ?_; rintro e w2 ⟨rfl, hc⟩; have HC2 := Lib.hid (HC1.out.trans hc); clear hc) | (go_at_call 23; refine (HSM.out _).mono ?_; rintro e w3 ⟨rfl, hc⟩; have HC3 := Lib.hid ((HC2.out.alloc _).trans hc); clear hc))
  go_ret
  exact ⟨rfl, (HC3.out.trans HZ.out).below⟩
def Met (zs : List Int) (at_ : Int) (j : Nat) (met who : Int) : Prop :=
  (met = 1 ∧ ∃ w : Nat, w < j ∧ who = w ∧ sumI (zs.take w) ≤ at_ ∧ at_ < sumI (zs.take (w + 1))) ∨ (met = 0 ∧ who = 0 ∧ ¬ (0 ≤ at_ ∧ at_ < sumI (zs.take j)))
def pos (zs : List Int) : Prop := ∀ z ∈ zs, 1 ≤ z
theorem sumI_mono {zs : List Int} (h : nonneg zs) (i j : Nat) (hij : i ≤ j) : sumI (zs.take i) ≤ sumI (zs.take j) := by
  have h1 := sumI_le (zs := zs.take j) (fun z hz => h z (List.mem_of_mem_take hz)) i
  rwa [List.take_take, Nat.min_eq_left hij] at h1
theorem Met.step {zs : List Int} {at_ : Int} {j : Nat} {met who x : Int} (hn : nonneg zs) (hx : zs[j]? = some x) (h : Met zs at_ j met who) :
    (sumI (zs.take j) ≤ at_ ∧ at_ < sumI (zs.take j) + x → met = 0 ∧ Met zs at_ (j + 1) (met + 1) j) ∧ (¬ (sumI (zs.take j) ≤ at_ ∧ at_ < sumI (zs.take j) + x) → Met zs at_ (j + 1) met who) := by
  have hs := sumI_take hx
  refine ⟨fun hin => ?_, fun hout => ?_⟩
  · rcases h with ⟨rfl, w, hw, rfl, h1, h2⟩ | ⟨rfl, rfl, h0⟩
    · have := sumI_mono hn (w + 1) j hw
      omega
    · refine ⟨rfl, .inl ⟨rfl, j, Nat.lt_succ_self _, rfl, hin.1, by rw [hs]; exact hin.2⟩⟩
  · rcases h with ⟨rfl, w, hw, rfl, h1, h2⟩ | ⟨rfl, rfl, h0⟩
    · exact .inl ⟨rfl, w, by omega, rfl, h1, h2⟩
    · refine .inr ⟨rfl, rfl, ?_⟩
      rw [hs]
      omega
theorem cutL_get {zs : List Int} {i : Nat} {q : Int × Int} (h : (cutL 0 zs)[i]? = some q) : ∃ x, zs[i]? = some x ∧ q = (sumI (zs.take i), x) := by
  have hi := (List.getElem?_eq_some_iff.1 h).1
  rw [cutL_length] at hi
  obtain ⟨x, hx⟩ : ∃ x, zs[i]? = some x := ⟨_, List.getElem?_eq_getElem hi⟩
  refine ⟨x, hx, ?_⟩
  have h1 : (cutL 0 (zs.take (i + 1)))[i]? = (cutL 0 zs)[i]? := by
    have h2 : cutL 0 zs = cutL 0 (zs.take (i + 1)) ++ cutL (0 + sumI (zs.take (i + 1))) (zs.drop (i + 1)) := by rw [← cutL_append, List.take_append_drop]
    rw [h2, List.getElem?_append_left (by rw [cutL_length, List.length_take]; omega)]
  rw [cutL_take hx, List.getElem?_append_right (by rw [cutL_length, List.length_take]; omega), cutL_length, List.length_take, Nat.min_eq_left (by omega), Nat.sub_self] at h1
  rw [h] at h1
  simpa using h1.symm
theorem has_iff {zs : List Int} {at_ : Int} {i : Nat} {q : Int × Int} (h : (cutL 0 zs)[i]? = some q) : hasB at_ q = decide (sumI (zs.take i) ≤ at_ ∧ at_ < sumI (zs.take (i + 1))) := by
  obtain ⟨x, hx, rfl⟩ := cutL_get h
  rw [sumI_take hx]
  unfold hasB
  rw [decide_eq_decide]
  dsimp only
  omega
theorem own_met {zs : List Int} {at_ : Int} (hn : nonneg zs) (n : Nat) (hnl : n ≤ zs.length) {w : Nat} (hw : w < zs.length) (h1 : sumI (zs.take w) ≤ at_) (h2 : at_ < sumI (zs.take (w + 1))) :
    ownerI at_ ((cutL 0 zs).take n) ((cutL 0 zs).drop n) = if w < n then ((w : Int), -1) else (-1, (w : Int) - n) := by
  have h0 : 0 ≤ at_ := by have := sumI_nn (zs := zs.take w) (fun z hz => hn z (List.mem_of_mem_take hz)); omega
  have hlen := cutL_length 0 zs
  obtain ⟨q, hq⟩ : ∃ q, (cutL 0 zs)[w]? = some q := ⟨_, List.getElem?_eq_getElem (by rw [hlen]; exact hw)⟩
  have hqh : hasB at_ q = true := by rw [has_iff hq]; simp; omega
  have hoth : ∀ i, i < w → ∀ r, (cutL 0 zs)[i]? = some r → hasB at_ r = false := fun i hi r hr => by
    rw [has_iff hr]
    have := sumI_mono hn (i + 1) w hi
    simp; omega
  unfold ownerI
  rw [if_neg (by omega)]
  by_cases hwn : w < n
  · have e1 : firstI (hasB at_) ((cutL 0 zs).take n) = w := firstI_at (by rw [List.getElem?_take_of_lt hwn]; exact hq) hqh (fun i hi r hr => hoth i hi r (by rwa [List.getElem?_take_of_lt (by omega)] at hr))
    rw [e1, if_pos (by omega), if_pos hwn]
  · have e1 : firstI (hasB at_) ((cutL 0 zs).take n) = -1 := firstI_none (fun i r hr => by
      have hi : i < n := by have := (List.getElem?_eq_some_iff.1 hr).1; rw [List.length_take] at this; omega
      rw [List.getElem?_take_of_lt hi] at hr
      exact hoth i (by omega) r hr)
    have e2 : firstI (hasB at_) ((cutL 0 zs).drop n) = ((w - n : Nat) : Int) := firstI_at (by rw [List.getElem?_drop, show n + (w - n) = w by omega]; exact hq) hqh (fun i hi r hr => by
      rw [List.getElem?_drop] at hr
      exact hoth (n + i) (by omega) r hr)
    rw [e1, e2, if_neg (by decide), if_neg hwn]
    congr 1
    omega
theorem own_none {zs : List Int} {at_ : Int} (hn : nonneg zs) (n : Nat) (h : ¬ (0 ≤ at_ ∧ at_ < sumI zs)) : ownerI at_ ((cutL 0 zs).take n) ((cutL 0 zs).drop n) = (-1, -1) := by
  have hall : ∀ (i : Nat) r, (cutL 0 zs)[i]? = some r → 0 ≤ at_ → hasB at_ r = false := fun i r hr h0 => by
    rw [has_iff hr]
    have := sumI_le hn (i + 1)
    simp; omega
  unfold ownerI
  by_cases h0 : at_ < 0
  · rw [if_pos h0]
  · rw [if_neg h0]
    have e1 : firstI (hasB at_) ((cutL 0 zs).take n) = -1 := firstI_none (fun i r hr => by
      have hi : i < n := by have := (List.getElem?_eq_some_iff.1 hr).1; rw [List.length_take] at this; omega
      rw [List.getElem?_take_of_lt hi] at hr
      exact hall i r hr (by omega))
    have e2 : firstI (hasB at_) ((cutL 0 zs).drop n) = -1 := firstI_none (fun i r hr => by
      rw [List.getElem?_drop] at hr
      exact hall _ r hr (by omega))
    rw [e1, e2, if_neg (by decide)]
theorem reg_nn {zs : List Int} (hn : nonneg zs) {r : Int × Int} (h : r ∈ cutL 0 zs) : 0 ≤ r.1 := by
  obtain ⟨i, hi⟩ := List.getElem?_of_mem h
  obtain ⟨x, hx, rfl⟩ := cutL_get hi
  exact sumI_nn (fun z hz => hn z (List.mem_of_mem_take hz))
theorem reg_bd {zs : List Int} (hn : nonneg zs) (hs : sumI zs ≤ 4096) {r : Int × Int} (h : r ∈ cutL 0 zs) : i64B r.1 ∧ i64B r.2 := by
  have h0 := reg_nn hn h
  obtain ⟨i, hi⟩ := List.getElem?_of_mem h
  obtain ⟨x, hx, rfl⟩ := cutL_get hi
  have h1 := sumI_le hn i
  have h2 := hn x (List.mem_of_getElem? hx)
  unfold i64B
  dsimp only at h0 ⊢
  omega
set_option maxHeartbeats 8000000 in
theorem good (ta : Option Addr) (tc : Nat) (oa : Option Addr) (oc : Nat) (ts : List Tk) (os : List Ob) (at_ : Int) (W : World) (hT : ReadsT W (.slice ta ts.length tc) ts) (hO : ReadsO W (.slice oa os.length oc) os) (hf : fewS ts os 60 = true) (hw : ∀ o ∈ os, o.W) (hk : lensOk ts os = true) (hs : sumI (lensL ts os) ≤ 4096) (hat : -9223372036854775808 ≤ at_ ∧ at_ ≤ 9223372036854775807) :
    Calls Try.prog 5 #[.agg #[.slice ta ts.length tc, .slice oa os.length oc], .int .i64 at_] W fun e W' => e = .returned (.bool true) ∧ Below W.heap.size W W' := by
  have HCA : Hid (Chg [] W (W.alloc (.cells #[.slice ta ts.length tc, .slice oa os.length oc] 49))) := Lib.hid ((Chg.refl _ _).alloc _)
  have HBX : Hid (Blk (W.alloc (.cells #[.slice ta ts.length tc, .slice oa os.length oc] 49)) W.heap.size #[.slice ta ts.length tc, .slice oa os.length oc] 49) := Lib.hid (Blk.new W _ _)
  have HFW := Lib.hid (fewS_any ta tc oa oc ts os 60 ⟨by decide, by decide⟩ (W.alloc (.cells #[.slice ta ts.length tc, .slice oa os.length oc] 49)) (hT.chg HCA.out) (hO.chg HCA.out))
  have hfl : ts.length ≤ 60 ∧ os.length ≤ 60 := by
    unfold fewS fewT at hf
    simp only [Bool.and_eq_true, decide_eq_true_eq] at hf
    omega
  have hpos : ∀ z ∈ lensL ts os, 1 ≤ z := lens_pos hk
  have HOF := Lib.hid (fun V (h : Chg [] W V) => Of_ok ta ts.length tc oa os.length oc ts os V (hT.chg h) (hO.chg h) hw (by omega) hk hs)
  have hnn := lens_nonneg hk
  have hln := lensL_length ts os
  obtain ⟨zs, hzs⟩ : ∃ zs, lensL ts os = zs := ⟨_, rfl⟩
  rw [hzs] at HOF hpos hnn hln hs
  have HPZ := Lib.hid hpos
  have HZN := Lib.hid hnn
  have HLN : Hid (zs.length = ts.length + os.length ∧ ts.length ≤ 60 ∧ os.length ≤ 60) := Lib.hid ⟨hln, hfl⟩
  have HS := Lib.hid hs
  have HAT := Lib.hid hat
  rw [hf] at HFW
  obtain ⟨i0, hi, hz0, hz1, hz2⟩ := info_parts infoReg
  have HI0 : Hid (Try.prog.info? 58 = some i0 ∧ i0.zero = some (.agg #[.int .i64 0, .int .i64 0]) ∧ i0.size = 2 ∧ i0.bytes = 16) := Lib.hid ⟨hi, hz0, hz1, hz2⟩
  obtain ⟨S, hS⟩ : ∃ S, sumI zs = S := ⟨_, rfl⟩
  have HSS := Lib.hid hS
  rw [hS] at HOF
  clear hT hO hf hw hk hs hpos hnn hln hfl hzs hi hz0 hz1 hz2 hS
  go_enter Try.func5, Try.ntmps5
  go_upto_region 6 with (first | (go_at_call 20; refine HFW.out.mono ?_; rintro e w1 ⟨rfl, hc⟩; have HC1 := Lib.hid (HCA.out.trans hc); have e0 : w1.cell? ⟨W.heap.size, 0, none⟩ = some (.slice ta ts.length tc) := (HBX.out.keep hc (by simp)).cell rfl; have e1 : w1.cell? ⟨W.heap.size, 1, none⟩ = some (.slice oa os.length oc) := (HBX.out.keep hc (by simp)).cell rfl; clear hc) | (go_at_call 22; refine (HOF.out _ HC1.out).mono ?_; rintro e w2 ⟨v1, v2, rfl, ho1, ho2, hc⟩; (obtain ⟨xa1, xc1, rfl⟩ : ∃ a c, v1 = .slice a ts.length c := (by obtain ⟨a, c, h, -⟩ := reads_slice (Reads.of_own ho1 (by decide)); exact ⟨a, c, by rw [h, List.length_take, cutL_length, Nat.min_eq_left (by have := HLN.out; omega)]⟩)); (obtain ⟨xa2, xc2, rfl⟩ : ∃ a c, v2 = .slice a os.length c := (by obtain ⟨a, c, h, -⟩ := reads_slice (Reads.of_own ho2 (by decide)); exact ⟨a, c, by rw [h, List.length_drop, cutL_length, show zs.length - ts.length = os.length by have := HLN.out; omega]⟩)); have HO1 := Lib.hid ho1; have HO2 := Lib.hid ho2; have HC2 := Lib.hid (HC1.out.trans hc); clear hc ho1 ho2))
  have HCB : Hid (Blk (w2.alloc (.cells #[.slice xa1 ts.length xc1, .slice xa2 os.length xc2, .int .i64 S] 53)) w2.heap.size #[.slice xa1 ts.length xc1, .slice xa2 os.length xc2, .int .i64 S] 53) := Lib.hid (Blk.new w2 _ _)
  have eS0 : (w2.alloc (.cells #[.slice xa1 ts.length xc1, .slice xa2 os.length xc2, .int .i64 S] 53)).cell? ⟨w2.heap.size, 0, none⟩ = some (.slice xa1 ts.length xc1) := HCB.out.cell rfl
  have eS1 : (w2.alloc (.cells #[.slice xa1 ts.length xc1, .slice xa2 os.length xc2, .int .i64 S] 53)).cell? ⟨w2.heap.size, 1, none⟩ = some (.slice xa2 os.length xc2) := HCB.out.cell rfl
  have KEEP := Lib.hid (fun (V : World) (h : Chg [] (w2.alloc (.cells #[.slice xa1 ts.length xc1, .slice xa2 os.length xc2, .int .i64 S] 53)) V) => (⟨h.keep eS0 (by simp), h.keep eS1 (by simp), Lib.hid h⟩ : (fun V : World => V.cell? ⟨w2.heap.size, 0, none⟩ = some (.slice xa1 ts.length xc1) ∧ V.cell? ⟨w2.heap.size, 1, none⟩ = some (.slice xa2 os.length xc2) ∧ Hid (Chg [] (w2.alloc (.cells #[.slice xa1 ts.length xc1, .slice xa2 os.length xc2, .int .i64 S] 53)) V)) V))
  have HR1 : Hid (Reads (w2.alloc (.cells #[.slice xa1 ts.length xc1, .slice xa2 os.length xc2, .int .i64 S] 53)) 2 (.slice xa1 ts.length xc1) ((cutL 0 zs).take ts.length).length (((cutL 0 zs).take ts.length).flatMap rcells)) := Lib.hid ((Reads.of_own HO1.out (by decide)).alloc _)
  have HR2 : Hid (Reads (w2.alloc (.cells #[.slice xa1 ts.length xc1, .slice xa2 os.length xc2, .int .i64 S] 53)) 2 (.slice xa2 os.length xc2) ((cutL 0 zs).drop ts.length).length (((cutL 0 zs).drop ts.length).flatMap rcells)) := Lib.hid ((Reads.of_own HO2.out (by decide)).alloc _)
  have HLL : Hid (((cutL 0 zs).take ts.length).length ≤ 200 ∧ ((cutL 0 zs).drop ts.length).length ≤ 200) := Lib.hid (by have := HLN.out; have := cutL_length 0 zs; rw [List.length_take, List.length_drop]; omega)
  clear eS0 eS1
  go_cut [7] from 33 to 39 (fun v wc => Hid (OwnR wc (w2.alloc (.cells #[.slice xa1 ts.length xc1, .slice xa2 os.length xc2, .int .i64 S] 53)).drew.heap.size v (cutL 0 zs)) ∧ Hid (Chg [] (w2.alloc (.cells #[.slice xa1 ts.length xc1, .slice xa2 os.length xc2, .int .i64 S] 53)) wc))
  case first =>
    have HD : Hid (Chg [] (w2.alloc (.cells #[.slice xa1 ts.length xc1, .slice xa2 os.length xc2, .int .i64 S] 53)) (w2.alloc (.cells #[.slice xa1 ts.length xc1, .slice xa2 os.length xc2, .int .i64 S] 53)).drew) := Lib.hid (Chg.refl _ _).drew
    have hHeld : (fun V : World => V.cell? ⟨w2.heap.size, 0, none⟩ = some (.slice xa1 ts.length xc1) ∧ V.cell? ⟨w2.heap.size, 1, none⟩ = some (.slice xa2 os.length xc2) ∧ Hid (Chg [] (w2.alloc (.cells #[.slice xa1 ts.length xc1, .slice xa2 os.length xc2, .int .i64 S] 53)) V)) (w2.alloc (.cells #[.slice xa1 ts.length xc1, .slice xa2 os.length xc2, .int .i64 S] 53)).drew := KEEP.out _ HD.out
    refine wp_region_plan (fun V : World => V.cell? ⟨w2.heap.size, 0, none⟩ = some (.slice xa1 ts.length xc1) ∧ V.cell? ⟨w2.heap.size, 1, none⟩ = some (.slice xa2 os.length xc2) ∧ Hid (Chg [] (w2.alloc (.cells #[.slice xa1 ts.length xc1, .slice xa2 os.length xc2, .int .i64 S] 53)) V)) [(1, true, some 34), (2, true, some 35), (4, true, some 37), (5, true, some 38), (0, false, some 33), (3, false, some 36), (6, false, some 39), (7, true, some 7)] (by kernel_rfl) (by kernel_rfl) (by kernel_rfl) (by kernel_rfl) (fun d c a v w h => by cases d <;> exact h) hHeld ?_
    clear hHeld
    (repeat (refine planWp_read (v := ?_) rfl rfl ?_ ?_ ?_; rotate_left; (focus rfl); (focus (intro u hSw; (try dsimp only at hSw); go_simp; (try with_reducible rfl); done)); (try simp only [Act.put, List.setIfInBounds_toArray, List.set_cons_zero, List.set_cons_succ])))
    refine planWp_do rfl rfl ?_ (fun K hK => ?_)
    · rfl
    go_simp
    have HC5 : Hid (Chg [] (w2.alloc (.cells #[.slice xa1 ts.length xc1, .slice xa2 os.length xc2, .int .i64 S] 53)) ((w2.alloc (.cells #[.slice xa1 ts.length xc1, .slice xa2 os.length xc2, .int .i64 S] 53)).drew.alloc (.cells #[] 58))) := Lib.hid (HD.out.alloc _)
    refine hK.out _ _ (KEEP.out _ HC5.out) (fun _ => ?_)
    clear hK K
    (try dsimp only); try simp only [Act.put, List.setIfInBounds_toArray, List.set_cons_zero, List.set_cons_succ]
    refine planWp_do rfl rfl ?_ (fun K hK => ?_)
    · rfl
    refine wp_append_any (o := ⟨some 36, _, _, _, _, _⟩) _ (.tmp 33) (.tmp 35) 51 rfl (w2.alloc (.cells #[.slice xa1 ts.length xc1, .slice xa2 os.length xc2, .int .i64 S] 53)).drew.heap.size 58 i0 (.agg #[.int .i64 0, .int .i64 0]) 2 16 Try.underlying51 HI0.out.1 HI0.out.2.1 HI0.out.2.2.1 HI0.out.2.2.2 rfl (by decide) (.slice (some ⟨w2.heap.size + 1, 0, none⟩) 0 0) 0 [] rfl (by rw [show w2.heap.size + 1 = (w2.alloc (.cells #[.slice xa1 ts.length xc1, .slice xa2 os.length xc2, .int .i64 S] 53)).drew.heap.size by simp]; exact World.ownsRow_lit (w2.alloc (.cells #[.slice xa1 ts.length xc1, .slice xa2 os.length xc2, .int .i64 S] 53)).drew #[] 0 (Nat.le_refl _) (Nat.zero_le _) rfl) (.slice xa1 ts.length xc1) _ _ rfl (Reads.fresh HR1.out HC5.out) (rcells_one _) (by have := HLL.out; unfold maxLen; omega) (by have := HLL.out; omega) (by simp) ?_
    intro v5 w5 ho5 hg5
    simp only [Nat.zero_add, List.nil_append] at ho5
    have HC6 : Hid (Chg [] (w2.alloc (.cells #[.slice xa1 ts.length xc1, .slice xa2 os.length xc2, .int .i64 S] 53)) w5) := Lib.hid (HC5.out.grown hg5 (by intro k hk; simp [Value.ownBlock] at hk; subst hk; right; simp))
    have HO5 := Lib.hid ho5
    clear ho5 hg5
    refine hK.out _ _ (KEEP.out _ HC6.out) (fun _ => ?_)
    clear hK K
    (try dsimp only); try simp only [Act.put, List.setIfInBounds_toArray, List.set_cons_zero, List.set_cons_succ]
    refine planWp_do rfl rfl ?_ (fun K hK => ?_)
    · rfl
    refine wp_append_any (o := ⟨some 39, _, _, _, _, _⟩) _ (.tmp 36) (.tmp 38) 51 rfl (w2.alloc (.cells #[.slice xa1 ts.length xc1, .slice xa2 os.length xc2, .int .i64 S] 53)).drew.heap.size 58 i0 (.agg #[.int .i64 0, .int .i64 0]) 2 16 Try.underlying51 HI0.out.1 HI0.out.2.1 HI0.out.2.2.1 HI0.out.2.2.2 rfl (by decide) v5 _ _ rfl HO5.out (.slice xa2 os.length xc2) _ _ rfl (Reads.fresh HR2.out HC6.out) (rcells_one _) (by have := HLL.out; unfold maxLen; omega) (by have := HLL.out; omega) HC6.out.size ?_
    intro v6 w6 ho6 hg6
    have HC7 : Hid (Chg [] (w2.alloc (.cells #[.slice xa1 ts.length xc1, .slice xa2 os.length xc2, .int .i64 S] 53)) w6) := Lib.hid (HC6.out.grown hg6 (by intro k hk; right; have := (World.ownsRow.lt HO5.out k hk).1; simpa using this))
    have HO6 : Hid (OwnR w6 (w2.alloc (.cells #[.slice xa1 ts.length xc1, .slice xa2 os.length xc2, .int .i64 S] 53)).drew.heap.size v6 (cutL 0 zs)) := Lib.hid (by rw [← List.flatMap_append, List.take_append_drop, ← List.length_append, List.take_append_drop] at ho6; exact ho6)
    clear ho6 hg6
    refine hK.out _ _ (KEEP.out _ HC7.out) (fun _ => ?_)
    clear hK K
    (try dsimp only); try simp only [Act.put, List.setIfInBounds_toArray, List.set_cons_zero, List.set_cons_succ]
    (repeat (refine planWp_read (v := ?_) rfl rfl ?_ ?_ ?_; rotate_left; (focus rfl); (focus (intro u hSw; (try dsimp only at hSw); go_simp; (try with_reducible rfl); done)); (try simp only [Act.put, List.setIfInBounds_toArray, List.set_cons_zero, List.set_cons_succ])))
    refine planWp_nil ?_
    go_wp2_with fail
    go_meet
    case rel => exact ⟨HO6, HC7⟩
  case rest =>
    obtain ⟨HOA, HCW⟩ := hcut
    obtain ⟨w6, rfl⟩ : ∃ w6 : World, w6 = wc := ⟨_, rfl⟩
    obtain ⟨ba, oa_, hxa, hca, -⟩ := reads_index (P := Try.prog) Try.underlying51 szReg (Reads.of_own HOA.out (by decide))
    obtain ⟨va, vc, hva, -⟩ := reads_slice (Reads.of_own HOA.out (by decide))
    have hcl := cutL_length 0 zs
    rw [hcl] at hva
    subst hva
    have HRA : Hid (Reads w6 2 (.slice va zs.length vc) zs.length ((cutL 0 zs).flatMap rcells)) := Lib.hid (by have := Reads.of_own HOA.out (by decide); rwa [hcl] at this)
    rw [hcl] at hxa
    have HXA := Lib.hid hxa
    have HEA := Lib.hid hca
    have hzl : (zs.length : Int) ≤ 200 := by have := HLN.out; omega
    clear hxa hca hcl HOA KEEP
    go_wp2_with fail
    go_loopw [8, 9, 42] (fun m8 w9 i wr => ∃ (j : Nat) (met who : Int), j ≤ zs.length ∧ i = .int .i64 j ∧ m8 = .int .i64 met ∧ w9 = .int .i64 who ∧ Hid (Met zs at_ j met who) ∧ Hid (Chg [] w6 wr)) (fun _ _ i _ => zs.length - (intOf i).toNat)
    case atStart => exact ⟨0, 0, 0, Nat.zero_le _, rfl, rfl, rfl, Lib.hid (.inr ⟨rfl, rfl, by rintro ⟨h1, h2⟩; rw [List.take_zero] at h2; have h3 : sumI [] = 0 := rfl; omega⟩), Lib.hid (Chg.refl _ _)⟩
    case round =>
      obtain ⟨j, met, who, hj, rfl, rfl, rfl, HM, HJ⟩ := hrel
      obtain ⟨wo, rfl⟩ : ∃ wo : World, wo = wr := ⟨_, rfl⟩
      by_cases hlt : j < zs.length
      · have HLT := Lib.hid hlt
        have g1 := HXA.out j hlt
        obtain ⟨x, hx⟩ : ∃ x, zs[j]? = some x := ⟨_, List.getElem?_eq_getElem hlt⟩
        have hcj : (cutL 0 zs)[j]? = some (sumI (zs.take j), x) := by
          obtain ⟨q, hq⟩ : ∃ q, (cutL 0 zs)[j]? = some q := ⟨_, List.getElem?_eq_getElem (by rw [cutL_length]; exact hlt)⟩
          obtain ⟨y, hy, rfl⟩ := cutL_get hq
          rw [hx] at hy; cases hy; exact hq
        have q0 := HJ.out.keep (HEA.out (j * 2 + 0) _ (by rw [flatMap_get rcells 2 (fun _ => rfl) (cutL 0 zs) j 0 (by decide) _ hcj]; rfl)) (by simp)
        have q1 := HJ.out.keep (HEA.out (j * 2 + 1) _ (by rw [flatMap_get rcells 2 (fun _ => rfl) (cutL 0 zs) j 1 (by decide) _ hcj]; rfl)) (by simp)
        rw [Nat.add_zero] at q0
        rw [← Nat.add_assoc] at q1
        have hst := Met.step HZN.out hx HM.out
        have HSB : Hid (0 ≤ sumI (zs.take j) ∧ sumI (zs.take j) + x ≤ 4096 ∧ 1 ≤ x) := Lib.hid (by
          have h1 := sumI_nn (fun z hz => HZN.out z (List.mem_of_mem_take hz) : nonneg (zs.take j))
          have h2 := sumI_le HZN.out (j + 1)
          rw [sumI_take hx] at h2
          have h3 := HS.out
          have h4 := HPZ.out x (List.mem_of_getElem? hx)
          omega)
        have HXJ := Lib.hid hx
        obtain ⟨sj, hsj⟩ : ∃ sj, sumI (zs.take j) = sj := ⟨_, rfl⟩
        rw [hsj] at q0 hst HSB
        have HSJ := Lib.hid hsj
        have hsb := HSB.out
        have hj1000 : (j : Int) < 200 := by omega
        have k8 : IntKind.i64.wrap ((j : Int) + 1) = (j : Int) + 1 := by rw [IntKind.wrap_i64]; omega
        have HMB : Hid (met = 0 ∨ met = 1) := Lib.hid (by rcases HM.out with h | h; exact .inr h.1; exact .inl h.1)
        have HATT := HAT.out
        obtain ⟨B, hB⟩ : ∃ B, decide (sj ≤ at_ ∧ at_ < sj + x) = B := ⟨_, rfl⟩
        obtain ⟨met2, who2, HM2, hways⟩ : ∃ met2 who2, Hid (Met zs at_ (j + 1) met2 who2) ∧ (B = true ∧ met2 = met + 1 ∧ who2 = (j : Int) ∨ B = false ∧ met2 = met ∧ who2 = who) := by
          cases B
          · exact ⟨_, _, Lib.hid (hst.2 (of_decide_eq_false hB)), .inr ⟨rfl, rfl, rfl⟩⟩
          · exact ⟨_, _, Lib.hid (hst.1 (of_decide_eq_true hB)).2, .inl ⟨rfl, rfl, rfl⟩⟩
        have HWY := Lib.hid hways
        have HBB := Lib.hid hB
        clear hx hsj hst hsb hj hlt hcj hways hB
        go_upto_region 11 with fail
        go_cut [59] from 43 to 59 (fun c wc => c = .bool B ∧ wc = wo.alloc (.cells #[.int .i64 sj, .int .i64 x] 58))
        case first =>
          have hsb := HSB.out
          have k7 : IntKind.i64.wrap (sj + x) = sj + x := by rw [IntKind.wrap_i64]; omega
          by_cases h1 : sj ≤ at_
          · by_cases h2 : at_ < sj + x
            · obtain rfl : true = B := by rw [← HBB.out]; simp [h1, h2]
              clear HWY
              go_wp2_with fail
              go_meet
              case rel => exact ⟨rfl, rfl⟩
            · obtain rfl : false = B := by rw [← HBB.out]; simp [h2]
              clear HWY
              go_wp2_with fail
              go_meet
              case rel => exact ⟨rfl, rfl⟩
          · obtain rfl : false = B := by rw [← HBB.out]; simp [h1]
            clear HWY
            go_wp2_with fail
            go_meet
            case rel => exact ⟨rfl, rfl⟩
        case rest =>
        obtain ⟨rfl, rfl⟩ := hcut
        go_upto_if 59 with fail
        go_cut [8, 9] from 43 to 62 (fun m8 w9 wc => m8 = .int .i64 met2 ∧ w9 = .int .i64 who2 ∧ wc = wo.alloc (.cells #[.int .i64 sj, .int .i64 x] 58))
        case first =>
          rcases HWY.out with ⟨rfl, rfl, rfl⟩ | ⟨rfl, rfl, rfl⟩
          · have hm1 := HMB.out
            have k6 : IntKind.i64.wrap (met + 1) = met + 1 := by rw [IntKind.wrap_i64]; omega
            have hm2 : 0 ≤ met ∧ met ≤ 1 := by omega
            clear HWY hm1
            go_wp2_with fail
            go_meet
            case rel => exact ⟨rfl, rfl, rfl⟩
          · clear HWY
            go_wp2_with fail
            go_meet
            case rel => exact ⟨rfl, rfl, rfl⟩
        case rest =>
          obtain ⟨rfl, rfl, rfl⟩ := hcut
          obtain ⟨vs, es, rs_, -⟩ := slice_high (P := Try.prog) Try.underlying51 szReg HRA.out j (by have := HLT.out; omega)
          rw [flatMap_take] at rs_
          obtain ⟨bs, ofs, hxs, hcs, -⟩ := reads_index (P := Try.prog) Try.underlying51 szReg rs_
          obtain ⟨sa, sc, rfl, -⟩ := reads_slice rs_
          have HXS := Lib.hid hxs
          have HES := Lib.hid hcs
          have HJA : Hid (Chg [] w6 (wo.alloc (.cells #[.int .i64 sj, .int .i64 x] 58))) := Lib.hid (HJ.out.alloc _)
          have HBR : Hid (Blk (wo.alloc (.cells #[.int .i64 sj, .int .i64 x] 58)) wo.heap.size #[.int .i64 sj, .int .i64 x] 58) := Lib.hid (Blk.new _ _ _)
          have hjz : (j : Int) < (zs.length : Int) := by have := HLT.out; omega
          clear hxs hcs rs_ q0 q1 g1
          go_wp2_with fail
          go_loopw [67] (fun i wr => ∃ m : Nat, m ≤ j ∧ i = .int .i64 m ∧ Hid (Blk wr wo.heap.size #[.int .i64 sj, .int .i64 x] 58) ∧ Hid (Chg [] w6 wr)) (fun i _ => j - (intOf i).toNat)
          case atStart => exact ⟨0, Nat.zero_le _, rfl, HBR, HJA⟩
          case round =>
            clear HBR HJA
            obtain ⟨m, hm, rfl, HBR, HJA⟩ := hrel
            by_cases hmj : m < j
            · have HMJ := Lib.hid hmj
              have g1 := HXS.out m hmj
              obtain ⟨y, hy⟩ : ∃ y, zs[m]? = some y := ⟨_, List.getElem?_eq_getElem (by have := HLT.out; omega)⟩
              have hcm : ((cutL 0 zs).take j)[m]? = some (sumI (zs.take m), y) := by
                rw [List.getElem?_take_of_lt hmj]
                obtain ⟨q, hq⟩ : ∃ q, (cutL 0 zs)[m]? = some q := ⟨_, List.getElem?_eq_getElem (by rw [cutL_length]; have := HLT.out; omega)⟩
                obtain ⟨y', hy', rfl⟩ := cutL_get hq
                rw [hy] at hy'; cases hy'; exact hq
              have q0 := HJA.out.keep (HES.out (m * 2 + 0) _ (by rw [flatMap_get rcells 2 (fun _ => rfl) _ m 0 (by decide) _ hcm]; rfl)) (by simp)
              have q1 := HJA.out.keep (HES.out (m * 2 + 1) _ (by rw [flatMap_get rcells 2 (fun _ => rfl) _ m 1 (by decide) _ hcm]; rfl)) (by simp)
              rw [Nat.add_zero] at q0
              rw [← Nat.add_assoc] at q1
              have HAP := Lib.hid (fun V => Apart_ok (sumI (zs.take m), y) (sj, x) V (by
                have h1 := sumI_nn (fun z hz => HZN.out z (List.mem_of_mem_take hz) : nonneg (zs.take m))
                have h2 := HPZ.out y (List.mem_of_getElem? hy)
                have h3 := sumI_mono HZN.out (m + 1) j hmj
                rw [sumI_take hy, HSJ.out] at h3
                have h4 := HSB.out
                dsimp only
                omega))
              obtain ⟨sm, hsm⟩ : ∃ sm, sumI (zs.take m) = sm := ⟨_, rfl⟩
              rw [hsm] at q0 HAP
              have hm1000 : (m : Int) < 200 := by have := HLT.out; omega
              have k8 : IntKind.i64.wrap ((m : Int) + 1) = (m : Int) + 1 := by rw [IntKind.wrap_i64]; omega
              have HBA : Hid (Blk (wr.alloc (.cells #[.int .i64 sm, .int .i64 y] 58)) wo.heap.size #[.int .i64 sj, .int .i64 x] 58) := Lib.hid (HBR.out.alloc _)
              have e0 := HBA.out.cell (o := 0) rfl
              have e1 := HBA.out.cell (o := 1) rfl
              clear hy hcm hsm hm hmj
              go_wp2_with (go_at_call 24; refine (HAP.out _).mono ?_; rintro e w8 ⟨rfl, hc⟩; have HC8 := Lib.hid hc; clear hc)
              have hmjj := HMJ.out
              go_roundw
              case rel => exact ⟨m + 1, by omega, by go_num, Lib.hid (HBA.out.keep HC8.out (by simp)), Lib.hid ((HJA.out.alloc _).trans HC8.out)⟩
              case measure => simp [intOf]; omega
            · obtain rfl : j = m := by omega
              have hltj := HLT.out
              clear hmj hm
              have k8 : IntKind.i64.wrap ((j : Int) + 1) = (j : Int) + 1 := by rw [IntKind.wrap_i64]; omega
              go_wp2_with fail
              go_roundw
              case rel => exact ⟨j + 1, met2, who2, by omega, by go_num, rfl, rfl, HM2, HJA⟩
              case measure => simp [intOf]; omega
      · obtain rfl : zs.length = j := by omega
        clear hlt hj
        have HCZ : Hid (Chg [] W wo) := Lib.hid ((HC2.out.alloc _).trans (HCW.out.trans HJ.out))
        have HBL : Hid (Blk wo w2.heap.size #[.slice xa1 ts.length xc1, .slice xa2 os.length xc2, .int .i64 S] 53) := Lib.hid ((Blk.new w2 _ _).keep (HCW.out.trans HJ.out) (by simp))
        have HRR1 : Hid (ReadsR wo (.slice xa1 ts.length xc1) ((cutL 0 zs).take ts.length)) := Lib.hid ⟨Reads.fresh HR1.out (HCW.out.trans HJ.out), fun r hr => reg_bd HZN.out HS.out (List.mem_of_mem_take hr)⟩
        have HRR2 : Hid (ReadsR wo (.slice xa2 os.length xc2) ((cutL 0 zs).drop ts.length)) := Lib.hid ⟨Reads.fresh HR2.out (HCW.out.trans HJ.out), fun r hr => reg_bd HZN.out HS.out (List.mem_of_mem_drop hr)⟩
        have how := Owner_any xa1 ts.length xc1 xa2 os.length xc2 S ((cutL 0 zs).take ts.length) ((cutL 0 zs).drop ts.length) at_ wo HRR1.out HRR2.out (by have := HLL.out; omega) (by have := HLL.out; omega) HAT.out.2 (fun r hr => reg_nn HZN.out (List.mem_of_mem_take hr)) (fun r hr => reg_nn HZN.out (List.mem_of_mem_drop hr))
        have e0 := HBL.out.cell (o := 0) rfl
        have e1 := HBL.out.cell (o := 1) rfl
        have e2 := HBL.out.cell (o := 2) rfl
        rcases HM.out with ⟨rfl, w, hw, rfl, h1, h2⟩ | ⟨rfl, rfl, h0⟩
        · have hms := sumI_le HZN.out (w + 1)
          have hmn := sumI_nn (fun z hz => HZN.out z (List.mem_of_mem_take hz) : nonneg (zs.take w))
          rw [HSS.out] at hms
          have ha1 : 0 ≤ at_ := by omega
          have ha2 : at_ < S := by omega
          rw [own_met HZN.out ts.length (by have := HLN.out; omega) hw h1 h2] at how
          by_cases hwn : w < ts.length
          · rw [if_pos hwn] at how
            have HOW := Lib.hid how
            have hwi : (w : Int) < (ts.length : Int) := by omega
            clear how h1 h2 hms hmn hw hwn HM
            go_wp2_with (first | (go_at_call 21; refine (lay.awake_any _).mono ?_; rintro e wz ⟨rfl, hz⟩; have HZ := Lib.hid hz; clear hz) | (go_at_call 25; refine HOW.out.mono ?_; rintro e w9 ⟨rfl, hc⟩; have HC9 := Lib.hid (HCZ.out.trans hc); have f0 := (HBL.out.keep hc (by simp)).cell (o := 0) rfl; have f2 := (HBL.out.keep hc (by simp)).cell (o := 2) rfl; clear hc))
            go_ret
            exact ⟨rfl, (HC9.out.trans HZ.out).below⟩
          · rw [if_neg hwn] at how
            have HOW := Lib.hid how
            have hwi : ¬ (w : Int) < (ts.length : Int) := by omega
            have hwz : (w : Int) < 200 := by have := HLN.out; omega
            have htz : (ts.length : Int) ≤ 60 := by have := HLN.out; omega
            have k9 : IntKind.i64.wrap ((w : Int) - (ts.length : Int)) = (w : Int) - (ts.length : Int) := by rw [IntKind.wrap_i64]; omega
            clear how h1 h2 hms hmn hw hwn HM
            go_wp2_with (first | (go_at_call 21; refine (lay.awake_any _).mono ?_; rintro e wz ⟨rfl, hz⟩; have HZ := Lib.hid hz; clear hz) | (go_at_call 25; refine HOW.out.mono ?_; rintro e w9 ⟨rfl, hc⟩; have HC9 := Lib.hid (HCZ.out.trans hc); have f0 := (HBL.out.keep hc (by simp)).cell (o := 0) rfl; have f2 := (HBL.out.keep hc (by simp)).cell (o := 2) rfl; clear hc))
            go_ret
            exact ⟨rfl, (HC9.out.trans HZ.out).below⟩
        · rw [List.take_length] at h0
          rw [own_none HZN.out ts.length h0] at how
          rw [HSS.out] at h0
          have HOW := Lib.hid how
          clear how HM
          by_cases ha1 : 0 ≤ at_
          · have ha2 : ¬ at_ < S := by omega
            clear h0
            go_wp2_with (first | (go_at_call 21; refine (lay.awake_any _).mono ?_; rintro e wz ⟨rfl, hz⟩; have HZ := Lib.hid hz; clear hz) | (go_at_call 25; refine HOW.out.mono ?_; rintro e w9 ⟨rfl, hc⟩; have HC9 := Lib.hid (HCZ.out.trans hc); have f0 := (HBL.out.keep hc (by simp)).cell (o := 0) rfl; have f2 := (HBL.out.keep hc (by simp)).cell (o := 2) rfl; clear hc))
            go_ret
            exact ⟨rfl, (HC9.out.trans HZ.out).below⟩
          · clear h0
            go_wp2_with (first | (go_at_call 21; refine (lay.awake_any _).mono ?_; rintro e wz ⟨rfl, hz⟩; have HZ := Lib.hid hz; clear hz) | (go_at_call 25; refine HOW.out.mono ?_; rintro e w9 ⟨rfl, hc⟩; have HC9 := Lib.hid (HCZ.out.trans hc); have f0 := (HBL.out.keep hc (by simp)).cell (o := 0) rfl; have f2 := (HBL.out.keep hc (by simp)).cell (o := 2) rfl; clear hc))
            go_ret
            exact ⟨rfl, (HC9.out.trans HZ.out).below⟩
theorem few_all {ts : List Tk} {os : List Ob} {m : Int} (h : fewS ts os m = true) : ((ts.length : Int) ≤ m ∧ (os.length : Int) ≤ m) ∧ ∀ o ∈ os, o.small = true := by
  unfold fewS fewT at h
  simp only [Bool.and_eq_true, decide_eq_true_eq, List.all_eq_true] at h
  exact ⟨⟨h.1.1, h.2.1⟩, h.2.2⟩
theorem own : ownKnob Try.prog.godebug = none := by kernel_rfl
theorem laidOut : laidOutB Try.prog = true := by kernel_rfl

/-- The walk: the law returns true, and nothing that was there has turned. -/
theorem walk (w : World) (cs0 : Array Value) (hs0 : cs0.size = Try.prog.cellsOf 49) (o0 : kit.Opens Try.prog w 9 49 cs0.toList) (x1 : Int) (w1 : (Lit.int .i64 x1).wf = true) :
    Calls Try.prog 5 #[.agg cs0, .int .i64 x1] w fun e w' => e = .returned (.bool true) ∧ Below w.heap.size w w' := by
  obtain ⟨a, l, c, ts, a2, l2, c2, os, hcs, hT, hO, hW⟩ := system_open (n := 2) o0
  have hcs2 : cs0 = #[.slice a l c, .slice a2 l2 c2] := by apply Array.toList_inj.1; rw [hcs]
  subst hcs2
  obtain rfl : l = ts.length := by obtain ⟨_, _, he, _⟩ := reads_slice hT.1; simp at he; exact he.2.1
  obtain rfl : l2 = os.length := by obtain ⟨_, _, he, _⟩ := reads_slice hO; simp at he; exact he.2.1
  cases hf : fewS ts os 60
  · exact many a c a2 c2 ts os x1 w hT hO hf
  · have hfa := few_all hf
    have hw : ∀ o ∈ os, o.W := fun o ho => hW o ho (hfa.2 o ho)
    have hl : ts.length ≤ 1000 ∧ os.length ≤ 1000 := by omega
    cases hk : lensOk ts os
    · exact none_ 1 (.inl rfl) a c a2 c2 ts os x1 w hT hO hf (fun V h => Of_bad a ts.length c a2 os.length c2 ts os V (hT.chg h) (hO.chg h) hw hl hk)
    · by_cases hs : sumI (lensL ts os) ≤ 4096
      · exact good a c a2 c2 ts os x1 w hT hO hf hw hk hs (wf_i64 w1)
      · exact none_ 6 (.inr rfl) a c a2 c2 ts os x1 w hT hO hf (fun V h => Of_room a ts.length c a2 os.length c2 ts os V (hT.chg h) (hO.chg h) hw hl hk hs)

set_option maxRecDepth 100000 in
theorem lifted (os : Os) (started : os.Started) (H : Type) (enc : TypeId × Value → H) :
    ReturnsInHanded {} Try.checked os 5 .any (Rows.layoutOwnersSpec.pre6 enc Try.prog Try.f5 Rows.layoutOwnersRow.domain false) (Rows.layoutOwnersSpec.post enc Try.prog Try.f5 false true false false) := by
  refine returnsInHanded_of_change (C := Try.checked) own started (by kernel_rfl) Try.func5
    (ChangeSpec.witness6 (enc := enc) (C := Try.checked) false ⟨#[], #[.agg #[.slice none 0 0, .slice none 0 0], .int .i64 0], []⟩ 8 (by kernel_rfl) (by kernel_rfl) (by kernel_rfl) (by kernel_rfl)) ?_
  intro W base args ds gs before hval0 hW hcnd _
  have hval : ∀ (j : Nat) t v, Try.f5.params[j]? = some t → args[j]? = some v → Value.okWide Try.prog W .any base t v := hval0
  have hW' := hW
  obtain ⟨p, q, hA0, hV, rfl, hfz, hnd⟩ := hW
  have hA : DataW.TrodAll enc Try.prog W 0 (fun _ => true) true Try.f5.params.toList args.toList ds p := hA0
  rw [Try.params5] at hA hval
  obtain ⟨v0, vs0, d0, ds0, p0, q0, hargs, rfl, rfl, h0, r0⟩ := trodAll_cons hA
  obtain ⟨v1, vs1, d1, ds1, p1, q1, rfl, rfl, rfl, h1, r1⟩ := trodAll_cons r0
  obtain ⟨rfl, rfl, rfl⟩ := trodAll_nil r1
  obtain rfl : args = #[v0, v1] := by cases args; simp_all
  obtain ⟨rfl, rfl⟩ := trodVars_none hV
  have k0 := h0
  have lt0 : ∀ x ∈ p0, x.block < W.heap.size := by obtain ⟨m, hm⟩ := k0; exact DataW.trod_lt m _ _ _ hm
  have k1 := h1
  have lt1 : ∀ x ∈ p1, x.block < W.heap.size := by obtain ⟨m, hm⟩ := k1; exact DataW.trod_lt m _ _ _ hm
  obtain ⟨cs0, rfl, hs0⟩ := okWide_struct Try.underlying49 (hval 0 49 v0 rfl rfl)
  have o0 : kit.Opens Try.prog W 9 49 cs0.toList := by simpa [Value.cells] using kit.Trod_opens 9 k0
  obtain ⟨x1, rfl, _, _, w1⟩ := open_int Try.underlying3 (hval 1 3 v1 rfl rfl) h1
  clear hA0 hval0
  refine (walk W cs0 hs0 o0 x1 w1).mono fun e W' ⟨he, bel⟩ => ?_
  subst he
  exact ⟨_, rfl, _, _, _, [], _, [], hW', trodAll_mk1 (shut_bool Try.underlying4 _), (trodAll_cons_mk (Below.trod laidOut (by kernel_rfl) (of_decide_eq_true (by kernel_rfl)) k0 bel lt0) (trodAll_cons_mk (Below.trod laidOut (by kernel_rfl) (of_decide_eq_true (by kernel_rfl)) k1 bel lt1) trodAll_mk0)), rfl, bel.frame _, fun h => by cases h⟩

theorem over : Rows.layoutOwnersRow.holds Try.pinned (OpenSpec.ofChange Rows.layoutOwnersSpec) :=
  OpenClaim.holds_of_wide 5 Try.f5 rfl rfl rfl rfl rfl rfl rfl ⟨rfl, rfl, rfl, rfl, rfl⟩ rfl rfl rfl rfl rfl (by kernel_rfl) Try.func5 (by kernel_rfl)
    (of_decide_eq_true (by kernel_rfl)) (by unfold Func.isWrapper; first | (rw [if_pos (by decide +kernel)]; kernel_rfl) | (rw [if_neg (by decide +kernel)]; exact ⟨rfl, rfl⟩))
    (fun os started H enc _ => lifted os started H enc)

/-- The statement. -/
theorem proved : Rows.LayoutOwnersSaid := over
end Go.Proofs.Ytjplamoofkcojaa.layoutOwners
