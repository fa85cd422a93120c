/-
  coxswainlaw33.ImageOne returns true for every s, at and c: if one byte of an image is changed it tells an error, or another system. No conditions.
-/
import Derived.Test.YtkmalnojkjmjiaaRows
import Derived.WalkKit
import Derived.ProofKit
import Derived.OpenShut
import Derived.ShutString
import Derived.ChangeOld
import Derived.Below
import Derived.Test.YtkmalnojkjmjiaaOpen
import Derived.Test.YtkmalnojkjmjiaaFew
import Derived.Test.YtkmalnojkjmjiaaImgN
namespace Go.Proofs.Ytkmalnojkjmjiaa.imageOne
open Go.ChangeShapes Go.WideShapes Go.ChangeAt Go.RowKit
open Go.ChangeMaps (open_string shut_string)
set_option linter.unusedVariables false
open Go.Proofs.Ytkmalnojkjmjiaa.kit Go.Proofs.Ytkmalnojkjmjiaa.obj Go.Proofs.Ytkmalnojkjmjiaa.mem Go.Proofs.Ytkmalnojkjmjiaa.lay Go.Proofs.Ytkmalnojkjmjiaa.codec Go.Proofs.Ytkmalnojkjmjiaa.img
set_option linter.unusedSimpArgs false
set_option linter.unusedVariables false
set_option maxRecDepth 100000
theorem few_deep (ta : Option Addr) (tc : Nat) (oa : Option Addr) (oc : Nat) (ts : List DT) (os : List DO) (most : Int) (hm : 0 ≤ most ∧ most ≤ 1000) (W : World) (hT : ReadsDT W (.slice ta ts.length tc) ts) (hO : ReadsDO W (.slice oa os.length oc) os) :
    Calls Try.prog 11 #[.agg #[.slice ta ts.length tc, .slice oa os.length oc], .int .i64 most] W fun e W' => e = .returned (.bool (fewS (ts.map DT.t) (os.map DO.o) most)) ∧ Chg [] W W' := by
  have h1 := fewS_any ta tc oa oc (ts.map DT.t) (os.map DO.o) most hm W (by rw [List.length_map]; exact hT.1) (by rw [List.length_map]; exact hO.1)
  rw [List.length_map, List.length_map] at h1
  exact h1
theorem few_facts {ts : List DT} {os : List DO} {m : Int} {w : World} (h : fewS (ts.map DT.t) (os.map DO.o) m = true) (hT : ∀ d ∈ ts, d.R w) (hO : ∀ d ∈ os, d.R w) : ((ts.length : Int) ≤ m ∧ (os.length : Int) ≤ m) ∧ (∀ d ∈ ts, d.code.length ≤ 200) ∧ ∀ d ∈ os, d.ini.length ≤ 100 ∧ d.rds.length ≤ 100 := by
  unfold fewS fewT at h
  simp only [Bool.and_eq_true, decide_eq_true_eq, List.all_eq_true, List.length_map] at h
  refine ⟨⟨h.1.1, h.2.1⟩, fun d hd => ?_, fun d hd => ?_⟩
  · rw [← (hT d hd).len]; exact h.1.2 _ (List.mem_map.2 ⟨d, hd, rfl⟩)
  · have h9 := h.2.2 _ (List.mem_map.2 ⟨d, hd, rfl⟩)
    simp only [Ob.small, decide_eq_true_eq] at h9
    rw [← (hO d hd).leni, ← (hO d hd).lenr]; exact h9
theorem own_put {w : World} {B : Nat} {v : Value} {zs : List Int} (h : OwnB w B v zs) (hw : BytesB zs) (i : Nat) (hi : i < zs.length) (x : Int) (hx : (Lit.int .u8 x).wf = true) :
    ∃ g c, v = .slice (some ⟨g, 0, none⟩) zs.length c ∧ B ≤ g ∧ w.cell? ⟨g, i, none⟩ = some (.int .u8 (zs.getD i 0)) ∧ w.frozen? ⟨g, i, none⟩ = false ∧ ReadsB (w.setCell ⟨g, i, none⟩ (.int .u8 x)) v (zs.set i x) := by
  rcases h.2 with ⟨rfl, h0⟩ | ⟨g, cap, cur, rfl, hg, _⟩
  · omega
  · refine ⟨g, cap, rfl, hg, ?_, World.ownsRow.frozenAt h i, ?_, fun y hy => ?_⟩
    · have := World.ownsRow.cellAt h i (by omega)
      rw [this, List.getElem?_map, List.getElem?_eq_getElem hi, List.getD_eq_getElem?_getD, List.getElem?_eq_getElem hi]; rfl
    · have hs := (World.ownsRow.stored h i (.int .u8 x)).1
      have h9 := Reads.of_own hs (by decide)
      rw [← List.map_set] at h9
      rw [show (zs.set i x).length = zs.length by simp]
      exact h9
    · rcases List.mem_or_eq_of_mem_set hy with h1 | h1
      · exact hw y h1
      · rw [h1]; exact hx
theorem sys_other {zs : List Int} {us ts : List DT} {ps os : List DO} (h : DecOk zs us ps) (h0 : decE zs = 0) (hf : (0 ≤ ((decT zs).length : Int) ∧ ((decT zs).length : Int) ≤ 255) ∧ 0 ≤ ((decO zs).length : Int) ∧ ((decO zs).length : Int) ≤ 255) (hne : ¬ (decT zs = ts.map DT.p ∧ decO zs = os.map DO.p)) :
    sameS us ts ps os = false ∧ (us.length ≤ 900 ∧ ps.length ≤ 900) ∧ ((∀ d ∈ us, d.code.length ≤ 1000) ∧ ∀ d ∈ ps, d.ini.length ≤ 1000 ∧ d.rds.length ≤ 1000) := by
  obtain ⟨h1, h2, h3, h4⟩ := h
  rw [if_pos h0] at h1 h2
  have l1 := congrArg List.length h1
  have l2 := congrArg List.length h2
  rw [List.length_map] at l1 l2
  refine ⟨?_, by omega, fun d hd => by have := h3 d hd; omega, fun d hd => by have := h4 d hd; omega⟩
  unfold sameS
  rw [h1, h2]
  cases hb : decide (decT zs = ts.map DT.p) && decide (decO zs = os.map DO.p)
  · rfl
  · rw [Bool.and_eq_true] at hb
    exact absurd ⟨of_decide_eq_true hb.1, of_decide_eq_true hb.2⟩ hne
set_option maxHeartbeats 2000000 in
theorem many (ta : Option Addr) (tc : Nat) (oa : Option Addr) (oc : Nat) (ts : List DT) (os : List DO) (at_ c : Int) (W : World) (hT : ReadsDT W (.slice ta ts.length tc) ts) (hO : ReadsDO W (.slice oa os.length oc) os) (hf : fewS (ts.map DT.t) (os.map DO.o) 60 = false) :
    Calls Try.prog 5 #[.agg #[.slice ta ts.length tc, .slice oa os.length oc], .int .i64 at_, .int .u8 c] W fun e W' => e = .returned (.bool true) ∧ Below W.heap.size W W' := by
  have HCA : Hid (Chg [] W (W.alloc (.cells #[.slice ta ts.length tc, .slice oa os.length oc] 27))) := Lib.hid ((Chg.refl _ _).alloc _)
  have HBX : Hid (Blk (W.alloc (.cells #[.slice ta ts.length tc, .slice oa os.length oc] 27)) W.heap.size #[.slice ta ts.length tc, .slice oa os.length oc] 27) := Lib.hid (Blk.new W _ _)
  have HFW := Lib.hid (few_deep ta tc oa oc ts os 60 ⟨by decide, by decide⟩ (W.alloc (.cells #[.slice ta ts.length tc, .slice oa os.length oc] 27)) (hT.chg HCA.out) (hO.chg HCA.out))
  rw [hf] at HFW
  clear hT hO hf
  go_enter Try.func5, Try.ntmps5
  go_wp2_with (first | (go_at_call 7; refine (img.awake_any _).mono ?_; rintro e wz ⟨rfl, hz⟩; have HZ := Lib.hid hz; clear hz) | (go_at_call 11; refine HFW.out.mono ?_; rintro e w1 ⟨rfl, hc⟩; have HC1 := Lib.hid hc; have e0 : w1.cell? ⟨W.heap.size, 0, none⟩ = some (.slice ta ts.length tc) := (HBX.out.keep hc (by simp)).cell rfl; have e1 : w1.cell? ⟨W.heap.size, 1, none⟩ = some (.slice oa os.length oc) := (HBX.out.keep hc (by simp)).cell rfl; clear hc))
  go_ret
  exact ⟨rfl, (HCA.out.trans (HC1.out.trans HZ.out)).below⟩
set_option maxHeartbeats 8000000 in
theorem some_ (ta : Option Addr) (tc : Nat) (oa : Option Addr) (oc : Nat) (ts : List DT) (os : List DO) (at_ c : Int) (W : World) (hT : ReadsDT W (.slice ta ts.length tc) ts) (hO : ReadsDO W (.slice oa os.length oc) os) (hf : fewS (ts.map DT.t) (os.map DO.o) 60 = true) (hat : -9223372036854775808 ≤ at_ ∧ at_ ≤ 9223372036854775807) (hc8 : (Lit.int .u8 c).wf = true) :
    Calls Try.prog 5 #[.agg #[.slice ta ts.length tc, .slice oa os.length oc], .int .i64 at_, .int .u8 c] W fun e W' => e = .returned (.bool true) ∧ Below W.heap.size W W' := by
  have HCA : Hid (Chg [] W (W.alloc (.cells #[.slice ta ts.length tc, .slice oa os.length oc] 27))) := Lib.hid ((Chg.refl _ _).alloc _)
  have HBX : Hid (Blk (W.alloc (.cells #[.slice ta ts.length tc, .slice oa os.length oc] 27)) W.heap.size #[.slice ta ts.length tc, .slice oa os.length oc] 27) := Lib.hid (Blk.new W _ _)
  have HFW := Lib.hid (few_deep ta tc oa oc ts os 60 ⟨by decide, by decide⟩ (W.alloc (.cells #[.slice ta ts.length tc, .slice oa os.length oc] 27)) (hT.chg HCA.out) (hO.chg HCA.out))
  rw [hf] at HFW
  have hff := few_facts hf hT.2 hO.2
  have HB1 : Hid ((∀ d ∈ ts, d.code.length ≤ 1000) ∧ ∀ d ∈ os, d.ini.length ≤ 1000 ∧ d.rds.length ≤ 1000) := Lib.hid ⟨fun d hd => by have := hff.2.1 d hd; omega, fun d hd => by have := hff.2.2 d hd; omega⟩
  have HLN : Hid (ts.length ≤ 900 ∧ os.length ≤ 900) := Lib.hid (by omega)
  have HTT := Lib.hid hT
  have HOO := Lib.hid hO
  have HEN := Lib.hid (fun V (h : Chg [] (W.alloc (.cells #[.slice ta ts.length tc, .slice oa os.length oc] 27)) V) => Encode_any ta tc oa oc ts os V (hT.chg (HCA.out.trans h)) (hO.chg (HCA.out.trans h)) (by omega) HB1.out)
  have HAT := Lib.hid hat
  have HC8 := Lib.hid hc8
  obtain ⟨G, hG⟩ : ∃ G, hasI (ts.map DT.p) (os.map DO.p) = G := ⟨_, rfl⟩
  have HG := Lib.hid hG
  obtain ⟨zs, hzs⟩ : ∃ zs, imageOf (ts.map DT.p) (os.map DO.p) = zs := ⟨_, rfl⟩
  have HZS := Lib.hid hzs
  rw [hG, hzs] at HEN
  clear hT hO hf hff hat hc8 hG hzs
  cases G
  · go_enter Try.func5, Try.ntmps5
    go_wp2_with (first | (go_at_call 7; refine (img.awake_any _).mono ?_; rintro e wz ⟨rfl, hz⟩; have HZ := Lib.hid hz; clear hz) | (go_at_call 11; refine HFW.out.mono ?_; rintro e w1 ⟨rfl, hc⟩; have HC1 := Lib.hid hc; have e0 : w1.cell? ⟨W.heap.size, 0, none⟩ = some (.slice ta ts.length tc) := (HBX.out.keep hc (by simp)).cell rfl; have e1 : w1.cell? ⟨W.heap.size, 1, none⟩ = some (.slice oa os.length oc) := (HBX.out.keep hc (by simp)).cell rfl; clear hc) | (go_at_call 12; refine (HEN.out _ HC1.out).mono ?_; rintro e w2 ⟨v2, rfl, ho, hc⟩; clear ho; have HC2 := Lib.hid (HC1.out.trans hc); clear hc))
    go_ret
    exact ⟨rfl, (HCA.out.trans (HC2.out.trans HZ.out)).below⟩
  have himg : zs = image (ts.map DT.p) (os.map DO.p) := by rw [← HZS.out]; unfold imageOf; rw [HG.out]; rfl
  have hlen : zs.length ≤ 65536 := by
    have h9 := HG.out
    unfold hasI at h9
    rw [Bool.and_eq_true] at h9
    rw [himg]; exact of_decide_eq_true h9.2
  have HBZ : Hid (BytesB zs) := Lib.hid (by rw [himg]; exact image_wf _ _)
  have HIM := Lib.hid himg
  have HLE := Lib.hid hlen
  have hl1 : (zs.length : Int) ≤ 65536 := by omega
  clear himg hlen
  by_cases h1 : at_ < 0
  · have HAN := Lib.hid h1
    go_enter Try.func5, Try.ntmps5
    go_wp2_with (first | (go_at_call 7; refine (img.awake_any _).mono ?_; rintro e wz ⟨rfl, hz⟩; have HZ := Lib.hid hz; clear hz) | (go_at_call 11; refine HFW.out.mono ?_; rintro e w1 ⟨rfl, hc⟩; have HC1 := Lib.hid hc; have e0 : w1.cell? ⟨W.heap.size, 0, none⟩ = some (.slice ta ts.length tc) := (HBX.out.keep hc (by simp)).cell rfl; have e1 : w1.cell? ⟨W.heap.size, 1, none⟩ = some (.slice oa os.length oc) := (HBX.out.keep hc (by simp)).cell rfl; clear hc) | (go_at_call 12; refine (HEN.out _ HC1.out).mono ?_; rintro e w2 ⟨v2, rfl, ho, hc⟩; (obtain ⟨a2, c2, rfl, -⟩ := reads_slice (Reads.of_own ho (by decide))); clear ho; have HC2 := Lib.hid (HC1.out.trans hc); clear hc))
    go_ret
    exact ⟨rfl, (HCA.out.trans (HC2.out.trans HZ.out)).below⟩
  obtain ⟨k, rfl⟩ := Int.eq_ofNat_of_zero_le (by omega : 0 ≤ at_)
  by_cases h2 : (zs.length : Int) ≤ (k : Int)
  · clear h1
    go_enter Try.func5, Try.ntmps5
    go_wp2_with (first | (go_at_call 7; refine (img.awake_any _).mono ?_; rintro e wz ⟨rfl, hz⟩; have HZ := Lib.hid hz; clear hz) | (go_at_call 11; refine HFW.out.mono ?_; rintro e w1 ⟨rfl, hc⟩; have HC1 := Lib.hid hc; have e0 : w1.cell? ⟨W.heap.size, 0, none⟩ = some (.slice ta ts.length tc) := (HBX.out.keep hc (by simp)).cell rfl; have e1 : w1.cell? ⟨W.heap.size, 1, none⟩ = some (.slice oa os.length oc) := (HBX.out.keep hc (by simp)).cell rfl; clear hc) | (go_at_call 12; refine (HEN.out _ HC1.out).mono ?_; rintro e w2 ⟨v2, rfl, ho, hc⟩; (obtain ⟨a2, c2, rfl, -⟩ := reads_slice (Reads.of_own ho (by decide))); clear ho; have HC2 := Lib.hid (HC1.out.trans hc); clear hc))
    go_ret
    exact ⟨rfl, (HCA.out.trans (HC2.out.trans HZ.out)).below⟩
  have h3 : k < zs.length := by omega
  have h3i : (k : Int) < (zs.length : Int) := by omega
  have HK := Lib.hid h3
  obtain ⟨y, hy⟩ : ∃ y, zs.getD k 0 = y := ⟨_, rfl⟩
  have HY := Lib.hid hy
  clear h1 h2 h3 hy
  by_cases h4 : y = c
  · have h4b : (y == c) = true := by simpa using h4
    clear h4
    go_enter Try.func5, Try.ntmps5
    go_wp2_with (first | (go_at_call 7; refine (img.awake_any _).mono ?_; rintro e wz ⟨rfl, hz⟩; have HZ := Lib.hid hz; clear hz) | (go_at_call 11; refine HFW.out.mono ?_; rintro e w1 ⟨rfl, hc⟩; have HC1 := Lib.hid hc; have e0 : w1.cell? ⟨W.heap.size, 0, none⟩ = some (.slice ta ts.length tc) := (HBX.out.keep hc (by simp)).cell rfl; have e1 : w1.cell? ⟨W.heap.size, 1, none⟩ = some (.slice oa os.length oc) := (HBX.out.keep hc (by simp)).cell rfl; clear hc) | (go_at_call 12; refine (HEN.out _ HC1.out).mono ?_; rintro e w2 ⟨v2, rfl, ho, hc⟩; (obtain ⟨g, c2, rfl, hgg, hcc, hff, hrr⟩ := own_put ho HBZ.out k HK.out c HC8.out); rw [HY.out] at hcc; (have gx := reads_index (P := Try.prog) Try.underlying22 sz5 (Reads.of_own ho (by decide))); clear hgg hff hrr ho gx; have HC2 := Lib.hid (HC1.out.trans hc); clear hc))
    go_ret
    exact ⟨rfl, (HCA.out.trans (HC2.out.trans HZ.out)).below⟩
  have h4b : (y == c) = false := by simpa using h4
  have HNC := Lib.hid h4
  clear h4
  have HDE := Lib.hid (fun (v : Value) (V : World) (h : ReadsB V v (zs.set k c)) => Decode_any v (zs.set k c) V h (by rw [List.length_set]; exact HLE.out))
  obtain ⟨E, hE⟩ : ∃ E, decE (zs.set k c) = E := ⟨_, rfl⟩
  rw [hE] at HDE
  have HE := Lib.hid hE
  clear hE
  go_enter Try.func5, Try.ntmps5
  go_upto_region 7 with (first | (go_at_call 11; refine HFW.out.mono ?_; rintro e w1 ⟨rfl, hc⟩; have HC1 := Lib.hid hc; have e0 : w1.cell? ⟨W.heap.size, 0, none⟩ = some (.slice ta ts.length tc) := (HBX.out.keep hc (by simp)).cell rfl; have e1 : w1.cell? ⟨W.heap.size, 1, none⟩ = some (.slice oa os.length oc) := (HBX.out.keep hc (by simp)).cell rfl; clear hc) | (go_at_call 12; refine (HEN.out _ HC1.out).mono ?_; rintro e w2 ⟨v2, rfl, ho, hc⟩; (obtain ⟨g, c2, rfl, hgg, hcc, hff, hrr⟩ := own_put ho HBZ.out k HK.out c HC8.out); rw [HY.out] at hcc; have HGG := Lib.hid hgg; have HRR := Lib.hid hrr; clear hgg hrr ho; have HC2 := Lib.hid (HC1.out.trans hc); clear hc))
  have HC3 : Hid (Chg [] (W.alloc (.cells #[.slice ta ts.length tc, .slice oa os.length oc] 27)) (w2.setCell ⟨g, k, none⟩ (.int .u8 c))) := Lib.hid (HC2.out.setCell (p := ⟨g, k, none⟩) (.inr (Nat.le_trans HC1.out.size HGG.out)) _)
  clear e0 e1
  by_cases hE0 : E = 0
  · have hz : ∀ x ∈ zs.set k c, 0 ≤ x ∧ x ≤ 255 := fun x hx => wf_u8 (HRR.out.2 x hx)
    have hd0 : decE (zs.set k c) = 0 := by rw [HE.out]; exact hE0
    have hoth := one_other (ts := ts.map DT.p) (os := os.map DO.p) k c (by rw [← HIM.out]; exact hz) (by rw [← HIM.out]; exact HK.out) (by rw [← HIM.out, HY.out]; exact HNC.out) (by rw [← HIM.out]; exact hd0)
    rw [← HIM.out] at hoth
    have hinv := (dec_inv hz hd0).2.1.1
    unfold fit1 at hinv
    have HOT := Lib.hid hoth
    have HD0 := Lib.hid hd0
    have HFI := Lib.hid hinv
    subst hE0
    clear hz hd0 hoth hinv
    go_wp2_with (first | (go_at_call 7; refine (img.awake_any _).mono ?_; rintro e wz ⟨rfl, hz⟩; have HZ := Lib.hid hz; clear hz) | (go_at_call 8; refine (HDE.out _ _ HRR.out).mono ?_; rintro e w3 ⟨xa, xc, ya, yc, us, ps, rfl, hok, hdt, hdo, hc⟩; have HOK := Lib.hid hok; have HC4 := Lib.hid (HC3.out.trans hc); have HDT := Lib.hid hdt; have HDO := Lib.hid hdo; have HCS := Lib.hid ((HC3.out.trans hc).alloc (.cells #[.slice xa us.length xc, .slice ya ps.length yc] 27)); have e0 := (HBX.out.keep HCS.out (by simp)).cell (o := 0) rfl; have e1 := (HBX.out.keep HCS.out (by simp)).cell (o := 1) rfl; clear hok hdt hdo hc) | (go_at_call 10; have hfin := sys_other HOK.out HD0.out HFI.out HOT.out; refine (plSystem_any xa xc ya yc us ps ta tc oa oc ts os _ (HDT.out.chg ((Chg.refl [] w3).alloc _)) (HDO.out.chg ((Chg.refl [] w3).alloc _)) (HTT.out.chg (HCA.out.trans HCS.out)) (HOO.out.chg (HCA.out.trans HCS.out)) ⟨hfin.2.1, HLN.out⟩ hfin.2.2 HB1.out).mono ?_; rw [hfin.1]; rintro e w4 ⟨rfl, hc⟩; have HC5 := Lib.hid (HCS.out.trans hc); clear hc hfin))
    go_ret
    exact ⟨rfl, (HCA.out.trans (HC5.out.trans HZ.out)).below⟩
  · have hE1 : (E == 0) = false := by simpa using hE0
    have hE2 : (E != 0) = true := by simpa using hE0
    clear hE0
    go_wp2_with (first | (go_at_call 7; refine (img.awake_any _).mono ?_; rintro e wz ⟨rfl, hz⟩; have HZ := Lib.hid hz; clear hz) | (go_at_call 8; refine (HDE.out _ _ HRR.out).mono ?_; rintro e w3 ⟨xa, xc, ya, yc, us, ps, rfl, hok, hdt, hdo, hc⟩; have HC4 := Lib.hid (HC3.out.trans hc); clear hok hdt hdo hc))
    go_ret
    exact ⟨rfl, (HCA.out.trans ((HC4.out.alloc _).trans HZ.out)).below⟩
theorem own : ownKnob Try.prog.godebug = none := by kernel_rfl
theorem laidOut : laidOutB Try.prog = true := by kernel_rfl

/-- The walk: the law returns true, and nothing that was there has turned. -/
theorem walk (w : World) (cs0 : Array Value) (hs0 : cs0.size = Try.prog.cellsOf 27) (o0 : kit.Opens Try.prog w 9 27 cs0.toList) (x1 : Int) (w1 : (Lit.int .i64 x1).wf = true) (x2 : Int) (w2 : (Lit.int .u8 x2).wf = true) :
    Calls Try.prog 5 #[.agg cs0, .int .i64 x1, .int .u8 x2] w fun e w' => e = .returned (.bool true) ∧ Below w.heap.size w w' := by
  obtain ⟨a, c, ts, a2, c2, os, hcs, hT, hO, hW⟩ := system_deep (n := 1) o0
  have hcs2 : cs0 = #[.slice a ts.length c, .slice a2 os.length c2] := by apply Array.toList_inj.1; rw [hcs]
  subst hcs2
  cases hf : fewS (ts.map DT.t) (os.map DO.o) 60
  · exact many a c a2 c2 ts os x1 x2 w hT hO hf
  · exact some_ a c a2 c2 ts os x1 x2 w hT hO hf (wf_i64 w1) w2

set_option maxRecDepth 100000 in
theorem lifted (os : Os) (started : os.Started) (H : Type) (enc : TypeId × Value → H) :
    ReturnsInHanded {} Try.checked os 5 .any (Rows.imageOneSpec.pre6 enc Try.prog Try.f5 Rows.imageOneRow.domain false) (Rows.imageOneSpec.post enc Try.prog Try.f5 false true false false) := by
  refine returnsInHanded_of_change (C := Try.checked) own started (by kernel_rfl) Try.func5
    (ChangeSpec.witness6 (enc := enc) (C := Try.checked) false ⟨#[], #[.agg #[.slice none 0 0, .slice none 0 0], .int .i64 0, .int .u8 0], []⟩ 8 (by kernel_rfl) (by kernel_rfl) (by kernel_rfl) (by kernel_rfl)) ?_
  intro W base args ds gs before hval0 hW hcnd _
  have hval : ∀ (j : Nat) t v, Try.f5.params[j]? = some t → args[j]? = some v → Value.okWide Try.prog W .any base t v := hval0
  have hW' := hW
  obtain ⟨p, q, hA0, hV, rfl, hfz, hnd⟩ := hW
  have hA : DataW.TrodAll enc Try.prog W 0 (fun _ => true) true Try.f5.params.toList args.toList ds p := hA0
  rw [Try.params5] at hA hval
  obtain ⟨v0, vs0, d0, ds0, p0, q0, hargs, rfl, rfl, h0, r0⟩ := trodAll_cons hA
  obtain ⟨v1, vs1, d1, ds1, p1, q1, rfl, rfl, rfl, h1, r1⟩ := trodAll_cons r0
  obtain ⟨v2, vs2, d2, ds2, p2, q2, rfl, rfl, rfl, h2, r2⟩ := trodAll_cons r1
  obtain ⟨rfl, rfl, rfl⟩ := trodAll_nil r2
  obtain rfl : args = #[v0, v1, v2] := by cases args; simp_all
  obtain ⟨rfl, rfl⟩ := trodVars_none hV
  have k0 := h0
  have lt0 : ∀ x ∈ p0, x.block < W.heap.size := by obtain ⟨m, hm⟩ := k0; exact DataW.trod_lt m _ _ _ hm
  have k1 := h1
  have lt1 : ∀ x ∈ p1, x.block < W.heap.size := by obtain ⟨m, hm⟩ := k1; exact DataW.trod_lt m _ _ _ hm
  have k2 := h2
  have lt2 : ∀ x ∈ p2, x.block < W.heap.size := by obtain ⟨m, hm⟩ := k2; exact DataW.trod_lt m _ _ _ hm
  obtain ⟨cs0, rfl, hs0⟩ := okWide_struct Try.underlying27 (hval 0 27 v0 rfl rfl)
  have o0 : kit.Opens Try.prog W 9 27 cs0.toList := by simpa [Value.cells] using kit.Trod_opens 9 k0
  obtain ⟨x1, rfl, _, _, w1⟩ := open_int Try.underlying3 (hval 1 3 v1 rfl rfl) h1
  obtain ⟨x2, rfl, _, _, w2⟩ := open_int Try.underlying5 (hval 2 5 v2 rfl rfl) h2
  clear hA0 hval0
  refine (walk W cs0 hs0 o0 x1 w1 x2 w2).mono fun e W' ⟨he, bel⟩ => ?_
  subst he
  exact ⟨_, rfl, _, _, _, [], _, [], hW', trodAll_mk1 (shut_bool Try.underlying4 _), (trodAll_cons_mk (Below.trod laidOut (by kernel_rfl) (of_decide_eq_true (by kernel_rfl)) k0 bel lt0) (trodAll_cons_mk (Below.trod laidOut (by kernel_rfl) (of_decide_eq_true (by kernel_rfl)) k1 bel lt1) (trodAll_cons_mk (Below.trod laidOut (by kernel_rfl) (of_decide_eq_true (by kernel_rfl)) k2 bel lt2) trodAll_mk0))), rfl, bel.frame _, fun h => by cases h⟩

theorem over : Rows.imageOneRow.holds Try.pinned (OpenSpec.ofChange Rows.imageOneSpec) :=
  OpenClaim.holds_of_wide 5 Try.f5 rfl rfl rfl rfl rfl rfl rfl ⟨rfl, rfl, rfl, rfl, rfl⟩ rfl rfl rfl rfl rfl (by kernel_rfl) Try.func5 (by kernel_rfl)
    (of_decide_eq_true (by kernel_rfl)) (by unfold Func.isWrapper; first | (rw [if_pos (by decide +kernel)]; kernel_rfl) | (rw [if_neg (by decide +kernel)]; exact ⟨rfl, rfl⟩))
    (fun os started H enc _ => lifted os started H enc)

/-- The statement. -/
theorem proved : Rows.ImageOneSaid := over
end Go.Proofs.Ytkmalnojkjmjiaa.imageOne
