/-
  coxswainlaw33.ImageBack returns true for every s and b: any system that has an image comes back from it; bytes that are decoded are encoded so. No conditions.
-/
import Derived.Test.YtkmalnojkjmjiaaRows
import Derived.WalkKit
import Derived.ProofKit
import Derived.OpenShut
import Derived.ShutString
import Derived.ChangeOld
import Derived.Below
import Derived.Test.YtkmalnojkjmjiaaOpen
import Derived.Test.YtkmalnojkjmjiaaFew
import Derived.Test.YtkmalnojkjmjiaaImgN
namespace Go.Proofs.Ytkmalnojkjmjiaa.imageBack
open Go.ChangeShapes Go.WideShapes Go.ChangeAt Go.RowKit
open Go.ChangeMaps (open_string shut_string)
set_option linter.unusedVariables false
open Go.Proofs.Ytkmalnojkjmjiaa.kit Go.Proofs.Ytkmalnojkjmjiaa.obj Go.Proofs.Ytkmalnojkjmjiaa.mem Go.Proofs.Ytkmalnojkjmjiaa.lay Go.Proofs.Ytkmalnojkjmjiaa.codec Go.Proofs.Ytkmalnojkjmjiaa.img
set_option linter.unusedSimpArgs false
set_option linter.unusedVariables false
set_option maxRecDepth 100000
theorem few_deep (ta : Option Addr) (tc : Nat) (oa : Option Addr) (oc : Nat) (ts : List DT) (os : List DO) (most : Int) (hm : 0 ≤ most ∧ most ≤ 1000) (W : World) (hT : ReadsDT W (.slice ta ts.length tc) ts) (hO : ReadsDO W (.slice oa os.length oc) os) :
    Calls Try.prog 11 #[.agg #[.slice ta ts.length tc, .slice oa os.length oc], .int .i64 most] W fun e W' => e = .returned (.bool (fewS (ts.map DT.t) (os.map DO.o) most)) ∧ Chg [] W W' := by
  have h1 := fewS_any ta tc oa oc (ts.map DT.t) (os.map DO.o) most hm W (by rw [List.length_map]; exact hT.1) (by rw [List.length_map]; exact hO.1)
  rw [List.length_map, List.length_map] at h1
  exact h1
theorem few_facts {ts : List DT} {os : List DO} {m : Int} {w : World} (h : fewS (ts.map DT.t) (os.map DO.o) m = true) (hT : ∀ d ∈ ts, d.R w) (hO : ∀ d ∈ os, d.R w) : ((ts.length : Int) ≤ m ∧ (os.length : Int) ≤ m) ∧ (∀ d ∈ ts, d.code.length ≤ 200) ∧ ∀ d ∈ os, d.ini.length ≤ 100 ∧ d.rds.length ≤ 100 := by
  unfold fewS fewT at h
  simp only [Bool.and_eq_true, decide_eq_true_eq, List.all_eq_true, List.length_map] at h
  refine ⟨⟨h.1.1, h.2.1⟩, fun d hd => ?_, fun d hd => ?_⟩
  · rw [← (hT d hd).len]; exact h.1.2 _ (List.mem_map.2 ⟨d, hd, rfl⟩)
  · have h9 := h.2.2 _ (List.mem_map.2 ⟨d, hd, rfl⟩)
    simp only [Ob.small, decide_eq_true_eq] at h9
    rw [← (hO d hd).leni, ← (hO d hd).lenr]; exact h9
theorem cells8 : Try.prog.cellsOf 5 = 1 := by kernel_rfl
/-- a system comes back -/
theorem same_yes {zs : List Int} {us ts : List DT} {ps os : List DO} (h : DecOk zs us ps) (h0 : decE zs = 0 ∧ decT zs = ts.map DT.p ∧ decO zs = os.map DO.p) :
    sameS us ts ps os = true ∧ (us.length = ts.length ∧ ps.length = os.length) ∧ ((∀ d ∈ us, d.code.length ≤ 1000) ∧ ∀ d ∈ ps, d.ini.length ≤ 1000 ∧ d.rds.length ≤ 1000) := by
  obtain ⟨h1, h2, h3, h4⟩ := h
  rw [if_pos h0.1, h0.2.1] at h1
  rw [if_pos h0.1, h0.2.2] at h2
  have l1 := congrArg List.length h1
  have l2 := congrArg List.length h2
  rw [List.length_map, List.length_map] at l1 l2
  refine ⟨?_, ⟨l1, l2⟩, fun d hd => by have := h3 d hd; omega, fun d hd => by have := h4 d hd; omega⟩
  unfold sameS
  rw [decide_eq_true h1, decide_eq_true h2]; rfl
/-- nothing came -/
theorem same_nil {zs : List Int} {us : List DT} {ps : List DO} (h : DecOk zs us ps) (h0 : ¬ decE zs = 0) :
    sameS us [] ps [] = true ∧ (us.length ≤ 900 ∧ ps.length ≤ 900) ∧ ((∀ d ∈ us, d.code.length ≤ 1000) ∧ ∀ d ∈ ps, d.ini.length ≤ 1000 ∧ d.rds.length ≤ 1000) := by
  obtain ⟨h1, h2, h3, h4⟩ := h
  rw [if_neg h0] at h1 h2
  have l1 := congrArg List.length h1
  have l2 := congrArg List.length h2
  simp only [List.length_map, List.length_nil] at l1 l2
  refine ⟨?_, by omega, fun d hd => by have := h3 d hd; omega, fun d hd => by have := h4 d hd; omega⟩
  unfold sameS
  rw [h1, h2]; rfl
theorem nilDT0 (w : World) : ReadsDT w (.slice none ([] : List DT).length 0) [] := ⟨⟨Reads.nil _ _, by simp⟩, by simp⟩
theorem nilDO0 (w : World) : ReadsDO w (.slice none ([] : List DO).length 0) [] := ⟨Reads.nil _ _, by simp⟩
theorem sys_nil (za : Option Addr) (zc : Nat) (qa : Option Addr) (qc : Nat) (vs : List DT) (qs : List DO) (w : World) (hT : ReadsDT w (.slice za vs.length zc) vs) (hO : ReadsDO w (.slice qa qs.length qc) qs) (hl : vs.length ≤ 900 ∧ qs.length ≤ 900) (hb : (∀ d ∈ vs, d.code.length ≤ 1000) ∧ ∀ d ∈ qs, d.ini.length ≤ 1000 ∧ d.rds.length ≤ 1000) :
    Calls Try.prog 10 #[.agg #[.slice za vs.length zc, .slice qa qs.length qc], .agg #[.slice none 0 0, .slice none 0 0]] w fun e w' => e = .returned (.bool (sameS vs [] qs [])) ∧ Chg [] w w' :=
  plSystem_any za zc qa qc vs qs none 0 none 0 [] [] w hT hO (nilDT0 _) (nilDO0 _) ⟨hl, by decide, by decide⟩ hb ⟨by simp, by simp⟩
theorem dec_bounds {bs : List Int} {us : List DT} {ps : List DO} (hz : ∀ x ∈ bs, 0 ≤ x ∧ x ≤ 255) (h : DecOk bs us ps) : (us.length ≤ 1000 ∧ ps.length ≤ 1000) ∧ ((∀ d ∈ us, d.code.length ≤ 1000) ∧ ∀ d ∈ ps, d.ini.length ≤ 1000 ∧ d.rds.length ≤ 1000) := by
  obtain ⟨h1, h2, h3, h4⟩ := h
  have l1 := congrArg List.length h1
  have l2 := congrArg List.length h2
  rw [List.length_map] at l1 l2
  refine ⟨?_, fun d hd => by have := h3 d hd; omega, fun d hd => by have := h4 d hd; omega⟩
  by_cases h0 : decE bs = 0
  · rw [if_pos h0] at l1 l2
    have hi := (dec_inv hz h0).2.1.1
    unfold fit1 at hi
    omega
  · rw [if_neg h0] at l1 l2
    simp at l1 l2
    simp [l1, l2]
theorem enc_back {bs : List Int} {us : List DT} {ps : List DO} (hw : BytesB bs) (h : DecOk bs us ps) (h0 : decE bs = 0) : hasI (us.map DT.p) (ps.map DO.p) = true ∧ imageOf (us.map DT.p) (ps.map DO.p) = bs := by
  obtain ⟨h1, h2, -, -⟩ := h
  rw [if_pos h0] at h1 h2
  obtain ⟨e, f, -, l⟩ := dec_inv (fun x hx => wf_u8 (hw x hx)) h0
  have hi : hasI (us.map DT.p) (ps.map DO.p) = true := by
    rw [h1, h2]
    unfold hasI
    rw [decide_eq_true f, e, decide_eq_true l]; rfl
  refine ⟨hi, ?_⟩
  unfold imageOf
  rw [hi, h1, h2, if_pos rfl, e]
set_option maxHeartbeats 2000000 in
theorem many (ta : Option Addr) (tc : Nat) (oa : Option Addr) (oc : Nat) (ts : List DT) (os : List DO) (ba : Option Addr) (bc : Nat) (bs : List Int) (W : World) (hT : ReadsDT W (.slice ta ts.length tc) ts) (hO : ReadsDO W (.slice oa os.length oc) os) (hf : fewS (ts.map DT.t) (os.map DO.o) 60 = false) :
    Calls Try.prog 4 #[.agg #[.slice ta ts.length tc, .slice oa os.length oc], (.slice ba bs.length bc)] W fun e W' => e = .returned (.bool true) ∧ Below W.heap.size W W' := by
  have HCA : Hid (Chg [] W (W.alloc (.cells #[.slice ta ts.length tc, .slice oa os.length oc] 27))) := Lib.hid ((Chg.refl _ _).alloc _)
  have HBX : Hid (Blk (W.alloc (.cells #[.slice ta ts.length tc, .slice oa os.length oc] 27)) W.heap.size #[.slice ta ts.length tc, .slice oa os.length oc] 27) := Lib.hid (Blk.new W _ _)
  have HFW := Lib.hid (few_deep ta tc oa oc ts os 60 ⟨by decide, by decide⟩ (W.alloc (.cells #[.slice ta ts.length tc, .slice oa os.length oc] 27)) (hT.chg HCA.out) (hO.chg HCA.out))
  rw [hf] at HFW
  clear hT hO hf
  go_enter Try.func4, Try.ntmps4
  go_wp2_with (first | (go_at_call 7; refine (img.awake_any _).mono ?_; rintro e wz ⟨rfl, hz⟩; have HZ := Lib.hid hz; clear hz) | (go_at_call 11; refine HFW.out.mono ?_; rintro e w1 ⟨rfl, hc⟩; have HC1 := Lib.hid hc; have e0 : w1.cell? ⟨W.heap.size, 0, none⟩ = some (.slice ta ts.length tc) := (HBX.out.keep hc (by simp)).cell rfl; have e1 : w1.cell? ⟨W.heap.size, 1, none⟩ = some (.slice oa os.length oc) := (HBX.out.keep hc (by simp)).cell rfl; clear hc))
  go_ret
  exact ⟨rfl, (HCA.out.trans (HC1.out.trans HZ.out)).below⟩
set_option maxHeartbeats 2000000 in
theorem long (ta : Option Addr) (tc : Nat) (oa : Option Addr) (oc : Nat) (ts : List DT) (os : List DO) (ba : Option Addr) (bc : Nat) (bs : List Int) (W : World) (hT : ReadsDT W (.slice ta ts.length tc) ts) (hO : ReadsDO W (.slice oa os.length oc) os) (hf : fewS (ts.map DT.t) (os.map DO.o) 60 = true) (hb : 3000 < bs.length) :
    Calls Try.prog 4 #[.agg #[.slice ta ts.length tc, .slice oa os.length oc], (.slice ba bs.length bc)] W fun e W' => e = .returned (.bool true) ∧ Below W.heap.size W W' := by
  have HCA : Hid (Chg [] W (W.alloc (.cells #[.slice ta ts.length tc, .slice oa os.length oc] 27))) := Lib.hid ((Chg.refl _ _).alloc _)
  have HBX : Hid (Blk (W.alloc (.cells #[.slice ta ts.length tc, .slice oa os.length oc] 27)) W.heap.size #[.slice ta ts.length tc, .slice oa os.length oc] 27) := Lib.hid (Blk.new W _ _)
  have HFW := Lib.hid (few_deep ta tc oa oc ts os 60 ⟨by decide, by decide⟩ (W.alloc (.cells #[.slice ta ts.length tc, .slice oa os.length oc] 27)) (hT.chg HCA.out) (hO.chg HCA.out))
  rw [hf] at HFW
  have hb2 : (3000 : Int) < (bs.length : Int) := by omega
  clear hT hO hf hb
  go_enter Try.func4, Try.ntmps4
  go_wp2_with (first | (go_at_call 7; refine (img.awake_any _).mono ?_; rintro e wz ⟨rfl, hz⟩; have HZ := Lib.hid hz; clear hz) | (go_at_call 11; refine HFW.out.mono ?_; rintro e w1 ⟨rfl, hc⟩; have HC1 := Lib.hid hc; have e0 : w1.cell? ⟨W.heap.size, 0, none⟩ = some (.slice ta ts.length tc) := (HBX.out.keep hc (by simp)).cell rfl; have e1 : w1.cell? ⟨W.heap.size, 1, none⟩ = some (.slice oa os.length oc) := (HBX.out.keep hc (by simp)).cell rfl; clear hc))
  go_ret
  exact ⟨rfl, (HCA.out.trans (HC1.out.trans HZ.out)).below⟩
set_option maxHeartbeats 16000000 in
theorem some_ (ta : Option Addr) (tc : Nat) (oa : Option Addr) (oc : Nat) (ts : List DT) (os : List DO) (ba : Option Addr) (bc : Nat) (bs : List Int) (W : World) (hT : ReadsDT W (.slice ta ts.length tc) ts) (hO : ReadsDO W (.slice oa os.length oc) os) (hf : fewS (ts.map DT.t) (os.map DO.o) 60 = true) (hb : bs.length ≤ 3000) (hB : ReadsB W (.slice ba bs.length bc) bs) :
    Calls Try.prog 4 #[.agg #[.slice ta ts.length tc, .slice oa os.length oc], (.slice ba bs.length bc)] W fun e W' => e = .returned (.bool true) ∧ Below W.heap.size W W' := by
  have HCA : Hid (Chg [] W (W.alloc (.cells #[.slice ta ts.length tc, .slice oa os.length oc] 27))) := Lib.hid ((Chg.refl _ _).alloc _)
  have HBX : Hid (Blk (W.alloc (.cells #[.slice ta ts.length tc, .slice oa os.length oc] 27)) W.heap.size #[.slice ta ts.length tc, .slice oa os.length oc] 27) := Lib.hid (Blk.new W _ _)
  have HFW := Lib.hid (few_deep ta tc oa oc ts os 60 ⟨by decide, by decide⟩ (W.alloc (.cells #[.slice ta ts.length tc, .slice oa os.length oc] 27)) (hT.chg HCA.out) (hO.chg HCA.out))
  rw [hf] at HFW
  have hff := few_facts hf hT.2 hO.2
  have HB1 : Hid ((∀ d ∈ ts, d.code.length ≤ 1000) ∧ ∀ d ∈ os, d.ini.length ≤ 1000 ∧ d.rds.length ≤ 1000) := Lib.hid ⟨fun d hd => by have := hff.2.1 d hd; omega, fun d hd => by have := hff.2.2 d hd; omega⟩
  have HLN : Hid (ts.length ≤ 900 ∧ os.length ≤ 900) := Lib.hid (by omega)
  have HTT := Lib.hid hT
  have HOO := Lib.hid hO
  have HRB := Lib.hid hB
  have HBW : Hid (BytesB bs) := Lib.hid hB.2
  have HBB : Hid (∀ x ∈ bs, 0 ≤ x ∧ x ≤ 255) := Lib.hid (fun x hx => wf_u8 (hB.2 x hx))
  have HEN := Lib.hid (fun V (h : Chg [] (W.alloc (.cells #[.slice ta ts.length tc, .slice oa os.length oc] 27)) V) => Encode_any ta tc oa oc ts os V (hT.chg (HCA.out.trans h)) (hO.chg (HCA.out.trans h)) (by omega) HB1.out)
  have HD2 := Lib.hid (fun V (h : Chg [] (W.alloc (.cells #[.slice ta ts.length tc, .slice oa os.length oc] 27)) V) => Decode_any (.slice ba bs.length bc) bs V (hB.chg (HCA.out.trans h)) (by omega))
  have hWT : (∀ t ∈ ts.map DT.p, t.W) ∧ ∀ o ∈ os.map DO.p, o.W := by
    refine ⟨fun t ht => ?_, fun t ht => ?_⟩
    · obtain ⟨d, hd, rfl⟩ := List.mem_map.1 ht
      exact (hT.2 d hd).2
    · obtain ⟨d, hd, rfl⟩ := List.mem_map.1 ht
      exact ⟨(hO.2 d hd).1.1, fun x hx => wf_u32 ((hO.2 d hd).1.2.2 x hx)⟩
  have HWT := Lib.hid hWT
  obtain ⟨G, hG⟩ : ∃ G, hasI (ts.map DT.p) (os.map DO.p) = G := ⟨_, rfl⟩
  have HG := Lib.hid hG
  obtain ⟨zs, hzs⟩ : ∃ zs, imageOf (ts.map DT.p) (os.map DO.p) = zs := ⟨_, rfl⟩
  have HZS := Lib.hid hzs
  rw [hG, hzs] at HEN
  obtain ⟨E2, hE2⟩ : ∃ E, decE bs = E := ⟨_, rfl⟩
  rw [hE2] at HD2
  have HE2 := Lib.hid hE2
  have hbl : ¬ (3000 : Int) < (bs.length : Int) := by omega
  clear hT hO hf hff hb hB hG hzs hE2 hWT
  cases G
  · obtain rfl : [] = zs := by rw [← HZS.out]; unfold imageOf; rw [HG.out]; rfl
    have HBZ : Hid (BytesB []) := Lib.hid BytesB.nil
    have HD1 := Lib.hid (fun (v : Value) (V : World) (h : ReadsB V v []) => Decode_any v [] V h (by decide))
    go_enter Try.func4, Try.ntmps4
    go_upto_region 7 with (first | (go_at_call 11; refine HFW.out.mono ?_; rintro e w1 ⟨rfl, hc⟩; have HC1 := Lib.hid hc; have e0 : w1.cell? ⟨W.heap.size, 0, none⟩ = some (.slice ta ts.length tc) := (HBX.out.keep hc (by simp)).cell rfl; have e1 : w1.cell? ⟨W.heap.size, 1, none⟩ = some (.slice oa os.length oc) := (HBX.out.keep hc (by simp)).cell rfl; clear hc) | (go_at_call 12; (with_reducible refine (HEN.out _ HC1.out).mono ?_); rintro e w2 ⟨v2, rfl, ho, hc⟩; (obtain ⟨a2, c2, rfl, -⟩ := reads_slice (Reads.of_own ho (by decide))); have HR2 : Hid (ReadsB w2 (.slice a2 0 c2) []) := Lib.hid (ho.reads HBZ.out); have HC2 := Lib.hid (HC1.out.trans hc); clear ho hc) | (go_at_call 8; (with_reducible refine (HD1.out _ _ HR2.out).mono ?_); rintro e w3 ⟨xa, xc, ya, yc, us, ps, rfl, hok, hdt, hdo, hc⟩; have HOK1 := Lib.hid hok; have HDT := Lib.hid hdt; have HDO := Lib.hid hdo; have HCS := Lib.hid ((HC2.out.trans hc).alloc (.cells #[.slice xa us.length xc, .slice ya ps.length yc] 27)); have e0 := (HBX.out.keep HCS.out (by simp)).cell (o := 0) rfl; have e1 := (HBX.out.keep HCS.out (by simp)).cell (o := 1) rfl; clear hok hdt hdo hc))
    by_cases hf0 : E2 = 0
    · have HF0 : Hid (decE bs = 0) := Lib.hid (by rw [HE2.out]; exact hf0)
      subst hf0
      go_wp2_with (first | (go_at_call 7; refine (img.awake_any _).mono ?_; rintro e wz ⟨rfl, hz⟩; have HZ := Lib.hid hz; clear hz) | (go_at_call 8; refine (HD2.out _ HCS.out).mono ?_; rintro e w5 ⟨za, zc, qa, qc, vs, qs, rfl, hok, hdt, hdo, hc⟩; have HOK2 := Lib.hid hok; have HDV := Lib.hid hdt; have HDQ := Lib.hid hdo; have HCU := Lib.hid ((HCS.out.trans hc).alloc (.cells #[.slice za vs.length zc, .slice qa qs.length qc] 27)); have HBZ2 : Hid (Blk (w5.alloc (.cells #[.slice za vs.length zc, .slice qa qs.length qc] 27)) w5.heap.size #[.slice za vs.length zc, .slice qa qs.length qc] 27) := Lib.hid (Blk.new _ _ _); clear hok hdt hdo hc) | (go_at_call 12; have hbd := dec_bounds HBB.out HOK2.out; (with_reducible refine (Encode_any za zc qa qc vs qs _ (HDV.out.chg ((Chg.refl [] w5).alloc (.cells #[.slice za vs.length zc, .slice qa qs.length qc] 27))) (HDQ.out.chg ((Chg.refl [] w5).alloc (.cells #[.slice za vs.length zc, .slice qa qs.length qc] 27))) hbd.1 hbd.2).mono ?_); rintro e w6 ⟨v6, rfl, ho, hc⟩; (obtain ⟨a6, c6, rfl, -⟩ := reads_slice (Reads.of_own ho (by decide))); have HCV := Lib.hid (HCU.out.trans hc); have HC56 := Lib.hid hc; have HOE := Lib.hid ho; rw [(enc_back HBW.out HOK2.out HF0.out).1]; have z0 := (HBZ2.out.keep hc (by simp)).cell (o := 0) rfl; have z1 := (HBZ2.out.keep hc (by simp)).cell (o := 1) rfl; clear ho hc hbd) | (go_at_call 13; have hie := enc_back HBW.out HOK2.out HF0.out; refine (Bytes_any _ _ _ bs _ (HOE.out.reads (by rw [hie.2]; exact HBW.out)) (HRB.out.chg (HCA.out.trans HCV.out))).mono ?_; rintro e w7 ⟨rfl, rfl⟩; rw [decide_eq_true hie.2]; clear hie))
      go_ret
      exact ⟨rfl, (HCA.out.trans (HCV.out.trans HZ.out)).below⟩
    · have HF0 : Hid (¬ decE bs = 0) := Lib.hid (by rw [HE2.out]; exact hf0)
      have hE1 : (E2 == 0) = false := by simpa using hf0
      have hE2 : (E2 != 0) = true := by simpa using hf0
      clear hf0
      go_wp2_with (first | (go_at_call 7; refine (img.awake_any _).mono ?_; rintro e wz ⟨rfl, hz⟩; have HZ := Lib.hid hz; clear hz) | (go_at_call 8; refine (HD2.out _ HCS.out).mono ?_; rintro e w5 ⟨za, zc, qa, qc, vs, qs, rfl, hok, hdt, hdo, hc⟩; have HOK2 := Lib.hid hok; have HDV := Lib.hid hdt; have HDQ := Lib.hid hdo; have HCU := Lib.hid ((HCS.out.trans hc).alloc (.cells #[.slice za vs.length zc, .slice qa qs.length qc] 27)); have HBZ2 : Hid (Blk (w5.alloc (.cells #[.slice za vs.length zc, .slice qa qs.length qc] 27)) w5.heap.size #[.slice za vs.length zc, .slice qa qs.length qc] 27) := Lib.hid (Blk.new _ _ _); clear hok hdt hdo hc) | (go_at_call 12; have hbd := dec_bounds HBB.out HOK2.out; (with_reducible refine (Encode_any za zc qa qc vs qs _ (HDV.out.chg ((Chg.refl [] w5).alloc (.cells #[.slice za vs.length zc, .slice qa qs.length qc] 27))) (HDQ.out.chg ((Chg.refl [] w5).alloc (.cells #[.slice za vs.length zc, .slice qa qs.length qc] 27))) hbd.1 hbd.2).mono ?_); rintro e w6 ⟨v6, rfl, ho, hc⟩; (obtain ⟨a6, c6, rfl, -⟩ := reads_slice (Reads.of_own ho (by decide))); have HCV := Lib.hid (HCU.out.trans hc); have HC56 := Lib.hid hc; have HOE := Lib.hid ho; have z0 := (HBZ2.out.keep hc (by simp)).cell (o := 0) rfl; have z1 := (HBZ2.out.keep hc (by simp)).cell (o := 1) rfl; clear ho hc hbd) | (go_at_call 10; have hfin := same_nil HOK2.out HF0.out; (with_reducible refine (sys_nil za zc qa qc vs qs _ ((HDV.out.chg ((Chg.refl [] w5).alloc (.cells #[.slice za vs.length zc, .slice qa qs.length qc] 27))).chg HC56.out) ((HDQ.out.chg ((Chg.refl [] w5).alloc (.cells #[.slice za vs.length zc, .slice qa qs.length qc] 27))).chg HC56.out) hfin.2.1 hfin.2.2).mono ?_); rw [hfin.1]; rintro e w7 ⟨rfl, hc⟩; have HCW := Lib.hid (HCV.out.trans hc); clear hc hfin))
      go_ret
      exact ⟨rfl, (HCA.out.trans (HCW.out.trans HZ.out)).below⟩
  have himg : zs = image (ts.map DT.p) (os.map DO.p) := by rw [← HZS.out]; unfold imageOf; rw [HG.out]; rfl
  have hhas := HG.out
  unfold hasI at hhas
  rw [Bool.and_eq_true] at hhas
  have hlen : zs.length ≤ 65536 := by rw [himg]; exact of_decide_eq_true hhas.2
  have HBZ : Hid (BytesB zs) := Lib.hid (by rw [himg]; exact image_wf _ _)
  have hyes := dec_image (of_decide_eq_true hhas.1) HWT.out (of_decide_eq_true hhas.2)
  rw [← himg] at hyes
  have HYES := Lib.hid hyes
  have HD1 := Lib.hid (fun (v : Value) (V : World) (h : ReadsB V v zs) => Decode_any v zs V h hlen)
  rw [hyes.1] at HD1
  clear himg hhas hlen hyes
  go_enter Try.func4, Try.ntmps4
  go_upto_region 7 with (first | (go_at_call 11; refine HFW.out.mono ?_; rintro e w1 ⟨rfl, hc⟩; have HC1 := Lib.hid hc; have e0 : w1.cell? ⟨W.heap.size, 0, none⟩ = some (.slice ta ts.length tc) := (HBX.out.keep hc (by simp)).cell rfl; have e1 : w1.cell? ⟨W.heap.size, 1, none⟩ = some (.slice oa os.length oc) := (HBX.out.keep hc (by simp)).cell rfl; clear hc) | (go_at_call 12; (with_reducible refine (HEN.out _ HC1.out).mono ?_); rintro e w2 ⟨v2, rfl, ho, hc⟩; (obtain ⟨a2, c2, rfl, -⟩ := reads_slice (Reads.of_own ho (by decide))); have HR2 := Lib.hid (ho.reads HBZ.out); have HC2 := Lib.hid (HC1.out.trans hc); clear ho hc) | (go_at_call 8; (with_reducible refine (HD1.out _ _ HR2.out).mono ?_); rintro e w3 ⟨xa, xc, ya, yc, us, ps, rfl, hok, hdt, hdo, hc⟩; have HOK1 := Lib.hid hok; have HDT := Lib.hid hdt; have HDO := Lib.hid hdo; have HCS := Lib.hid ((HC2.out.trans hc).alloc (.cells #[.slice xa us.length xc, .slice ya ps.length yc] 27)); have e0 := (HBX.out.keep HCS.out (by simp)).cell (o := 0) rfl; have e1 := (HBX.out.keep HCS.out (by simp)).cell (o := 1) rfl; clear hok hdt hdo hc) | (go_at_call 10; have hfin := same_yes HOK1.out HYES.out; (with_reducible refine (plSystem_any xa xc ya yc us ps ta tc oa oc ts os _ (HDT.out.chg ((Chg.refl [] w3).alloc (.cells #[.slice xa us.length xc, .slice ya ps.length yc] 27))) (HDO.out.chg ((Chg.refl [] w3).alloc (.cells #[.slice xa us.length xc, .slice ya ps.length yc] 27))) (HTT.out.chg (HCA.out.trans HCS.out)) (HOO.out.chg (HCA.out.trans HCS.out)) ⟨⟨by have := HLN.out; have := hfin.2.1; omega, by have := HLN.out; have := hfin.2.1; omega⟩, HLN.out⟩ hfin.2.2 HB1.out).mono ?_); rw [hfin.1]; rintro e w4 ⟨rfl, hc⟩; have HCT := Lib.hid (HCS.out.trans hc); clear hc hfin))
  by_cases hf0 : E2 = 0
  · have HF0 : Hid (decE bs = 0) := Lib.hid (by rw [HE2.out]; exact hf0)
    subst hf0
    go_wp2_with (first | (go_at_call 7; refine (img.awake_any _).mono ?_; rintro e wz ⟨rfl, hz⟩; have HZ := Lib.hid hz; clear hz) | (go_at_call 8; refine (HD2.out _ HCT.out).mono ?_; rintro e w5 ⟨za, zc, qa, qc, vs, qs, rfl, hok, hdt, hdo, hc⟩; have HOK2 := Lib.hid hok; have HDV := Lib.hid hdt; have HDQ := Lib.hid hdo; have HCU := Lib.hid ((HCT.out.trans hc).alloc (.cells #[.slice za vs.length zc, .slice qa qs.length qc] 27)); have HBZ2 : Hid (Blk (w5.alloc (.cells #[.slice za vs.length zc, .slice qa qs.length qc] 27)) w5.heap.size #[.slice za vs.length zc, .slice qa qs.length qc] 27) := Lib.hid (Blk.new _ _ _); clear hok hdt hdo hc) | (go_at_call 12; have hbd := dec_bounds HBB.out HOK2.out; (with_reducible refine (Encode_any za zc qa qc vs qs _ (HDV.out.chg ((Chg.refl [] w5).alloc (.cells #[.slice za vs.length zc, .slice qa qs.length qc] 27))) (HDQ.out.chg ((Chg.refl [] w5).alloc (.cells #[.slice za vs.length zc, .slice qa qs.length qc] 27))) hbd.1 hbd.2).mono ?_); rintro e w6 ⟨v6, rfl, ho, hc⟩; (obtain ⟨a6, c6, rfl, -⟩ := reads_slice (Reads.of_own ho (by decide))); have HCV := Lib.hid (HCU.out.trans hc); have HC56 := Lib.hid hc; have HOE := Lib.hid ho; rw [(enc_back HBW.out HOK2.out HF0.out).1]; have z0 := (HBZ2.out.keep hc (by simp)).cell (o := 0) rfl; have z1 := (HBZ2.out.keep hc (by simp)).cell (o := 1) rfl; clear ho hc hbd) | (go_at_call 13; have hie := enc_back HBW.out HOK2.out HF0.out; refine (Bytes_any _ _ _ bs _ (HOE.out.reads (by rw [hie.2]; exact HBW.out)) (HRB.out.chg (HCA.out.trans HCV.out))).mono ?_; rintro e w7 ⟨rfl, rfl⟩; rw [decide_eq_true hie.2]; clear hie))
    go_ret
    exact ⟨rfl, (HCA.out.trans (HCV.out.trans HZ.out)).below⟩
  · have HF0 : Hid (¬ decE bs = 0) := Lib.hid (by rw [HE2.out]; exact hf0)
    have hE1 : (E2 == 0) = false := by simpa using hf0
    have hE2 : (E2 != 0) = true := by simpa using hf0
    clear hf0
    go_wp2_with (first | (go_at_call 7; refine (img.awake_any _).mono ?_; rintro e wz ⟨rfl, hz⟩; have HZ := Lib.hid hz; clear hz) | (go_at_call 8; refine (HD2.out _ HCT.out).mono ?_; rintro e w5 ⟨za, zc, qa, qc, vs, qs, rfl, hok, hdt, hdo, hc⟩; have HOK2 := Lib.hid hok; have HDV := Lib.hid hdt; have HDQ := Lib.hid hdo; have HCU := Lib.hid ((HCT.out.trans hc).alloc (.cells #[.slice za vs.length zc, .slice qa qs.length qc] 27)); have HBZ2 : Hid (Blk (w5.alloc (.cells #[.slice za vs.length zc, .slice qa qs.length qc] 27)) w5.heap.size #[.slice za vs.length zc, .slice qa qs.length qc] 27) := Lib.hid (Blk.new _ _ _); clear hok hdt hdo hc) | (go_at_call 12; have hbd := dec_bounds HBB.out HOK2.out; (with_reducible refine (Encode_any za zc qa qc vs qs _ (HDV.out.chg ((Chg.refl [] w5).alloc (.cells #[.slice za vs.length zc, .slice qa qs.length qc] 27))) (HDQ.out.chg ((Chg.refl [] w5).alloc (.cells #[.slice za vs.length zc, .slice qa qs.length qc] 27))) hbd.1 hbd.2).mono ?_); rintro e w6 ⟨v6, rfl, ho, hc⟩; (obtain ⟨a6, c6, rfl, -⟩ := reads_slice (Reads.of_own ho (by decide))); have HCV := Lib.hid (HCU.out.trans hc); have HC56 := Lib.hid hc; have HOE := Lib.hid ho; have z0 := (HBZ2.out.keep hc (by simp)).cell (o := 0) rfl; have z1 := (HBZ2.out.keep hc (by simp)).cell (o := 1) rfl; clear ho hc hbd) | (go_at_call 10; have hfin := same_nil HOK2.out HF0.out; (with_reducible refine (sys_nil za zc qa qc vs qs _ ((HDV.out.chg ((Chg.refl [] w5).alloc (.cells #[.slice za vs.length zc, .slice qa qs.length qc] 27))).chg HC56.out) ((HDQ.out.chg ((Chg.refl [] w5).alloc (.cells #[.slice za vs.length zc, .slice qa qs.length qc] 27))).chg HC56.out) hfin.2.1 hfin.2.2).mono ?_); rw [hfin.1]; rintro e w7 ⟨rfl, hc⟩; have HCW := Lib.hid (HCV.out.trans hc); clear hc hfin))
    go_ret
    exact ⟨rfl, (HCA.out.trans (HCW.out.trans HZ.out)).below⟩
theorem own : ownKnob Try.prog.godebug = none := by kernel_rfl
theorem laidOut : laidOutB Try.prog = true := by kernel_rfl

/-- The walk: the law returns true, and nothing that was there has turned. -/
theorem walk (w : World) (cs0 : Array Value) (hs0 : cs0.size = Try.prog.cellsOf 27) (o0 : kit.Opens Try.prog w 9 27 cs0.toList) (a1 : Option Addr) (len1 cap1 : Nat) (o1 : kit.Opens Try.prog w 9 22 [.slice a1 len1 cap1]) :
    Calls Try.prog 4 #[.agg cs0, .slice a1 len1 cap1] w fun e w' => e = .returned (.bool true) ∧ Below w.heap.size w w' := by
  obtain ⟨a, c, ts, a2, c2, os, hcs, hT, hO, hW⟩ := system_deep (n := 1) o0
  have hcs2 : cs0 = #[.slice a ts.length c, .slice a2 os.length c2] := by apply Array.toList_inj.1; rw [hcs]
  subst hcs2
  obtain ⟨bs, hbl, hrb, hwb⟩ := o1.ints Try.underlying22 Try.underlying5 cells8
  subst hbl
  cases hf : fewS (ts.map DT.t) (os.map DO.o) 60
  · exact many a c a2 c2 ts os a1 cap1 bs w hT hO hf
  · by_cases hb : bs.length ≤ 3000
    · exact some_ a c a2 c2 ts os a1 cap1 bs w hT hO hf hb ⟨hrb, hwb⟩
    · exact long a c a2 c2 ts os a1 cap1 bs w hT hO hf (by omega)

set_option maxRecDepth 100000 in
theorem lifted (os : Os) (started : os.Started) (H : Type) (enc : TypeId × Value → H) :
    ReturnsInHanded {} Try.checked os 4 .any (Rows.imageBackSpec.pre6 enc Try.prog Try.f4 Rows.imageBackRow.domain false) (Rows.imageBackSpec.post enc Try.prog Try.f4 false true false false) := by
  refine returnsInHanded_of_change (C := Try.checked) own started (by kernel_rfl) Try.func4
    (ChangeSpec.witness6 (enc := enc) (C := Try.checked) false ⟨#[], #[.agg #[.slice none 0 0, .slice none 0 0], .slice none 0 0], []⟩ 8 (by kernel_rfl) (by kernel_rfl) (by kernel_rfl) (by kernel_rfl)) ?_
  intro W base args ds gs before hval0 hW hcnd _
  have hval : ∀ (j : Nat) t v, Try.f4.params[j]? = some t → args[j]? = some v → Value.okWide Try.prog W .any base t v := hval0
  have hW' := hW
  obtain ⟨p, q, hA0, hV, rfl, hfz, hnd⟩ := hW
  have hA : DataW.TrodAll enc Try.prog W 0 (fun _ => true) true Try.f4.params.toList args.toList ds p := hA0
  rw [Try.params4] at hA hval
  obtain ⟨v0, vs0, d0, ds0, p0, q0, hargs, rfl, rfl, h0, r0⟩ := trodAll_cons hA
  obtain ⟨v1, vs1, d1, ds1, p1, q1, rfl, rfl, rfl, h1, r1⟩ := trodAll_cons r0
  obtain ⟨rfl, rfl, rfl⟩ := trodAll_nil r1
  obtain rfl : args = #[v0, v1] := by cases args; simp_all
  obtain ⟨rfl, rfl⟩ := trodVars_none hV
  have k0 := h0
  have lt0 : ∀ x ∈ p0, x.block < W.heap.size := by obtain ⟨m, hm⟩ := k0; exact DataW.trod_lt m _ _ _ hm
  have k1 := h1
  have lt1 : ∀ x ∈ p1, x.block < W.heap.size := by obtain ⟨m, hm⟩ := k1; exact DataW.trod_lt m _ _ _ hm
  obtain ⟨cs0, rfl, hs0⟩ := okWide_struct Try.underlying27 (hval 0 27 v0 rfl rfl)
  have o0 : kit.Opens Try.prog W 9 27 cs0.toList := by simpa [Value.cells] using kit.Trod_opens 9 k0
  obtain ⟨a1, len1, cap1, rfl⟩ := okWide_slice Try.underlying22 (hval 1 22 v1 rfl rfl)
  have o1 : kit.Opens Try.prog W 9 22 [.slice a1 len1 cap1] := by simpa [Value.cells] using kit.Trod_opens 9 k1
  clear hA0 hval0
  refine (walk W cs0 hs0 o0 a1 len1 cap1 o1).mono fun e W' ⟨he, bel⟩ => ?_
  subst he
  exact ⟨_, rfl, _, _, _, [], _, [], hW', trodAll_mk1 (shut_bool Try.underlying4 _), (trodAll_cons_mk (Below.trod laidOut (by kernel_rfl) (of_decide_eq_true (by kernel_rfl)) k0 bel lt0) (trodAll_cons_mk (Below.trod laidOut (by kernel_rfl) (of_decide_eq_true (by kernel_rfl)) k1 bel lt1) trodAll_mk0)), rfl, bel.frame _, fun h => by cases h⟩

theorem over : Rows.imageBackRow.holds Try.pinned (OpenSpec.ofChange Rows.imageBackSpec) :=
  OpenClaim.holds_of_wide 4 Try.f4 rfl rfl rfl rfl rfl rfl rfl ⟨rfl, rfl, rfl, rfl, rfl⟩ rfl rfl rfl rfl rfl (by kernel_rfl) Try.func4 (by kernel_rfl)
    (of_decide_eq_true (by kernel_rfl)) (by unfold Func.isWrapper; first | (rw [if_pos (by decide +kernel)]; kernel_rfl) | (rw [if_neg (by decide +kernel)]; exact ⟨rfl, rfl⟩))
    (fun os started H enc _ => lifted os started H enc)

/-- The statement. -/
theorem proved : Rows.ImageBackSaid := over
end Go.Proofs.Ytkmalnojkjmjiaa.imageBack
