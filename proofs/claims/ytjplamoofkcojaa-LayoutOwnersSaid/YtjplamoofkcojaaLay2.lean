/- Layouts: slices.IndexFunc of regions, find, Owner. -/
import Derived.Test.YtjplamoofkcojaaLay1
namespace Go.Proofs.Ytjplamoofkcojaa.lay
open Go Go.RowKit Go.Proofs.Ytjplamoofkcojaa.kit Go.Proofs.Ytjplamoofkcojaa.obj Go.Proofs.Ytjplamoofkcojaa.mem
set_option linter.unusedVariables false
set_option linter.unusedSimpArgs false
set_option maxRecDepth 20000

set_option maxHeartbeats 2000000 in
theorem IndexR_any (v : Value) (rs : List (Int × Int)) (at_ : Int) (b : Nat) (W : World) (hr : ReadsR W v rs) (hl : rs.length ≤ 1000) (hb : W.cell? ⟨b, 0, none⟩ = some (.int .i64 at_)) (ha : 0 ≤ at_ ∧ at_ ≤ 9223372036854775807) (hp : ∀ r ∈ rs, 0 ≤ r.1) :
    Calls Try.prog 79 #[v, .func (.func 80) #[] #[.pointer (some ⟨b, 0, none⟩)]] W fun e W' => e = .returned (.int .i64 (firstI (hasB at_) rs)) ∧ Chg [] W W' := by
  obtain ⟨bb, off, hix, hcell, hown⟩ := reads_index (P := Try.prog) Try.underlying51 szReg hr.1
  obtain ⟨va, vc, rfl, _⟩ := reads_slice hr.1
  have HX := Lib.hid hix
  have HC := Lib.hid hcell
  have HRW := Lib.hid hr.2
  have HP := Lib.hid hp
  have HB := Lib.hid hb
  have HA := Lib.hid ha
  have HL := Lib.hid hl
  clear hix hcell hown hr hp hb ha hl
  obtain ⟨R, hR⟩ : ∃ R, firstI (hasB at_) rs = R := ⟨_, rfl⟩
  rw [hR]
  have HR := Lib.hid hR
  clear hR
  go_enter Try.func79, Try.ntmps79
  go_wp2_with fail
  go_loopw [5, 8] (fun _ i wr => ∃ j : Nat, j ≤ rs.length ∧ i = .int .i64 j ∧ Hid (∀ i, i < j → ∀ q, rs[i]? = some q → hasB at_ q = false) ∧ Hid (Chg [] W wr)) (fun _ i _ => rs.length - (intOf i).toNat)
  case atStart => exact ⟨0, Nat.zero_le _, rfl, Lib.hid (fun i hi => by omega), Lib.hid (Chg.refl _ _)⟩
  case round =>
    obtain ⟨j, hj, rfl, HN, HJ⟩ := hrel
    by_cases hlt : j < rs.length
    · have HLT := Lib.hid hlt
      have g1 := HX.out j hlt
      obtain ⟨⟨r0, r1⟩, hrk⟩ : ∃ r, rs[j]? = some r := ⟨_, List.getElem?_eq_getElem hlt⟩
      have q0 := HJ.out.keep (HC.out (j * 2 + 0) _ (by rw [flatMap_get rcells 2 (fun _ => rfl) rs j 0 (by decide) _ hrk]; rfl)) (by simp)
      have q1 := HJ.out.keep (HC.out (j * 2 + 1) _ (by rw [flatMap_get rcells 2 (fun _ => rfl) rs j 1 (by decide) _ hrk]; rfl)) (by simp)
      rw [Nat.add_zero] at q0
      rw [← Nat.add_assoc] at q1
      have HM := Lib.hid (List.mem_of_getElem? hrk)
      have HK := Lib.hid hrk
      have hj1000 : (j : Int) < 1000 := by have := HL.out; omega
      have k8 : IntKind.i64.wrap ((j : Int) + 1) = (j : Int) + 1 := by rw [IntKind.wrap_i64]; omega
      have HF := Lib.hid (has_any (r0, r1) at_ b wr (HJ.out.keep HB.out (by simp)) HA.out ⟨(HRW.out _ HM.out).1, HP.out _ HM.out⟩)
      obtain ⟨p, hp⟩ : ∃ p, hasB at_ (r0, r1) = p := ⟨_, rfl⟩
      rw [hp] at HF
      have HPP := Lib.hid hp
      clear hp hrk hj hlt
      cases p
      · go_wp2_with (go_at_call 80; refine HF.out.mono ?_; rintro e w1 ⟨rfl, hc⟩; have HC1 := Lib.hid (HJ.out.trans hc); clear hc)
        have hltj := HLT.out
        go_roundw
        case rel =>
          refine ⟨j + 1, by omega, by go_num, Lib.hid (fun i hi q hq => ?_), HC1⟩
          by_cases he : i = j
          · subst he
            rw [HK.out] at hq
            cases hq
            exact HPP.out
          · exact HN.out i (by omega) q hq
        case measure => simp [intOf]; omega
      · go_wp2_with (go_at_call 80; refine HF.out.mono ?_; rintro e w1 ⟨rfl, hc⟩; have HC1 := Lib.hid (HJ.out.trans hc); clear hc)
        go_ret
        exact ⟨by rw [← HR.out, firstI_at HK.out HPP.out HN.out]; rfl, HC1.out⟩
    · obtain rfl : rs.length = j := by omega
      clear hlt hj
      go_wp2_with fail
      go_ret
      exact ⟨by rw [← HR.out, firstI_none (fun i q hq => HN.out i (List.getElem?_eq_some_iff.1 hq).1 q hq)]; rfl, HJ.out⟩
set_option maxHeartbeats 1000000 in
theorem find_any (v : Value) (rs : List (Int × Int)) (at_ : Int) (W : World) (hr : ReadsR W v rs) (hl : rs.length ≤ 1000) (ha : 0 ≤ at_ ∧ at_ ≤ 9223372036854775807) (hp : ∀ r ∈ rs, 0 ≤ r.1) :
    Calls Try.prog 53 #[v, .int .i64 at_] W fun e W' => e = .returned (.int .i64 (firstI (hasB at_) rs)) ∧ Chg [] W W' := by
  have hmf : ∀ (fn : Fn) (first cap : Array Value) (w : World), (Instr.makeFunc fn first cap).run Try.prog w = .ok (.func fn first cap) w := fun _ _ _ _ => rfl
  have HC : Hid (Chg [] W (W.alloc (.cells #[.int .i64 at_] 3))) := Lib.hid ((Chg.refl _ _).alloc _)
  have HI := Lib.hid (IndexR_any v rs at_ W.heap.size (W.alloc (.cells #[.int .i64 at_] 3)) (hr.chg HC.out) hl ((Blk.new W _ _).cell rfl) ha hp)
  clear hr hl ha hp
  generalize firstI (hasB at_) rs = R at *
  go_enter Try.func53, Try.ntmps53
  go_wp2_with (go_at_call 79; refine HI.out.mono ?_; rintro e w1 ⟨rfl, hc⟩; have HC1 := Lib.hid (HC.out.trans hc); clear hc)
  go_ret
  exact ⟨rfl, HC1.out⟩
/-- whose a word is -/
def ownerI (at_ : Int) (rs qs : List (Int × Int)) : Int × Int :=
  if at_ < 0 then (-1, -1) else if 0 ≤ firstI (hasB at_) rs then (firstI (hasB at_) rs, -1) else (-1, firstI (hasB at_) qs)
set_option maxHeartbeats 1000000 in
theorem Owner_any (a : Option Addr) (l c : Nat) (a2 : Option Addr) (l2 c2 : Nat) (sz : Int) (rs qs : List (Int × Int)) (at_ : Int) (W : World) (hr : ReadsR W (.slice a l c) rs) (hq : ReadsR W (.slice a2 l2 c2) qs) (hl : rs.length ≤ 1000) (hl2 : qs.length ≤ 1000) (ha : at_ ≤ 9223372036854775807) (hp : ∀ r ∈ rs, 0 ≤ r.1) (hp2 : ∀ r ∈ qs, 0 ≤ r.1) :
    Calls Try.prog 25 #[.agg #[.slice a l c, .slice a2 l2 c2, .int .i64 sz], .int .i64 at_] W fun e W' => e = .returned (.tuple #[.int .i64 (ownerI at_ rs qs).1, .int .i64 (ownerI at_ rs qs).2]) ∧ Chg [] W W' := by
  have HCA : Hid (Chg [] W (W.alloc (.cells #[.slice a l c, .slice a2 l2 c2, .int .i64 sz] 53))) := Lib.hid ((Chg.refl _ _).alloc _)
  by_cases h0 : at_ < 0
  · have hv : ownerI at_ rs qs = (-1, -1) := by unfold ownerI; rw [if_pos h0]
    rw [hv]
    clear hr hq hl hl2 hp hp2
    go_enter Try.func25, Try.ntmps25
    go_wp2_with fail
    go_ret2
    exact ⟨rfl, HCA.out⟩
  · have HF := Lib.hid (fun V (h : Chg [] W V) => find_any (.slice a l c) rs at_ V (hr.chg h) hl ⟨by omega, ha⟩ hp)
    have HG := Lib.hid (fun V (h : Chg [] W V) => find_any (.slice a2 l2 c2) qs at_ V (hq.chg h) hl2 ⟨by omega, ha⟩ hp2)
    have hv : ownerI at_ rs qs = if 0 ≤ firstI (hasB at_) rs then (firstI (hasB at_) rs, -1) else (-1, firstI (hasB at_) qs) := by unfold ownerI; rw [if_neg h0]
    rw [hv]
    clear hr hq hl hl2 hp hp2 hv
    generalize firstI (hasB at_) rs = R at *
    generalize firstI (hasB at_) qs = Q at *
    have HBX : Hid (Blk (W.alloc (.cells #[.slice a l c, .slice a2 l2 c2, .int .i64 sz] 53)) W.heap.size #[.slice a l c, .slice a2 l2 c2, .int .i64 sz] 53) := Lib.hid (Blk.new W _ _)
    by_cases h1 : 0 ≤ R
    · rw [if_pos h1]
      go_enter Try.func25, Try.ntmps25
      go_wp2_with (go_at_call 53; refine (HF.out _ HCA.out).mono ?_; rintro e w1 ⟨rfl, hc⟩; have HC1 := Lib.hid (HCA.out.trans hc); have e1 : w1.cell? ⟨W.heap.size, 1, none⟩ = some (.slice a2 l2 c2) := (HBX.out.keep hc (by simp)).cell rfl; clear hc)
      go_ret2
      exact ⟨rfl, HC1.out⟩
    · rw [if_neg h1]
      go_enter Try.func25, Try.ntmps25
      go_wp2_with (go_at_call 53; first | (refine (HG.out _ HC1.out).mono ?_; rintro e w2 ⟨rfl, hc⟩; have HC2 := Lib.hid (HC1.out.trans hc); clear hc) | (refine (HF.out _ HCA.out).mono ?_; rintro e w1 ⟨rfl, hc⟩; have HC1 := Lib.hid (HCA.out.trans hc); have e1 : w1.cell? ⟨W.heap.size, 1, none⟩ = some (.slice a2 l2 c2) := (HBX.out.keep hc (by simp)).cell rfl; clear hc))
      go_ret2
      exact ⟨rfl, HC2.out⟩
end Go.Proofs.Ytjplamoofkcojaa.lay
