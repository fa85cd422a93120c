/-
  coxswainlaw33.ImageDecodes returns true for every b: the system of any bytes, or why there is none, and where. No conditions.
-/
import Derived.Test.YtkmalnojkjmjiaaRows
import Derived.WalkKit
import Derived.ProofKit
import Derived.OpenShut
import Derived.ShutString
import Derived.ChangeOld
import Derived.Below
import Derived.Test.YtkmalnojkjmjiaaOpen
import Derived.Test.YtkmalnojkjmjiaaImgT
import Derived.Test.YtkmalnojkjmjiaaImgN
namespace Go.Proofs.Ytkmalnojkjmjiaa.imageDecodes
open Go.ChangeShapes Go.WideShapes Go.ChangeAt Go.RowKit
open Go.ChangeMaps (open_string shut_string)
set_option linter.unusedVariables false
open Go.Proofs.Ytkmalnojkjmjiaa.kit Go.Proofs.Ytkmalnojkjmjiaa.obj Go.Proofs.Ytkmalnojkjmjiaa.mem Go.Proofs.Ytkmalnojkjmjiaa.lay Go.Proofs.Ytkmalnojkjmjiaa.codec Go.Proofs.Ytkmalnojkjmjiaa.img
set_option linter.unusedSimpArgs false
set_option linter.unusedVariables false
set_option maxRecDepth 100000
theorem cells8 : Try.prog.cellsOf 5 = 1 := by kernel_rfl
theorem dec_few {zs : List Int} {us : List DT} {ps : List DO} (hw : BytesB zs) (h : DecOk zs us ps) : (us.length ≤ 900 ∧ ps.length ≤ 900) ∧ ((∀ d ∈ us, d.code.length ≤ 1000) ∧ ∀ d ∈ ps, d.ini.length ≤ 1000 ∧ d.rds.length ≤ 1000) := by
  obtain ⟨h1, h2, h3, h4⟩ := h
  have l1 := congrArg List.length h1
  have l2 := congrArg List.length h2
  rw [List.length_map] at l1 l2
  refine ⟨?_, fun d hd => by have := h3 d hd; omega, fun d hd => by have := h4 d hd; omega⟩
  by_cases h0 : decE zs = 0
  · rw [if_pos h0] at l1 l2
    have hi := (dec_inv (fun x hx => wf_u8 (hw x hx)) h0).2.1.1
    unfold fit1 at hi
    omega
  · rw [if_neg h0] at l1 l2
    simp at l1 l2
    simp [l1, l2]
/-- both say the same -/
theorem same_both {zs : List Int} {us vs : List DT} {ps qs : List DO} (hw : BytesB zs) (h : DecOk zs us ps) (k : DecOk zs vs qs) :
    sameS us vs ps qs = true ∧ ((us.length ≤ 900 ∧ ps.length ≤ 900) ∧ vs.length ≤ 900 ∧ qs.length ≤ 900) ∧ ((∀ d ∈ us, d.code.length ≤ 1000) ∧ ∀ d ∈ ps, d.ini.length ≤ 1000 ∧ d.rds.length ≤ 1000) ∧ ((∀ d ∈ vs, d.code.length ≤ 1000) ∧ ∀ d ∈ qs, d.ini.length ≤ 1000 ∧ d.rds.length ≤ 1000) := by
  have f1 := dec_few hw h
  have f2 := dec_few hw k
  refine ⟨?_, ⟨f1.1, f2.1⟩, f1.2, f2.2⟩
  unfold sameS
  rw [decide_eq_true (h.1.trans k.1.symm), decide_eq_true (h.2.1.trans k.2.1.symm)]; rfl
set_option maxHeartbeats 8000000 in
theorem long (ba : Option Addr) (bc : Nat) (bs : List Int) (W : World) (hb : 3000 < bs.length) :
    Calls Try.prog 3 #[(.slice ba bs.length bc)] W fun e W' => e = .returned (.bool true) ∧ Below W.heap.size W W' := by
  have hb2 : (3000 : Int) < (bs.length : Int) := by omega
  clear hb
  go_enter Try.func3, Try.ntmps3
  go_wp2_with (go_at_call 7; refine (img.awake_any _).mono ?_; rintro e wz ⟨rfl, hz⟩; have HZ := Lib.hid hz; clear hz)
  go_ret
  exact ⟨rfl, HZ.out.below⟩
set_option maxHeartbeats 8000000 in
theorem short (ba : Option Addr) (bc : Nat) (bs : List Int) (W : World) (hb : bs.length ≤ 3000) (hB : ReadsB W (.slice ba bs.length bc) bs) :
    Calls Try.prog 3 #[(.slice ba bs.length bc)] W fun e W' => e = .returned (.bool true) ∧ Below W.heap.size W W' := by
  have HRB := Lib.hid hB
  have HWB : Hid (BytesB bs) := Lib.hid hB.2
  have HLE : Hid (bs.length ≤ 65536) := Lib.hid (by omega)
  have hbl : ¬ (3000 : Int) < (bs.length : Int) := by omega
  clear hb hB
  go_enter Try.func3, Try.ntmps3
  go_wp2_with (first | (go_at_call 7; refine (img.awake_any _).mono ?_; rintro e wz ⟨rfl, hz⟩; have HZ := Lib.hid hz; clear hz) | (go_at_call 8; (with_reducible refine (Decode_any (.slice ba bs.length bc) bs _ HRB.out HLE.out).mono ?_); rintro e w3 ⟨xa, xc, ya, yc, us, ps, rfl, hok, hdt, hdo, hc⟩; have HOK1 := Lib.hid hok; have HDT := Lib.hid hdt; have HDO := Lib.hid hdo; have HCS := Lib.hid (hc.alloc (.cells #[.slice xa us.length xc, .slice ya ps.length yc] 27)); have HRB2 := Lib.hid (HRB.out.chg HCS.out); have HBY := Lib.hid (Blk.new w3 #[.slice xa us.length xc, .slice ya ps.length yc] 27); clear hok hdt hdo hc) | (go_at_call 9; (with_reducible refine (rDecode_any (.slice ba bs.length bc) bs _ HRB2.out HLE.out).mono ?_); rintro e w5 ⟨za, zc, qa, qc, vs, qs, rfl, hok, hdt, hdo, hc⟩; have HOK2 := Lib.hid hok; have HDV := Lib.hid hdt; have HDQ := Lib.hid hdo; have HCU := Lib.hid (hc.alloc (.cells #[.slice za vs.length zc, .slice qa qs.length qc] 27)); have e0 := (HBY.out.keep HCU.out (by simp)).cell (o := 0) rfl; have e1 := (HBY.out.keep HCU.out (by simp)).cell (o := 1) rfl; clear hok hdt hdo hc) | (go_at_call 10; have hfin := same_both HWB.out HOK1.out HOK2.out; (with_reducible refine (plSystem_any xa xc ya yc us ps za zc qa qc vs qs _ (HDT.out.chg (((Chg.refl [] w3).alloc (.cells #[.slice xa us.length xc, .slice ya ps.length yc] 27)).trans HCU.out)) (HDO.out.chg (((Chg.refl [] w3).alloc (.cells #[.slice xa us.length xc, .slice ya ps.length yc] 27)).trans HCU.out)) (HDV.out.chg ((Chg.refl [] w5).alloc (.cells #[.slice za vs.length zc, .slice qa qs.length qc] 27))) (HDQ.out.chg ((Chg.refl [] w5).alloc (.cells #[.slice za vs.length zc, .slice qa qs.length qc] 27))) hfin.2.1 hfin.2.2.1 hfin.2.2.2).mono ?_); rw [hfin.1]; rintro e w7 ⟨rfl, hc⟩; have HCW := Lib.hid (HCU.out.trans hc); clear hc hfin))
  go_ret
  exact ⟨rfl, (HCS.out.trans (HCW.out.trans HZ.out)).below⟩
theorem own : ownKnob Try.prog.godebug = none := by kernel_rfl
theorem laidOut : laidOutB Try.prog = true := by kernel_rfl

/-- The walk: the law returns true, and nothing that was there has turned. -/
theorem walk (w : World) (a0 : Option Addr) (len0 cap0 : Nat) (o0 : kit.Opens Try.prog w 9 22 [.slice a0 len0 cap0]) :
    Calls Try.prog 3 #[.slice a0 len0 cap0] w fun e w' => e = .returned (.bool true) ∧ Below w.heap.size w w' := by
  obtain ⟨bs, hbl, hrb, hwb⟩ := o0.ints Try.underlying22 Try.underlying5 cells8
  subst hbl
  by_cases hb : bs.length ≤ 3000
  · exact short a0 cap0 bs w hb ⟨hrb, hwb⟩
  · exact long a0 cap0 bs w (by omega)

set_option maxRecDepth 100000 in
theorem lifted (os : Os) (started : os.Started) (H : Type) (enc : TypeId × Value → H) :
    ReturnsInHanded {} Try.checked os 3 .any (Rows.imageDecodesSpec.pre6 enc Try.prog Try.f3 Rows.imageDecodesRow.domain false) (Rows.imageDecodesSpec.post enc Try.prog Try.f3 false true false false) := by
  refine returnsInHanded_of_change (C := Try.checked) own started (by kernel_rfl) Try.func3
    (ChangeSpec.witness6 (enc := enc) (C := Try.checked) false ⟨#[], #[.slice none 0 0], []⟩ 8 (by kernel_rfl) (by kernel_rfl) (by kernel_rfl) (by kernel_rfl)) ?_
  intro W base args ds gs before hval0 hW hcnd _
  have hval : ∀ (j : Nat) t v, Try.f3.params[j]? = some t → args[j]? = some v → Value.okWide Try.prog W .any base t v := hval0
  have hW' := hW
  obtain ⟨p, q, hA0, hV, rfl, hfz, hnd⟩ := hW
  have hA : DataW.TrodAll enc Try.prog W 0 (fun _ => true) true Try.f3.params.toList args.toList ds p := hA0
  rw [Try.params3] at hA hval
  obtain ⟨v0, vs0, d0, ds0, p0, q0, hargs, rfl, rfl, h0, r0⟩ := trodAll_cons hA
  obtain ⟨rfl, rfl, rfl⟩ := trodAll_nil r0
  obtain rfl : args = #[v0] := by cases args; simp_all
  obtain ⟨rfl, rfl⟩ := trodVars_none hV
  have k0 := h0
  have lt0 : ∀ x ∈ p0, x.block < W.heap.size := by obtain ⟨m, hm⟩ := k0; exact DataW.trod_lt m _ _ _ hm
  obtain ⟨a0, len0, cap0, rfl⟩ := okWide_slice Try.underlying22 (hval 0 22 v0 rfl rfl)
  have o0 : kit.Opens Try.prog W 9 22 [.slice a0 len0 cap0] := by simpa [Value.cells] using kit.Trod_opens 9 k0
  clear hA0 hval0
  refine (walk W a0 len0 cap0 o0).mono fun e W' ⟨he, bel⟩ => ?_
  subst he
  exact ⟨_, rfl, _, _, _, [], _, [], hW', trodAll_mk1 (shut_bool Try.underlying4 _), (trodAll_cons_mk (Below.trod laidOut (by kernel_rfl) (of_decide_eq_true (by kernel_rfl)) k0 bel lt0) trodAll_mk0), rfl, bel.frame _, fun h => by cases h⟩

theorem over : Rows.imageDecodesRow.holds Try.pinned (OpenSpec.ofChange Rows.imageDecodesSpec) :=
  OpenClaim.holds_of_wide 3 Try.f3 rfl rfl rfl rfl rfl rfl rfl ⟨rfl, rfl, rfl, rfl, rfl⟩ rfl rfl rfl rfl rfl (by kernel_rfl) Try.func3 (by kernel_rfl)
    (of_decide_eq_true (by kernel_rfl)) (by unfold Func.isWrapper; first | (rw [if_pos (by decide +kernel)]; kernel_rfl) | (rw [if_neg (by decide +kernel)]; exact ⟨rfl, rfl⟩))
    (fun os started H enc _ => lifted os started H enc)

/-- The statement. -/
theorem proved : Rows.ImageDecodesSaid := over
end Go.Proofs.Ytkmalnojkjmjiaa.imageDecodes
