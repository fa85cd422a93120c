/-
  coxswainlaw08.IsaBytes returns true for every p and b: any instructions as bytes, any bytes as instructions, or where they are none. No conditions.
-/
import Derived.Test.YtihgljfiggdcpaaRows
import Derived.WalkKit
import Derived.ProofKit
import Derived.OpenShut
import Derived.ShutString
import Derived.ChangeOld
import Derived.Below
import Derived.Test.YtihgljfiggdcpaaOpen
import Derived.Test.YtihgljfiggdcpaaIsaA
namespace Go.Proofs.Ytihgljfiggdcpaa.isaBytes
open Go.ChangeShapes Go.WideShapes Go.ChangeAt Go.RowKit
open Go.ChangeMaps (open_string shut_string)
set_option linter.unusedVariables false
open Go.Proofs.Ytihgljfiggdcpaa.kit Go.Proofs.Ytihgljfiggdcpaa.codec Go.Proofs.Ytihgljfiggdcpaa.isa
set_option maxRecDepth 100000 in
set_option maxHeartbeats 2000000 in
theorem main (v0 v1 : Value) (p : List Ins) (zs : List Int) (w : World) (h0 : ReadsI w v0 p) (h1 : ReadsB w v1 zs) :
    Calls Try.prog 5 #[v0, v1] w fun e w' => e = .returned (.bool true) ∧ Below w.heap.size w w' := by
  obtain ⟨a0, c0, rfl, _⟩ := reads_slice h0.1
  obtain ⟨a1, c1, rfl, _⟩ := reads_slice h1.1
  have H0 := Lib.hid h0
  have H1 := Lib.hid h1
  clear h0 h1
  by_cases hbig : 100 < p.length ∨ 1000 < zs.length
  · generalize hL0 : p.length = L0 at *
    generalize hL1 : zs.length = L1 at *
    clear H0 H1
    rcases Nat.lt_or_ge 100 L0 with h | h
    · go_enter Try.func5, Try.ntmps5
      go_wp2_with (go_at_call 20; refine (awake_any _).mono ?_; rintro e w1 ⟨rfl, hc1⟩)
      go_ret
      exact ⟨rfl, hc1.below⟩
    · have h2 : 1000 < L1 := by omega
      clear hbig
      go_enter Try.func5, Try.ntmps5
      go_wp2_with (go_at_call 20; refine (awake_any _).mono ?_; rintro e w1 ⟨rfl, hc1⟩)
      go_ret
      exact ⟨rfl, hc1.below⟩
  · have hl0 : p.length ≤ 100 := by omega
    have hl1 : zs.length ≤ 1000 := by omega
    clear hbig
    have HL0 := Lib.hid hl0
    have HL1 := Lib.hid hl1
    generalize hL0 : p.length = L0 at *
    generalize hL1 : zs.length = L1 at *
    have HP := Lib.hid hL0
    have HZ := Lib.hid hL1
    clear hL0 hL1
    have ee : ∀ u, Chg [] w u → Calls Try.prog 24 #[.slice a0 L0 c0] u fun e w' => ∃ v', e = .returned (.tuple #[v', .bool (p.all rightI)]) ∧ ReadsB w' v' (encL p (p.all rightI)) ∧ Chg [] u w' := fun u hu => by
      have h := H0.out.chg hu
      have := Encode_any (.slice a0 L0 c0) p u (by have := h.1; rw [HP.out] at this ⊢; exact this) (by rw [HP.out]; have := HL0.out; omega) h.2
      exact this
    have er : ∀ u, Chg [] w u → Calls Try.prog 25 #[.slice a0 L0 c0] u fun e w' => ∃ v', e = .returned (.tuple #[v', .bool (p.all rightI)]) ∧ ReadsB w' v' (encL p (p.all rightI)) ∧ Chg [] u w' := fun u hu => by
      have h := H0.out.chg hu
      exact rEncode_any (.slice a0 L0 c0) p u (by have := h.1; rw [HP.out] at this ⊢; exact this) (by rw [HP.out]; have := HL0.out; omega) h.2
    have de : ∀ u, Chg [] w u → Calls Try.prog 26 #[.slice a1 L1 c1] u fun e w' => ∃ v' out at_ er, DecR zs out at_ er ∧ e = .returned (.tuple #[v', .int .i64 at_, .int .i64 er]) ∧ ReadsI w' v' out ∧ Chg [] u w' := fun u hu => by
      exact Decode_any (.slice a1 L1 c1) zs u (H1.out.chg hu) (by rw [HZ.out]; have := HL1.out; omega)
    have dr : ∀ u, Chg [] w u → Calls Try.prog 27 #[.slice a1 L1 c1] u fun e w' => ∃ v' out at_ er, DecR zs out at_ er ∧ e = .returned (.tuple #[v', .int .i64 at_, .int .i64 er]) ∧ ReadsI w' v' out ∧ Chg [] u w' := fun u hu => by
      exact rDecode_any (.slice a1 L1 c1) zs u (H1.out.chg hu) (by rw [HZ.out]; have := HL1.out; omega)
    have EE := Lib.hid ee
    have ER := Lib.hid er
    have DE := Lib.hid de
    have DR := Lib.hid dr
    clear ee er de dr
    generalize hxx : p.all rightI = okp at *
    generalize hen : encL p okp = bs at *
    clear hxx hen
    go_enter Try.func5, Try.ntmps5
    go_wp2_with fail
    refine (EE.out _ (Chg.refl _ _)).mono ?_
    rintro e w1 ⟨v2, rfl, h2, hc2⟩
    obtain ⟨a2, c2, rfl, _⟩ := reads_slice h2.1
    have H2 := Lib.hid h2
    have HC2 := Lib.hid hc2
    clear h2 hc2
    go_wp2_with fail
    refine (ER.out _ HC2.out).mono ?_
    rintro e w3 ⟨v3, rfl, h3, hc3⟩
    obtain ⟨a3, c3, rfl, _⟩ := reads_slice h3.1
    have H3 := Lib.hid h3
    have HC3 := Lib.hid hc3
    clear h3 hc3
    go_wp2_with fail
    refine (DE.out _ (HC2.out.trans HC3.out)).mono ?_
    rintro e w4 ⟨v4, out4, at4, er4, hd4, rfl, h4, hc4⟩
    obtain ⟨a4, c4, rfl, _⟩ := reads_slice h4.1
    have H4 := Lib.hid h4
    have HC4 := Lib.hid hc4
    have HD4 := Lib.hid hd4
    clear h4 hc4 hd4
    go_wp2_with fail
    refine (DR.out _ ((HC2.out.trans HC3.out).trans HC4.out)).mono ?_
    rintro e w5 ⟨v5, out5, at5, er5, hd5, rfl, h5, hc5⟩
    obtain ⟨a5, c5, rfl, _⟩ := reads_slice h5.1
    obtain ⟨e1, e2, e3⟩ := hd5.same HD4.out
    subst e1 e2 e3
    have H5 := Lib.hid h5
    have HC5 := Lib.hid hc5
    clear h5 hc5 hd5
    have hol : out5.length ≤ 1000 := by
      obtain ⟨k, hk, _, hc⟩ := HD4.out
      have := HZ.out; have := HL1.out
      rcases hc with ⟨_, _, rfl, _⟩ | ⟨_, _, rfl, _⟩ | ⟨_, rfl, _⟩
      · simp
      · simp
      · rw [insN_length]; omega
    have HOL := Lib.hid hol
    clear hol
    go_wp2_with (first | (go_at_call 28; refine (Bytes_any _ _ _ _ _ (H2.out.chg ((HC3.out.trans HC4.out).trans HC5.out)) (H3.out.chg (HC4.out.trans HC5.out))).mono ?_; rintro e w6 ⟨rfl, rfl⟩; rw [decide_eq_true (rfl : bs = bs)]) | (go_at_call 29; refine (Code_any _ _ _ _ _ (H4.out.chg HC5.out) H5.out (by have := HOL.out; omega) (by have := HOL.out; omega)).mono ?_; rintro e w7 ⟨⟨x, hx, rfl⟩, hq7⟩; obtain rfl : x = true := hx.2 rfl; have HQ7 := Lib.hid (quiet_chg hq7); clear hq7 hx) | (go_at_call 20; refine (awake_any _).mono ?_; rintro e w8 ⟨rfl, hc8⟩))
    go_ret
    exact ⟨rfl, ((((((HC2.out.trans HC3.out).trans HC4.out).trans HC5.out).trans HQ7.out).trans hc8).below)⟩
theorem own : ownKnob Try.prog.godebug = none := by kernel_rfl
theorem laidOut : laidOutB Try.prog = true := by kernel_rfl

/-- The walk: the law returns true, and nothing that was there has turned. -/
theorem walk (w : World) (a0 : Option Addr) (len0 cap0 : Nat) (o0 : kit.Opens Try.prog w 9 50 [.slice a0 len0 cap0]) (a1 : Option Addr) (len1 cap1 : Nat) (o1 : kit.Opens Try.prog w 9 51 [.slice a1 len1 cap1]) :
    Calls Try.prog 5 #[.slice a0 len0 cap0, .slice a1 len1 cap1] w fun e w' => e = .returned (.bool true) ∧ Below w.heap.size w w' := by
  set_option maxRecDepth 100000 in
  obtain ⟨p, hpl, h0, _⟩ := ins_of (n := 6) o0
  obtain ⟨zs, hzl, h1⟩ := bytes_of (n := 7) o1
  subst hpl hzl
  exact main _ _ p zs w h0 h1

set_option maxRecDepth 100000 in
theorem lifted (os : Os) (started : os.Started) (H : Type) (enc : TypeId × Value → H) :
    ReturnsInHanded {} Try.checked os 5 .any (Rows.isaBytesSpec.pre6 enc Try.prog Try.f5 Rows.isaBytesRow.domain false) (Rows.isaBytesSpec.post enc Try.prog Try.f5 false true false false) := by
  refine returnsInHanded_of_change (C := Try.checked) own started (by kernel_rfl) Try.func5
    (ChangeSpec.witness6 (enc := enc) (C := Try.checked) false ⟨#[], #[.slice none 0 0, .slice none 0 0], []⟩ 8 (by kernel_rfl) (by kernel_rfl) (by kernel_rfl) (by kernel_rfl)) ?_
  intro W base args ds gs before hval0 hW hcnd _
  have hval : ∀ (j : Nat) t v, Try.f5.params[j]? = some t → args[j]? = some v → Value.okWide Try.prog W .any base t v := hval0
  have hW' := hW
  obtain ⟨p, q, hA0, hV, rfl, hfz, hnd⟩ := hW
  have hA : DataW.TrodAll enc Try.prog W 0 (fun _ => true) true Try.f5.params.toList args.toList ds p := hA0
  rw [Try.params5] at hA hval
  obtain ⟨v0, vs0, d0, ds0, p0, q0, hargs, rfl, rfl, h0, r0⟩ := trodAll_cons hA
  obtain ⟨v1, vs1, d1, ds1, p1, q1, rfl, rfl, rfl, h1, r1⟩ := trodAll_cons r0
  obtain ⟨rfl, rfl, rfl⟩ := trodAll_nil r1
  obtain rfl : args = #[v0, v1] := by cases args; simp_all
  obtain ⟨rfl, rfl⟩ := trodVars_none hV
  have k0 := h0
  have lt0 : ∀ x ∈ p0, x.block < W.heap.size := by obtain ⟨m, hm⟩ := k0; exact DataW.trod_lt m _ _ _ hm
  have k1 := h1
  have lt1 : ∀ x ∈ p1, x.block < W.heap.size := by obtain ⟨m, hm⟩ := k1; exact DataW.trod_lt m _ _ _ hm
  obtain ⟨a0, len0, cap0, rfl⟩ := okWide_slice Try.underlying50 (hval 0 50 v0 rfl rfl)
  have o0 : kit.Opens Try.prog W 9 50 [.slice a0 len0 cap0] := by simpa [Value.cells] using kit.Trod_opens 9 k0
  obtain ⟨a1, len1, cap1, rfl⟩ := okWide_slice Try.underlying51 (hval 1 51 v1 rfl rfl)
  have o1 : kit.Opens Try.prog W 9 51 [.slice a1 len1 cap1] := by simpa [Value.cells] using kit.Trod_opens 9 k1
  clear hA0 hval0
  refine (walk W a0 len0 cap0 o0 a1 len1 cap1 o1).mono fun e W' ⟨he, bel⟩ => ?_
  subst he
  exact ⟨_, rfl, _, _, _, [], _, [], hW', trodAll_mk1 (shut_bool Try.underlying4 _), (trodAll_cons_mk (Below.trod laidOut (by kernel_rfl) (of_decide_eq_true (by kernel_rfl)) k0 bel lt0) (trodAll_cons_mk (Below.trod laidOut (by kernel_rfl) (of_decide_eq_true (by kernel_rfl)) k1 bel lt1) trodAll_mk0)), rfl, bel.frame _, fun h => by cases h⟩

theorem over : Rows.isaBytesRow.holds Try.pinned (OpenSpec.ofChange Rows.isaBytesSpec) :=
  OpenClaim.holds_of_wide 5 Try.f5 rfl rfl rfl rfl rfl rfl rfl ⟨rfl, rfl, rfl, rfl, rfl⟩ rfl rfl rfl rfl rfl (by kernel_rfl) Try.func5 (by kernel_rfl)
    (of_decide_eq_true (by kernel_rfl)) (by unfold Func.isWrapper; first | (rw [if_pos (by decide +kernel)]; kernel_rfl) | (rw [if_neg (by decide +kernel)]; exact ⟨rfl, rfl⟩))
    (fun os started H enc _ => lifted os started H enc)

/-- The statement. -/
theorem proved : Rows.IsaBytesSaid := over
end Go.Proofs.Ytihgljfiggdcpaa.isaBytes
