/-
  coxswainlaw08.IsaBack returns true for every p and b: right instructions come back from their bytes, and bytes that are instructions' from these. No conditions.
-/
import Derived.Test.YtihgljfiggdcpaaRows
import Derived.WalkKit
import Derived.ProofKit
import Derived.OpenShut
import Derived.ShutString
import Derived.ChangeOld
import Derived.Below
import Derived.Test.YtihgljfiggdcpaaOpen
import Derived.Test.YtihgljfiggdcpaaIsaB
namespace Go.Proofs.Ytihgljfiggdcpaa.isaBack
open Go.ChangeShapes Go.WideShapes Go.ChangeAt Go.RowKit
open Go.ChangeMaps (open_string shut_string)
set_option linter.unusedVariables false
open Go.Proofs.Ytihgljfiggdcpaa.kit Go.Proofs.Ytihgljfiggdcpaa.codec Go.Proofs.Ytihgljfiggdcpaa.isa
theorem encL_all (p : List Ins) (okp : Bool) (h : p.all rightI = okp) (hw : insW p) : (∀ out at_ er, DecR (encL p okp) out at_ er → okp = true → out = p ∧ er = 0) ∧ (okp = false → encL p okp = []) ∧ (encL p okp).length ≤ 8 * p.length := by
  refine ⟨fun out at_ er hd ho => ?_, fun ho => by simp [encL, ho], ?_⟩
  · subst ho
    exact back_ins p hw h out at_ er (by simpa [encL] using hd)
  · unfold encL; split
    · rw [insB_le]; exact Nat.le_refl _
    · simp
set_option maxRecDepth 100000 in
set_option maxHeartbeats 4000000 in
theorem main (v0 v1 : Value) (p : List Ins) (zs : List Int) (w : World) (h0 : ReadsI w v0 p) (h1 : ReadsB w v1 zs) :
    Calls Try.prog 6 #[v0, v1] w fun e w' => e = .returned (.bool true) ∧ Below w.heap.size w w' := by
  have hh0 := h0
  obtain ⟨bb, off, hix, hcell, _⟩ := reads_index (P := Try.prog) Try.underlying50 szI h0.1
  obtain ⟨a0, c0, rfl, _⟩ := reads_slice h0.1
  obtain ⟨a1, c1, rfl, _⟩ := reads_slice h1.1
  have H0 := Lib.hid h0
  have H1 := Lib.hid h1
  have HX := Lib.hid hix
  have HC := Lib.hid hcell
  have HW := Lib.hid h0.2
  clear h0 h1 hix hcell hh0
  by_cases hbig : 100 < p.length ∨ 1000 < zs.length
  · generalize hL0 : p.length = L0 at *
    generalize hL1 : zs.length = L1 at *
    clear H0 H1 HX HC HW
    rcases Nat.lt_or_ge 100 L0 with h | h
    · go_enter Try.func6, Try.ntmps6
      go_wp2_with (go_at_call 20; refine (awake_any _).mono ?_; rintro e w1 ⟨rfl, hc1⟩)
      go_ret
      exact ⟨rfl, hc1.below⟩
    · have h2 : 1000 < L1 := by omega
      clear hbig
      go_enter Try.func6, Try.ntmps6
      go_wp2_with (go_at_call 20; refine (awake_any _).mono ?_; rintro e w1 ⟨rfl, hc1⟩)
      go_ret
      exact ⟨rfl, hc1.below⟩
  · have hl0 : p.length ≤ 100 := by omega
    have hl1 : zs.length ≤ 1000 := by omega
    clear hbig
    have HL0 := Lib.hid hl0
    have HL1 := Lib.hid hl1
    generalize hL0 : p.length = L0 at *
    generalize hL1 : zs.length = L1 at *
    have HP := Lib.hid hL0
    have HZ := Lib.hid hL1
    clear hL0 hL1
    have ee : ∀ u, Chg [] w u → Calls Try.prog 24 #[.slice a0 L0 c0] u fun e w' => ∃ v', e = .returned (.tuple #[v', .bool (p.all rightI)]) ∧ ReadsB w' v' (encL p (p.all rightI)) ∧ Chg [] u w' := fun u hu => by
      have h := H0.out.chg hu
      have := Encode_any (.slice a0 L0 c0) p u (by have := h.1; rw [HP.out] at this ⊢; exact this) (by rw [HP.out]; have := HL0.out; omega) h.2
      exact this
    have EE := Lib.hid ee
    have H0R : ∀ u, Chg [] w u → ReadsI u (.slice a0 L0 c0) p := fun u hu => H0.out.chg hu
    have H0R := Lib.hid H0R
    clear ee
    have hra : ∃ b, p.all rightI = b := ⟨_, rfl⟩
    obtain ⟨okp, hokp⟩ := hra
    rw [hokp] at EE
    have hpl := encL_all p okp hokp HW.out
    rw [HP.out] at hpl
    have HPL := Lib.hid hpl
    have HOK := Lib.hid hokp
    clear hpl hokp
    generalize hen : encL p okp = bs at *
    clear hen
    go_enter Try.func6, Try.ntmps6
    go_wp2_with fail
    go_loopw [5, 29] (fun r i wr => ∃ k : Nat, k ≤ L0 ∧ i = .int .i64 k ∧ r = .bool ((p.take k).all rightI) ∧ Hid (Chg [] w wr)) (fun _ i _ => L0 - (intOf i).toNat)
    case atStart => exact ⟨0, Nat.zero_le _, rfl, by simp, Lib.hid (Chg.refl _ _)⟩
    case round =>
      obtain ⟨k, hk, rfl, rfl, HG⟩ := hrel
      by_cases hlt : k < L0
      · have g1 := HX.out k hlt
        obtain ⟨⟨op, a, b, c, n⟩, hik⟩ : ∃ i, p[k]? = some i := ⟨_, List.getElem?_eq_getElem (by rw [HP.out]; exact hlt)⟩
        have q0 := HG.out.keep (HC.out (k * 5 + 0) _ (by rw [flatMap_get Ins.cells 5 (fun _ => rfl) p k 0 (by decide) _ hik]; rfl)) (by simp)
        have q1 := HG.out.keep (HC.out (k * 5 + 1) _ (by rw [flatMap_get Ins.cells 5 (fun _ => rfl) p k 1 (by decide) _ hik]; rfl)) (by simp)
        have q2 := HG.out.keep (HC.out (k * 5 + 2) _ (by rw [flatMap_get Ins.cells 5 (fun _ => rfl) p k 2 (by decide) _ hik]; rfl)) (by simp)
        have q3 := HG.out.keep (HC.out (k * 5 + 3) _ (by rw [flatMap_get Ins.cells 5 (fun _ => rfl) p k 3 (by decide) _ hik]; rfl)) (by simp)
        have q4 := HG.out.keep (HC.out (k * 5 + 4) _ (by rw [flatMap_get Ins.cells 5 (fun _ => rfl) p k 4 (by decide) _ hik]; rfl)) (by simp)
        rw [Nat.add_zero] at q0
        rw [← Nat.add_assoc] at q1 q2 q3 q4
        have hn : (Lit.int .u32 n).wf = true := HW.out ⟨op, a, b, c, n⟩ (List.mem_of_getElem? hik)
        have HN2 := Lib.hid hn
        have hs := take_succ_all rightI p k _ hik
        have HS := Lib.hid hs
        have hk100 : k < 100 := by have := HL0.out; omega
        clear hn hik hs
        generalize hg : rightI ⟨op, a, b, c, n⟩ = g at *
        have HG1 := Lib.hid hg
        clear hg
        generalize (p.take k).all rightI = was at *
        cases was
        · go_wp2_with fail
          go_roundw
          case rel => exact ⟨k + 1, by omega, by go_num, by rw [HS.out]; rfl, Lib.hid (HG.out.alloc _)⟩
          case measure => simp [intOf]; omega
        · go_wp2_with (go_at_call 30; refine (Right_any op a b c n HN2.out _).mono ?_; rintro e w1 ⟨rfl, hc1⟩; rw [HG1.out]; have HK1 := Lib.hid hc1; clear hc1)
          go_roundw
          case rel => exact ⟨k + 1, by omega, by go_num, by rw [HS.out]; rfl, Lib.hid ((HG.out.alloc _).trans HK1.out)⟩
          case measure => simp [intOf]; omega
      · obtain rfl : k = L0 := by omega
        rw [show (p.take k).all rightI = okp by rw [List.take_of_length_le (by rw [HP.out]; exact Nat.le_refl _)]; exact HOK.out]
        go_wp2_with fail
        refine (EE.out _ HG.out).mono ?_
        rintro e w1 ⟨v2, rfl, h2, hc2⟩
        have hb2 : bs.length ≤ 800 := by have := HPL.out.2.2; have := HL0.out; omega
        obtain ⟨a2, c2, rfl, _⟩ := reads_slice h2.1
        have H2 := Lib.hid h2
        have HC2 := Lib.hid (HG.out.trans hc2)
        have HB2 := Lib.hid hb2
        clear h2 hc2 hb2
        go_wp2_with fail
        refine (Decode_any _ bs _ H2.out (by have := HB2.out; omega)).mono ?_
        rintro e w3 ⟨v3, out3, at3, er3, hd3, rfl, h3, hc3⟩
        obtain ⟨a3, c3, rfl, _⟩ := reads_slice h3.1
        have hl3 := hd3.le
        have H3 := Lib.hid h3
        have HC3 := Lib.hid (HC2.out.trans hc3)
        have HL3 := Lib.hid (show out3.length ≤ 2000 by have := HB2.out; omega)
        have hb1 := HPL.out.1 _ _ _ hd3
        have hb3 := HPL.out.2.1
        clear h3 hc3 hl3 hd3
        cases okp
        · obtain rfl := hb3 rfl
          clear hb1 hb3
          have HW2 := HC3
          go_wp2_with fail
          refine (Decode_any _ zs _ (H1.out.chg HW2.out) (by rw [HZ.out]; have := HL1.out; omega)).mono ?_
          rintro e w4 ⟨v4, out4, at4, er4, hd4, rfl, h4, hc4⟩
          obtain ⟨a4, c4, rfl, _⟩ := reads_slice h4.1
          have hbk := back_bytes zs H1.out.2 _ _ _ hd4
          have hl4 : out4.length ≤ 1000 := by have := hd4.le; have := HZ.out; have := HL1.out; omega
          have H4 := Lib.hid h4
          have HC4 := Lib.hid (HW2.out.trans hc4)
          have HL4 := Lib.hid hl4
          clear h4 hc4 hd4 hl4
          go_wp2_with fail
          refine (Encode_any _ out4 _ H4.out.1 HL4.out H4.out.2).mono ?_
          rintro e w5 ⟨v5, rfl, h5, hc5⟩
          obtain ⟨a5, c5, rfl, _⟩ := reads_slice h5.1
          have HC5 := Lib.hid (HC4.out.trans hc5)
          have HK5 := Lib.hid hc5
          rcases hbk with ⟨h42, rfl⟩ | ⟨rfl, hr4, hf4⟩
          · clear h5 hc5
            rcases h42 with rfl | rfl
            · go_wp2_with (go_at_call 20; refine (awake_any _).mono ?_; rintro e w8 ⟨rfl, hc8⟩)
              go_ret
              exact ⟨rfl, (HC5.out.trans hc8).below⟩
            · go_wp2_with (go_at_call 20; refine (awake_any _).mono ?_; rintro e w8 ⟨rfl, hc8⟩)
              go_ret
              exact ⟨rfl, (HC5.out.trans hc8).below⟩
          · rw [hr4] at h5 ⊢
            have hz5 : encL out4 true = zs := by simpa [encL] using hf4
            rw [hz5] at h5 ⊢
            have H5 := Lib.hid h5
            clear h5 hc5 hz5 hr4 hf4
            have HZZ := Lib.hid (rfl : zs = zs)
            go_wp2_with (first | (go_at_call 28; refine (Bytes_any _ _ _ _ _ H5.out (H1.out.chg HC5.out)).mono ?_; rintro e w6 ⟨rfl, rfl⟩; rw [decide_eq_true (rfl : zs = zs)]) | (go_at_call 20; refine (awake_any _).mono ?_; rintro e w8 ⟨rfl, hc8⟩))
            go_ret
            exact ⟨rfl, (HC5.out.trans hc8).below⟩
        · obtain ⟨rfl, rfl⟩ := hb1 rfl
          clear hb3 hb1
          go_wp2_with (go_at_call 29; refine (Code_any _ _ _ _ _ H3.out (H0R.out _ HC3.out) HL3.out HL3.out).mono ?_; rintro e w7 ⟨⟨x, hx, rfl⟩, hq7⟩; obtain rfl : x = true := hx.2 rfl; have HW2 := Lib.hid (HC3.out.trans (quiet_chg hq7)); clear hq7 hx)
          refine (Decode_any _ zs _ (H1.out.chg HW2.out) (by rw [HZ.out]; have := HL1.out; omega)).mono ?_
          rintro e w4 ⟨v4, out4, at4, er4, hd4, rfl, h4, hc4⟩
          obtain ⟨a4, c4, rfl, _⟩ := reads_slice h4.1
          have hbk := back_bytes zs H1.out.2 _ _ _ hd4
          have hl4 : out4.length ≤ 1000 := by have := hd4.le; have := HZ.out; have := HL1.out; omega
          have H4 := Lib.hid h4
          have HC4 := Lib.hid (HW2.out.trans hc4)
          have HL4 := Lib.hid hl4
          clear h4 hc4 hd4 hl4
          go_wp2_with fail
          refine (Encode_any _ out4 _ H4.out.1 HL4.out H4.out.2).mono ?_
          rintro e w5 ⟨v5, rfl, h5, hc5⟩
          obtain ⟨a5, c5, rfl, _⟩ := reads_slice h5.1
          have HC5 := Lib.hid (HC4.out.trans hc5)
          have HK5 := Lib.hid hc5
          rcases hbk with ⟨h42, rfl⟩ | ⟨rfl, hr4, hf4⟩
          · clear h5 hc5
            rcases h42 with rfl | rfl
            · go_wp2_with (go_at_call 20; refine (awake_any _).mono ?_; rintro e w8 ⟨rfl, hc8⟩)
              go_ret
              exact ⟨rfl, (HC5.out.trans hc8).below⟩
            · go_wp2_with (go_at_call 20; refine (awake_any _).mono ?_; rintro e w8 ⟨rfl, hc8⟩)
              go_ret
              exact ⟨rfl, (HC5.out.trans hc8).below⟩
          · rw [hr4] at h5 ⊢
            have hz5 : encL out4 true = zs := by simpa [encL] using hf4
            rw [hz5] at h5 ⊢
            have H5 := Lib.hid h5
            clear h5 hc5 hz5 hr4 hf4
            have HZZ := Lib.hid (rfl : zs = zs)
            go_wp2_with (first | (go_at_call 28; refine (Bytes_any _ _ _ _ _ H5.out (H1.out.chg HC5.out)).mono ?_; rintro e w6 ⟨rfl, rfl⟩; rw [decide_eq_true (rfl : zs = zs)]) | (go_at_call 20; refine (awake_any _).mono ?_; rintro e w8 ⟨rfl, hc8⟩))
            go_ret
            exact ⟨rfl, (HC5.out.trans hc8).below⟩
theorem own : ownKnob Try.prog.godebug = none := by kernel_rfl
theorem laidOut : laidOutB Try.prog = true := by kernel_rfl

/-- The walk: the law returns true, and nothing that was there has turned. -/
theorem walk (w : World) (a0 : Option Addr) (len0 cap0 : Nat) (o0 : kit.Opens Try.prog w 9 50 [.slice a0 len0 cap0]) (a1 : Option Addr) (len1 cap1 : Nat) (o1 : kit.Opens Try.prog w 9 51 [.slice a1 len1 cap1]) :
    Calls Try.prog 6 #[.slice a0 len0 cap0, .slice a1 len1 cap1] w fun e w' => e = .returned (.bool true) ∧ Below w.heap.size w w' := by
  set_option maxRecDepth 100000 in
  obtain ⟨p, hpl, h0, _⟩ := ins_of (n := 6) o0
  obtain ⟨zs, hzl, h1⟩ := bytes_of (n := 7) o1
  subst hpl hzl
  exact main _ _ p zs w h0 h1

set_option maxRecDepth 100000 in
theorem lifted (os : Os) (started : os.Started) (H : Type) (enc : TypeId × Value → H) :
    ReturnsInHanded {} Try.checked os 6 .any (Rows.isaBackSpec.pre6 enc Try.prog Try.f6 Rows.isaBackRow.domain false) (Rows.isaBackSpec.post enc Try.prog Try.f6 false true false false) := by
  refine returnsInHanded_of_change (C := Try.checked) own started (by kernel_rfl) Try.func6
    (ChangeSpec.witness6 (enc := enc) (C := Try.checked) false ⟨#[], #[.slice none 0 0, .slice none 0 0], []⟩ 8 (by kernel_rfl) (by kernel_rfl) (by kernel_rfl) (by kernel_rfl)) ?_
  intro W base args ds gs before hval0 hW hcnd _
  have hval : ∀ (j : Nat) t v, Try.f6.params[j]? = some t → args[j]? = some v → Value.okWide Try.prog W .any base t v := hval0
  have hW' := hW
  obtain ⟨p, q, hA0, hV, rfl, hfz, hnd⟩ := hW
  have hA : DataW.TrodAll enc Try.prog W 0 (fun _ => true) true Try.f6.params.toList args.toList ds p := hA0
  rw [Try.params6] at hA hval
  obtain ⟨v0, vs0, d0, ds0, p0, q0, hargs, rfl, rfl, h0, r0⟩ := trodAll_cons hA
  obtain ⟨v1, vs1, d1, ds1, p1, q1, rfl, rfl, rfl, h1, r1⟩ := trodAll_cons r0
  obtain ⟨rfl, rfl, rfl⟩ := trodAll_nil r1
  obtain rfl : args = #[v0, v1] := by cases args; simp_all
  obtain ⟨rfl, rfl⟩ := trodVars_none hV
  have k0 := h0
  have lt0 : ∀ x ∈ p0, x.block < W.heap.size := by obtain ⟨m, hm⟩ := k0; exact DataW.trod_lt m _ _ _ hm
  have k1 := h1
  have lt1 : ∀ x ∈ p1, x.block < W.heap.size := by obtain ⟨m, hm⟩ := k1; exact DataW.trod_lt m _ _ _ hm
  obtain ⟨a0, len0, cap0, rfl⟩ := okWide_slice Try.underlying50 (hval 0 50 v0 rfl rfl)
  have o0 : kit.Opens Try.prog W 9 50 [.slice a0 len0 cap0] := by simpa [Value.cells] using kit.Trod_opens 9 k0
  obtain ⟨a1, len1, cap1, rfl⟩ := okWide_slice Try.underlying51 (hval 1 51 v1 rfl rfl)
  have o1 : kit.Opens Try.prog W 9 51 [.slice a1 len1 cap1] := by simpa [Value.cells] using kit.Trod_opens 9 k1
  clear hA0 hval0
  refine (walk W a0 len0 cap0 o0 a1 len1 cap1 o1).mono fun e W' ⟨he, bel⟩ => ?_
  subst he
  exact ⟨_, rfl, _, _, _, [], _, [], hW', trodAll_mk1 (shut_bool Try.underlying4 _), (trodAll_cons_mk (Below.trod laidOut (by kernel_rfl) (of_decide_eq_true (by kernel_rfl)) k0 bel lt0) (trodAll_cons_mk (Below.trod laidOut (by kernel_rfl) (of_decide_eq_true (by kernel_rfl)) k1 bel lt1) trodAll_mk0)), rfl, bel.frame _, fun h => by cases h⟩

theorem over : Rows.isaBackRow.holds Try.pinned (OpenSpec.ofChange Rows.isaBackSpec) :=
  OpenClaim.holds_of_wide 6 Try.f6 rfl rfl rfl rfl rfl rfl rfl ⟨rfl, rfl, rfl, rfl, rfl⟩ rfl rfl rfl rfl rfl (by kernel_rfl) Try.func6 (by kernel_rfl)
    (of_decide_eq_true (by kernel_rfl)) (by unfold Func.isWrapper; first | (rw [if_pos (by decide +kernel)]; kernel_rfl) | (rw [if_neg (by decide +kernel)]; exact ⟨rfl, rfl⟩))
    (fun os started H enc _ => lifted os started H enc)

/-- The statement. -/
theorem proved : Rows.IsaBackSaid := over
end Go.Proofs.Ytihgljfiggdcpaa.isaBack
