/-
  coxswainlaw42.ScriptTells returns true for every l and t: how many ticks go by in any acts, what is asked for, and when, and whether they are right. No conditions.
-/
import Derived.Test.YtldbaommeflooaaDoorRows
import Derived.WalkKit
import Derived.ProofKit
import Derived.OpenShut
import Derived.ShutString
import Derived.ChangeOld
import Derived.Below
import Derived.Test.YtldbaommeflooaaDoorOpen
import Derived.Test.YtldbaommeflooaaDoorScrT
import Derived.Test.YtldbaommeflooaaDoorCards
import Derived.Test.YtldbaommeflooaaDoorTie
import Derived.SevenTiedAt
import Derived.Stop.Joined
import Derived.Test.YtldbaommeflooaaDoorScrU
namespace Go.Proofs.YtldbaommeflooaaDoor.scriptTells
open Go.ChangeShapes Go.WideShapes Go.ChangeAt Go.RowKit
open Go.ChangeMaps (open_string shut_string)
set_option linter.unusedVariables false
open Go.Proofs.YtldbaommeflooaaDoor.kit Go.Proofs.YtldbaommeflooaaDoor.scr
set_option linter.unusedSimpArgs false
set_option maxRecDepth 100000
set_option maxHeartbeats 4000000 in
theorem big (a0 : Option Addr) (l c : Nat) (t : Int) (hl : 1100 < l) (W : World) (hT : TabS W) :
    Calls Tryd.prog 3 #[.slice a0 l c, .int .i64 t] W fun e W' => e = .returned (.bool true) ∧ Below W.heap.size W W' := by
  have m1 : (1100 : Int) < (l : Int) := by omega
  have HT := Lib.hid hT
  clear hT hl
  go_enter Tryd.func3, Tryd.ntmps3
  go_wp2_with (go_at_call 7; refine (awake_any _ HT.out).mono ?_; rintro e w1 ⟨rfl, hc1⟩)
  go_ret
  exact ⟨rfl, hc1.below⟩
set_option maxHeartbeats 8000000 in
theorem good (va : Option Addr) (lc : Nat) (l : List Ac) (t : Int) (W : World) (hr : ReadsA W (.slice va l.length lc) l) (hlen : l.length ≤ 1100) (hT : TabS W) :
    Calls Tryd.prog 3 #[.slice va l.length lc, .int .i64 t] W fun e W' => e = .returned (.bool true) ∧ Below W.heap.size W W' := by
  have m1 : ¬ (1100 : Int) < (l.length : Int) := by omega
  have HRA := Lib.hid hr
  have HLEN : Hid (l.length ≤ 65536) := Lib.hid (by omega)
  have HT := Lib.hid hT
  have HAS := Lib.hid (fun u (h : Chg [] W u) => rAsks_any va lc l u (hr.fresh h) (by omega))
  have hal := asksL_len l
  obtain ⟨ds, hds⟩ : ∃ ds, asksL l = ds := ⟨_, rfl⟩
  rw [hds] at HAS hal
  have HDS := Lib.hid hds
  have HAL : Hid (ds.length ≤ 1100) := Lib.hid (by omega)
  obtain ⟨rt, hrt⟩ : ∃ rt, rightA l = rt := ⟨_, rfl⟩
  have HRT := Lib.hid hrt
  obtain ⟨tk, htk⟩ : ∃ tk, ticks l = tk := ⟨_, rfl⟩
  have HTK := Lib.hid htk
  obtain ⟨i0, hi, hz0, hz1, hz2⟩ := info_parts infoInt
  clear hr hlen hal hds hT hrt htk
  go_enter Tryd.func3, Tryd.ntmps3
  go_wp2_with (go_at_call 8; refine (HAS.out _ (Chg.refl _ _)).mono ?_; rintro e w1 ⟨v, rfl, hown, hcg1⟩; obtain ⟨da, dc, rfl⟩ := own_open hown)
  have hrd := Reads.of_own hown (by decide)
  obtain ⟨b1, o1, hx1, hc1, -⟩ := reads_index (P := Tryd.prog) Tryd.underlying24 szDue hrd
  have HRD := Lib.hid hrd
  have HX1 := Lib.hid hx1
  have HC1 := Lib.hid hc1
  have HCG := Lib.hid hcg1
  clear hrd hown hx1 hc1 hcg1
  go_loopw [6, 17] (fun o i wr => ∃ (j : Nat) (a : Option Addr) (c : Nat), j ≤ ds.length ∧ i = .int .i64 j ∧ o = .slice a (atL (ds.take j) t).length c ∧ Hid (OwnI wr w1.heap.size (.slice a (atL (ds.take j) t).length c) (atL (ds.take j) t)) ∧ Hid (Chg [] w1 wr)) (fun _ i _ => ds.length - (intOf i).toNat)
  case atStart => exact ⟨0, none, 0, Nat.zero_le _, rfl, rfl, Lib.hid (World.ownsRow_nil ..), Lib.hid (Chg.refl _ _)⟩
  case round =>
    obtain ⟨j, a, c, hj, rfl, rfl, HO, HJ⟩ := hrel
    by_cases hlt : j < ds.length
    · have HLT := Lib.hid hlt
      have g1 := HX1.out j hlt
      obtain ⟨⟨k, n⟩, htk⟩ : ∃ t, ds[j]? = some t := ⟨_, List.getElem?_eq_getElem hlt⟩
      have q0 := HJ.out.keep (HC1.out (j * 2 + 0) _ (by rw [flatMap_get Du.cells 2 (fun _ => rfl) ds j 0 (by decide) _ htk]; rfl)) (by simp)
      have q1 := HJ.out.keep (HC1.out (j * 2 + 1) _ (by rw [flatMap_get Du.cells 2 (fun _ => rfl) ds j 1 (by decide) _ htk]; rfl)) (by simp)
      rw [Nat.add_zero] at q0
      rw [← Nat.add_assoc] at q1
      have HSN := Lib.hid (atL_snoc t htk)
      have hll : (atL (ds.take j) t).length ≤ 65536 := by
        have h1 := List.length_filterMap_le (atD t) (ds.take j)
        have h2 := HAL.out
        unfold atL
        rw [List.length_take] at h1; omega
      have k8 : IntKind.i64.wrap ((j : Int) + 1) = (j : Int) + 1 := by rw [IntKind.wrap_i64]; have := HAL.out; omega
      obtain ⟨xs, hxs⟩ : ∃ xs, atL (ds.take j) t = xs := ⟨_, rfl⟩
      rw [hxs] at HO HSN hll
      rw [hxs]
      have HLL := Lib.hid hll
      clear htk hj hlt hll hxs
      by_cases c1 : k = t
      · subst c1
        rw [if_pos rfl] at HSN
        have HOA : Hid ((((wr.alloc (.cells #[.int .i64 k, .int .i64 n] 28))).alloc (.cells #[.int .i64 n] 3)).ownsRow w1.heap.size 3 1 (.slice a xs.length c) xs.length (intC xs)) := Lib.hid (own_keep HO.out (((Chg.refl [] _).alloc _).alloc _) (by simp))
        go_wp2_with (at_builtin; refine wpList_append_own _ rfl _ _ 26 rfl w1.heap.size 3 i0 (.int .i64 0) 1 8 Tryd.underlying26 hi hz0 hz1 hz2 rfl (by decide) _ _ _ rfl HOA.out ⟨wr.heap.size + 1, 0, none⟩ 1 1 [.int .i64 n] rfl rfl ?c1 ?c2 ?c3 ?c4 ?c5 ?_)
        case c2 => simp [Value.oneCell']
        case c3 => have := HLL.out; unfold maxLen; omega
        case c4 => have := HLL.out; omega
        case c5 => have := HJ.out.size; simp; omega
        intro v' w2 hown' hgrow _
        have HOW := Lib.hid (OwnI.snoc hown')
        have HGR : Hid (Chg [] w1 w2) := Lib.hid (((HJ.out.alloc _).alloc _).grown hgrow (fun q hq => .inr (World.ownsRow.lt HOA.out q hq).1))
        obtain ⟨a2, c2, rfl⟩ := own_open hown'
        clear hown' hgrow
        go_wp2
        have hltj := HLT.out
        go_roundw
        case rel => exact ⟨j + 1, a2, c2, by omega, by go_num, by rw [HSN.out]; simp, Lib.hid (by rw [HSN.out]; simpa using HOW.out), HGR⟩
        case measure => simp [intOf]; omega
      · rw [if_neg c1] at HSN
        have c1' : (k == t) = false := by simpa using c1
        clear c1
        go_wp2
        have hltj := HLT.out
        go_roundw
        case rel => exact ⟨j + 1, a, c, by omega, by go_num, by rw [HSN.out], Lib.hid (by rw [HSN.out]; exact own_keep HO.out ((Chg.refl [] _).alloc _) (by simp)), Lib.hid (HJ.out.alloc _)⟩
        case measure => simp [intOf]; omega
    · obtain rfl : ds.length = j := by omega
      clear hlt hj
      rw [List.take_length] at HO
      rw [List.take_length]
      have K0 : Hid (Chg [] W wr) := Lib.hid (HCG.out.trans HJ.out)
      have HXL : Hid ((atL ds t).length ≤ 1000000) := Lib.hid (by have := List.length_filterMap_le (atD t) ds; have := HAL.out; unfold atL; omega)
      have HIR := Lib.hid (Reads.of_own HO.out (by decide))
      obtain ⟨xs, hxs⟩ : ∃ xs, atL ds t = xs := ⟨_, rfl⟩
      rw [hxs] at HIR HXL
      rw [hxs]
      have HXS := Lib.hid hxs
      clear hxs HO
      go_wp2_with (first
        | (go_at_call 9; refine (Ticks_any _ _ _ _ (HRA.out.fresh K0.out)).mono ?_; rintro e u1 ⟨rfl, h1⟩; rw [HTK.out]; have K1 := Lib.hid (K0.out.trans h1); have J1 := Lib.hid h1; clear h1)
        | (go_at_call 10; refine (rTicks_any _ _ _ _ (HRA.out.fresh K1.out)).mono ?_; rintro e u2 ⟨rfl, h2⟩; rw [HTK.out]; have K2 := Lib.hid (K1.out.trans h2); have J2 := Lib.hid (J1.out.trans h2); clear h2)
        | (go_at_call 11; refine (Right_any _ _ _ _ (HRA.out.fresh K2.out)).mono ?_; rintro e u3 ⟨rfl, h3⟩; rw [HRT.out]; have K3 := Lib.hid (K2.out.trans h3); have J3 := Lib.hid (J2.out.trans h3); clear h3)
        | (go_at_call 12; refine (rRight_any _ _ _ _ (HRA.out.fresh K3.out)).mono ?_; rintro e u4 ⟨rfl, h4⟩; rw [HRT.out]; have K4 := Lib.hid (K3.out.trans h4); have J4 := Lib.hid (J3.out.trans h4); clear h4)
        | (go_at_call 14; refine (Asks_any _ _ _ _ (HRA.out.fresh K4.out) HLEN.out).mono ?_; rintro e u5 ⟨v5, rfl, ho5, h5⟩; rw [HDS.out] at ho5; obtain ⟨a5, c5, rfl⟩ := own_open ho5; have HR5 := Lib.hid (Reads.of_own ho5 (by decide)); have K5 := Lib.hid (K4.out.trans h5); have J5 := Lib.hid (J4.out.trans h5); clear h5 ho5)
        | (go_at_call 13; refine (Dues_any _ _ ds ds _ HR5.out (HRD.out.fresh (HJ.out.trans J5.out)) (by have := HAL.out; omega) (by have := HAL.out; omega)).mono ?_; rintro e u6 ⟨rfl, h6⟩; have K6 := Lib.hid (K5.out.quiet h6); have J6 := Lib.hid (J5.out.quiet h6); clear h6)
        | (go_at_call 16; refine (At_any _ _ _ _ _ (HRA.out.fresh K6.out) HLEN.out).mono ?_; rintro e u7 ⟨v7, rfl, ho7, h7⟩; rw [HDS.out, HXS.out] at ho7; obtain ⟨a7, c7, rfl⟩ := own_open ho7; have HR7 := Lib.hid (Reads.of_own ho7 (by decide)); have K7 := Lib.hid (K6.out.trans h7); have J7 := Lib.hid (J6.out.trans h7); clear h7 ho7)
        | (go_at_call 15; refine (Ints_any _ _ xs xs _ (by rw [← intC_flat]; exact HR7.out) (by rw [← intC_flat]; exact HIR.out.fresh J7.out) HXL.out HXL.out).mono ?_; rintro e u8 ⟨rfl, h8⟩; have K8 := Lib.hid (K7.out.quiet h8); clear h8)
        | (go_at_call 7; refine (awake_any _ (HT.out.keep K8.out)).mono ?_; rintro e u9 ⟨rfl, h9⟩; have K9 := Lib.hid (K8.out.trans h9); clear h9))
      go_ret
      exact ⟨rfl, K9.out.below⟩
theorem own : ownKnob Tryd.prog.godebug = none := by kernel_rfl
theorem laidOut : laidOutB Tryd.prog = true := by kernel_rfl

/-- The walk: the law returns true, and nothing that was there has turned. -/
theorem walk (w : World) (hT : scr.TabS w) (a0 : Option Addr) (len0 cap0 : Nat) (o0 : kit.Opens Tryd.prog w 9 22 [.slice a0 len0 cap0]) (x1 : Int) (w1 : (Lit.int .i64 x1).wf = true) :
    Calls Tryd.prog 3 #[.slice a0 len0 cap0, .int .i64 x1] w fun e w' => e = .returned (.bool true) ∧ Below w.heap.size w w' := by
  obtain ⟨l, hl, hr⟩ := acts_open (n := 6) o0
  subst hl
  by_cases h : l.length ≤ 1100
  · exact good a0 cap0 l x1 w hr h hT
  · exact big a0 l.length cap0 x1 (by omega) w hT

set_option maxRecDepth 100000 in
theorem lifted (os : Os) (started : os.Started) (H : Type) (enc : TypeId × Value → H) :
    ReturnsInHanded {} Tryd.checked os 3 .any (fun w args => (Rows.scriptTellsSpec.pre enc Tryd.prog Tryd.f3 [] false w args ∧ laidMetH Tryd.prog scr.laids w) ∧ sizedMet enc Tryd.prog Tryd.f3 (OpenSpec.ofChange Rows.scriptTellsSpec) false w args) (Rows.scriptTellsSpec.post enc Tryd.prog Tryd.f3 false true false false) := by
  refine returnsInHanded_of_change_and (C := Tryd.checked) (X := fun w _ => laidMetH Tryd.prog scr.laids w) (fun _ _ _ hh h => h.of_heap hh) own started (by kernel_rfl) Tryd.func3
    (ChangeSpec.witness_shaped (enc := enc) (C := Tryd.checked) (os := os) (X := fun w _ => laidMetH Tryd.prog scr.laids w) false (World.doorLaid Tryd.prog 14 os) #[.slice none 0 0, .int .i64 0] 8 rfl (World.shaped_of_RefB (by kernel_rfl) (by kernel_rfl)) (by kernel_rfl) (by kernel_rfl) (by kernel_rfl) (scr.door_met os _)) ?_
  intro W base args ds gs before hval0 hW hcnd _ hL _
  have hval : ∀ (j : Nat) t v, Tryd.f3.params[j]? = some t → args[j]? = some v → Value.okWide Tryd.prog W .any base t v := hval0
  have hW' := hW
  obtain ⟨p, q, hA0, hV, rfl, hfz, hnd⟩ := hW
  have hA : DataW.TrodAll enc Tryd.prog W 0 (fun _ => true) true Tryd.f3.params.toList args.toList ds p := hA0
  rw [Tryd.params3] at hA hval
  obtain ⟨v0, vs0, d0, ds0, p0, q0, hargs, rfl, rfl, h0, r0⟩ := trodAll_cons hA
  obtain ⟨v1, vs1, d1, ds1, p1, q1, rfl, rfl, rfl, h1, r1⟩ := trodAll_cons r0
  obtain ⟨rfl, rfl, rfl⟩ := trodAll_nil r1
  obtain rfl : args = #[v0, v1] := by cases args; simp_all
  obtain ⟨rfl, rfl⟩ := trodVars_none hV
  have k0 := h0
  have lt0 : ∀ x ∈ p0, x.block < W.heap.size := by obtain ⟨m, hm⟩ := k0; exact DataW.trod_lt m _ _ _ hm
  have k1 := h1
  have lt1 : ∀ x ∈ p1, x.block < W.heap.size := by obtain ⟨m, hm⟩ := k1; exact DataW.trod_lt m _ _ _ hm
  obtain ⟨a0, len0, cap0, rfl⟩ := okWide_slice Tryd.underlying22 (hval 0 22 v0 rfl rfl)
  have o0 : kit.Opens Tryd.prog W 9 22 [.slice a0 len0 cap0] := by simpa [Value.cells] using kit.Trod_opens 9 k0
  obtain ⟨x1, rfl, _, _, w1⟩ := open_int Tryd.underlying3 (hval 1 3 v1 rfl rfl) h1
  clear hA0 hval0
  refine (walk W (scr.tab_of_laid hL) a0 len0 cap0 o0 x1 w1).mono fun e W' ⟨he, bel⟩ => ?_
  subst he
  exact ⟨_, rfl, _, _, _, [], _, [], hW', trodAll_mk1 (shut_bool Tryd.underlying4 _), (trodAll_cons_mk (Below.trod laidOut (by kernel_rfl) (of_decide_eq_true (by kernel_rfl)) k0 bel lt0) (trodAll_cons_mk (Below.trod laidOut (by kernel_rfl) (of_decide_eq_true (by kernel_rfl)) k1 bel lt1) trodAll_mk0)), rfl, bel.frame _, fun h => by cases h⟩

theorem over : Rows.scriptTellsRow.holds Tryd.pinned (OpenSpec.ofChange Rows.scriptTellsSpec) :=
  OpenClaim.holds_of_wide 3 Tryd.f3 rfl rfl rfl rfl rfl rfl rfl ⟨rfl, rfl, rfl, rfl, rfl⟩ rfl rfl rfl rfl rfl (by kernel_rfl) Tryd.func3 (by kernel_rfl)
    (of_decide_eq_true (by kernel_rfl)) (by unfold Func.isWrapper; first | (rw [if_pos (by decide +kernel)]; kernel_rfl) | (rw [if_neg (by decide +kernel)]; exact ⟨rfl, rfl⟩))
    (fun os started H enc _ => lifted os started H enc)

/-- The statement: the tied card. -/
theorem proved : Rows.ScriptTellsCardSaid :=
  Claim7.holds_tied_plain_at .later [] [.data, .data, .data] true (true, "5ad266ddbacf19eb2d4e245618c96aa0d9b965cafe5b7a3353f98a923426863b") false
    over (fun _ h => by cases h) (by kernel_rfl) (fun _ h => by cases h) scriptTells_row_tie rfl ⟨rfl, rfl⟩ (by kernel_rfl) rfl
    (fun f fn hf hfn => by
      obtain rfl : f = 3 := Option.some.inj ((show Tryd.prog.funcNamed "coxswain/coxswainlaw42.ScriptTells" = some 3 by kernel_rfl).symm.trans hf) |>.symm
      obtain rfl : fn = Tryd.f3 := (Option.some.inj (Tryd.func3.symm.trans hfn)).symm
      exact ⟨by kernel_rfl, fun j t ht => by
        rw [Tryd.params3] at ht
        have hm : t ∈ [22, 3] := by simpa using Array.mem_of_getElem? ht
        have hall : ([22, 3].all fun u => !Tryd.prog.wantsStandIn u) = true := by kernel_rfl
        exact (show Tryd.prog.wantsStandIn t = false by simpa using List.all_eq_true.1 hall t hm)⟩)
    (by kernel_rfl)
end Go.Proofs.YtldbaommeflooaaDoor.scriptTells
