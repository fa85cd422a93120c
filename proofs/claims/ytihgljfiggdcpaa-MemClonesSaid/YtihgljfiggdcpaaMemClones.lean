/-
  coxswainlaw06.MemClones returns true for every l, at and w: a memory's clone has its words, and goes its own way. No conditions.
-/
import Derived.Test.YtihgljfiggdcpaaRows
import Derived.WalkKit
import Derived.ProofKit
import Derived.OpenShut
import Derived.ShutString
import Derived.ChangeOld
import Derived.Below
import Derived.Test.YtihgljfiggdcpaaOpen
import Derived.Test.YtihgljfiggdcpaaMem5
import Derived.Deep.RegionWith
namespace Go.Proofs.Ytihgljfiggdcpaa.memClones
open Go.ChangeShapes Go.WideShapes Go.ChangeAt Go.RowKit
open Go.ChangeMaps (open_string shut_string)
set_option linter.unusedVariables false
open Go.Proofs.Ytihgljfiggdcpaa.kit Go.Proofs.Ytihgljfiggdcpaa.mem
theorem cells23 : Try.prog.cellsOf 23 = 1 := by kernel_rfl

theorem Fill_new (b g : Nat) (l : List Int) (v : Value) (w : World) (h : MemAt w b (.slice (some ⟨g, 0, none⟩) l.length l.length) (List.replicate l.length 0) 0) (hl : ReadsW w v l) :
    Calls Try.prog 10 #[.pointer (some ⟨b, 0, none⟩), .int .i64 0, v] w fun e w' => e = .returned (.int .i64 0) ∧ MemAt w' b (.slice (some ⟨g, 0, none⟩) l.length l.length) l 0 ∧ Chg [g] w w' := by
  have h' : MemAt w b (.slice (some ⟨g, 0, none⟩) (List.replicate l.length (0 : Int)).length l.length) (List.replicate l.length 0) 0 := by rw [List.length_replicate]; exact h
  refine (Fill_ok b g l.length _ l 0 0 v w h' hl (by simp)).mono ?_
  rintro e w' ⟨rfl, h2, hc⟩
  rw [List.length_replicate] at h2
  rw [show fillL (List.replicate l.length 0) 0 l = l from by simp [fillL]] at h2
  exact ⟨rfl, h2, hc⟩
theorem Look_all (b : Nat) (sv : Value) (ws : List Int) (n : Int) (w : World) (h : MemAt w b sv ws n) (k : Nat) (hk : k = ws.length) :
    Calls Try.prog 15 #[.pointer (some ⟨b, 0, none⟩), .agg #[.int .i64 0, .int .i64 k]] w fun e w' => ∃ v, e = .returned (.tuple #[v, .int .i64 0]) ∧ OwnW w' w.heap.size v ws ∧ Chg [] w w' := by
  subst hk
  have := Look_ok b sv ws n 0 ws.length w h (by omega)
  rw [List.drop_zero, List.take_of_length_le (Nat.le_refl _)] at this
  exact this
theorem wf_next (x : Int) (hx : (Lit.int .u32 x).wf = true) : (Lit.int .u32 (IntKind.u32.wrap (x + 1))).wf = true := by
  simp [Lit.wf, IntKind.min, IntKind.max, IntKind.signed, IntKind.bits, IntKind.wrap]; omega
theorem wordsB_self (l : List Int) : wordsB l l = true := by simp [wordsB]
theorem MemAt.below {w : World} {b : Nat} {sv : Value} {ws : List Int} {m : Int} (h : MemAt w b sv ws m) (k : Nat) (hk : sv.ownBlock = some k) : k < w.heap.size := (World.ownsRow.lt h.row k hk).2

set_option maxRecDepth 100000 in
set_option maxHeartbeats 2000000 in
theorem main (va : Option Addr) (vc : Nat) (l : List Int) (i x : Int) (w : World) (hr : ReadsW w (.slice va l.length vc) l) (hl : l.length ≤ 200) (hx : (Lit.int .u32 x).wf = true) :
    Calls Try.prog 3 #[.slice va l.length vc, .int .i64 i, .int .u32 x] w fun e w' => e = .returned (.bool true) ∧ Below w.heap.size w w' := by
  have hli : (l.length : Int) ≤ 200 := by omega
  have HL := Lib.hid hl
  have HR := Lib.hid hr
  have HX := Lib.hid hx
  clear hl hr hx
  go_enter Try.func3, Try.ntmps3
  go_wp2_with (first | (go_at_call 8; refine (awake_any _).mono ?_; rintro e w1 ⟨rfl, hc1⟩; have HC1 := Lib.hid hc1; clear hc1) | (go_at_call 9; refine (New_at l.length _ (by have := HL.out; omega)).mono ?_; rintro e w2 ⟨b, g, rfl, h2, hc2, hb2, hg2⟩; have H2 := Lib.hid h2; have HC2 := Lib.hid hc2; clear h2 hc2))
  refine (Fill_new b g l _ w2 H2.out (HR.out.chg (HC1.out.trans HC2.out))).mono ?_
  rintro e w3 ⟨rfl, h3, hc3⟩
  have hC3 : Chg [] w w3 := (HC1.out.trans HC2.out).into hc3 (by intro y hy; simp at hy; subst hy; right; have := HC1.out.size; omega)
  have hb3 := h3.box.lt
  have hg3 := (World.ownsRow.lt h3.row g rfl).2
  have H3 := Lib.hid h3
  have HC3 := Lib.hid hC3
  clear h3 hc3 hC3
  go_wp2_with fail
  refine (Clone_ok b _ l 0 w3 H3.out).mono ?_
  rintro e w4 ⟨b', sv', rfl, h4, hc4, hb4, hg4⟩
  have HM4 := Lib.hid (H3.out.fresh hc4)
  have HC4 := Lib.hid (HC3.out.trans hc4)
  have H4 := Lib.hid h4
  have HB4 := Lib.hid hb4
  have HG4 := Lib.hid hg4
  clear h4 hc4 hb4 hg4
  go_wp2_with fail
  refine (Write_any b _ l 0 i x w4 HM4.out (by omega) (by omega) HX.out).mono ?_
  rintro e w5 ⟨k5, m5, rfl, h5, hm0, hm1, hc5⟩
  have HM5 := Lib.hid h5
  have HC5 : Hid (Chg [] w w5) := Lib.hid (HC4.out.into hc5 (by intro y hy; simp [Value.ownBlock] at hy; right; have := HC1.out.size; rcases hy with rfl | rfl <;> omega))
  have H5 : Hid (MemAt w5 b' sv' l 0) := Lib.hid (H4.out.keep hc5 (by have := HB4.out; simp [Value.ownBlock]; omega) (fun k hk => by have := HG4.out k hk; simp [Value.ownBlock]; omega))
  clear h5 hc5
  go_wp2_with fail
  refine (same_ok b' sv' l 0 w5 H5.out _ l (HR.out.chg HC5.out) rfl).mono ?_
  rintro e w6 ⟨rfl, hc6⟩
  rw [wordsB_self]
  have HM6 := Lib.hid (HM5.out.fresh hc6)
  have H6 := Lib.hid (H5.out.fresh hc6)
  have HC6 := Lib.hid (HC5.out.trans hc6)
  clear hc6
  go_wp2_with (go_at_call 14; refine (Steps_any b' sv' l 0 _ H6.out).mono ?_; rintro e w7 ⟨rfl, rfl⟩)
  refine (Look_all b _ _ m5 w6 HM6.out l.length (wrL_length l i x).symm).mono ?_
  rintro e w7 ⟨v7, rfl, ho7, hc7⟩
  obtain ⟨a7, cc7, rfl, _⟩ := reads_slice (Reads.of_own ho7 (by decide))
  rw [wrL_length] at ho7 ⊢
  have HM7 := Lib.hid (HM6.out.fresh hc7)
  have H7 := Lib.hid (H6.out.fresh hc7)
  have HC7 := Lib.hid (HC6.out.trans hc7)
  have HO7 := Lib.hid ho7
  have HX2 := Lib.hid (wf_next x HX.out)
  have hs7 : ∀ k ∈ (b' :: sv'.ownBlock.toList), w3.heap.size ≤ k := fun k hk => by
    have := HB4.out
    simp only [List.mem_cons, Option.mem_toList] at hk
    rcases hk with rfl | hk
    · exact this
    · exact HG4.out k hk
  have hs8 : ∀ k ∈ (b' :: sv'.ownBlock.toList), k < w6.heap.size := fun k hk => by
    simp only [List.mem_cons, Option.mem_toList] at hk
    rcases hk with rfl | hk
    · exact H6.out.box.lt
    · exact MemAt.below H6.out k hk
  have HS7 := Lib.hid hs7
  have HS8 := Lib.hid hs8
  have HW3 := Lib.hid (show w.heap.size ≤ w3.heap.size from HC3.out.size)
  clear ho7 hc7 hs7 hs8
  go_wp2_with fail
  refine (Write_any b' sv' l 0 i _ w7 H7.out (by omega) (by omega) HX2.out).mono ?_
  rintro e w8 ⟨k8, m8, rfl, h8, _, _, hc8⟩
  have HM8 := Lib.hid (HM7.out.keep hc8 (fun hm => by have := HS7.out _ hm; omega) (fun k hk hm => by simp only [Value.ownBlock, Option.some.injEq] at hk; subst hk; have := HS7.out _ hm; omega))
  have HC8 : Hid (Chg [] w w8) := Lib.hid (HC7.out.into hc8 (fun k hk => by right; have := HS7.out _ hk; have := HW3.out; omega))
  have HR8 : Hid (ReadsW w8 (.slice a7 l.length cc7) (wrL l i x)) := Lib.hid ((OwnW.reads HO7.out HM7.out.wf).far hc8 (fun k hk hm => by have := (World.ownsRow.lt HO7.out k hk).1; have := HS8.out k hm; omega))
  clear h8 hc8
  go_wp2_with fail
  refine (Look_all b _ _ m5 w8 HM8.out l.length (wrL_length l i x).symm).mono ?_
  rintro e w9 ⟨v9, rfl, ho9, hc9⟩
  obtain ⟨a9, cc9, rfl, _⟩ := reads_slice (Reads.of_own ho9 (by decide))
  rw [wrL_length] at ho9 ⊢
  have HO9 := Lib.hid ho9
  have HC9 := Lib.hid (HC8.out.trans hc9)
  have HR9 := Lib.hid (HR8.out.chg hc9)
  clear ho9 hc9
  go_wp2_with (first | (go_at_call 16; refine (Read_nil _ _).mono ?_; rintro e w10 ⟨rfl, rfl⟩) | (go_at_call 17; refine (Cas_nil _ _ _ _).mono ?_; rintro e w11 ⟨rfl, rfl⟩))
  refine (Look_nil 0 0 w9).mono ?_
  rintro e w12 ⟨rfl, hc12⟩
  have HC12 := Lib.hid (HC9.out.trans hc12)
  have HR12 := Lib.hid (HR9.out.chg hc12)
  have HY12 := Lib.hid ((OwnW.reads HO9.out HM8.out.wf).chg hc12)
  clear hc12
  go_wp2_with fail
  refine (Words_any _ _ (wrL l i x) (wrL l i x) w12 HR12.out HY12.out (by rw [wrL_length]; have := HL.out; omega) (by rw [wrL_length]; have := HL.out; omega)).mono ?_
  rintro e w13 ⟨rfl, hq13⟩
  rw [wordsB_self]
  have HC13 := Lib.hid (HC12.out.quiet hq13)
  clear hq13
  go_wp2_with (first | (go_at_call 19; refine (Len_nil _).mono ?_; rintro e w14 ⟨rfl, rfl⟩) | (go_at_call 14; refine (Steps_nil _).mono ?_; rintro e w15 ⟨rfl, rfl⟩) | (go_at_call 11; refine (Clone_nil _).mono ?_; rintro e w16 ⟨rfl, rfl⟩) | (go_at_call 12; refine (Write_nil _ _ _).mono ?_; rintro e w17 ⟨rfl, rfl⟩) | (go_at_call 10; refine (Fill_nil _ _ _).mono ?_; rintro e w18 ⟨rfl, rfl⟩))
  go_ret
  exact ⟨rfl, HC13.out.below⟩
theorem own : ownKnob Try.prog.godebug = none := by kernel_rfl
theorem laidOut : laidOutB Try.prog = true := by kernel_rfl

/-- The walk: the law returns true, and nothing that was there has turned. -/
theorem walk (w : World) (a0 : Option Addr) (len0 cap0 : Nat) (o0 : kit.Opens Try.prog w 9 22 [.slice a0 len0 cap0]) (x1 : Int) (w1 : (Lit.int .i64 x1).wf = true) (x2 : Int) (w2 : (Lit.int .u32 x2).wf = true) :
    Calls Try.prog 3 #[.slice a0 len0 cap0, .int .i64 x1, .int .u32 x2] w fun e w' => e = .returned (.bool true) ∧ Below w.heap.size w w' := by
  obtain ⟨zs, hzl, hr, hwz⟩ := o0.ints Try.underlying22 Try.underlying23 cells23
  clear o0
  subst hzl
  by_cases h2 : zs.length ≤ 200
  · exact main a0 cap0 zs x1 x2 w ⟨hr, hwz⟩ h2 w2
  · have h4 : (200 : Int) < zs.length := by omega
    clear h2 hr hwz
    go_enter Try.func3, Try.ntmps3
    go_wp2_with (go_at_call 8; refine (awake_any _).mono ?_; rintro e w1 ⟨rfl, hc1⟩; have HC1 := Lib.hid hc1; clear hc1)
    go_ret
    exact ⟨rfl, HC1.out.below⟩

set_option maxRecDepth 100000 in
theorem lifted (os : Os) (started : os.Started) (H : Type) (enc : TypeId × Value → H) :
    ReturnsInHanded {} Try.checked os 3 .any (Rows.memClonesSpec.pre6 enc Try.prog Try.f3 Rows.memClonesRow.domain false) (Rows.memClonesSpec.post enc Try.prog Try.f3 false true false false) := by
  refine returnsInHanded_of_change (C := Try.checked) own started (by kernel_rfl) Try.func3
    (ChangeSpec.witness6 (enc := enc) (C := Try.checked) false ⟨#[], #[.slice none 0 0, .int .i64 0, .int .u32 0], []⟩ 8 (by kernel_rfl) (by kernel_rfl) (by kernel_rfl) (by kernel_rfl)) ?_
  intro W base args ds gs before hval0 hW hcnd _
  have hval : ∀ (j : Nat) t v, Try.f3.params[j]? = some t → args[j]? = some v → Value.okWide Try.prog W .any base t v := hval0
  have hW' := hW
  obtain ⟨p, q, hA0, hV, rfl, hfz, hnd⟩ := hW
  have hA : DataW.TrodAll enc Try.prog W 0 (fun _ => true) true Try.f3.params.toList args.toList ds p := hA0
  rw [Try.params3] at hA hval
  obtain ⟨v0, vs0, d0, ds0, p0, q0, hargs, rfl, rfl, h0, r0⟩ := trodAll_cons hA
  obtain ⟨v1, vs1, d1, ds1, p1, q1, rfl, rfl, rfl, h1, r1⟩ := trodAll_cons r0
  obtain ⟨v2, vs2, d2, ds2, p2, q2, rfl, rfl, rfl, h2, r2⟩ := trodAll_cons r1
  obtain ⟨rfl, rfl, rfl⟩ := trodAll_nil r2
  obtain rfl : args = #[v0, v1, v2] := by cases args; simp_all
  obtain ⟨rfl, rfl⟩ := trodVars_none hV
  have k0 := h0
  have lt0 : ∀ x ∈ p0, x.block < W.heap.size := by obtain ⟨m, hm⟩ := k0; exact DataW.trod_lt m _ _ _ hm
  have k1 := h1
  have lt1 : ∀ x ∈ p1, x.block < W.heap.size := by obtain ⟨m, hm⟩ := k1; exact DataW.trod_lt m _ _ _ hm
  have k2 := h2
  have lt2 : ∀ x ∈ p2, x.block < W.heap.size := by obtain ⟨m, hm⟩ := k2; exact DataW.trod_lt m _ _ _ hm
  obtain ⟨a0, len0, cap0, rfl⟩ := okWide_slice Try.underlying22 (hval 0 22 v0 rfl rfl)
  have o0 : kit.Opens Try.prog W 9 22 [.slice a0 len0 cap0] := by simpa [Value.cells] using kit.Trod_opens 9 k0
  obtain ⟨x1, rfl, _, _, w1⟩ := open_int Try.underlying3 (hval 1 3 v1 rfl rfl) h1
  obtain ⟨x2, rfl, _, _, w2⟩ := open_int Try.underlying23 (hval 2 23 v2 rfl rfl) h2
  clear hA0 hval0
  refine (walk W a0 len0 cap0 o0 x1 w1 x2 w2).mono fun e W' ⟨he, bel⟩ => ?_
  subst he
  exact ⟨_, rfl, _, _, _, [], _, [], hW', trodAll_mk1 (shut_bool Try.underlying4 _), (trodAll_cons_mk (Below.trod laidOut (by kernel_rfl) (of_decide_eq_true (by kernel_rfl)) k0 bel lt0) (trodAll_cons_mk (Below.trod laidOut (by kernel_rfl) (of_decide_eq_true (by kernel_rfl)) k1 bel lt1) (trodAll_cons_mk (Below.trod laidOut (by kernel_rfl) (of_decide_eq_true (by kernel_rfl)) k2 bel lt2) trodAll_mk0))), rfl, bel.frame _, fun h => by cases h⟩

theorem over : Rows.memClonesRow.holds Try.pinned (OpenSpec.ofChange Rows.memClonesSpec) :=
  OpenClaim.holds_of_wide 3 Try.f3 rfl rfl rfl rfl rfl rfl rfl ⟨rfl, rfl, rfl, rfl, rfl⟩ rfl rfl rfl rfl rfl (by kernel_rfl) Try.func3 (by kernel_rfl)
    (of_decide_eq_true (by kernel_rfl)) (by unfold Func.isWrapper; first | (rw [if_pos (by decide +kernel)]; kernel_rfl) | (rw [if_neg (by decide +kernel)]; exact ⟨rfl, rfl⟩))
    (fun os started H enc _ => lifted os started H enc)

/-- The statement. -/
theorem proved : Rows.MemClonesSaid := over
end Go.Proofs.Ytihgljfiggdcpaa.memClones
