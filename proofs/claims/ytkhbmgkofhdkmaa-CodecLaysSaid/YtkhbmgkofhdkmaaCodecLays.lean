/-
  coxswainlaw02.CodecLays returns true for every b, n, w: any number is laid behind any bytes, and is read again, whatever is behind it. No conditions.
-/
import Derived.Test.YtkhbmgkofhdkmaaRows
import Derived.WalkKit
import Derived.ProofKit
import Derived.OpenShut
import Derived.ShutString
import Derived.ChangeOld
import Derived.Below
import Derived.Test.YtkhbmgkofhdkmaaCodecW5
namespace Go.Proofs.Ytkhbmgkofhdkmaa.codecLays
open Go.ChangeShapes Go.WideShapes Go.ChangeAt Go.RowKit
open Go.ChangeMaps (open_string shut_string)
set_option linter.unusedVariables false
open Go.Proofs.Ytkhbmgkofhdkmaa.kit Go.Proofs.Ytkhbmgkofhdkmaa.codec
set_option maxHeartbeats 2000000 in
theorem main (v : Value) (zs : List Int) (n W : Int) (w : World) (hr : ReadsB w v zs) (hW0 : 0 ≤ W) (hW1 : W ≤ 4294967295) (hz : zs.length ≤ 500) (hv : ∃ a c, v = .slice a zs.length c) :
    Calls Try.prog 3 #[v, .int .i64 n, .int .u32 W] w fun e w' => e = .returned (.bool true) ∧ Below w.heap.size w w' := by
  obtain ⟨a, c, rfl⟩ := hv
  obtain ⟨i0, hi, hz0, hz1, hz2⟩ := info_parts info5
  have hN := u32_of n
  generalize hNn : n % 4294967296 = N at *
  have HN := Lib.hid hNn
  clear hNn
  have hz6 : zs.length ≤ 1000000 := by omega
  go_enter Try.func3, Try.ntmps3
  go_wp2_with fail
  refine (Put8_r _ [] _ _ (ReadsB.nil _) (by decide)).mono ?_
  rintro e w1 ⟨v1, rfl, h1, hc1⟩
  rw [HN.out] at h1
  go_wp2_with fail
  refine (Put16_r _ _ _ _ h1 (by simp [leB])).mono ?_
  rintro e w2 ⟨v2, rfl, h2, hc2⟩
  rw [HN.out] at h2
  go_wp2_with fail
  refine (Put32_r _ _ _ _ h2 (by simp [leB]) hW0 hW1).mono ?_
  rintro e w3 ⟨v3, rfl, h3, hc3⟩
  have k3 : Chg [] w w3 := (hc1.trans hc2).trans hc3
  clear h1 h2 hc1 hc2 hc3
  have r3 := hr.chg k3
  go_wp2_with fail
  refine (Put8_r _ _ _ _ r3 hz6).mono ?_
  rintro e w4 ⟨v4, rfl, h4, hc4⟩
  rw [HN.out] at h4
  go_wp2_with fail
  rw [HN.out]
  refine (rPut_r _ _ _ 1 _ (r3.chg hc4) hN.1 hN.2 (by decide) hz6).mono ?_
  rintro e w5 ⟨v5, rfl, h5, hc5⟩
  go_wp2_with fail
  refine (Bytes_any _ _ _ _ _ (h4.chg hc5) h5).mono ?_
  rintro e w6 ⟨rfl, rfl⟩
  have r5 := (r3.chg hc4).chg hc5
  have k5 : Chg [] w w5 := (k3.trans hc4).trans hc5
  have h35 := (h3.chg hc4).chg hc5
  clear h4 h5 hc4 hc5 k3 h3 r3
  simp only [decide_true]
  go_wp2_with fail
  refine (Put16_r _ _ _ _ r5 hz6).mono ?_
  rintro e w6 ⟨v6, rfl, h6, hc6⟩
  rw [HN.out] at h6
  go_wp2_with fail
  rw [HN.out]
  refine (rPut_r _ _ _ 2 _ (r5.chg hc6) hN.1 hN.2 (by decide) hz6).mono ?_
  rintro e w7 ⟨v7, rfl, h7, hc7⟩
  go_wp2_with fail
  refine (Bytes_any _ _ _ _ _ (h6.chg hc7) h7).mono ?_
  rintro e w8 ⟨rfl, rfl⟩
  have r7 := (r5.chg hc6).chg hc7
  have k7 : Chg [] w w7 := (k5.trans hc6).trans hc7
  have h37 := (h35.chg hc6).chg hc7
  clear h6 h7 hc6 hc7 k5 h35 r5
  simp only [decide_true]
  go_wp2_with fail
  refine (Put32_r _ _ _ _ r7 hz6 hW0 hW1).mono ?_
  rintro e w8 ⟨v8, rfl, h8, hc8⟩
  go_wp2_with fail
  refine (rPut_r _ _ _ 4 _ (r7.chg hc8) hW0 hW1 (by decide) hz6).mono ?_
  rintro e w9 ⟨v9, rfl, h9, hc9⟩
  go_wp2_with fail
  refine (Bytes_any _ _ _ _ _ (h8.chg hc9) h9).mono ?_
  rintro e w10 ⟨rfl, rfl⟩
  have r9 := (r7.chg hc8).chg hc9
  have k9 : Chg [] w w9 := (k7.trans hc8).trans hc9
  have h39 := (h37.chg hc8).chg hc9
  clear h8 h9 hc8 hc9 k7 h37 r7
  simp only [decide_true]
  have hl3 : ([] ++ leB N 1 ++ leB N 2 ++ leB W 4).length = 7 := by simp [leB]
  generalize hLe : ([] ++ leB N 1 ++ leB N 2 ++ leB W 4 : List Int) = LL at *
  have HLe := Lib.hid hLe
  have Hl3 := Lib.hid hl3
  have hl3' : LL.length ≤ 7 := by omega
  clear hLe hl3
  go_wp2_with (first | (at_builtin; refine wpList_append_any (o := ⟨some 51, _, _, _, _, _⟩) _ rfl _ _ 22 rfl w9.heap.size 5 i0 (.int .u8 0) 1 1 Try.underlying22 hi hz0 hz1 hz2 rfl (by decide) (.slice (some ⟨w9.heap.size, 0, none⟩) 0 0) 0 [] rfl (World.ownsRow_lit w9 #[] 0 (Nat.le_refl _) (Nat.zero_le _) rfl) v3 LL.length _ rfl (h39.1.alloc _) (ints_oneCell _ _) (by have := h39.1.le; omega) (by omega) (by simp) ?_; intro v10 w10 hown10 hg10; simp only [Nat.zero_add, List.nil_append] at hown10; have hc10 : Chg [] w9 w10 := ((Chg.refl _ _).alloc _).grown hg10 (by simp [Value.ownBlock]); clear hg10) | (at_builtin; refine wpList_append_any (o := ⟨some 53, _, _, _, _, _⟩) _ rfl _ _ 22 rfl w9.heap.size 5 i0 (.int .u8 0) 1 1 Try.underlying22 hi hz0 hz1 hz2 rfl (by decide) v10 LL.length _ rfl hown10 _ zs.length _ rfl (r9.chg hc10).1 (ints_oneCell _ _) (by have := r9.1.le; unfold maxLen; omega) (by omega) (by have := hc10.size; omega) ?_; intro v11 w11 hown11 hg11; have hc11 : Chg [] w9 w11 := hc10.grown hg11 (fun k hk => .inr (World.ownsRow.lt hown10 k hk).1); clear hg11))
  have r11 : ReadsB w11 v11 (LL ++ zs) := OwnB.reads (B := w9.heap.size) (by unfold OwnB; rw [List.length_append, List.map_append]; exact hown11) (wf_append h39.2 hr.2)
  refine (New_any _ _ _ r11 (by rw [List.length_append]; omega)).mono ?_
  rintro e w12 ⟨b, g, rfl, h12, hc12, hb12, hg12⟩
  have k12 : Chg [] w w12 := (k9.trans hc11).trans hc12
  have hb0 : w.heap.size ≤ b := Nat.le_trans (k9.trans hc11).size hb12
  have r12 := (r9.chg hc11).chg hc12
  clear hown10 hown11 r11 hc12 hc11 hc10 h39 r9 k9 hg12
  have hLL : (LL ++ zs).length = 7 + zs.length := by rw [List.length_append, Hl3.out]
  have HLL := Lib.hid hLL
  clear hLL
  go_wp2_with fail
  refine (U8_of _ (n % 256) _ _ (by omega) (by omega) (by
    have := num_ok _ _ _ _ 1 _ h12 (by rw [HLL.out]; omega) (by decide)
    rw [show ((LL ++ zs).drop 0).take 1 = leB N 1 by rw [← HLe.out]; simp [leB], numL_leB, ← HN.out, show n % 4294967296 % 256 ^ 1 = n % 256 by omega] at this
    exact this)).mono ?_
  rintro e w13 ⟨rfl, h13, hc13⟩
  have hw16 : wrap64 (IntKind.u16.wrap n) = n % 65536 := by rw [IntKind.wrap_u16]; exact IntWalk.wrap64_in _ ⟨by omega, by omega⟩
  go_wp2_with fail
  refine (U16_of _ (n % 65536) _ _ (by omega) (by omega) (by
    have := num_ok _ _ _ _ 2 _ h13 (by rw [HLL.out]; omega) (by decide)
    rw [show ((LL ++ zs).drop (0 + 1)).take 2 = leB N 2 by rw [← HLe.out]; simp [leB], numL_leB, ← HN.out, show n % 4294967296 % 256 ^ 2 = n % 65536 by omega] at this
    exact this)).mono ?_
  rintro e w14 ⟨rfl, h14, hc14⟩
  go_wp2_with fail
  refine (U32_of _ W _ _ hW0 hW1 (by
    have := num_ok _ _ _ _ 4 _ h14 (by rw [HLL.out]; omega) (by decide)
    rw [show ((LL ++ zs).drop (0 + 1 + 2)).take 4 = leB W 4 by rw [← HLe.out]; simp [leB], numL_leB, show W % 256 ^ 4 = W by omega] at this
    exact this)).mono ?_
  rintro e w15 ⟨rfl, h15, hc15⟩
  have kk : Chg [b] w12 w15 := (hc13.trans hc14).trans hc15
  have k15 : Chg [] w w15 := k12.into kk (fun x hx => by simp at hx; subst hx; exact .inr hb0)
  have r15 : ReadsB w15 (.slice a zs.length c) zs := ⟨hr.1.fresh k15, hr.2⟩
  clear kk hc13 hc14 hc15 h12 h13 h14 r12 k12
  go_wp2_with fail
  refine (Bytes_of _ zs.length zs _ (fun w' => RIn w' b g (LL ++ zs) (7 + zs.length) false ∧ Chg [b] w15 w') hz6 (by
    refine (next_ok _ _ _ _ zs.length _ h15 (by rw [HLL.out]; omega)).mono ?_
    rintro e w' ⟨o, c1, rfl, ho, hn, hcl, hR, hC⟩
    have hp := hR.piece o 7 zs.length c1 (by rw [HLL.out]; omega) (by omega) hn hcl
    rw [show ((LL ++ zs).drop 7).take zs.length = zs by rw [List.drop_append, List.drop_eq_nil_of_le (by omega), Hl3.out]; simp] at hp
    exact ⟨_, rfl, hp, hR, hC⟩)).mono ?_
  rintro e w16 ⟨v16, w16a, rfl, ⟨h16, hc16⟩, ho16, hc16a⟩
  have k16 : Chg [] w w16 := (k15.into hc16 (fun x hx => by simp at hx; subst hx; exact .inr hb0)).trans hc16a
  have r16 := ho16.reads hr.2
  have h16' := h16.keep hc16a (by simp) (by simp)
  clear hc16 hc16a ho16 h16 k15 h15 r15
  go_wp2_with fail
  refine (Bytes_any _ _ _ _ _ r16 ⟨hr.1.fresh k16, hr.2⟩).mono ?_
  rintro e w17 ⟨rfl, rfl⟩
  simp only [decide_true]
  go_wp2_with fail
  refine (Done_any _ _ _ _ _ _ h16').mono ?_
  rintro e w18 ⟨rfl, n18, rfl⟩
  rw [show (if false = true then (2 : Int) else if 7 + zs.length < (LL ++ zs).length then 3 else 0) = 0 by rw [HLL.out]; simp]
  go_wp2_with fail
  refine (awake_any _).mono ?_
  rintro e w19 ⟨rfl, hc19⟩
  go_wp2_with fail
  go_ret
  exact ⟨rfl, ((k16.drewN _).trans hc19).below⟩

theorem own : ownKnob Try.prog.godebug = none := by kernel_rfl
theorem laidOut : laidOutB Try.prog = true := by kernel_rfl

/-- WHAT THE WALK IS TOLD OF A SLICE OF INTEGERS THAT CAME IN: it is nil; or it leads to a row of 'cap' cells, the numbers 'zs' (the first 'len' are its elements, the rest its spare room), each fitting its kind. -/
def IsRow (k : IntKind) (w : World) (a : Option Addr) (len cap : Nat) (zs : List Int) : Prop :=
  (a = none ∧ len = 0 ∧ cap = 0 ∧ zs = []) ∨
  ∃ x, a = some x ∧ len ≤ cap ∧ cap ≤ maxLen ∧ zs.length = cap ∧ (∀ i, i < zs.length → w.cell? (x.add i) = some (.int k (zs.getD i 0))) ∧ ∀ n ∈ zs, (Lit.int k n).wf = true

/-! ### STEP 1: THE WALK: the Go text returns true, AND WRITES NOTHING THAT WAS THERE: 'Below w.heap.size w w'' (Derived/Below.lean: '.refl', '.alloc', '.drew', '.setCell' at a new block, '.trans'). Open each 'IsRow' by 'rcases' AHEAD of 'go_enter'; part every test ahead of the walk. -/
theorem walk (a0 : Option Addr) (len0 cap0 : Nat) (z0 : List Int) (a1 : Int) (a2 : Int) (w : World) (w0 : IsRow .u8 w a0 len0 cap0 z0) (w1 : (Lit.int .i64 a1).wf = true) (w2 : (Lit.int .u32 a2).wf = true) :
    Calls Try.prog 3 #[.slice a0 len0 cap0, .int .i64 a1, .int .u32 a2] w fun e w' => e = .returned (.bool true) ∧ Below w.heap.size w w' := by
  have b2 : 0 ≤ a2 ∧ a2 ≤ 4294967295 := by have := w2; simp [Lit.wf, IntKind.min, IntKind.max, IntKind.signed, IntKind.bits] at this; omega
  obtain ⟨hr, hw, hl⟩ := reads_of_row w0
  by_cases h5 : len0 ≤ 500
  · exact main _ (z0.take len0) a1 a2 w ⟨by rw [hl]; exact hr, hw⟩ b2.1 b2.2 (by omega) ⟨a0, cap0, by rw [hl]⟩
  · go_enter Try.func3, Try.ntmps3
    go_wp2_with (go_at_call 10; refine (awake_any _).mono ?_; rintro e w' ⟨rfl, hc⟩)
    go_ret
    exact ⟨rfl, hc.below⟩

/-! ### THE ROW's STEP: WRITTEN OUT: LEAVE IT -/
set_option maxRecDepth 100000 in
theorem lifted (os : Os) (started : os.Started) (H : Type) (enc : TypeId × Value → H) :
    ReturnsInHanded {} Try.checked os 3 .any (Rows.codecLaysSpec.pre6 enc Try.prog Try.f3 Rows.codecLaysRow.domain false) (Rows.codecLaysSpec.post enc Try.prog Try.f3 false true false false) := by
  refine returnsInHanded_of_change (C := Try.checked) own started (by kernel_rfl) Try.func3
    (ChangeSpec.witness6 (enc := enc) (C := Try.checked) false ⟨#[], #[.slice none 0 0, .int .i64 0, .int .u32 0], []⟩ 8 (by kernel_rfl) (by kernel_rfl) (by kernel_rfl) (by kernel_rfl)) ?_
  intro W base args ds gs before hval0 hW hcnd _
  have hval : ∀ (j : Nat) t v, Try.f3.params[j]? = some t → args[j]? = some v → Value.okWide Try.prog W .any base t v := hval0
  have hW' := hW
  obtain ⟨p, q, hA0, hV, rfl, hfz, hnd⟩ := hW
  have hA : DataW.TrodAll enc Try.prog W 0 (fun _ => true) true Try.f3.params.toList args.toList ds p := hA0
  rw [Try.params3] at hA hval
  obtain ⟨v0, vs0, d0, ds0, p0, q0, hargs, rfl, rfl, h0, r0⟩ := trodAll_cons hA
  obtain ⟨v1, vs1, d1, ds1, p1, q1, rfl, rfl, rfl, h1, r1⟩ := trodAll_cons r0
  obtain ⟨v2, vs2, d2, ds2, p2, q2, rfl, rfl, rfl, h2, r2⟩ := trodAll_cons r1
  obtain ⟨rfl, rfl, rfl⟩ := trodAll_nil r2
  obtain rfl : args = #[v0, v1, v2] := by cases args; simp_all
  obtain ⟨rfl, rfl⟩ := trodVars_none hV
  obtain ⟨a0, len0, cap0, rfl⟩ := okWide_slice Try.underlying22 (hval 0 22 v0 rfl rfl)
  have k0 := h0
  have lt0 : ∀ x ∈ p0, x.block < W.heap.size := by obtain ⟨m, hm⟩ := k0; exact DataW.trod_lt m _ _ _ hm
  obtain ⟨z0, w0⟩ : ∃ zs, IsRow .u8 W a0 len0 cap0 zs := by
    obtain ⟨fuel, hf⟩ := h0
    rcases open_ints Try.underlying22 Try.underlying5 (by kernel_rfl) hf with ⟨hcs, _⟩ | ⟨x, l, c, zs, hcs, _, hl, hm, hz, _, hcell, hwz⟩
    · simp [Value.cells] at hcs
      obtain ⟨rfl, rfl, rfl⟩ := hcs
      exact ⟨[], .inl ⟨rfl, rfl, rfl, rfl⟩⟩
    · simp [Value.cells] at hcs
      obtain ⟨rfl, rfl, rfl⟩ := hcs
      exact ⟨zs, .inr ⟨_, rfl, hl, hm, by simpa using hz, hcell, hwz⟩⟩
  obtain ⟨a1, rfl, rfl, rfl, w1⟩ := open_int Try.underlying3 (hval 1 3 v1 rfl rfl) h1
  obtain ⟨a2, rfl, rfl, rfl, w2⟩ := open_int Try.underlying23 (hval 2 23 v2 rfl rfl) h2
  clear hA0 hval0
  refine (walk a0 len0 cap0 z0 a1 a2 W w0 w1 w2).mono fun e W' ⟨he, bel⟩ => ?_
  subst he
  exact ⟨_, rfl, _, _, _, [], _, [], hW', trodAll_mk1 (shut_bool Try.underlying4 _), (trodAll_cons_mk (Below.trod laidOut (by kernel_rfl) (of_decide_eq_true (by kernel_rfl)) k0 bel lt0) (trodAll_cons_mk (shut_int Try.underlying3 w1) (trodAll_cons_mk (shut_int Try.underlying23 w2) trodAll_mk0))), rfl, bel.frame _, fun h => by cases h⟩

theorem over : Rows.codecLaysRow.holds Try.pinned (OpenSpec.ofChange Rows.codecLaysSpec) :=
  OpenClaim.holds_of_wide 3 Try.f3 rfl rfl rfl rfl rfl rfl rfl ⟨rfl, rfl, rfl, rfl, rfl⟩ rfl rfl rfl rfl rfl (by kernel_rfl) Try.func3 (by kernel_rfl)
    (of_decide_eq_true (by kernel_rfl)) (by unfold Func.isWrapper; first | (rw [if_pos (by decide +kernel)]; kernel_rfl) | (rw [if_neg (by decide +kernel)]; exact ⟨rfl, rfl⟩))
    (fun os started H enc _ => lifted os started H enc)

/-- ████ THE STATEMENT ████ -/
theorem proved : Rows.CodecLaysSaid := over
#print axioms proved
end Go.Proofs.Ytkhbmgkofhdkmaa.codecLays
