/- Package codec: laying numbers; the chapter's example. -/
import Derived.Test.YtkhbmgkofhdkmaaCodecW4
namespace Go.Proofs.Ytkhbmgkofhdkmaa.codec
open Go Go.RowKit Go.Proofs.Ytkhbmgkofhdkmaa.kit
set_option linter.unusedVariables false

theorem OwnB.reads {w : World} {B : Nat} {v : Value} {zs : List Int} (h : OwnB w B v zs) (hw : ∀ n ∈ zs, (Lit.int .u8 n).wf = true) : ReadsB w v zs := ⟨Reads.of_own h (by decide), hw⟩
theorem ReadsB.chg {w w' : World} {v : Value} {zs : List Int} (h : ReadsB w v zs) (k : Chg [] w w') : ReadsB w' v zs := ⟨h.1.fresh k, h.2⟩
theorem wf_append {xs ys : List Int} (hx : ∀ n ∈ xs, (Lit.int .u8 n).wf = true) (hy : ∀ n ∈ ys, (Lit.int .u8 n).wf = true) : ∀ n ∈ xs ++ ys, (Lit.int .u8 n).wf = true :=
  fun n hn => (List.mem_append.1 hn).elim (hx n) (hy n)
theorem ReadsB.nil (w : World) : ReadsB w (.slice none 0 0) [] := ⟨Reads.nil w 1, by simp⟩

/-- put, its result as a row that reads -/
theorem put_r (v : Value) (zs : List Int) (W : Int) (n : Nat) (w : World) (hr : ReadsB w v zs) (hW0 : 0 ≤ W) (hW1 : W ≤ 4294967295) (hn : n ≤ 4) (hz : zs.length ≤ 1000000) :
    Calls Try.prog 44 #[v, .int .u32 W, .int .i64 n] w fun e w' => ∃ v', e = .returned v' ∧ ReadsB w' v' (zs ++ leB W n) ∧ Chg [] w w' :=
  (put_any v zs W n w hr hW0 hW1 hn hz).mono fun _ _ ⟨v', he, ho, hc⟩ => ⟨v', he, ho.reads (wf_append hr.2 (leB_wf W n)), hc⟩
theorem rPut_r (v : Value) (zs : List Int) (W : Int) (n : Nat) (w : World) (hr : ReadsB w v zs) (hW0 : 0 ≤ W) (hW1 : W ≤ 4294967295) (hn : n ≤ 4) (hz : zs.length ≤ 1000000) :
    Calls Try.prog 15 #[v, .int .u32 W, .int .i64 n] w fun e w' => ∃ v', e = .returned v' ∧ ReadsB w' v' (zs ++ leB W n) ∧ Chg [] w w' :=
  (rPut_any v zs W n w hr hW0 hW1 hn hz).mono fun _ _ ⟨v', he, ho, hc⟩ => ⟨v', he, ho.reads (wf_append hr.2 (leB_wf W n)), hc⟩

theorem u32_of (n : Int) : 0 ≤ n % 4294967296 ∧ n % 4294967296 ≤ 4294967295 := by omega

theorem Put8_r (v : Value) (zs : List Int) (n : Int) (w : World) (hr : ReadsB w v zs) (hz : zs.length ≤ 1000000) :
    Calls Try.prog 13 #[v, .int .i64 n] w fun e w' => ∃ v', e = .returned v' ∧ ReadsB w' v' (zs ++ leB (n % 4294967296) 1) ∧ Chg [] w w' := by
  have HP := Lib.hid (put_r v zs (n % 4294967296) 1 w hr (u32_of n).1 (u32_of n).2 (by decide) hz)
  go_enter Try.func13, Try.ntmps13
  go_wp2_with (go_at_call 44; refine HP.out.mono ?_; rintro e w1 ⟨v1, rfl, h1, hc1⟩)
  go_ret
  exact ⟨_, rfl, h1, hc1⟩
theorem Put16_r (v : Value) (zs : List Int) (n : Int) (w : World) (hr : ReadsB w v zs) (hz : zs.length ≤ 1000000) :
    Calls Try.prog 12 #[v, .int .i64 n] w fun e w' => ∃ v', e = .returned v' ∧ ReadsB w' v' (zs ++ leB (n % 4294967296) 2) ∧ Chg [] w w' := by
  have HP := Lib.hid (put_r v zs (n % 4294967296) 2 w hr (u32_of n).1 (u32_of n).2 (by decide) hz)
  go_enter Try.func12, Try.ntmps12
  go_wp2_with (go_at_call 44; refine HP.out.mono ?_; rintro e w1 ⟨v1, rfl, h1, hc1⟩)
  go_ret
  exact ⟨_, rfl, h1, hc1⟩
theorem Put32_r (v : Value) (zs : List Int) (n : Int) (w : World) (hr : ReadsB w v zs) (hz : zs.length ≤ 1000000) (h0 : 0 ≤ n) (h1 : n ≤ 4294967295) :
    Calls Try.prog 11 #[v, .int .u32 n] w fun e w' => ∃ v', e = .returned v' ∧ ReadsB w' v' (zs ++ leB n 4) ∧ Chg [] w w' := by
  have HP := Lib.hid (put_r v zs n 4 w hr h0 h1 (by decide) hz)
  go_enter Try.func11, Try.ntmps11
  go_wp2_with (go_at_call 44; refine HP.out.mono ?_; rintro e w1 ⟨v1, rfl, h1, hc1⟩)
  go_ret
  exact ⟨_, rfl, h1, hc1⟩

theorem numL_leB (W : Int) (n : Nat) : numL (leB W n) = W % 256 ^ n := by
  induction n with
  | zero => simp [leB, numL, Int.emod_one]
  | succ n ih =>
    rw [leB, numL_snoc, ih, leB_length, Int.pow_succ]
    have h := Int.emod_emod_of_dvd W (show (256 : Int) ^ n ∣ 256 ^ n * 256 from ⟨256, rfl⟩)
    have hp : (0 : Int) < 256 ^ n := Int.pow_pos (by decide)
    have h1 := Int.mul_ediv_add_emod (W % (256 ^ n * 256)) (256 ^ n)
    rw [h] at h1
    have h2 : W % (256 ^ n * 256) / 256 ^ n = W / 256 ^ n % 256 := by
      rw [Int.emod_def, Int.emod_def, Int.ediv_ediv_of_nonneg (Int.le_of_lt hp)]
      rw [show W - 256 ^ n * 256 * (W / (256 ^ n * 256)) = W + 256 ^ n * (-(256 * (W / (256 ^ n * 256)))) by rw [Int.mul_assoc, Int.mul_neg, Int.sub_eq_add_neg]]
      rw [Int.add_mul_ediv_left _ _ (by omega)]
      omega
    rw [h2] at h1
    rw [← h1, Int.mul_comm]; omega

theorem awake_any (w : World) :
    Calls Try.prog 10 #[] w fun e w' => e = .returned (.bool true) ∧ Chg [] w w' := by
  have hr0 : ReadsB (w.alloc (.cells #[.int .u8 2, .int .u8 1, .int .u8 7] 5)) (.slice (some ⟨w.heap.size, 0, none⟩) 3 3) [2, 1, 7] := ⟨reads_lit _ _ _ 3 rfl (by decide), by decide⟩
  go_enter Try.func10, Try.ntmps10
  go_wp2_with fail
  refine (New_any _ _ _ hr0 (by decide)).mono ?_
  rintro e w1 ⟨b, g, rfl, h1, hc1, hb1, hg1⟩
  go_wp2_with fail
  refine (U16_of _ (numL (([2, 1, 7].drop 0).take 2)) _ _ (by decide) (by decide) (num_ok _ _ _ _ 2 _ h1 (by decide) (by decide))).mono ?_
  rintro e w2 ⟨rfl, h2, hc2⟩
  rw [show numL (([2, 1, 7].drop 0).take 2) = 258 from by decide]
  go_wp2_with fail
  refine (Left_any _ _ _ _ _ _ h2).mono ?_
  rintro e w3 ⟨rfl, n3, rfl⟩
  rw [show (if false = true then 0 else (([2, 1, 7] : List Int).length : Int) - ((0 + 2 : Nat) : Int)) = 1 from by decide]
  go_wp2_with fail
  refine (Done_any _ _ _ _ _ _ (h2.drewN n3)).mono ?_
  rintro e w4 ⟨rfl, n4, rfl⟩
  rw [show (if false = true then (2 : Int) else if 0 + 2 < ([2, 1, 7] : List Int).length then 3 else 0) = 3 from by decide]
  go_wp2_with fail
  refine (Put16_r _ [] _ _ (ReadsB.nil _) (by decide)).mono ?_
  rintro e w5 ⟨v5, rfl, h5, hc5⟩
  rw [show ([] ++ leB (258 % 4294967296) 2 : List Int) = [2, 1] from by decide] at h5
  go_wp2_with fail
  have hr6 : ReadsB (w5.alloc (.cells #[.int .u8 2, .int .u8 1] 5)) (.slice (some ⟨w5.heap.size, 0, none⟩) 2 2) [2, 1] := ⟨reads_lit _ _ _ 2 rfl (by decide), by decide⟩
  refine (Bytes_any _ _ _ _ _ (h5.chg ((Chg.refl _ _).alloc _)) hr6).mono ?_
  rintro e w6 ⟨rfl, rfl⟩
  go_wp2_with fail
  go_ret
  refine ⟨rfl, ?_⟩
  have k1 : Chg [] w w1 := ((Chg.refl _ _).alloc _).trans hc1
  have k2 : Chg [] w w2 := k1.into hc2 (fun x hx => by simp at hx; subst hx; right; have := hb1; simp at this; omega)
  exact ((k2.drewN (n3 + n4)).trans hc5).alloc _
end Go.Proofs.Ytkhbmgkofhdkmaa.codec
