/- Package codec and its reference: laying numbers as bytes. -/
import Derived.Test.YtkmalnojkjmjiaaCodecW1
namespace Go.Proofs.Ytkmalnojkjmjiaa.codec
open Go Go.RowKit Go.Proofs.Ytkmalnojkjmjiaa.kit
set_option linter.unusedVariables false
set_option linter.unusedSimpArgs false

/-- the first n bytes of a word, the least first -/
def leB (W : Int) : Nat → List Int
  | 0 => []
  | n + 1 => leB W n ++ [W / 256 ^ n % 256]
theorem leB_length (W : Int) (n : Nat) : (leB W n).length = n := by
  induction n with
  | zero => rfl
  | succ n ih => simp [leB, ih]
theorem leB_wf (W : Int) (n : Nat) : ∀ x ∈ leB W n, (Lit.int .u8 x).wf = true := by
  induction n with
  | zero => intro x hx; simp [leB] at hx
  | succ n ih =>
    intro x hx
    simp only [leB, List.mem_append, List.mem_singleton] at hx
    rcases hx with hx | rfl
    · exact ih x hx
    · have h1 := Int.emod_nonneg (W / 256 ^ n) (show (256 : Int) ≠ 0 by decide)
      have h2 := Int.emod_lt_of_pos (W / 256 ^ n) (show (0 : Int) < 256 by decide)
      simp [Lit.wf, IntKind.min, IntKind.max, IntKind.signed, IntKind.bits]; omega

/-- a row of bytes of the call's own -/
def OwnB (w : World) (B : Nat) (v : Value) (zs : List Int) : Prop := w.ownsRow B 5 1 v zs.length (zs.map (Value.int .u8))

theorem pow_next (W : Int) (k : Nat) : W / 256 ^ k / 256 = W / 256 ^ (k + 1) := by
  rw [Int.ediv_ediv_of_nonneg (Int.pow_nonneg (by decide)), ← Int.pow_succ]

theorem pow_bd {W : Int} (h0 : 0 ≤ W) (h1 : W ≤ 4294967295) (k : Nat) : 0 ≤ W / 256 ^ k ∧ W / 256 ^ k ≤ 4294967295 :=
  ⟨Int.ediv_nonneg h0 (Int.pow_nonneg (by decide)), Int.le_trans (Int.ediv_le_self _ h0) h1⟩

theorem put_any (v : Value) (zs : List Int) (W : Int) (n : Nat) (w : World) (hr : ReadsB w v zs) (hW0 : 0 ≤ W) (hW1 : W ≤ 4294967295) (hn : n ≤ 4) (hz : zs.length ≤ 1000000) :
    Calls Try.prog 49 #[v, .int .u32 W, .int .i64 n] w fun e w' => ∃ v', e = .returned v' ∧ OwnB w' w.heap.size v' (zs ++ leB W n) ∧ Chg [] w w' := by
  obtain ⟨i0, hi, hz0, hz1, hz2⟩ := info_parts info5
  go_enter Try.func49, Try.ntmps49
  go_wp2_with (at_builtin; refine wpList_append_any _ rfl _ _ 22 rfl w.heap.size 5 i0 (.int .u8 0) 1 1 Try.underlying22 hi hz0 hz1 hz2 rfl (by decide) (.slice none 0 0) 0 [] rfl (World.ownsRow_nil w _ _ _) v zs.length _ rfl hr.1 (ints_oneCell _ _) (by have := hr.1.le; omega) (by omega) (Nat.le_refl _) ?_; intro v1 w1 hown1 hg1; simp only [Nat.zero_add, List.nil_append] at hown1; have hc1 : Chg [] w w1 := (Chg.refl _ _).grown hg1 (by simp [Value.ownBlock]); clear hg1)
  go_loopw [1, 7, 11] (fun wv out i wr => ∃ k : Nat, k ≤ n ∧ i = .int .i64 k ∧ wv = .int .u32 (W / 256 ^ k) ∧ OwnB wr w.heap.size out (zs ++ leB W k) ∧ Chg [] w wr) (fun _ _ i _ => n - (intOf i).toNat)
  case atStart => exact ⟨0, Nat.zero_le _, rfl, by simp, by simpa [OwnB, leB] using hown1, hc1⟩
  case round =>
    obtain ⟨k, hk, rfl, rfl, hown, hc⟩ := hrel
    by_cases hlt : k < n
    · obtain ⟨hq0, hq1⟩ := pow_bd hW0 hW1 k
      have hl : (zs ++ leB W k).length ≤ 1000004 := by rw [List.length_append, leB_length]; omega
      go_wp2_with (at_builtin; refine wpList_append_any _ rfl _ _ 22 rfl w.heap.size 5 i0 (.int .u8 0) 1 1 Try.underlying22 hi hz0 hz1 hz2 rfl (by decide) u7 _ _ rfl (World.ownsRow.alloc hown _) _ 1 _ rfl (reads_one _ _ _) (by simp [Value.oneCell']) (by unfold maxLen; omega) (by omega) (by have := hc.size; simp; omega) ?_; intro v2 w2 hown2 hg2; have hc2 : Chg [] w w2 := (hc.alloc _).grown hg2 (fun b hb => .inr (World.ownsRow.lt hown b hb).1); clear hg2)
      go_roundw
      case rel =>
        refine ⟨k + 1, by omega, by go_num, ?_, ?_, hc2⟩
        · rw [pow_next]
        · unfold OwnB
          rw [leB, ← List.append_assoc, List.map_append, List.length_append (bs := [_])]
          exact hown2
      case measure => simp [intOf]; omega
    · go_wp2_with fail
      go_ret
      obtain rfl : k = n := by omega
      exact ⟨_, rfl, hown, hc⟩
end Go.Proofs.Ytkmalnojkjmjiaa.codec
