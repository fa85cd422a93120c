/- Package isa's reference: Leads, Calls, Uses, Sets; the sets of numbers. -/
import Derived.Test.YtihgljfiggdcpaaIsaS
namespace Go.Proofs.Ytihgljfiggdcpaa.isa
open Go Go.RowKit Go.Proofs.Ytihgljfiggdcpaa.kit Go.Proofs.Ytihgljfiggdcpaa.codec
set_option linter.unusedVariables false
set_option maxRecDepth 20000

theorem rLeads_any (op : Int) (w : World) : Calls Try.prog 36 #[.int .i64 op] w fun e w' => e = .returned (.bool (leadsI op)) ∧ w = w' := by
  generalize hr : leadsI op = r
  have HR := Lib.hid hr
  clear hr
  go_enter Try.func36, Try.ntmps36
  go_wp2
  all_goals (go_ret; refine ⟨?_, rfl⟩; rw [← HR.out]; refine ret_bool ?_; rw [Bool.eq_iff_iff]; simp [leadsI]; omega)
theorem rCalls_any (op : Int) (h : -1000 ≤ op ∧ op ≤ 1000) (w : World) : Calls Try.prog 37 #[.int .i64 op] w fun e w' => e = .returned (.int .i64 (callI op)) ∧ w = w' := by
  by_cases hc : 17 ≤ op ∧ op ≤ 20
  · have hv : callI op = op - 17 + 1 := by unfold callI; rw [if_pos hc]; omega
    rw [hv]
    clear hv
    go_enter Try.func37, Try.ntmps37
    go_wp2
    go_ret
    exact ⟨by rfl, rfl⟩
  · have hv : callI op = 0 := by unfold callI; exact if_neg hc
    rw [hv]
    clear hv
    by_cases h1 : 17 ≤ op
    · have h2 : ¬ op ≤ 20 := by omega
      clear hc
      go_enter Try.func37, Try.ntmps37
      go_wp2
      go_ret
      exact ⟨rfl, rfl⟩
    · clear hc
      go_enter Try.func37, Try.ntmps37
      go_wp2
      go_ret
      exact ⟨rfl, rfl⟩

def ReadsN (w : World) (v : Value) (zs : List Int) : Prop := Reads w 1 v zs.length (zs.map (Value.int .i64))
theorem ReadsN.lit (w : World) (zs : List Int) (n b : Nat) (hb : b = w.heap.size) (hn : zs.length = n) (hm : n ≤ maxLen) : ReadsN (w.alloc (.cells (zs.map (Value.int .i64)).toArray 3)) (.slice (some ⟨b, 0, none⟩) n n) zs := by
  subst hn hb
  unfold ReadsN
  simpa using reads_lit w (zs.map (Value.int .i64)).toArray 3 zs.length (by simp) hm

set_option maxHeartbeats 4000000 in
theorem rUses_0 (k : Nat) (hk : 0 ≤ k ∧ k < 11) (a b c n : Int) (w : World) : Calls Try.prog 39 #[.agg #[.int .i64 (k : Int), .int .i64 a, .int .i64 b, .int .i64 c, .int .u32 n]] w fun e w' => ∃ v, e = .returned v ∧ ReadsN w' v (pickL (usesB k) a b c) ∧ Chg [] w w' := by
  have hk2 : k = 0 ∨ k = 1 ∨ k = 2 ∨ k = 3 ∨ k = 4 ∨ k = 5 ∨ k = 6 ∨ k = 7 ∨ k = 8 ∨ k = 9 ∨ k = 10 := by omega
  clear hk
  rcases hk2 with rfl | rfl | rfl | rfl | rfl | rfl | rfl | rfl | rfl | rfl | rfl
  · rw [show pickL (usesB 0) a b c = [] from by kernel_rfl]
    show Calls Try.prog 39 #[.agg #[.int .i64 0, .int .i64 a, .int .i64 b, .int .i64 c, .int .u32 n]] w _
    go_enter Try.func39, Try.ntmps39
    go_wp2_with fail
    go_ret
    exact ⟨_, rfl, Reads.nil _ 1, (Chg.refl _ _).alloc _⟩
  · rw [show pickL (usesB 1) a b c = [] from by kernel_rfl]
    show Calls Try.prog 39 #[.agg #[.int .i64 1, .int .i64 a, .int .i64 b, .int .i64 c, .int .u32 n]] w _
    go_enter Try.func39, Try.ntmps39
    go_wp2_with fail
    go_ret
    exact ⟨_, rfl, Reads.nil _ 1, (Chg.refl _ _).alloc _⟩
  · rw [show pickL (usesB 2) a b c = [b] from by kernel_rfl]
    show Calls Try.prog 39 #[.agg #[.int .i64 2, .int .i64 a, .int .i64 b, .int .i64 c, .int .u32 n]] w _
    go_enter Try.func39, Try.ntmps39
    go_wp2_with fail
    go_ret
    exact ⟨_, rfl, ReadsN.lit (w.alloc _) [b] 1 _ (by simp) rfl (by decide), ((Chg.refl _ _).alloc _).alloc _⟩
  · rw [show pickL (usesB 3) a b c = [b, c] from by kernel_rfl]
    show Calls Try.prog 39 #[.agg #[.int .i64 3, .int .i64 a, .int .i64 b, .int .i64 c, .int .u32 n]] w _
    go_enter Try.func39, Try.ntmps39
    go_wp2_with fail
    go_ret
    exact ⟨_, rfl, ReadsN.lit (w.alloc _) [b, c] 2 _ (by simp) rfl (by decide), ((Chg.refl _ _).alloc _).alloc _⟩
  · rw [show pickL (usesB 4) a b c = [b, c] from by kernel_rfl]
    show Calls Try.prog 39 #[.agg #[.int .i64 4, .int .i64 a, .int .i64 b, .int .i64 c, .int .u32 n]] w _
    go_enter Try.func39, Try.ntmps39
    go_wp2_with fail
    go_ret
    exact ⟨_, rfl, ReadsN.lit (w.alloc _) [b, c] 2 _ (by simp) rfl (by decide), ((Chg.refl _ _).alloc _).alloc _⟩
  · rw [show pickL (usesB 5) a b c = [b, c] from by kernel_rfl]
    show Calls Try.prog 39 #[.agg #[.int .i64 5, .int .i64 a, .int .i64 b, .int .i64 c, .int .u32 n]] w _
    go_enter Try.func39, Try.ntmps39
    go_wp2_with fail
    go_ret
    exact ⟨_, rfl, ReadsN.lit (w.alloc _) [b, c] 2 _ (by simp) rfl (by decide), ((Chg.refl _ _).alloc _).alloc _⟩
  · rw [show pickL (usesB 6) a b c = [b, c] from by kernel_rfl]
    show Calls Try.prog 39 #[.agg #[.int .i64 6, .int .i64 a, .int .i64 b, .int .i64 c, .int .u32 n]] w _
    go_enter Try.func39, Try.ntmps39
    go_wp2_with fail
    go_ret
    exact ⟨_, rfl, ReadsN.lit (w.alloc _) [b, c] 2 _ (by simp) rfl (by decide), ((Chg.refl _ _).alloc _).alloc _⟩
  · rw [show pickL (usesB 7) a b c = [b, c] from by kernel_rfl]
    show Calls Try.prog 39 #[.agg #[.int .i64 7, .int .i64 a, .int .i64 b, .int .i64 c, .int .u32 n]] w _
    go_enter Try.func39, Try.ntmps39
    go_wp2_with fail
    go_ret
    exact ⟨_, rfl, ReadsN.lit (w.alloc _) [b, c] 2 _ (by simp) rfl (by decide), ((Chg.refl _ _).alloc _).alloc _⟩
  · rw [show pickL (usesB 8) a b c = [b, c] from by kernel_rfl]
    show Calls Try.prog 39 #[.agg #[.int .i64 8, .int .i64 a, .int .i64 b, .int .i64 c, .int .u32 n]] w _
    go_enter Try.func39, Try.ntmps39
    go_wp2_with fail
    go_ret
    exact ⟨_, rfl, ReadsN.lit (w.alloc _) [b, c] 2 _ (by simp) rfl (by decide), ((Chg.refl _ _).alloc _).alloc _⟩
  · rw [show pickL (usesB 9) a b c = [b, c] from by kernel_rfl]
    show Calls Try.prog 39 #[.agg #[.int .i64 9, .int .i64 a, .int .i64 b, .int .i64 c, .int .u32 n]] w _
    go_enter Try.func39, Try.ntmps39
    go_wp2_with fail
    go_ret
    exact ⟨_, rfl, ReadsN.lit (w.alloc _) [b, c] 2 _ (by simp) rfl (by decide), ((Chg.refl _ _).alloc _).alloc _⟩
  · rw [show pickL (usesB 10) a b c = [b, c] from by kernel_rfl]
    show Calls Try.prog 39 #[.agg #[.int .i64 10, .int .i64 a, .int .i64 b, .int .i64 c, .int .u32 n]] w _
    go_enter Try.func39, Try.ntmps39
    go_wp2_with fail
    go_ret
    exact ⟨_, rfl, ReadsN.lit (w.alloc _) [b, c] 2 _ (by simp) rfl (by decide), ((Chg.refl _ _).alloc _).alloc _⟩

set_option maxHeartbeats 4000000 in
theorem rUses_11 (k : Nat) (hk : 11 ≤ k ∧ k < 22) (a b c n : Int) (w : World) : Calls Try.prog 39 #[.agg #[.int .i64 (k : Int), .int .i64 a, .int .i64 b, .int .i64 c, .int .u32 n]] w fun e w' => ∃ v, e = .returned v ∧ ReadsN w' v (pickL (usesB k) a b c) ∧ Chg [] w w' := by
  have hk2 : k = 11 ∨ k = 12 ∨ k = 13 ∨ k = 14 ∨ k = 15 ∨ k = 16 ∨ k = 17 ∨ k = 18 ∨ k = 19 ∨ k = 20 ∨ k = 21 := by omega
  clear hk
  rcases hk2 with rfl | rfl | rfl | rfl | rfl | rfl | rfl | rfl | rfl | rfl | rfl
  · rw [show pickL (usesB 11) a b c = [b] from by kernel_rfl]
    show Calls Try.prog 39 #[.agg #[.int .i64 11, .int .i64 a, .int .i64 b, .int .i64 c, .int .u32 n]] w _
    go_enter Try.func39, Try.ntmps39
    go_wp2_with fail
    go_ret
    exact ⟨_, rfl, ReadsN.lit (w.alloc _) [b] 1 _ (by simp) rfl (by decide), ((Chg.refl _ _).alloc _).alloc _⟩
  · rw [show pickL (usesB 12) a b c = [a, b] from by kernel_rfl]
    show Calls Try.prog 39 #[.agg #[.int .i64 12, .int .i64 a, .int .i64 b, .int .i64 c, .int .u32 n]] w _
    go_enter Try.func39, Try.ntmps39
    go_wp2_with fail
    go_ret
    exact ⟨_, rfl, ReadsN.lit (w.alloc _) [a, b] 2 _ (by simp) rfl (by decide), ((Chg.refl _ _).alloc _).alloc _⟩
  · rw [show pickL (usesB 13) a b c = [a, b, c] from by kernel_rfl]
    show Calls Try.prog 39 #[.agg #[.int .i64 13, .int .i64 a, .int .i64 b, .int .i64 c, .int .u32 n]] w _
    go_enter Try.func39, Try.ntmps39
    go_wp2_with fail
    go_ret
    exact ⟨_, rfl, ReadsN.lit (w.alloc _) [a, b, c] 3 _ (by simp) rfl (by decide), ((Chg.refl _ _).alloc _).alloc _⟩
  · rw [show pickL (usesB 14) a b c = [] from by kernel_rfl]
    show Calls Try.prog 39 #[.agg #[.int .i64 14, .int .i64 a, .int .i64 b, .int .i64 c, .int .u32 n]] w _
    go_enter Try.func39, Try.ntmps39
    go_wp2_with fail
    go_ret
    exact ⟨_, rfl, Reads.nil _ 1, (Chg.refl _ _).alloc _⟩
  · rw [show pickL (usesB 15) a b c = [a] from by kernel_rfl]
    show Calls Try.prog 39 #[.agg #[.int .i64 15, .int .i64 a, .int .i64 b, .int .i64 c, .int .u32 n]] w _
    go_enter Try.func39, Try.ntmps39
    go_wp2_with fail
    go_ret
    exact ⟨_, rfl, ReadsN.lit (w.alloc _) [a] 1 _ (by simp) rfl (by decide), ((Chg.refl _ _).alloc _).alloc _⟩
  · rw [show pickL (usesB 16) a b c = [] from by kernel_rfl]
    show Calls Try.prog 39 #[.agg #[.int .i64 16, .int .i64 a, .int .i64 b, .int .i64 c, .int .u32 n]] w _
    go_enter Try.func39, Try.ntmps39
    go_wp2_with fail
    go_ret
    exact ⟨_, rfl, Reads.nil _ 1, (Chg.refl _ _).alloc _⟩
  · rw [show pickL (usesB 17) a b c = [] from by kernel_rfl]
    show Calls Try.prog 39 #[.agg #[.int .i64 17, .int .i64 a, .int .i64 b, .int .i64 c, .int .u32 n]] w _
    go_enter Try.func39, Try.ntmps39
    go_wp2_with fail
    go_ret
    exact ⟨_, rfl, Reads.nil _ 1, (Chg.refl _ _).alloc _⟩
  · rw [show pickL (usesB 18) a b c = [] from by kernel_rfl]
    show Calls Try.prog 39 #[.agg #[.int .i64 18, .int .i64 a, .int .i64 b, .int .i64 c, .int .u32 n]] w _
    go_enter Try.func39, Try.ntmps39
    go_wp2_with fail
    go_ret
    exact ⟨_, rfl, Reads.nil _ 1, (Chg.refl _ _).alloc _⟩
  · rw [show pickL (usesB 19) a b c = [] from by kernel_rfl]
    show Calls Try.prog 39 #[.agg #[.int .i64 19, .int .i64 a, .int .i64 b, .int .i64 c, .int .u32 n]] w _
    go_enter Try.func39, Try.ntmps39
    go_wp2_with fail
    go_ret
    exact ⟨_, rfl, Reads.nil _ 1, (Chg.refl _ _).alloc _⟩
  · rw [show pickL (usesB 20) a b c = [] from by kernel_rfl]
    show Calls Try.prog 39 #[.agg #[.int .i64 20, .int .i64 a, .int .i64 b, .int .i64 c, .int .u32 n]] w _
    go_enter Try.func39, Try.ntmps39
    go_wp2_with fail
    go_ret
    exact ⟨_, rfl, Reads.nil _ 1, (Chg.refl _ _).alloc _⟩
  · rw [show pickL (usesB 21) a b c = [] from by kernel_rfl]
    show Calls Try.prog 39 #[.agg #[.int .i64 21, .int .i64 a, .int .i64 b, .int .i64 c, .int .u32 n]] w _
    go_enter Try.func39, Try.ntmps39
    go_wp2_with fail
    go_ret
    exact ⟨_, rfl, Reads.nil _ 1, (Chg.refl _ _).alloc _⟩
theorem rUses_any (k : Nat) (hk : k < 22) (a b c n : Int) (w : World) : Calls Try.prog 39 #[.agg #[.int .i64 (k : Int), .int .i64 a, .int .i64 b, .int .i64 c, .int .u32 n]] w fun e w' => ∃ v, e = .returned v ∧ ReadsN w' v (pickL (usesB k) a b c) ∧ Chg [] w w' := by
  by_cases h : k < 11
  · exact rUses_0 k (by omega) a b c n w
  · exact rUses_11 k (by omega) a b c n w

set_option maxHeartbeats 4000000 in
theorem rSets_0 (k : Nat) (hk : 0 ≤ k ∧ k < 11) (a b c n : Int) (w : World) : Calls Try.prog 40 #[.agg #[.int .i64 (k : Int), .int .i64 a, .int .i64 b, .int .i64 c, .int .u32 n]] w fun e w' => ∃ v, e = .returned v ∧ ReadsN w' v (pickL (setsB k) a b c) ∧ Chg [] w w' := by
  have hk2 : k = 0 ∨ k = 1 ∨ k = 2 ∨ k = 3 ∨ k = 4 ∨ k = 5 ∨ k = 6 ∨ k = 7 ∨ k = 8 ∨ k = 9 ∨ k = 10 := by omega
  clear hk
  rcases hk2 with rfl | rfl | rfl | rfl | rfl | rfl | rfl | rfl | rfl | rfl | rfl
  · rw [show pickL (setsB 0) a b c = [] from by kernel_rfl]
    show Calls Try.prog 40 #[.agg #[.int .i64 0, .int .i64 a, .int .i64 b, .int .i64 c, .int .u32 n]] w _
    go_enter Try.func40, Try.ntmps40
    go_wp2_with (go_at_call 37; refine (rCalls_any _ (by omega) _).mono ?_; rintro e w1 ⟨rfl, rfl⟩)
    go_ret
    exact ⟨_, rfl, Reads.nil _ 1, (Chg.refl _ _).alloc _⟩
  · rw [show pickL (setsB 1) a b c = [a] from by kernel_rfl]
    show Calls Try.prog 40 #[.agg #[.int .i64 1, .int .i64 a, .int .i64 b, .int .i64 c, .int .u32 n]] w _
    go_enter Try.func40, Try.ntmps40
    go_wp2_with (go_at_call 37; refine (rCalls_any _ (by omega) _).mono ?_; rintro e w1 ⟨rfl, rfl⟩)
    go_ret
    exact ⟨_, rfl, ReadsN.lit (w.alloc _) [a] 1 _ (by simp) rfl (by decide), ((Chg.refl _ _).alloc _).alloc _⟩
  · rw [show pickL (setsB 2) a b c = [a] from by kernel_rfl]
    show Calls Try.prog 40 #[.agg #[.int .i64 2, .int .i64 a, .int .i64 b, .int .i64 c, .int .u32 n]] w _
    go_enter Try.func40, Try.ntmps40
    go_wp2_with (go_at_call 37; refine (rCalls_any _ (by omega) _).mono ?_; rintro e w1 ⟨rfl, rfl⟩)
    go_ret
    exact ⟨_, rfl, ReadsN.lit (w.alloc _) [a] 1 _ (by simp) rfl (by decide), ((Chg.refl _ _).alloc _).alloc _⟩
  · rw [show pickL (setsB 3) a b c = [a] from by kernel_rfl]
    show Calls Try.prog 40 #[.agg #[.int .i64 3, .int .i64 a, .int .i64 b, .int .i64 c, .int .u32 n]] w _
    go_enter Try.func40, Try.ntmps40
    go_wp2_with (go_at_call 37; refine (rCalls_any _ (by omega) _).mono ?_; rintro e w1 ⟨rfl, rfl⟩)
    go_ret
    exact ⟨_, rfl, ReadsN.lit (w.alloc _) [a] 1 _ (by simp) rfl (by decide), ((Chg.refl _ _).alloc _).alloc _⟩
  · rw [show pickL (setsB 4) a b c = [a] from by kernel_rfl]
    show Calls Try.prog 40 #[.agg #[.int .i64 4, .int .i64 a, .int .i64 b, .int .i64 c, .int .u32 n]] w _
    go_enter Try.func40, Try.ntmps40
    go_wp2_with (go_at_call 37; refine (rCalls_any _ (by omega) _).mono ?_; rintro e w1 ⟨rfl, rfl⟩)
    go_ret
    exact ⟨_, rfl, ReadsN.lit (w.alloc _) [a] 1 _ (by simp) rfl (by decide), ((Chg.refl _ _).alloc _).alloc _⟩
  · rw [show pickL (setsB 5) a b c = [a] from by kernel_rfl]
    show Calls Try.prog 40 #[.agg #[.int .i64 5, .int .i64 a, .int .i64 b, .int .i64 c, .int .u32 n]] w _
    go_enter Try.func40, Try.ntmps40
    go_wp2_with (go_at_call 37; refine (rCalls_any _ (by omega) _).mono ?_; rintro e w1 ⟨rfl, rfl⟩)
    go_ret
    exact ⟨_, rfl, ReadsN.lit (w.alloc _) [a] 1 _ (by simp) rfl (by decide), ((Chg.refl _ _).alloc _).alloc _⟩
  · rw [show pickL (setsB 6) a b c = [a] from by kernel_rfl]
    show Calls Try.prog 40 #[.agg #[.int .i64 6, .int .i64 a, .int .i64 b, .int .i64 c, .int .u32 n]] w _
    go_enter Try.func40, Try.ntmps40
    go_wp2_with (go_at_call 37; refine (rCalls_any _ (by omega) _).mono ?_; rintro e w1 ⟨rfl, rfl⟩)
    go_ret
    exact ⟨_, rfl, ReadsN.lit (w.alloc _) [a] 1 _ (by simp) rfl (by decide), ((Chg.refl _ _).alloc _).alloc _⟩
  · rw [show pickL (setsB 7) a b c = [a] from by kernel_rfl]
    show Calls Try.prog 40 #[.agg #[.int .i64 7, .int .i64 a, .int .i64 b, .int .i64 c, .int .u32 n]] w _
    go_enter Try.func40, Try.ntmps40
    go_wp2_with (go_at_call 37; refine (rCalls_any _ (by omega) _).mono ?_; rintro e w1 ⟨rfl, rfl⟩)
    go_ret
    exact ⟨_, rfl, ReadsN.lit (w.alloc _) [a] 1 _ (by simp) rfl (by decide), ((Chg.refl _ _).alloc _).alloc _⟩
  · rw [show pickL (setsB 8) a b c = [a] from by kernel_rfl]
    show Calls Try.prog 40 #[.agg #[.int .i64 8, .int .i64 a, .int .i64 b, .int .i64 c, .int .u32 n]] w _
    go_enter Try.func40, Try.ntmps40
    go_wp2_with (go_at_call 37; refine (rCalls_any _ (by omega) _).mono ?_; rintro e w1 ⟨rfl, rfl⟩)
    go_ret
    exact ⟨_, rfl, ReadsN.lit (w.alloc _) [a] 1 _ (by simp) rfl (by decide), ((Chg.refl _ _).alloc _).alloc _⟩
  · rw [show pickL (setsB 9) a b c = [a] from by kernel_rfl]
    show Calls Try.prog 40 #[.agg #[.int .i64 9, .int .i64 a, .int .i64 b, .int .i64 c, .int .u32 n]] w _
    go_enter Try.func40, Try.ntmps40
    go_wp2_with (go_at_call 37; refine (rCalls_any _ (by omega) _).mono ?_; rintro e w1 ⟨rfl, rfl⟩)
    go_ret
    exact ⟨_, rfl, ReadsN.lit (w.alloc _) [a] 1 _ (by simp) rfl (by decide), ((Chg.refl _ _).alloc _).alloc _⟩
  · rw [show pickL (setsB 10) a b c = [a] from by kernel_rfl]
    show Calls Try.prog 40 #[.agg #[.int .i64 10, .int .i64 a, .int .i64 b, .int .i64 c, .int .u32 n]] w _
    go_enter Try.func40, Try.ntmps40
    go_wp2_with (go_at_call 37; refine (rCalls_any _ (by omega) _).mono ?_; rintro e w1 ⟨rfl, rfl⟩)
    go_ret
    exact ⟨_, rfl, ReadsN.lit (w.alloc _) [a] 1 _ (by simp) rfl (by decide), ((Chg.refl _ _).alloc _).alloc _⟩

set_option maxHeartbeats 4000000 in
theorem rSets_11 (k : Nat) (hk : 11 ≤ k ∧ k < 22) (a b c n : Int) (w : World) : Calls Try.prog 40 #[.agg #[.int .i64 (k : Int), .int .i64 a, .int .i64 b, .int .i64 c, .int .u32 n]] w fun e w' => ∃ v, e = .returned v ∧ ReadsN w' v (pickL (setsB k) a b c) ∧ Chg [] w w' := by
  have hk2 : k = 11 ∨ k = 12 ∨ k = 13 ∨ k = 14 ∨ k = 15 ∨ k = 16 ∨ k = 17 ∨ k = 18 ∨ k = 19 ∨ k = 20 ∨ k = 21 := by omega
  clear hk
  rcases hk2 with rfl | rfl | rfl | rfl | rfl | rfl | rfl | rfl | rfl | rfl | rfl
  · rw [show pickL (setsB 11) a b c = [a] from by kernel_rfl]
    show Calls Try.prog 40 #[.agg #[.int .i64 11, .int .i64 a, .int .i64 b, .int .i64 c, .int .u32 n]] w _
    go_enter Try.func40, Try.ntmps40
    go_wp2_with (go_at_call 37; refine (rCalls_any _ (by omega) _).mono ?_; rintro e w1 ⟨rfl, rfl⟩)
    go_ret
    exact ⟨_, rfl, ReadsN.lit (w.alloc _) [a] 1 _ (by simp) rfl (by decide), ((Chg.refl _ _).alloc _).alloc _⟩
  · rw [show pickL (setsB 12) a b c = [] from by kernel_rfl]
    show Calls Try.prog 40 #[.agg #[.int .i64 12, .int .i64 a, .int .i64 b, .int .i64 c, .int .u32 n]] w _
    go_enter Try.func40, Try.ntmps40
    go_wp2_with (go_at_call 37; refine (rCalls_any _ (by omega) _).mono ?_; rintro e w1 ⟨rfl, rfl⟩)
    go_ret
    exact ⟨_, rfl, Reads.nil _ 1, (Chg.refl _ _).alloc _⟩
  · rw [show pickL (setsB 13) a b c = [a] from by kernel_rfl]
    show Calls Try.prog 40 #[.agg #[.int .i64 13, .int .i64 a, .int .i64 b, .int .i64 c, .int .u32 n]] w _
    go_enter Try.func40, Try.ntmps40
    go_wp2_with (go_at_call 37; refine (rCalls_any _ (by omega) _).mono ?_; rintro e w1 ⟨rfl, rfl⟩)
    go_ret
    exact ⟨_, rfl, ReadsN.lit (w.alloc _) [a] 1 _ (by simp) rfl (by decide), ((Chg.refl _ _).alloc _).alloc _⟩
  · rw [show pickL (setsB 14) a b c = [] from by kernel_rfl]
    show Calls Try.prog 40 #[.agg #[.int .i64 14, .int .i64 a, .int .i64 b, .int .i64 c, .int .u32 n]] w _
    go_enter Try.func40, Try.ntmps40
    go_wp2_with (go_at_call 37; refine (rCalls_any _ (by omega) _).mono ?_; rintro e w1 ⟨rfl, rfl⟩)
    go_ret
    exact ⟨_, rfl, Reads.nil _ 1, (Chg.refl _ _).alloc _⟩
  · rw [show pickL (setsB 15) a b c = [] from by kernel_rfl]
    show Calls Try.prog 40 #[.agg #[.int .i64 15, .int .i64 a, .int .i64 b, .int .i64 c, .int .u32 n]] w _
    go_enter Try.func40, Try.ntmps40
    go_wp2_with (go_at_call 37; refine (rCalls_any _ (by omega) _).mono ?_; rintro e w1 ⟨rfl, rfl⟩)
    go_ret
    exact ⟨_, rfl, Reads.nil _ 1, (Chg.refl _ _).alloc _⟩
  · rw [show pickL (setsB 16) a b c = [] from by kernel_rfl]
    show Calls Try.prog 40 #[.agg #[.int .i64 16, .int .i64 a, .int .i64 b, .int .i64 c, .int .u32 n]] w _
    go_enter Try.func40, Try.ntmps40
    go_wp2_with (go_at_call 37; refine (rCalls_any _ (by omega) _).mono ?_; rintro e w1 ⟨rfl, rfl⟩)
    go_ret
    exact ⟨_, rfl, Reads.nil _ 1, (Chg.refl _ _).alloc _⟩
  · rw [show pickL (setsB 17) a b c = [a] from by kernel_rfl]
    show Calls Try.prog 40 #[.agg #[.int .i64 17, .int .i64 a, .int .i64 b, .int .i64 c, .int .u32 n]] w _
    go_enter Try.func40, Try.ntmps40
    go_wp2_with (go_at_call 37; refine (rCalls_any _ (by omega) _).mono ?_; rintro e w1 ⟨rfl, rfl⟩)
    go_ret
    exact ⟨_, rfl, ReadsN.lit (w.alloc _) [a] 1 _ (by simp) rfl (by decide), ((Chg.refl _ _).alloc _).alloc _⟩
  · rw [show pickL (setsB 18) a b c = [a] from by kernel_rfl]
    show Calls Try.prog 40 #[.agg #[.int .i64 18, .int .i64 a, .int .i64 b, .int .i64 c, .int .u32 n]] w _
    go_enter Try.func40, Try.ntmps40
    go_wp2_with (go_at_call 37; refine (rCalls_any _ (by omega) _).mono ?_; rintro e w1 ⟨rfl, rfl⟩)
    go_ret
    exact ⟨_, rfl, ReadsN.lit (w.alloc _) [a] 1 _ (by simp) rfl (by decide), ((Chg.refl _ _).alloc _).alloc _⟩
  · rw [show pickL (setsB 19) a b c = [a] from by kernel_rfl]
    show Calls Try.prog 40 #[.agg #[.int .i64 19, .int .i64 a, .int .i64 b, .int .i64 c, .int .u32 n]] w _
    go_enter Try.func40, Try.ntmps40
    go_wp2_with (go_at_call 37; refine (rCalls_any _ (by omega) _).mono ?_; rintro e w1 ⟨rfl, rfl⟩)
    go_ret
    exact ⟨_, rfl, ReadsN.lit (w.alloc _) [a] 1 _ (by simp) rfl (by decide), ((Chg.refl _ _).alloc _).alloc _⟩
  · rw [show pickL (setsB 20) a b c = [a] from by kernel_rfl]
    show Calls Try.prog 40 #[.agg #[.int .i64 20, .int .i64 a, .int .i64 b, .int .i64 c, .int .u32 n]] w _
    go_enter Try.func40, Try.ntmps40
    go_wp2_with (go_at_call 37; refine (rCalls_any _ (by omega) _).mono ?_; rintro e w1 ⟨rfl, rfl⟩)
    go_ret
    exact ⟨_, rfl, ReadsN.lit (w.alloc _) [a] 1 _ (by simp) rfl (by decide), ((Chg.refl _ _).alloc _).alloc _⟩
  · rw [show pickL (setsB 21) a b c = [] from by kernel_rfl]
    show Calls Try.prog 40 #[.agg #[.int .i64 21, .int .i64 a, .int .i64 b, .int .i64 c, .int .u32 n]] w _
    go_enter Try.func40, Try.ntmps40
    go_wp2_with (go_at_call 37; refine (rCalls_any _ (by omega) _).mono ?_; rintro e w1 ⟨rfl, rfl⟩)
    go_ret
    exact ⟨_, rfl, Reads.nil _ 1, (Chg.refl _ _).alloc _⟩
theorem rSets_any (k : Nat) (hk : k < 22) (a b c n : Int) (w : World) : Calls Try.prog 40 #[.agg #[.int .i64 (k : Int), .int .i64 a, .int .i64 b, .int .i64 c, .int .u32 n]] w fun e w' => ∃ v, e = .returned v ∧ ReadsN w' v (pickL (setsB k) a b c) ∧ Chg [] w w' := by
  by_cases h : k < 11
  · exact rSets_0 k (by omega) a b c n w
  · exact rSets_11 k (by omega) a b c n w
end Go.Proofs.Ytihgljfiggdcpaa.isa
