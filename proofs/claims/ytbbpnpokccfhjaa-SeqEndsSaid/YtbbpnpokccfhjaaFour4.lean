/- Package four: whether it is over, its steps, its answer, its clone. -/
import Derived.Test.YtbbpnpokccfhjaaCore6
namespace Go.Proofs.Ytbbpnpokccfhjaa.four
open Go Go.RowKit Go.Proofs.Ytbbpnpokccfhjaa.kit Go.Proofs.Ytbbpnpokccfhjaa.mem Go.Proofs.Ytbbpnpokccfhjaa.rop Go.Proofs.Ytbbpnpokccfhjaa.core
set_option linter.unusedVariables false
set_option maxRecDepth 20000

theorem Over_nil (W : World) : Calls Try.prog 28 #[.pointer none] W fun e W' => e = .returned (.bool true) ∧ W = W' := by
  go_enter Try.func28, Try.ntmps28
  go_wp2_with fail
  go_ret
  exact ⟨rfl, rfl⟩
theorem Steps_nil (W : World) : Calls Try.prog 30 #[.pointer none] W fun e W' => e = .returned (.int .i64 0) ∧ W = W' := by
  go_enter Try.func30, Try.ntmps30
  go_wp2_with fail
  go_ret
  exact ⟨rfl, rfl⟩
theorem Answer_nil (W : World) : Calls Try.prog 32 #[.pointer none] W fun e W' => e = .returned (.tuple #[.slice none 0 0, .int .i64 0]) ∧ W = W' := by
  go_enter Try.func32, Try.ntmps32
  go_wp2_with fail
  go_ret2
  exact ⟨rfl, rfl⟩
theorem Clone_nil (W : World) : Calls Try.prog 44 #[.pointer none] W fun e W' => e = .returned (.pointer none) ∧ W = W' := by
  go_enter Try.func44, Try.ntmps44
  go_wp2_with fail
  go_ret
  exact ⟨rfl, rfl⟩
theorem Over_any {T : TypeId} {bx mb : Nat} {sv r0 : Value} {W0 W : World} {x : Core} {rec ws : List Int} {n : Int} (h : St T bx mb sv W0 r0 W x rec ws n) :
    Calls Try.prog 28 #[.pointer (some ⟨bx, 0, none⟩)] W fun e W' => e = .returned (.bool x.over) ∧ W = W' := by
  have H := Lib.hid h
  clear h
  go_enter Try.func28, Try.ntmps28
  go_wp2_with (go_at_call 62; refine (Ended_any H.out).mono ?_; rintro e w1 ⟨rfl, rfl⟩)
  go_ret
  exact ⟨rfl, rfl⟩
theorem Steps_any {T : TypeId} {bx mb : Nat} {sv r0 : Value} {W0 W : World} {x : Core} {rec ws : List Int} {n : Int} (h : St T bx mb sv W0 r0 W x rec ws n) :
    Calls Try.prog 30 #[.pointer (some ⟨bx, 0, none⟩)] W fun e W' => e = .returned (.int .i64 x.steps) ∧ W = W' := by
  have H := Lib.hid h
  clear h
  go_enter Try.func30, Try.ntmps30
  go_wp2_with (go_at_call 64; refine (Made_any H.out).mono ?_; rintro e w1 ⟨rfl, rfl⟩)
  go_ret
  exact ⟨rfl, rfl⟩
theorem Answer_any {T : TypeId} {bx mb : Nat} {sv v : Value} {W : World} {x : Core} {rec ws : List Int} {n : Int} (h : Pair T bx mb sv W x v rec ws n) :
    Calls Try.prog 32 #[.pointer (some ⟨bx, 0, none⟩)] W fun e W' => ∃ v', e = .returned (.tuple #[v', .int .i64 (if x.over then x.code else 0)]) ∧ OwnW W' W.heap.size v' (if x.over then rec else []) ∧ Chg [] W W' := by
  have HP := Lib.hid h
  obtain ⟨cd, hcd⟩ : ∃ cd, (if x.over then x.code else 0) = cd := ⟨_, rfl⟩
  obtain ⟨rr, hrr⟩ : ∃ rr, (if x.over then rec else []) = rr := ⟨_, rfl⟩
  have HCD := Lib.hid hcd
  have HRR := Lib.hid hrr
  rw [hcd, hrr]
  clear h hcd hrr
  go_enter Try.func32, Try.ntmps32
  go_wp2_with (go_at_call 65; refine (Told_any HP.out).mono ?_; rintro e w1 ⟨v1, rfl, ho, hc⟩; rw [HCD.out]; rw [HRR.out] at ho; have HO := Lib.hid ho; have HC := Lib.hid hc; clear ho hc)
  go_ret2
  exact ⟨_, rfl, HO.out, HC.out⟩
set_option maxHeartbeats 4000000 in
theorem Clone_any {T : TypeId} {bx mb : Nat} {sv v : Value} {W : World} {x : Core} {rec ws : List Int} {n : Int} (hm : x.m.oneCell' = true) (h : Pair T bx mb sv W x v rec ws n) :
    Calls Try.prog 44 #[.pointer (some ⟨bx, 0, none⟩)] W fun e W' => ∃ b' v', e = .returned (.pointer (some ⟨b', 0, none⟩)) ∧ Blk W' b' (x.cells v') 76 ∧ OwnW W' W.heap.size v' rec ∧ (∀ y, v'.ownBlock = some y → y ≠ b') ∧ W.heap.size ≤ b' ∧ Chg [] W W' := by
  have HP := Lib.hid h
  have HM := Lib.hid hm
  clear h hm
  go_enter Try.func44, Try.ntmps44
  go_wp2_with (go_at_call 71; refine (Twin_any HM.out HP.out).mono ?_; rintro e w1 ⟨v1, rfl, ho, hc⟩; dsimp only [Core.cells]; have HO := Lib.hid ho; have HC := Lib.hid hc; clear ho hc)
  go_ret
  refine ⟨w1.heap.size, v1, rfl, Blk.new w1 (x.cells v1) 76, mem.own_chg HO.out ((Chg.refl [] w1).alloc _) (by simp), fun y hy => ?_, HC.out.size, HC.out.alloc _⟩
  have := own_lt (own_base HO.out (Nat.zero_le _)) hy
  omega
end Go.Proofs.Ytbbpnpokccfhjaa.four
